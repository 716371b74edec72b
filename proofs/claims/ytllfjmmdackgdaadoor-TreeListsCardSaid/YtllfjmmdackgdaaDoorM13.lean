import Derived.Test.YtllfjmmdackgdaaDoorM12
import Derived.Test.YtllfjmmdackgdaaDoorM10
import Derived.Test.YtllfjmmdackgdaaDoorM11
import Derived.Lib.IndexLaws
import Derived.Lib.Join
set_option linter.unusedVariables false
set_option linter.unusedSimpArgs false
/-! LS -/
section
namespace Go.Proofs.YtllfjmmdackgdaaDoor.PZ
open Go.RowKit Go.Proofs.YtllfjmmdackgdaaDoorW.PrintWords Go.Proofs.YtllfjmmdackgdaaDoorW.PrintLast Go.Proofs.YtllfjmmdackgdaaDoorW.PrintMore Go.Proofs.YtllfjmmdackgdaaDoor.Ord Go.Proofs.YtllfjmmdackgdaaDoor.B
def mk (l : List UInt8) : ByteArray := ⟨l.toArray⟩
theorem mk_data (l : List UInt8) : (mk l).data.toList = l := by unfold mk; simp
theorem mk_self (a : ByteArray) : mk a.data.toList = a := by unfold mk; simp
theorem mk_size (l : List UInt8) : (mk l).size = l.length := by rw [← data_length, mk_data]
theorem data_inj {a b : ByteArray} (h : a.data.toList = b.data.toList) : a = b := by rw [← mk_self a, ← mk_self b, h]
/-- The pieces between the bytes 47. -/
def pieces : List UInt8 → List (List UInt8)
  | [] => [[]]
  | c :: r => if c = 47 then [] :: pieces r else match pieces r with
    | p :: q => (c :: p) :: q
    | [] => [[c]]
theorem pieces_ne : ∀ l, ∃ p q, pieces l = p :: q
  | [] => ⟨[], [], rfl⟩
  | c :: r => by
    obtain ⟨p, q, h⟩ := pieces_ne r
    unfold pieces
    by_cases hc : c = 47
    · rw [if_pos hc]; exact ⟨_, _, rfl⟩
    · rw [if_neg hc, h]; exact ⟨_, _, rfl⟩
theorem pieces_none : ∀ (l : List UInt8), 47 ∉ l → pieces l = [l]
  | [], _ => rfl
  | c :: r, h => by
    have h1 : c ≠ 47 := fun e => h (e ▸ List.mem_cons_self ..)
    have h2 := pieces_none r (fun e => h (List.mem_cons_of_mem _ e))
    unfold pieces
    rw [if_neg h1, h2]
theorem pieces_cut : ∀ (p r : List UInt8), 47 ∉ p → pieces (p ++ 47 :: r) = p :: pieces r
  | [], r, _ => by
    show pieces (47 :: r) = _
    conv => lhs; unfold pieces
    rw [if_pos rfl]
  | c :: p, r, h => by
    have h1 : c ≠ 47 := fun e => h (e ▸ List.mem_cons_self ..)
    have h2 := pieces_cut p r (fun e => h (List.mem_cons_of_mem _ e))
    show pieces (c :: (p ++ 47 :: r)) = _
    conv => lhs; unfold pieces
    rw [if_neg h1, h2]
theorem pieces_length : ∀ (l : List UInt8), (pieces l).length = l.count 47 + 1
  | [] => rfl
  | c :: r => by
    obtain ⟨p, q, hp⟩ := pieces_ne r
    have ih := pieces_length r
    unfold pieces
    by_cases hc : c = 47
    · subst hc
      rw [if_pos rfl, List.length_cons, ih]
      simp
    · rw [if_neg hc]
      rw [hp] at ih ⊢
      rw [List.count_cons_of_ne hc]
      simpa using ih
/-! ### strings.Split at "/" -/
theorem index_at {l : List UInt8} {m : Nat} (h : Lib.indexByte l 47 = m) : m < l.length ∧ 47 ∉ l.take m ∧ l = l.take m ++ 47 :: l.drop (m + 1) := by
  obtain ⟨h1, h2⟩ := Lib.indexByte_some h
  obtain ⟨h3, h4⟩ := List.getElem?_eq_some_iff.1 h1
  refine ⟨h3, fun hm => ?_, ?_⟩
  · obtain ⟨j, hj, hx⟩ := List.getElem_of_mem hm
    rw [List.length_take] at hj
    rw [List.getElem_take] at hx
    exact h2 j (by omega) (List.getElem?_eq_some_iff.2 ⟨by omega, hx⟩)
  · have e : l.drop m = 47 :: l.drop (m + 1) := by rw [List.drop_eq_getElem_cons h3, h4]
    rw [← e, List.take_append_drop]
theorem set_end {α : Type} (l : List α) (i : Nat) (x : α) (h : i < l.length) : (l.set i x).take (i + 1) = l.take i ++ [x] := by
  rw [List.take_add_one, List.take_set_of_le (Nat.le_refl _), List.getElem?_set_self h]
  rfl
theorem slash_one : oneB (⟨#[47]⟩ : ByteArray) = some 47 := rfl
theorem gen_stop (k : Nat) (s : ByteArray) (n : Int) (a : List ByteArray) (i j : Int) (h1 : ¬ i < n) (h2 : 0 ≤ i) (h3 : i < (a.length : Int)) (h4 : wrap64 (i + 1) = j) (h5 : 0 ≤ j) (h6 : j ≤ (a.length : Int)) :
    strings_genSplit.l0 (k + 1) s ⟨#[47]⟩ 0 n a i = some ((a.set i.toNat s).take j.toNat) := by
  rw [strings_genSplit.l0, if_neg h1, if_pos h2, if_pos h3, h4, if_pos h5, if_pos h6]
theorem gen_go (k : Nat) (s : ByteArray) (n : Int) (a : List ByteArray) (i j m m1 : Int) (h1 : i < n) (hI : strings_Index.f s ⟨#[47]⟩ = some m) (hm : ¬ m < 0) (e0 : wrap64 (m + 0) = m) (e1 : wrap64 (m + 1) = m1) (e2 : wrap64 (i + 1) = j) (h2 : 0 ≤ i) (h3 : i < (a.length : Int)) (h4 : m ≤ (s.size : Int)) (h5 : m1 ≤ (s.size : Int)) (h6 : 0 ≤ m1) :
    strings_genSplit.l0 (k + 1) s ⟨#[47]⟩ 0 n a i = strings_genSplit.l0 k (s.extract m1.toNat s.size) ⟨#[47]⟩ 0 n (a.set i.toNat (s.extract 0 m.toNat)) j := by
  have z1 : ((⟨#[47]⟩ : ByteArray).size : Int) = 1 := rfl
  have hm2 : 0 ≤ m := by omega
  rw [strings_genSplit.l0, if_pos h1, hI, Option.bind_some, if_neg hm, e0, z1, e1, e2, if_pos hm2, if_pos h4, if_pos h2, if_pos h3, if_pos h6, if_pos h5]
theorem gen_l0 : ∀ (d : Nat) (s : ByteArray) (a : List ByteArray) (i : Nat), s.data.toList.count 47 = d → s.size < 1000000000 → i < 1000000000 → a.length = i + d + 1 → i + s.size < 1000000000 →
    ∃ K, ∀ k, K ≤ k → strings_genSplit.l0 k s ⟨#[47]⟩ 0 ((i + d : Nat) : Int) a (i : Int) = some (a.take i ++ (pieces s.data.toList).map mk) := by
  intro d
  induction d with
  | zero =>
    intro s a i hd hs hi ha _
    have hn : 47 ∉ s.data.toList := List.count_eq_zero.1 hd
    refine ⟨1, fun k hk => ?_⟩
    obtain ⟨q, rfl⟩ : ∃ q, k = q + 1 := ⟨k - 1, by omega⟩
    have e := gen_stop q s ((i + 0 : Nat) : Int) a (i : Int) ((i + 1 : Nat) : Int) (by omega) (by omega) (by omega) (w6 (by omega) (by omega)) (by omega) (by omega)
    rw [e, Int.toNat_natCast, Int.toNat_natCast, set_end _ _ _ (by omega), pieces_none _ hn, List.map_cons, List.map_nil, mk_self]
  | succ d ih =>
    intro s a i hd hs hi ha his
    obtain ⟨m, hm⟩ : ∃ m : Nat, Lib.indexByte s.data.toList 47 = m := by
      have h1 := Lib.indexByte_ge s.data.toList 47
      have h2 : ¬ Lib.indexByte s.data.toList 47 < 0 := by
        rw [ib_neg]
        intro h
        rw [List.count_eq_zero.2 h] at hd
        cases hd
      exact ⟨(Lib.indexByte s.data.toList 47).toNat, by omega⟩
    obtain ⟨h1, h2, h3⟩ := index_at hm
    rw [data_length] at h1
    have hc : (s.data.toList.drop (m + 1)).count 47 = d := by
      rw [h3, List.count_append, List.count_cons_self, List.count_eq_zero.2 h2] at hd
      omega
    have e1 : (s.extract (m + 1) s.size).data.toList = s.data.toList.drop (m + 1) := by
      rw [Lib.extract_data, List.take_of_length_le (by rw [List.length_drop, data_length]; exact Nat.le_refl _)]
    have e2 : s.extract 0 m = mk (s.data.toList.take m) := data_inj (by rw [Lib.extract_data, mk_data, List.drop_zero, Nat.sub_zero])
    have hes : (s.extract (m + 1) s.size).size = s.size - (m + 1) := by rw [← data_length, e1, List.length_drop, data_length]
    have hsl : (a.set i (s.extract 0 m)).length = i + 1 + d + 1 := by rw [List.length_set]; omega
    obtain ⟨K, hK⟩ := ih (s.extract (m + 1) s.size) (a.set i (s.extract 0 m)) (i + 1) (by rw [e1]; exact hc) (by omega) (by omega) hsl (by omega)
    have hp : pieces s.data.toList = s.data.toList.take m :: pieces (s.data.toList.drop (m + 1)) := by
      conv => lhs; rw [h3]
      exact pieces_cut _ _ h2
    have hI : strings_Index.f s ⟨#[47]⟩ = some (m : Int) := by unfold strings_Index.f; rw [slash_one, ← hm]; rfl
    refine ⟨K + 1, fun k hk => ?_⟩
    obtain ⟨q, rfl⟩ : ∃ q, k = q + 1 := ⟨k - 1, by omega⟩
    have hq := hK q (by omega)
    clear hK ih
    have e := gen_go q s ((i + (d + 1) : Nat) : Int) a (i : Int) ((i + 1 : Nat) : Int) (m : Int) ((m + 1 : Nat) : Int) (by omega) hI (by omega) (w6 (by omega) (by omega)) (w6 (by omega) (by omega)) (w6 (by omega) (by omega)) (by omega) (by omega) (by omega) (by omega) (by omega)
    rw [e, Int.toNat_natCast, Int.toNat_natCast, Int.toNat_natCast, show i + (d + 1) = i + 1 + d by omega, hq, e1, set_end _ _ _ (by omega), hp, List.map_cons, ← e2, List.append_assoc]
    rfl
theorem count_le (l : List UInt8) : l.count 47 ≤ l.length := List.count_le_length
theorem gen_open (m : Nat) (s : ByteArray) (c n : Int) (h0 : strings_Count.f s ⟨#[47]⟩ = some c) (h1 : wrap64 (c + 1) = c + 1) (h2 : wrap64 ((s.size : Int) + 1) = n) (h3 : mn (c + 1) n = c + 1) (h4 : 0 ≤ c + 1) (h5 : (c + 1).toNat ≤ 17592186044416) (h6 : wrap64 (c + 1 - 1) = c) :
    strings_Split.f (m + 1) s ⟨#[47]⟩ = strings_genSplit.l0 m s ⟨#[47]⟩ 0 c (List.replicate (c + 1).toNat ⟨#[]⟩) 0 := by
  have ne : ¬ (⟨#[47]⟩ : ByteArray).toList = ([] : List UInt8) := by rw [toList_data]; simp
  unfold strings_Split.f strings_genSplit.f
  rw [if_neg (show ¬ (-1 : Int) = 0 by omega), if_neg ne, if_pos (show (-1 : Int) < 0 by omega), h0, Option.bind_some, h1, strings_genSplit.j0, h2, h3, if_pos h4, if_pos h5, h6]
  cases strings_genSplit.l0 m s ⟨#[47]⟩ 0 c (List.replicate (c + 1).toNat ⟨#[]⟩) 0 <;> rfl
theorem split_ev (s : ByteArray) (hs : s.size < 100000000) : Ev (fun k => strings_Split.f k s ⟨#[47]⟩) ((pieces s.data.toList).map mk) := by
  have hc := count_le s.data.toList
  rw [data_length] at hc
  generalize hcc : s.data.toList.count 47 = c at hc
  obtain ⟨K, hK⟩ := gen_l0 c s (List.replicate (c + 1) ⟨#[]⟩) 0 hcc (by omega) (by omega) (by rw [List.length_replicate]; omega) (by omega)
  have hC : strings_Count.f s ⟨#[47]⟩ = some (c : Int) := by rw [← hcc]; rfl
  refine ⟨K + 1, fun k hk => ?_⟩
  obtain ⟨m, rfl⟩ : ∃ m, k = m + 1 := ⟨k - 1, by omega⟩
  have hq := hK m (by omega)
  clear hK
  have e := gen_open m s (c : Int) ((s.size + 1 : Nat) : Int) hC (w6 (by omega) (by omega)) (w6 (by omega) (by omega)) (by unfold mn; rw [if_neg (by omega)]) (by omega) (by omega) (w6 (by omega) (by omega) |>.trans (by omega))
  show strings_Split.f (m + 1) s ⟨#[47]⟩ = _
  rw [e, show ((c : Int) + 1).toNat = c + 1 by omega]
  rw [Nat.zero_add, List.take_zero, List.nil_append] at hq
  exact hq
/-! ### path.Split -/
def nameL (l : List UInt8) : Bool := !(l.isEmpty) && !(l == [46]) && !(l == [46, 46]) && decide (l.length ≤ 12) && l.all okC
theorem nameB_L (s : ByteArray) : nameB s = nameL s.data.toList := by
  rw [nameB_eq, toList_data]
  unfold nameL
  rw [data_length]
def rightL (ps : List (List UInt8)) : Bool := decide (ps.length ≤ 8) && ps.all nameL
theorem right_L (ps : List (List UInt8)) : rightN (ps.map mk) = rightL ps := by
  unfold rightN rightL
  rw [List.length_map, List.all_map]
  congr 2
  funext l
  show nameB (mk l) = nameL l
  rw [nameB_L, mk_data]
/-- What Split answers. -/
def splitL (l : List UInt8) : List (List UInt8) × Int := match l with
  | [] => ([], 20)
  | c :: r => if c = 47 then (if r = [] then ([], 0) else if rightL (pieces r) = true then (pieces r, 0) else ([], 20)) else ([], 20)
def splitA (a : ByteArray) : List ByteArray × Int := ((splitL a.data.toList).1.map mk, (splitL a.data.toList).2)
theorem prefix_eq (a : ByteArray) : strings_CutPrefix.f a ⟨#[47]⟩ = some (match a.data.toList with
    | [] => (a, false)
    | c :: r => if c = 47 then (mk r, true) else (a, false)) := by
  have hsl := data_length a
  unfold strings_CutPrefix.f stringslite_CutPrefix.f stringslite_HasPrefix.f
  have z1 : ((⟨#[47]⟩ : ByteArray).size : Int) = 1 := rfl
  rw [z1]
  match hd : a.data.toList with
  | [] =>
    rw [hd] at hsl
    rw [if_neg (by simp at hsl; omega)]
    simp only [Option.bind_some]
    rw [if_neg Bool.false_ne_true]
    rfl
  | c :: r =>
    rw [hd, List.length_cons] at hsl
    rw [if_pos (by omega), if_pos (by omega), if_pos (by omega), if_pos (by omega), if_pos (by omega)]
    simp only [Option.bind_some]
    have e1 : (a.extract 0 (1 : Int).toNat).toList = [c] := by
      rw [toList_data, Lib.extract_data, hd]; rfl
    have e2 : a.extract (1 : Int).toNat a.size = mk r := data_inj (by
      rw [Lib.extract_data, mk_data, hd]
      show (List.drop 1 (c :: r)).take _ = r
      rw [List.drop_one, List.tail_cons, List.take_of_length_le (by show r.length ≤ a.size - 1; omega)])
    rw [e1, e2, toList_data]
    by_cases hc : c = 47
    · subst hc
      rfl
    · rw [if_neg hc]
      have : ([c] == [47]) = false := by simpa using hc
      have e3 : (⟨#[47]⟩ : ByteArray).data.toList = [47] := rfl
      rw [e3, this, if_neg Bool.false_ne_true]
      rfl
theorem right_ok (l : List ByteArray) (h : l.length < 1000000000000) : path_right.f l = some (rightN l) := by unfold path_right.f; rw [if_pos h]
theorem splitL_cons (c : UInt8) (r : List UInt8) : splitL (c :: r) = if c = 47 then (if r = [] then ([], 0) else if rightL (pieces r) = true then (pieces r, 0) else ([], 20)) else ([], 20) := rfl
theorem path_split_ev (a : ByteArray) (ha : a.size < 10000000) : Ev (fun k => path_Split.f k a) (splitA a) := by
  have hsl := data_length a
  unfold splitA
  match hd : a.data.toList with
  | [] =>
    refine ⟨0, fun k _ => ?_⟩
    show path_Split.f k a = _
    unfold path_Split.f
    rw [prefix_eq, hd]
    rfl
  | c :: r =>
    rw [hd, List.length_cons] at hsl
    rw [splitL_cons]
    by_cases hc : c = 47
    · rw [if_pos hc]
      by_cases hr : r = []
      · rw [if_pos hr]
        refine ⟨0, fun k _ => ?_⟩
        show path_Split.f k a = _
        unfold path_Split.f
        rw [prefix_eq, hd, hr]
        simp only [hc, Option.bind_some, if_true]
        rw [if_pos (by rw [toList_data, mk_data])]
        rfl
      · rw [if_neg hr]
        obtain ⟨K, hK⟩ := split_ev (mk r) (by rw [mk_size]; omega)
        rw [mk_data] at hK
        have hpl := pieces_length r
        have hcl := count_le r
        refine ⟨K, fun k hk => ?_⟩
        have hS : strings_Split.f k (mk r) ⟨#[47]⟩ = some ((pieces r).map mk) := hK k hk
        show path_Split.f k a = _
        unfold path_Split.f
        rw [prefix_eq, hd]
        simp only [hc, Option.bind_some, if_true]
        rw [if_neg (by rw [toList_data, mk_data]; exact hr), hS]
        simp only [Option.bind_some]
        rw [right_ok _ (by rw [List.length_map]; omega), right_L]
        simp only [Option.bind_some]
        by_cases hq : rightL (pieces r) = true
        · rw [if_pos hq, if_pos hq]
        · rw [if_neg hq, if_neg hq]; rfl
    · rw [if_neg hc]
      refine ⟨0, fun k _ => ?_⟩
      show path_Split.f k a = _
      unfold path_Split.f
      rw [prefix_eq, hd]
      simp only [hc, Option.bind_some, if_false, Bool.false_eq_true]
      rfl
end Go.Proofs.YtllfjmmdackgdaaDoor.PZ
end
/-! LT -/
section
namespace Go.Proofs.YtllfjmmdackgdaaDoor.PZ
open Go.RowKit Go.Proofs.YtllfjmmdackgdaaDoorW.PrintWords Go.Proofs.YtllfjmmdackgdaaDoorW.PrintLast Go.Proofs.YtllfjmmdackgdaaDoorW.PrintMore Go.Proofs.YtllfjmmdackgdaaDoor.Ord Go.Proofs.YtllfjmmdackgdaaDoor.B
/-! ### lists of strings -/
theorem rdS (l : List ByteArray) (i : Nat) (h : i < l.length) : rdOf ByteArray.empty l (i : Int) = l[i] := by
  unfold rdOf
  simp [List.getD_eq_getElem?_getD, List.getElem?_eq_getElem h]
theorem splitA_length (a : ByteArray) : (splitA a).1.length ≤ 8 := by
  unfold splitA
  rw [List.length_map]
  unfold splitL
  split
  · simp
  · split
    · split
      · simp
      · split
        · rename_i h
          unfold rightL at h
          simp only [Bool.and_eq_true, decide_eq_true_eq] at h
          exact h.1
        · simp
    · simp
end Go.Proofs.YtllfjmmdackgdaaDoor.PZ
end
/-! LW -/
section
namespace Go.Proofs.YtllfjmmdackgdaaDoor.PZ
open Go.RowKit Go.Proofs.YtllfjmmdackgdaaDoorW.PrintWords Go.Proofs.YtllfjmmdackgdaaDoorW.PrintLast Go.Proofs.YtllfjmmdackgdaaDoorW.PrintMore Go.Proofs.YtllfjmmdackgdaaDoor.Ord Go.Proofs.YtllfjmmdackgdaaDoor.B
/-! ### slices.Equal, Within -/
theorem drop_eq_cons {α : Type} {x y : List α} {i : Nat} (hx : i < x.length) (hy : i < y.length) : x.drop i = y.drop i ↔ x[i] = y[i] ∧ x.drop (i + 1) = y.drop (i + 1) := by
  rw [List.drop_eq_getElem_cons hx, List.drop_eq_getElem_cons hy, List.cons.injEq]
theorem equal_l0 (x y : List ByteArray) (hl : x.length < 1000000000) (he : x.length = y.length) : ∀ (d i : Nat), i ≤ x.length → x.length - i = d → ∃ K, ∀ k, K ≤ k → slices_Equal.l0 k x y (x.length : Int) (i : Int) = some (decide (x.drop i = y.drop i)) := by
  intro d
  induction d with
  | zero =>
    intro i hi hd
    refine ⟨1, fun k hk => ?_⟩
    obtain ⟨m, rfl⟩ : ∃ m, k = m + 1 := ⟨k - 1, by omega⟩
    rw [slices_Equal.l0, if_neg (by omega), List.drop_of_length_le (by omega), List.drop_of_length_le (by omega)]
    rfl
  | succ d ih =>
    intro i hi hd
    obtain ⟨K, hK⟩ := ih (i + 1) (by omega) (by omega)
    have hw : wrap64 ((i : Int) + 1) = ((i + 1 : Nat) : Int) := (w6 (by omega) (by omega)).trans (by omega)
    have hix : i < x.length := by omega
    have hiy : i < y.length := by omega
    have h1 : (i : Int) < (x.length : Int) := by omega
    have h3 : (i : Int) < (y.length : Int) := by omega
    have h2 : (0 : Int) ≤ (i : Int) := by omega
    refine ⟨K + 1, fun k hk => ?_⟩
    obtain ⟨m, rfl⟩ : ∃ m, k = m + 1 := ⟨k - 1, by omega⟩
    rw [slices_Equal.l0, if_pos h1, if_pos h2, if_pos h1, if_pos h3, rdS x i hix, rdS y i hiy, hw, hK m (by omega)]
    by_cases h : x[i] = y[i]
    · rw [if_pos (by rw [h])]
      congr 1
      rw [decide_eq_decide, drop_eq_cons hix hiy]
      simp [h]
    · rw [if_neg (fun e => h (bytes_ext e))]
      congr 1
      symm
      rw [decide_eq_false_iff_not, drop_eq_cons hix hiy]
      exact fun e => h e.1
theorem equal_ev (x y : List ByteArray) (hl : x.length < 1000000000) : Ev (fun k => slices_Equal.f k x y) (decide (x = y)) := by
  by_cases he : x.length = y.length
  · obtain ⟨K, hK⟩ := equal_l0 x y hl he x.length 0 (by omega) (by omega)
    refine ⟨K, fun k hk => ?_⟩
    show slices_Equal.f k x y = _
    unfold slices_Equal.f
    rw [if_pos (by rw [he])]
    exact hK k hk
  · refine ⟨0, fun k _ => ?_⟩
    show slices_Equal.f k x y = _
    unfold slices_Equal.f
    rw [if_neg (by omega)]
    congr 1
    symm
    rw [decide_eq_false_iff_not]
    exact fun e => he (by rw [e])
def withB (x y : List ByteArray) : Bool := decide (y.length ≤ x.length) && decide (x.take y.length = y)
/-- What Within answers. -/
def withinA (a b : ByteArray) : Bool := decide ((splitA a).2 = 0) && (decide ((splitA b).2 = 0) && withB (splitA a).1 (splitA b).1)
theorem path_within_ev (a b : ByteArray) (ha : a.size < 10000000) (hb : b.size < 10000000) : Ev (fun k => path_Within.f k a b) (withinA a b) := by
  obtain ⟨K1, h1⟩ := path_split_ev a ha
  obtain ⟨K2, h2⟩ := path_split_ev b hb
  have l1 := splitA_length a
  have l2 := splitA_length b
  obtain ⟨K3, h3⟩ := equal_ev ((splitA a).1.take (splitA b).1.length) (splitA b).1 (by rw [List.length_take]; omega)
  refine ⟨K1 + K2 + K3, fun k hk => ?_⟩
  show path_Within.f k a b = _
  unfold path_Within.f withinA
  rw [show path_Split.f k a = some (splitA a) from h1 k (by omega), Option.bind_some, show path_Split.f k b = some (splitA b) from h2 k (by omega), Option.bind_some]
  by_cases e1 : (splitA a).2 = 0
  · rw [if_pos e1, decide_eq_true e1, Bool.true_and]
    by_cases e2 : (splitA b).2 = 0
    · rw [if_pos e2, decide_eq_true e2, Bool.true_and]
      unfold withB
      by_cases e3 : (splitA b).1.length ≤ (splitA a).1.length
      · rw [if_pos (by omega), if_pos (by omega), decide_eq_true e3, Bool.true_and, Int.toNat_natCast, show slices_Equal.f k ((splitA a).1.take (splitA b).1.length) (splitA b).1 = _ from h3 k (by omega)]
        rfl
      · rw [if_neg (by omega), decide_eq_false e3]; rfl
    · rw [if_neg e2, decide_eq_false e2]; rfl
  · rw [if_neg e1, decide_eq_false e1]; rfl
/-! ### Join -/
theorem splitA_right (a : ByteArray) (h : (splitA a).2 = 0) : rightN (splitA a).1 = true := by
  unfold splitA at h ⊢
  show rightN ((splitL a.data.toList).1.map mk) = true
  rw [right_L]
  change (splitL a.data.toList).2 = 0 at h
  match hd : a.data.toList with
  | [] => rfl
  | c :: r =>
    rw [hd, splitL_cons] at h
    rw [splitL_cons]
    by_cases h1 : c = 47
    · rw [if_pos h1] at h ⊢
      by_cases h2 : r = []
      · rw [if_pos h2]; rfl
      · rw [if_neg h2] at h ⊢
        by_cases h3 : rightL (pieces r) = true
        · rw [if_pos h3]; exact h3
        · rw [if_neg h3]; rfl
    · rw [if_neg h1]; rfl
/-! ### alive -/
end Go.Proofs.YtllfjmmdackgdaaDoor.PZ
end
