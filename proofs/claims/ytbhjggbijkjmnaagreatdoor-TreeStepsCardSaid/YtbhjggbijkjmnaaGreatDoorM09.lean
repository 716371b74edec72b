import Derived.Test.YtbhjggbijkjmnaaGreatDoorM08
import Derived.Test.YtbhjggbijkjmnaaGreatDoorM06
import Derived.Test.YtbhjggbijkjmnaaGreatDoorM07
import Derived.Lib.IndexLaws
set_option linter.unusedVariables false
set_option linter.unusedSimpArgs false
section
namespace Go.Proofs.YtbhjggbijkjmnaaGreatDoor.PZ
open Go.RowKit Go.Proofs.YtbhjggbijkjmnaaGreatDoorW.PrintWords Go.Proofs.YtbhjggbijkjmnaaGreatDoorW.PrintLast Go.Proofs.YtbhjggbijkjmnaaGreatDoorW.PrintMore Go.Proofs.YtbhjggbijkjmnaaGreatDoor.B Go.Proofs.YtbhjggbijkjmnaaGreatDoor.Ord TD
set_option maxRecDepth 100000
def mk (l : List UInt8) : ByteArray := ⟨l.toArray⟩
theorem Qdl (l : List UInt8) : (mk l).data.toList = l := by unfold mk; simp
theorem mk_self (a : ByteArray) : mk a.data.toList = a := by unfold mk; simp
theorem mk_size (l : List UInt8) : (mk l).size = l.length := by rw [← Qay, Qdl]
theorem data_inj {a b : ByteArray} (h : a.data.toList = b.data.toList) : a = b := by rw [← mk_self a, ← mk_self b, h]
def pieces : List UInt8 → List (List UInt8)
 | [] => [[]]
 | c :: r => if c = 47 then [] :: pieces r else match pieces r with
  | p :: q => (c :: p) :: q
  | [] => [[c]]
theorem pieces_ne : ∀ l, ∃ p q, pieces l = p :: q
 | [] => ⟨[], [], rfl⟩
 | c :: r => by
  obtain ⟨p, q, h⟩ := pieces_ne r
  unfold pieces
  by_cases hc : c = 47
  · rw [if_pos hc]; exact ⟨_, _, rfl⟩
  · rw [if_neg hc, h]; exact ⟨_, _, rfl⟩
def ahead (cur : List UInt8) (ps : List (List UInt8)) : List (List UInt8) := match ps with
 | p :: q => (cur ++ p) :: q
 | [] => [cur]
theorem ahead_nil (l : List UInt8) : ahead [] (pieces l) = pieces l := by
 obtain ⟨p, q, h⟩ := pieces_ne l
 rw [h]; rfl
theorem ahead_step (cur : List UInt8) (c : UInt8) (r : List UInt8) (h : c ≠ 47) : ahead cur (pieces (c :: r)) = ahead (cur ++ [c]) (pieces r) := by
 obtain ⟨p, q, hp⟩ := pieces_ne r
 conv => lhs; unfold pieces
 rw [if_neg h, hp]
 simp [ahead]
theorem pieces_none : ∀ (l : List UInt8), 47 ∉ l → pieces l = [l]
 | [], _ => rfl
 | c :: r, h => by
  have h1 : c ≠ 47 := fun e => h (e ▸ List.mem_cons_self ..)
  have h2 := pieces_none r (fun e => h (List.mem_cons_of_mem _ e))
  unfold pieces
  rw [if_neg h1, h2]
theorem pieces_cut : ∀ (p r : List UInt8), 47 ∉ p → pieces (p ++ 47 :: r) = p :: pieces r
 | [], r, _ => by
  show pieces (47 :: r) = _
  conv => lhs; unfold pieces
  rw [if_pos rfl]
 | c :: p, r, h => by
  have h1 : c ≠ 47 := fun e => h (e ▸ List.mem_cons_self ..)
  have h2 := pieces_cut p r (fun e => h (List.mem_cons_of_mem _ e))
  show pieces (c :: (p ++ 47 :: r)) = _
  conv => lhs; unfold pieces
  rw [if_neg h1, h2]
theorem pieces_length : ∀ (l : List UInt8), (pieces l).length = l.count 47 + 1
 | [] => rfl
 | c :: r => by
  obtain ⟨p, q, hp⟩ := pieces_ne r
  have ih := pieces_length r
  unfold pieces
  by_cases hc : c = 47
  ·
   subst hc
   rw [if_pos rfl, List.length_cons, ih]
   simp
  ·
   rw [if_neg hc]
   rw [hp] at ih ⊢
   rw [List.count_cons_of_ne hc]
   simpa using ih
theorem index_at {l : List UInt8} {m : Nat} (h : Lib.indexByte l 47 = m) : m < l.length ∧ 47 ∉ l.take m ∧ l = l.take m ++ 47 :: l.drop (m + 1) := by
 obtain ⟨h1, h2⟩ := Lib.indexByte_some h
 obtain ⟨h3, h4⟩ := List.getElem?_eq_some_iff.1 h1
 refine ⟨h3, fun hm => ?_, ?_⟩
 ·
  obtain ⟨j, hj, hx⟩ := List.getElem_of_mem hm
  rw [List.length_take] at hj
  rw [List.getElem_take] at hx
  exact h2 j zq3 (List.getElem?_eq_some_iff.2 ⟨by omega, hx⟩)
 ·
  have e : l.drop m = 47 :: l.drop (m + 1) := by rw [List.drop_eq_getElem_cons h3, h4]
  rw [← e, List.take_append_drop]
theorem set_end {α : Type} (l : List α) (i : Nat) (x : α) (h : i < l.length) : (l.set i x).take (i + 1) = l.take i ++ [x] := by
 rw [List.take_add_one, List.take_set_of_le (Nat.le_refl _), List.getElem?_set_self h]
 rfl
theorem slash_one : oneB (⟨#[47]⟩ : ByteArray) = some 47 := rfl
theorem gen_stop (k : Nat) (s : ByteArray) (n : Int) (a : List ByteArray) (i j : Int) (h1 : ¬ i < n) (h2 : 0 ≤ i) (h3 : i < (a.length : Int)) (h4 : wrap64 (i + 1) = j) (h5 : 0 ≤ j) (h6 : j ≤ (a.length : Int)) :
  strings_genSplit.l0 (k + 1) s ⟨#[47]⟩ 0 n a i = some ((a.set i.toNat s).take j.toNat) := by
 rw [strings_genSplit.l0, if_neg h1, if_pos h2, if_pos h3, h4, if_pos h5, if_pos h6]
theorem gen_go (k : Nat) (s : ByteArray) (n : Int) (a : List ByteArray) (i j m m1 : Int) (h1 : i < n) (hI : strings_Index.f s ⟨#[47]⟩ = some m) (hm : ¬ m < 0) (e0 : wrap64 (m + 0) = m) (e1 : wrap64 (m + 1) = m1) (e2 : wrap64 (i + 1) = j) (h2 : 0 ≤ i) (h3 : i < (a.length : Int)) (h4 : m ≤ (s.size : Int)) (h5 : m1 ≤ (s.size : Int)) (h6 : 0 ≤ m1) :
  strings_genSplit.l0 (k + 1) s ⟨#[47]⟩ 0 n a i = strings_genSplit.l0 k (s.extract m1.toNat s.size) ⟨#[47]⟩ 0 n (a.set i.toNat (s.extract 0 m.toNat)) j := by
 have z1 : ((⟨#[47]⟩ : ByteArray).size : Int) = 1 := rfl
 have hm2 : 0 ≤ m := by omega
 rw [strings_genSplit.l0, if_pos h1, hI, Option.bind_some, if_neg hm, e0, z1, e1, e2, if_pos hm2, if_pos h4, if_pos h2, if_pos h3, if_pos h6, if_pos h5]
theorem gen_l0 : ∀ (d : Nat) (s : ByteArray) (a : List ByteArray) (i : Nat), s.data.toList.count 47 = d → s.size < 1000000000 → i < 1000000000 → a.length = i + d + 1 → i + s.size < 1000000000 →
  ∃ K, ∀ k, K ≤ k → strings_genSplit.l0 k s ⟨#[47]⟩ 0 ((i + d : Nat) : Int) a (i : Int) = some (a.take i ++ (pieces s.data.toList).map mk) := by
 intro d
 induction d with
 | zero =>
  intro s a i hd hs hi ha _
  have hn : 47 ∉ s.data.toList := List.count_eq_zero.1 hd
  refine ⟨1, fun k hk => ?_⟩
  obtain ⟨q, rfl⟩ : ∃ q, k = q + 1 := ⟨k - 1, by omega⟩
  have e := gen_stop q s ((i + 0 : Nat) : Int) a (i : Int) ((i + 1 : Nat) : Int) zq3 zq3 zq3 (w6 zq3 zq3) zq3 zq3
  rw [e, Int.toNat_natCast, Int.toNat_natCast, set_end _ _ _ zq3, pieces_none _ hn, List.map_cons, List.map_nil, mk_self]
 | succ d ih =>
  intro s a i hd hs hi ha his
  obtain ⟨m, hm⟩ : ∃ m : Nat, Lib.indexByte s.data.toList 47 = m := by
   have h1 := Lib.indexByte_ge s.data.toList 47
   have h2 : ¬ Lib.indexByte s.data.toList 47 < 0 := by
    rw [ib_neg]
    intro h
    rw [List.count_eq_zero.2 h] at hd
    cases hd
   exact ⟨(Lib.indexByte s.data.toList 47).toNat, by omega⟩
  obtain ⟨h1, h2, h3⟩ := index_at hm
  rw [Qay] at h1
  have hc : (s.data.toList.drop (m + 1)).count 47 = d := by
   rw [h3, List.count_append, List.count_cons_self, List.count_eq_zero.2 h2] at hd
   omega
  have e1 : (s.extract (m + 1) s.size).data.toList = s.data.toList.drop (m + 1) := by
   rw [Lib.extract_data, List.take_of_length_le (by rw [List.length_drop, Qay]; exact Nat.le_refl _)]
  have e2 : s.extract 0 m = mk (s.data.toList.take m) := data_inj (by rw [Lib.extract_data, Qdl, List.drop_zero, Nat.sub_zero])
  have hes : (s.extract (m + 1) s.size).size = s.size - (m + 1) := by rw [← Qay, e1, List.length_drop, Qay]
  have hsl : (a.set i (s.extract 0 m)).length = i + 1 + d + 1 := by rw [List.length_set]; omega
  obtain ⟨K, hK⟩ := ih (s.extract (m + 1) s.size) (a.set i (s.extract 0 m)) (i + 1) (by rw [e1]; exact hc) zq3 zq3 hsl zq3
  have hp : pieces s.data.toList = s.data.toList.take m :: pieces (s.data.toList.drop (m + 1)) := by
   conv => lhs; rw [h3]
   exact pieces_cut _ _ h2
  have hI : strings_Index.f s ⟨#[47]⟩ = some (m : Int) := by unfold strings_Index.f; rw [slash_one, ← hm]; rfl
  refine ⟨K + 1, fun k hk => ?_⟩
  obtain ⟨q, rfl⟩ : ∃ q, k = q + 1 := ⟨k - 1, by omega⟩
  have hq := hK q zq3
  clear hK ih
  have e := gen_go q s ((i + (d + 1) : Nat) : Int) a (i : Int) ((i + 1 : Nat) : Int) (m : Int) ((m + 1 : Nat) : Int) zq3 hI zq3 (w6 zq3 zq3) (w6 zq3 zq3) (w6 zq3 zq3) zq3 zq3 zq3 zq3 zq3
  rw [e, Int.toNat_natCast, Int.toNat_natCast, Int.toNat_natCast, show i + (d + 1) = i + 1 + d by omega, hq, e1, set_end _ _ _ zq3, hp, List.map_cons, ← e2, List.append_assoc]
  rfl
theorem count_le (l : List UInt8) : l.count 47 ≤ l.length := List.count_le_length
theorem gen_open (m : Nat) (s : ByteArray) (c n : Int) (h0 : strings_Count.f s ⟨#[47]⟩ = some c) (h1 : wrap64 (c + 1) = c + 1) (h2 : wrap64 ((s.size : Int) + 1) = n) (h3 : mn (c + 1) n = c + 1) (h4 : 0 ≤ c + 1) (h5 : (c + 1).toNat ≤ 17592186044416) (h6 : wrap64 (c + 1 - 1) = c) :
  strings_Split.f (m + 1) s ⟨#[47]⟩ = strings_genSplit.l0 m s ⟨#[47]⟩ 0 c (List.replicate (c + 1).toNat ⟨#[]⟩) 0 := by
 have ne : ¬ (⟨#[47]⟩ : ByteArray).toList = ([] : List UInt8) := by rw [Qb]; simp
 unfold strings_Split.f strings_genSplit.f
 rw [if_neg (show ¬ (-1 : Int) = 0 by omega), if_neg ne, if_pos (show (-1 : Int) < 0 by omega), h0, Option.bind_some, h1, strings_genSplit.j0, h2, h3, if_pos h4, if_pos h5, h6]
 cases strings_genSplit.l0 m s ⟨#[47]⟩ 0 c (List.replicate (c + 1).toNat ⟨#[]⟩) 0 <;> rfl
theorem split_ev (s : ByteArray) (hs : s.size < 100000000) : Ev (fun k => strings_Split.f k s ⟨#[47]⟩) ((pieces s.data.toList).map mk) := by
 have hc := count_le s.data.toList
 rw [Qay] at hc
 generalize hcc : s.data.toList.count 47 = c at hc
 obtain ⟨K, hK⟩ := gen_l0 c s (List.replicate (c + 1) ⟨#[]⟩) 0 hcc zq3 zq3 (by rw [List.length_replicate]; omega) zq3
 have hC : strings_Count.f s ⟨#[47]⟩ = some (c : Int) := by rw [← hcc]; rfl
 refine ⟨K + 1, fun k hk => ?_⟩
 obtain ⟨m, rfl⟩ : ∃ m, k = m + 1 := ⟨k - 1, by omega⟩
 have hq := hK m zq3
 clear hK
 have e := gen_open m s (c : Int) ((s.size + 1 : Nat) : Int) hC (w6 zq3 zq3) (w6 zq3 zq3) (by unfold mn; rw [if_neg zq3]) zq3 zq3 (w6 zq3 zq3 |>.trans zq3)
 show strings_Split.f (m + 1) s ⟨#[47]⟩ = _
 rw [e, show ((c : Int) + 1).toNat = c + 1 by omega]
 rw [Nat.zero_add, List.take_zero, List.nil_append] at hq
 exact hq
def nameL (l : List UInt8) : Bool := !(l.isEmpty) && !(l == [46]) && !(l == [46, 46]) && decide (l.length ≤ 12) && l.all okC
theorem nameB_L (s : ByteArray) : nameB s = nameL s.data.toList := by
 rw [nameB_eq, Qb]
 unfold nameL
 rw [Qay]
def Qgk (ps : List (List UInt8)) : Bool := decide (ps.length ≤ 8) && ps.all nameL
theorem right_L (ps : List (List UInt8)) : Qf (ps.map mk) = Qgk ps := by
 unfold Qf Qgk
 rw [List.length_map, List.all_map]
 congr 2
 funext l
 show nameB (mk l) = nameL l
 rw [nameB_L, Qdl]
def Qfp (l : List UInt8) : List (List UInt8) × Int := match l with
 | [] => ([], 20)
 | c :: r => if c = 47 then (if r = [] then ([], 0) else if Qgk (pieces r) = true then (pieces r, 0) else ([], 20)) else ([], 20)
def Qah (a : ByteArray) : List ByteArray × Int := ((Qfp a.data.toList).1.map mk, (Qfp a.data.toList).2)
theorem Qhf (a : ByteArray) : strings_CutPrefix.f a ⟨#[47]⟩ = some (match a.data.toList with
  | [] => (a, false)
  | c :: r => if c = 47 then (mk r, true) else (a, false)) := by
 have hsl := Qay a
 unfold strings_CutPrefix.f stringslite_CutPrefix.f stringslite_HasPrefix.f
 have z1 : ((⟨#[47]⟩ : ByteArray).size : Int) = 1 := rfl
 rw [z1]
 match hd : a.data.toList with
 | [] =>
  rw [hd] at hsl
  rw [if_neg (by simp at hsl; omega)]
  simp only [Option.bind_some]
  rw [if_neg Bool.false_ne_true]
  rfl
 | c :: r =>
  rw [hd, List.length_cons] at hsl
  rw [if_pos zq3, if_pos zq3, if_pos zq3, if_pos zq3, if_pos zq3]
  simp only [Option.bind_some]
  have e1 : (a.extract 0 (1 : Int).toNat).toList = [c] := by
   rw [Qb, Lib.extract_data, hd]; rfl
  have e2 : a.extract (1 : Int).toNat a.size = mk r := data_inj (by
   rw [Lib.extract_data, Qdl, hd]
   show (List.drop 1 (c :: r)).take _ = r
   rw [List.drop_one, List.tail_cons, List.take_of_length_le (by show r.length ≤ a.size - 1; omega)])
  rw [e1, e2, Qb]
  by_cases hc : c = 47
  ·
   subst hc
   rfl
  ·
   rw [if_neg hc]
   have : ([c] == [47]) = false := by simpa using hc
   have e3 : (⟨#[47]⟩ : ByteArray).data.toList = [47] := rfl
   rw [e3, this, if_neg Bool.false_ne_true]
   rfl
theorem right_ok (l : List ByteArray) (h : l.length < 1000000000000) : path_right.f l = some (Qf l) := by unfold path_right.f; rw [if_pos h]
theorem Qea (c : UInt8) (r : List UInt8) : Qfp (c :: r) = if c = 47 then (if r = [] then ([], 0) else if Qgk (pieces r) = true then (pieces r, 0) else ([], 20)) else ([], 20) := rfl
theorem Qdw (a : ByteArray) (ha : a.size < 10000000) : Ev (fun k => path_Split.f k a) (Qah a) := by
 have hsl := Qay a
 unfold Qah
 match hd : a.data.toList with
 | [] =>
  refine ⟨0, fun k _ => ?_⟩
  show path_Split.f k a = _
  unfold path_Split.f
  rw [Qhf, hd]
  rfl
 | c :: r =>
  rw [hd, List.length_cons] at hsl
  rw [Qea]
  by_cases hc : c = 47
  ·
   rw [if_pos hc]
   by_cases hr : r = []
   ·
    rw [if_pos hr]
    refine ⟨0, fun k _ => ?_⟩
    show path_Split.f k a = _
    unfold path_Split.f
    rw [Qhf, hd, hr]
    simp only [hc, Option.bind_some, if_true]
    rw [if_pos (by rw [Qb, Qdl])]
    rfl
   ·
    rw [if_neg hr]
    obtain ⟨K, hK⟩ := split_ev (mk r) (by rw [mk_size]; omega)
    rw [Qdl] at hK
    have hpl := pieces_length r
    have hcl := count_le r
    refine ⟨K, fun k hk => ?_⟩
    have hS : strings_Split.f k (mk r) ⟨#[47]⟩ = some ((pieces r).map mk) := hK k hk
    show path_Split.f k a = _
    unfold path_Split.f
    rw [Qhf, hd]
    simp only [hc, Option.bind_some, if_true]
    rw [if_neg (by rw [Qb, Qdl]; exact hr), hS]
    simp only [Option.bind_some]
    rw [right_ok _ (by rw [List.length_map]; omega), right_L]
    simp only [Option.bind_some]
    by_cases hq : Qgk (pieces r) = true
    · rw [if_pos hq, if_pos hq]
    · rw [if_neg hq, if_neg hq]; rfl
  ·
   rw [if_neg hc]
   refine ⟨0, fun k _ => ?_⟩
   show path_Split.f k a = _
   unfold path_Split.f
   rw [Qhf, hd]
   simp only [hc, Option.bind_some, if_false, Bool.false_eq_true]
   rfl
end Go.Proofs.YtbhjggbijkjmnaaGreatDoor.PZ
end
