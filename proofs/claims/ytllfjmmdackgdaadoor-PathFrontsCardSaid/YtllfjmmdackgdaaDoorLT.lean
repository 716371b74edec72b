/- Plain words: the reference's Split; lists of strings that are alike. -/
import Derived.Test.YtllfjmmdackgdaaDoorLS
import Derived.Test.YtllfjmmdackgdaaDoorPZx1
namespace Go.Proofs.YtllfjmmdackgdaaDoor.PZ
open Go.RowKit Go.Proofs.YtllfjmmdackgdaaDoorW.PrintWords Go.Proofs.YtllfjmmdackgdaaDoorW.PrintLast Go.Proofs.YtllfjmmdackgdaaDoorW.PrintMore Go.Proofs.YtllfjmmdackgdaaDoor.Ord Go.Proofs.YtllfjmmdackgdaaDoor.B

/-- Pieces taken one by one. -/
def chk (out : List (List UInt8)) : List (List UInt8) → Option (List (List UInt8))
  | [] => some out
  | p :: ps => if nameL p = true then (if out.length = 8 then none else chk (out ++ [p]) ps) else none
theorem chk_eq : ∀ (ps out : List (List UInt8)), out.length ≤ 8 → chk out ps = if (ps.all nameL && decide (out.length + ps.length ≤ 8)) = true then some (out ++ ps) else none
  | [], out, h => by
    unfold chk
    rw [if_pos (by simp [h])]
    simp
  | p :: ps, out, h => by
    unfold chk
    by_cases h1 : nameL p = true
    · rw [if_pos h1]
      by_cases h2 : out.length = 8
      · rw [if_pos h2, if_neg (by simp; omega)]
      · rw [if_neg h2, chk_eq ps (out ++ [p]) (by simp; omega)]
        rw [List.all_cons, h1, Bool.true_and, List.length_append, List.length_cons, List.length_cons, List.length_nil]
        rw [show out.length + (0 + 1) + ps.length = out.length + (ps.length + 1) by omega]
        simp
    · rw [if_neg h1, if_neg (by simp [h1])]
theorem chk_right (ps : List (List UInt8)) : chk [] ps = if rightL ps = true then some ps else none := by
  rw [chk_eq ps [] (by simp)]
  unfold rightL
  rw [Bool.and_comm]
  simp
def ansS (o : Option (List (List UInt8))) : List ByteArray × Int := match o with
  | some ps => (ps.map mk, 0)
  | none => ([], 20)

theorem str_app (cur : List UInt8) : strOfNums (bytesOf (mk cur)) = mk cur := by
  apply data_inj
  rw [strOfNums_data, bytesOf, List.map_map]
  conv => rhs; rw [← List.map_id (mk cur).data.toList]
  apply List.map_congr_left
  intro x _
  show UInt8.ofNat ((x.toNat : Int)).toNat = x
  simp
theorem bytes_snoc (cur : List UInt8) (c : UInt8) : bytesOf (mk cur) ++ [(c.toNat : Int)] = bytesOf (mk (cur ++ [c])) := by
  unfold bytesOf
  rw [mk_data, mk_data]
  simp
theorem bytes_nil : bytesOf (mk []) = [] := rfl

/-- The loop behind a whole name: it goes on with the rest, or it ends. -/
theorem ref_l0 (s : ByteArray) (hs : s.size < 10000000) : ∀ (d i : Nat) (out : List (List UInt8)) (cur : List UInt8), i ≤ s.size → s.size - i = d → out.length ≤ 8 → cur.length ≤ i →
    ∃ K, ∀ k, K ≤ k → moraineref10_Split.l0 k s (out.map mk) (bytesOf (mk cur)) (i : Int) = some (ansS (chk out (ahead cur (pieces (s.data.toList.drop i))))) := by
  intro d
  induction d with
  | zero =>
    intro i out cur hi hd ho hc
    obtain ⟨Kn, hn⟩ := name_ev (mk cur)
    have e1 : s.data.toList.drop i = [] := List.drop_of_length_le (by rw [data_length]; omega)
    have e2 : ahead cur (pieces ([] : List UInt8)) = [cur] := by simp [pieces, ahead]
    have hil : ¬ (i : Int) < (s.size : Int) := by omega
    have hil2 : (i : Int) ≤ (s.size : Int) := by omega
    have hil3 : ¬ wrap64 ((i : Int) + 1) ≤ (s.size : Int) := by rw [w6 (by omega) (by omega)]; omega
    have hom : (out.map mk).length = out.length := List.length_map ..
    rw [e1, e2]
    refine ⟨Kn + 3, fun k hk => ?_⟩
    obtain ⟨m, rfl⟩ : ∃ m, k = m + 3 := ⟨k - 3, by omega⟩
    rw [moraineref10_Split.l0, if_pos hil2, if_neg hil, moraineref10_Split.j2, if_neg Bool.false_ne_true, str_app, show moraineref10_Name.f (m + 1) (mk cur) = some (nameB (mk cur)) from hn _ (by omega), Option.bind_some, nameB_L, mk_data]
    unfold chk
    by_cases h1 : nameL cur = true
    · rw [if_pos h1, if_pos h1]
      by_cases h8 : out.length = 8
      · rw [if_pos h8, if_pos (by rw [hom]; omega)]
        rfl
      · rw [if_neg h8, if_neg (by rw [hom]; omega), if_pos (by rw [hom]; omega), moraineref10_Split.l0, if_neg hil3]
        unfold chk
        show some (out.map mk ++ [mk cur], (0 : Int)) = some ((out ++ [cur]).map mk, 0)
        rw [List.map_append]
        rfl
    · rw [if_neg h1, if_neg h1]
      rfl
  | succ d ih =>
    intro i out cur hi hd ho hc
    have hil : i < s.data.toList.length := by rw [data_length]; omega
    have e1 : s.data.toList.drop i = s.data.toList[i] :: s.data.toList.drop (i + 1) := List.drop_eq_getElem_cons hil
    have hbt := bt_at s i hil
    have hil1 : (i : Int) < (s.size : Int) := by omega
    have hil2 : (i : Int) ≤ (s.size : Int) := by omega
    have hil0 : (0 : Int) ≤ (i : Int) := by omega
    have hw : wrap64 ((i : Int) + 1) = ((i + 1 : Nat) : Int) := (w6 (by omega) (by omega)).trans (by omega)
    have hom : (out.map mk).length = out.length := List.length_map ..
    have hcl : (bytesOf (mk cur)).length = cur.length := by rw [bytesOf_length, mk_size]
    generalize hb : s.data.toList[i] = b at e1 hbt
    by_cases h47 : b = 47
    · -- a name ends
      obtain ⟨Kn, hn⟩ := name_ev (mk cur)
      have ep : ahead cur (pieces (b :: s.data.toList.drop (i + 1))) = cur :: pieces (s.data.toList.drop (i + 1)) := by
        conv => lhs; unfold pieces
        rw [if_pos h47]
        simp [ahead]
      have hne : (bt s (i : Int) != 47) = false := by rw [hbt, h47]; rfl
      rw [e1, ep]
      unfold chk
      by_cases h1 : nameL cur = true
      · rw [if_pos h1]
        by_cases h8 : out.length = 8
        · rw [if_pos h8]
          refine ⟨Kn + 3, fun k hk => ?_⟩
          obtain ⟨m, rfl⟩ : ∃ m, k = m + 3 := ⟨k - 3, by omega⟩
          rw [moraineref10_Split.l0, if_pos hil2, if_pos hil1, if_pos hil0, hne, moraineref10_Split.j2, if_neg Bool.false_ne_true, str_app, show moraineref10_Name.f (m + 1) (mk cur) = some (nameB (mk cur)) from hn _ (by omega), Option.bind_some, nameB_L, mk_data, if_pos h1, if_pos (by rw [hom]; omega)]
          rfl
        · rw [if_neg h8]
          obtain ⟨K, hK⟩ := ih (i + 1) (out ++ [cur]) [] (by omega) (by omega) (by simp; omega) (by simp)
          refine ⟨K + Kn + 3, fun k hk => ?_⟩
          obtain ⟨m, rfl⟩ : ∃ m, k = m + 3 := ⟨k - 3, by omega⟩
          have hq := hK (m + 1) (by omega)
          clear hK ih
          rw [ahead_nil, bytes_nil, List.map_append, List.map_cons, List.map_nil] at hq
          rw [moraineref10_Split.l0, if_pos hil2, if_pos hil1, if_pos hil0, hne, moraineref10_Split.j2, if_neg Bool.false_ne_true, str_app, show moraineref10_Name.f (m + 1) (mk cur) = some (nameB (mk cur)) from hn _ (by omega), Option.bind_some, nameB_L, mk_data, if_pos h1, if_neg (by rw [hom]; omega), if_pos (by rw [hom]; omega), hw]
          exact hq
      · rw [if_neg h1]
        refine ⟨Kn + 3, fun k hk => ?_⟩
        obtain ⟨m, rfl⟩ : ∃ m, k = m + 3 := ⟨k - 3, by omega⟩
        rw [moraineref10_Split.l0, if_pos hil2, if_pos hil1, if_pos hil0, hne, moraineref10_Split.j2, if_neg Bool.false_ne_true, str_app, show moraineref10_Name.f (m + 1) (mk cur) = some (nameB (mk cur)) from hn _ (by omega), Option.bind_some, nameB_L, mk_data, if_neg h1]
        rfl
    · have ep := ahead_step cur b (s.data.toList.drop (i + 1)) h47
      have hne : (bt s (i : Int) != 47) = true := by
        rw [hbt, bne_iff_ne]
        intro e
        apply h47
        apply UInt8.toNat_inj.1
        show b.toNat = 47
        omega
      rw [e1, ep]
      obtain ⟨K, hK⟩ := ih (i + 1) out (cur ++ [b]) (by omega) (by omega) ho (by simp; omega)
      refine ⟨K + 2, fun k hk => ?_⟩
      obtain ⟨m, rfl⟩ : ∃ m, k = m + 2 := ⟨k - 2, by omega⟩
      have hq := hK m (by omega)
      clear hK ih
      rw [← bytes_snoc] at hq
      rw [moraineref10_Split.l0, if_pos hil2, if_pos hil1, if_pos hil0, hne, moraineref10_Split.j2, if_pos rfl, if_pos hil0, if_pos hil1, if_pos (by rw [hcl]; omega), hw, hbt]
      exact hq

theorem ref_split_ev (a : ByteArray) (ha : a.size < 10000000) : Ev (fun k => moraineref10_Split.f k a) (splitA a) := by
  have hsl := data_length a
  unfold splitA
  match hd : a.data.toList with
  | [] =>
    rw [hd, List.length_nil] at hsl
    refine ⟨1, fun k hk => ?_⟩
    obtain ⟨m, rfl⟩ : ∃ m, k = m + 1 := ⟨k - 1, by omega⟩
    show moraineref10_Split.f (m + 1) a = _
    unfold moraineref10_Split.f
    rw [if_pos (by omega), moraineref10_Split.j0, if_pos rfl]
    rfl
  | c :: r =>
    rw [hd, List.length_cons] at hsl
    rw [splitL_cons]
    have h0 : ¬ (a.size : Int) = 0 := by omega
    have h1 : (0 : Int) < (a.size : Int) := by omega
    have hbt := bt_at a 0 (by rw [hd]; simp)
    have hb0 : bt a 0 = (c.toNat : Int) := by
      rw [show (0 : Int) = ((0 : Nat) : Int) by rfl, hbt]
      simp only [hd, List.getElem_cons_zero]
    by_cases hc : c = 47
    · rw [if_pos hc]
      have hne : (bt a 0 != 47) = false := by rw [hb0, hc]; rfl
      by_cases hr : r = []
      · rw [if_pos hr]
        refine ⟨1, fun k hk => ?_⟩
        obtain ⟨m, rfl⟩ : ∃ m, k = m + 1 := ⟨k - 1, by omega⟩
        show moraineref10_Split.f (m + 1) a = _
        unfold moraineref10_Split.f
        rw [if_neg h0, if_pos h1, hne, moraineref10_Split.j0, if_neg Bool.false_ne_true, Option.bind_some, if_pos (by rw [toList_data, hd, hr, hc])]
        rfl
      · rw [if_neg hr]
        obtain ⟨K, hK⟩ := ref_l0 a (by omega) (a.size - 1) 1 [] [] (by omega) (by omega) (by simp) (by simp)
        refine ⟨K + 1, fun k hk => ?_⟩
        obtain ⟨m, rfl⟩ : ∃ m, k = m + 1 := ⟨k - 1, by omega⟩
        have hq := hK m (by omega)
        clear hK
        rw [ahead_nil, bytes_nil, hd, List.map_nil] at hq
        show moraineref10_Split.f (m + 1) a = _
        unfold moraineref10_Split.f
        rw [if_neg h0, if_pos h1, hne, moraineref10_Split.j0, if_neg Bool.false_ne_true, Option.bind_some, if_neg (by rw [toList_data, hd]; intro e; injection e with _ e; exact hr e)]
        refine hq.trans ?_
        show some (ansS (chk [] (pieces r))) = _
        rw [chk_right]
        by_cases hq : rightL (pieces r) = true
        · rw [if_pos hq, if_pos hq]; rfl
        · rw [if_neg hq, if_neg hq]; rfl
    · rw [if_neg hc]
      have hne : (bt a 0 != 47) = true := by
        rw [hb0, bne_iff_ne]
        intro e
        apply hc
        apply UInt8.toNat_inj.1
        show c.toNat = 47
        omega
      refine ⟨1, fun k hk => ?_⟩
      obtain ⟨m, rfl⟩ : ∃ m, k = m + 1 := ⟨k - 1, by omega⟩
      show moraineref10_Split.f (m + 1) a = _
      unfold moraineref10_Split.f
      rw [if_neg h0, if_pos h1, hne, moraineref10_Split.j0, if_pos rfl]
      rfl

/-! ### lists of strings -/
theorem rdS (l : List ByteArray) (i : Nat) (h : i < l.length) : rdOf ByteArray.empty l (i : Int) = l[i] := by
  unfold rdOf
  simp [List.getD_eq_getElem?_getD, List.getElem?_eq_getElem h]
theorem same_texts_l0 (l : List ByteArray) (hl : l.length < 1000000000) : ∀ (d i : Nat), i ≤ l.length → l.length - i = d → ∃ K, ∀ k, K ≤ k → moraineref00_SameTexts.l0 k l l (i : Int) = some true := by
  intro d
  induction d with
  | zero =>
    intro i hi hd
    refine ⟨1, fun k hk => ?_⟩
    obtain ⟨m, rfl⟩ : ∃ m, k = m + 1 := ⟨k - 1, by omega⟩
    rw [moraineref00_SameTexts.l0, if_neg (by omega)]
  | succ d ih =>
    intro i hi hd
    obtain ⟨K, hK⟩ := ih (i + 1) (by omega) (by omega)
    have hw : wrap64 ((i : Int) + 1) = ((i + 1 : Nat) : Int) := (w6 (by omega) (by omega)).trans (by omega)
    have h1 : (i : Int) < (l.length : Int) := by omega
    have h2 : (0 : Int) ≤ (i : Int) := by omega
    refine ⟨K + 1, fun k hk => ?_⟩
    obtain ⟨m, rfl⟩ : ∃ m, k = m + 1 := ⟨k - 1, by omega⟩
    rw [moraineref00_SameTexts.l0, if_pos h1, if_pos h2, if_pos h1, if_pos rfl, hw]
    exact hK m (by omega)
theorem same_texts_ev (l : List ByteArray) (hl : l.length < 1000000000) : Ev (fun k => moraineref00_SameTexts.f k l l) true := by
  obtain ⟨K, hK⟩ := same_texts_l0 l hl l.length 0 (by omega) (by omega)
  refine ⟨K, fun k hk => ?_⟩
  show moraineref00_SameTexts.f k l l = some true
  unfold moraineref00_SameTexts.f
  rw [if_pos rfl]
  exact hK k hk
theorem splitA_length (a : ByteArray) : (splitA a).1.length ≤ 8 := by
  unfold splitA
  rw [List.length_map]
  unfold splitL
  split
  · simp
  · split
    · split
      · simp
      · split
        · rename_i h
          unfold rightL at h
          simp only [Bool.and_eq_true, decide_eq_true_eq] at h
          exact h.1
        · simp
    · simp
end Go.Proofs.YtllfjmmdackgdaaDoor.PZ
