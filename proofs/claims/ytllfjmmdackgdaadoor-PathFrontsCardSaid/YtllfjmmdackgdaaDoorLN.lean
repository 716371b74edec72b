/- Plain words: what Name answers, of the program and of the reference. -/
import Derived.Test.YtllfjmmdackgdaaDoorPZx0
import Derived.Test.YtllfjmmdackgdaaDoorOrd
import Derived.Test.YtllfjmmdackgdaaDoorGName
import Derived.Test.YtllfjmmdackgdaaDoorPZx2
namespace Go.Proofs.YtllfjmmdackgdaaDoor.PZ
open Go.RowKit Go.Proofs.YtllfjmmdackgdaaDoorW.PrintWords Go.Proofs.YtllfjmmdackgdaaDoorW.PrintLast Go.Proofs.YtllfjmmdackgdaaDoorW.PrintMore Go.Proofs.YtllfjmmdackgdaaDoor.Ord Go.Proofs.YtllfjmmdackgdaaDoor.B

theorem w6 {x : Int} (h : -9223372036854775808 ≤ x) (h2 : x ≤ 9223372036854775807) : wrap64 x = x := IntWalk.wrap64_in x ⟨h, h2⟩
/-! ### a name -/
theorem ib_neg : ∀ (l : List UInt8) (c : UInt8), Lib.indexByte l c < 0 ↔ c ∉ l
  | [], c => by simp [Lib.indexByte]
  | b :: l, c => by
    have h1 := Lib.indexByte_ge l c
    have ih := ib_neg l c
    unfold Lib.indexByte
    by_cases h : b = c
    · subst h; simp
    · have h2 : (b == c) = false := by simpa using h
      have h3 : ¬ c = b := fun e => h e.symm
      rw [h2, if_neg Bool.false_ne_true]
      by_cases h4 : Lib.indexByte l c = -1
      · rw [h4] at ih ⊢
        simp [h3]
        simpa using ih
      · have h5 : (Lib.indexByte l c == -1) = false := by simpa using h4
        rw [h5, if_neg Bool.false_ne_true]
        have h6 : ¬ Lib.indexByte l c < 0 := by omega
        constructor
        · intro h7; omega
        · intro h8
          exact absurd (ih.2 (fun h9 => h8 (List.mem_cons_of_mem _ h9))) h6
/-- A byte of a name. -/
def okC (b : UInt8) : Bool := !(b == 0) && !(b == 47)
theorem nameB_eq (s : ByteArray) : nameB s = (!(s.toList.isEmpty) && !(s.toList == [46]) && !(s.toList == [46, 46]) && decide (s.size ≤ 12) && s.data.toList.all okC) := by
  unfold nameB
  rw [Bool.eq_iff_iff]
  simp only [Bool.and_eq_true, decide_eq_true_eq, ib_neg, List.all_eq_true, and_assoc]
  refine and_congr_right fun _ => and_congr_right fun _ => and_congr_right fun _ => and_congr_right fun _ => ?_
  constructor
  · rintro ⟨h1, h2⟩ x hx
    unfold okC
    have e1 : ¬ x = 0 := fun e => h1 (e ▸ hx)
    have e2 : ¬ x = 47 := fun e => h2 (e ▸ hx)
    simp [e1, e2]
  · intro h
    refine ⟨fun hx => ?_, fun hx => ?_⟩
    · have := h _ hx; simp [okC] at this
    · have := h _ hx; simp [okC] at this
theorem bt_at (s : ByteArray) (i : Nat) (h : i < s.data.toList.length) : bt s (i : Int) = ((s.data.toList[i]).toNat : Int) := by
  rw [← rd_bytesOf]
  have h2 : i < (bytesOf s).length := by rw [bytesOf, List.length_map]; exact h
  unfold rd
  rw [Int.toNat_natCast, List.getD_eq_getElem?_getD, List.getElem?_eq_getElem h2, Option.getD_some]
  simp only [bytesOf, List.getElem_map]
theorem name_l0 (s : ByteArray) (hs : s.size ≤ 12) : ∀ (d i : Nat), i ≤ s.size → s.size - i = d → Ev (fun k => moraineref10_Name.l0 k s (i : Int)) ((s.data.toList.drop i).all okC) := by
  intro d
  induction d with
  | zero =>
    intro i hi hd
    refine Ev.step (f := fun _ => some ((s.data.toList.drop i).all okC)) (fun k => ?_) (Ev.now _)
    simp only [moraineref10_Name.l0]
    rw [if_neg (by omega), List.drop_of_length_le (by rw [data_length]; omega)]
    rfl
  | succ d ih =>
    intro i hi hd
    have hil : i < s.data.toList.length := by rw [data_length]; omega
    have e2 : s.data.toList.drop i = s.data.toList[i] :: s.data.toList.drop (i + 1) := List.drop_eq_getElem_cons hil
    refine Ev.step (f := fun k => if okC s.data.toList[i] = true then moraineref10_Name.l0 k s ((i + 1 : Nat) : Int) else some false) (fun k => ?_) ?_
    · simp only [moraineref10_Name.l0]
      rw [if_pos (by omega), if_pos (by omega), bt_at s i hil, w6 (x := (i : Int) + 1) (by omega) (by omega)]
      have q0 : ((s.data.toList[i]).toNat : Int) = 0 ↔ s.data.toList[i] = 0 := by
        constructor
        · intro h; apply UInt8.toNat_inj.1; show _ = 0; omega
        · intro h; rw [h]; rfl
      have q47 : ((s.data.toList[i]).toNat : Int) = 47 ↔ s.data.toList[i] = 47 := by
        constructor
        · intro h; apply UInt8.toNat_inj.1; show _ = 47; omega
        · intro h; rw [h]; rfl
      by_cases h0 : s.data.toList[i] = 0
      · rw [if_pos (q0.2 h0), h0]; rfl
      · rw [if_neg (fun h => h0 (q0.1 h))]
        by_cases h47 : s.data.toList[i] = 47
        · rw [if_pos (q47.2 h47), h47]; rfl
        · rw [if_neg (fun h => h47 (q47.1 h)), if_pos (by unfold okC; rw [beq_eq_false_iff_ne.2 h0, beq_eq_false_iff_ne.2 h47]; rfl)]
          rfl
    · rw [e2, List.all_cons]
      by_cases h : okC s.data.toList[i] = true
      · simp only [h, if_true, Bool.true_and]
        exact ih (i + 1) (by omega) (by omega)
      · simp only [h, Bool.false_and]
        exact Ev.now _
theorem size_of_toList (s : ByteArray) : s.toList.length = s.size := by rw [toList_data, data_length]
theorem name_ev (s : ByteArray) : Ev (fun k => moraineref10_Name.f k s) (nameB s) := by
  have jt : ∀ m, moraineref10_Name.j0 (m + 1) s true = some false := fun m => by simp only [moraineref10_Name.j0]; rfl
  have hsz := size_of_toList s
  rw [nameB_eq]
  by_cases h1 : (s.size : Int) < 1
  · have e : s.toList = [] := List.length_eq_zero_iff.1 (by omega)
    refine ⟨1, fun k hk => ?_⟩
    obtain ⟨m, rfl⟩ : ∃ m, k = m + 1 := ⟨k - 1, by omega⟩
    show moraineref10_Name.f (m + 1) s = _
    unfold moraineref10_Name.f
    rw [if_pos h1, jt m, e]; rfl
  · by_cases h2 : (s.size : Int) > 12
    · refine ⟨1, fun k hk => ?_⟩
      obtain ⟨m, rfl⟩ : ∃ m, k = m + 1 := ⟨k - 1, by omega⟩
      show moraineref10_Name.f (m + 1) s = _
      unfold moraineref10_Name.f
      rw [if_neg h1, if_pos h2, jt m, show decide (s.size ≤ 12) = false from decide_eq_false (by omega)]
      simp
    · have e0 : s.toList.isEmpty = false := by
        rw [← Bool.not_eq_true, List.isEmpty_iff]
        intro e; rw [e] at hsz; simp at hsz; omega
      by_cases h3 : s.toList = [46]
      · refine ⟨1, fun k hk => ?_⟩
        obtain ⟨m, rfl⟩ : ∃ m, k = m + 1 := ⟨k - 1, by omega⟩
        show moraineref10_Name.f (m + 1) s = _
        unfold moraineref10_Name.f
        rw [if_neg h1, if_neg h2, if_pos h3, jt m, h3]
        rfl
      · by_cases h4 : s.toList = [46, 46]
        · refine ⟨1, fun k hk => ?_⟩
          obtain ⟨m, rfl⟩ : ∃ m, k = m + 1 := ⟨k - 1, by omega⟩
          show moraineref10_Name.f (m + 1) s = _
          unfold moraineref10_Name.f
          rw [if_neg h1, if_neg h2, if_neg h3, h4]
          exact jt m
        · have b3 : (s.toList == [46]) = false := by simpa using h3
          have b4 : (s.toList == [46, 46]) = false := by simpa using h4
          obtain ⟨K, hK⟩ := name_l0 s (by omega) s.size 0 (by omega) (by omega)
          refine ⟨K + 1, fun k hk => ?_⟩
          obtain ⟨m, rfl⟩ : ∃ m, k = m + 1 := ⟨k - 1, by omega⟩
          show moraineref10_Name.f (m + 1) s = _
          unfold moraineref10_Name.f
          rw [if_neg h1, if_neg h2, if_neg h3, b4]
          simp only [moraineref10_Name.j0]
          rw [if_neg (by simp), show decide (s.size ≤ 12) = true from decide_eq_true (by omega), e0, b3]
          have := hK m (by omega)
          simp only [List.drop_zero] at this
          simp only [Bool.not_false, Bool.true_and]
          exact this

end Go.Proofs.YtllfjmmdackgdaaDoor.PZ
