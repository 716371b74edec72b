/- Plain words: what Encode and Decode of entries answer, of the program and of the reference. -/
import Derived.Test.YtllfjmmdackgdaaL1
import Derived.Test.YtllfjmmdackgdaaB
import Derived.Test.YtllfjmmdackgdaaGEncode
import Derived.Test.YtllfjmmdackgdaaGRefEncode
import Derived.Test.YtllfjmmdackgdaaGRefDecode
import Derived.Test.YtllfjmmdackgdaaGGet
import Derived.Test.YtllfjmmdackgdaaPZx6
import Derived.Test.YtllfjmmdackgdaaPZx4
import Derived.Test.YtllfjmmdackgdaaPZx3
import Derived.Test.YtllfjmmdackgdaaPZx6
namespace Go.Proofs.Ytllfjmmdackgdaa.PZ
open Go.RowKit Go.Proofs.YtllfjmmdackgdaaW.PrintWords Go.Proofs.YtllfjmmdackgdaaW.PrintLast Go.Proofs.YtllfjmmdackgdaaW.PrintMore Go.Proofs.Ytllfjmmdackgdaa.Ord Go.Proofs.Ytllfjmmdackgdaa.B

/-! ### a name -/
theorem ib_neg : ∀ (l : List UInt8) (c : UInt8), Lib.indexByte l c < 0 ↔ c ∉ l
  | [], c => by simp [Lib.indexByte]
  | b :: l, c => by
    have h1 := Lib.indexByte_ge l c
    have ih := ib_neg l c
    unfold Lib.indexByte
    by_cases h : b = c
    · subst h; simp
    · have h2 : (b == c) = false := by simpa using h
      have h3 : ¬ c = b := fun e => h e.symm
      rw [h2, if_neg Bool.false_ne_true]
      by_cases h4 : Lib.indexByte l c = -1
      · rw [h4] at ih ⊢
        simp [h3]
        simpa using ih
      · have h5 : (Lib.indexByte l c == -1) = false := by simpa using h4
        rw [h5, if_neg Bool.false_ne_true]
        have h6 : ¬ Lib.indexByte l c < 0 := by omega
        constructor
        · intro h7; omega
        · intro h8
          exact absurd (ih.2 (fun h9 => h8 (List.mem_cons_of_mem _ h9))) h6
/-- A byte of a name. -/
def okC (b : UInt8) : Bool := !(b == 0) && !(b == 47)
theorem nameB_eq (s : ByteArray) : nameB s = (!(s.toList.isEmpty) && !(s.toList == [46]) && !(s.toList == [46, 46]) && decide (s.size ≤ 12) && s.data.toList.all okC) := by
  unfold nameB
  rw [Bool.eq_iff_iff]
  simp only [Bool.and_eq_true, decide_eq_true_eq, ib_neg, List.all_eq_true, and_assoc]
  refine and_congr_right fun _ => and_congr_right fun _ => and_congr_right fun _ => and_congr_right fun _ => ?_
  constructor
  · rintro ⟨h1, h2⟩ x hx
    unfold okC
    have e1 : ¬ x = 0 := fun e => h1 (e ▸ hx)
    have e2 : ¬ x = 47 := fun e => h2 (e ▸ hx)
    simp [e1, e2]
  · intro h
    refine ⟨fun hx => ?_, fun hx => ?_⟩
    · have := h _ hx; simp [okC] at this
    · have := h _ hx; simp [okC] at this
theorem bt_at (s : ByteArray) (i : Nat) (h : i < s.data.toList.length) : bt s (i : Int) = ((s.data.toList[i]).toNat : Int) := by
  rw [← rd_bytesOf]
  have h2 : i < (bytesOf s).length := by rw [bytesOf, List.length_map]; exact h
  unfold rd
  rw [Int.toNat_natCast, List.getD_eq_getElem?_getD, List.getElem?_eq_getElem h2, Option.getD_some]
  simp only [bytesOf, List.getElem_map]
theorem name_l0 (s : ByteArray) (hs : s.size ≤ 12) : ∀ (d i : Nat), i ≤ s.size → s.size - i = d → Ev (fun k => moraineref10_Name.l0 k s (i : Int)) ((s.data.toList.drop i).all okC) := by
  intro d
  induction d with
  | zero =>
    intro i hi hd
    refine Ev.step (f := fun _ => some ((s.data.toList.drop i).all okC)) (fun k => ?_) (Ev.now _)
    simp only [moraineref10_Name.l0]
    rw [if_neg (by omega), List.drop_of_length_le (by rw [data_length]; omega)]
    rfl
  | succ d ih =>
    intro i hi hd
    have hil : i < s.data.toList.length := by rw [data_length]; omega
    have e2 : s.data.toList.drop i = s.data.toList[i] :: s.data.toList.drop (i + 1) := List.drop_eq_getElem_cons hil
    refine Ev.step (f := fun k => if okC s.data.toList[i] = true then moraineref10_Name.l0 k s ((i + 1 : Nat) : Int) else some false) (fun k => ?_) ?_
    · simp only [moraineref10_Name.l0]
      rw [if_pos (by omega), if_pos (by omega), bt_at s i hil, w64 (x := (i : Int) + 1) (by omega) (by omega)]
      have q0 : ((s.data.toList[i]).toNat : Int) = 0 ↔ s.data.toList[i] = 0 := by
        constructor
        · intro h; apply UInt8.toNat_inj.1; show _ = 0; omega
        · intro h; rw [h]; rfl
      have q47 : ((s.data.toList[i]).toNat : Int) = 47 ↔ s.data.toList[i] = 47 := by
        constructor
        · intro h; apply UInt8.toNat_inj.1; show _ = 47; omega
        · intro h; rw [h]; rfl
      by_cases h0 : s.data.toList[i] = 0
      · rw [if_pos (q0.2 h0), h0]; rfl
      · rw [if_neg (fun h => h0 (q0.1 h))]
        by_cases h47 : s.data.toList[i] = 47
        · rw [if_pos (q47.2 h47), h47]; rfl
        · rw [if_neg (fun h => h47 (q47.1 h)), if_pos (by unfold okC; rw [beq_eq_false_iff_ne.2 h0, beq_eq_false_iff_ne.2 h47]; rfl)]
          rfl
    · rw [e2, List.all_cons]
      by_cases h : okC s.data.toList[i] = true
      · simp only [h, if_true, Bool.true_and]
        exact ih (i + 1) (by omega) (by omega)
      · simp only [h, Bool.false_and]
        exact Ev.now _
theorem size_of_toList (s : ByteArray) : s.toList.length = s.size := by rw [toList_data, data_length]
theorem name_ev (s : ByteArray) : Ev (fun k => moraineref10_Name.f k s) (nameB s) := by
  have jt : ∀ m, moraineref10_Name.j0 (m + 1) s true = some false := fun m => by simp only [moraineref10_Name.j0]; rfl
  have hsz := size_of_toList s
  rw [nameB_eq]
  by_cases h1 : (s.size : Int) < 1
  · have e : s.toList = [] := List.length_eq_zero_iff.1 (by omega)
    refine ⟨1, fun k hk => ?_⟩
    obtain ⟨m, rfl⟩ : ∃ m, k = m + 1 := ⟨k - 1, by omega⟩
    show moraineref10_Name.f (m + 1) s = _
    unfold moraineref10_Name.f
    rw [if_pos h1, jt m, e]; rfl
  · by_cases h2 : (s.size : Int) > 12
    · refine ⟨1, fun k hk => ?_⟩
      obtain ⟨m, rfl⟩ : ∃ m, k = m + 1 := ⟨k - 1, by omega⟩
      show moraineref10_Name.f (m + 1) s = _
      unfold moraineref10_Name.f
      rw [if_neg h1, if_pos h2, jt m, show decide (s.size ≤ 12) = false from decide_eq_false (by omega)]
      simp
    · have e0 : s.toList.isEmpty = false := by
        rw [← Bool.not_eq_true, List.isEmpty_iff]
        intro e; rw [e] at hsz; simp at hsz; omega
      by_cases h3 : s.toList = [46]
      · refine ⟨1, fun k hk => ?_⟩
        obtain ⟨m, rfl⟩ : ∃ m, k = m + 1 := ⟨k - 1, by omega⟩
        show moraineref10_Name.f (m + 1) s = _
        unfold moraineref10_Name.f
        rw [if_neg h1, if_neg h2, if_pos h3, jt m, h3]
        rfl
      · by_cases h4 : s.toList = [46, 46]
        · refine ⟨1, fun k hk => ?_⟩
          obtain ⟨m, rfl⟩ : ∃ m, k = m + 1 := ⟨k - 1, by omega⟩
          show moraineref10_Name.f (m + 1) s = _
          unfold moraineref10_Name.f
          rw [if_neg h1, if_neg h2, if_neg h3, h4]
          exact jt m
        · have b3 : (s.toList == [46]) = false := by simpa using h3
          have b4 : (s.toList == [46, 46]) = false := by simpa using h4
          obtain ⟨K, hK⟩ := name_l0 s (by omega) s.size 0 (by omega) (by omega)
          refine ⟨K + 1, fun k hk => ?_⟩
          obtain ⟨m, rfl⟩ : ∃ m, k = m + 1 := ⟨k - 1, by omega⟩
          show moraineref10_Name.f (m + 1) s = _
          unfold moraineref10_Name.f
          rw [if_neg h1, if_neg h2, if_neg h3, b4]
          simp only [moraineref10_Name.j0]
          rw [if_neg (by simp), show decide (s.size ≤ 12) = true from decide_eq_true (by omega), e0, b3]
          have := hK m (by omega)
          simp only [List.drop_zero] at this
          simp only [Bool.not_false, Bool.true_and]
          exact this

/-! ### right entries -/
def okE (x : S24) : Bool := nameB x.f0 && decide (1 ≤ x.f1) && decide (x.f1 ≤ 56)
def rightB (l : List S24) : Bool := decide (l.length ≤ 64) && (l.all okE && risingB l)
theorem rising_drop (l : List S24) (i : Nat) (h0 : 0 < i) (h : i < l.length) : risingB (l.drop (i - 1)) = (lts l[i - 1].f0 l[i].f0 && risingB (l.drop i)) := by
  have e1 : l.drop (i - 1) = l[i - 1] :: l.drop i := by
    rw [List.drop_eq_getElem_cons (show i - 1 < l.length by omega)]
    rw [show i - 1 + 1 = i by omega]
  have e2 : l.drop i = l[i] :: l.drop (i + 1) := List.drop_eq_getElem_cons h
  rw [e1, e2, risingB]
theorem rising_end (l : List S24) (i : Nat) (h : l.length ≤ i) : risingB (l.drop (i - 1)) = true := by
  have : (l.drop (i - 1)).length ≤ 1 := by rw [List.length_drop]; omega
  match h : l.drop (i - 1), this with
  | [], _ => rfl
  | [_], _ => rfl
theorem right_l0 (l : List S24) (hl : l.length ≤ 64) : ∀ (d i : Nat), i ≤ l.length → l.length - i = d → Ev (fun k => dirent_right.l0 k l l (l.length : Int) (i : Int)) ((l.drop i).all okE && risingB (l.drop (i - 1))) := by
  intro d
  induction d with
  | zero =>
    intro i hi hd
    refine Ev.step (f := fun _ => some true) (fun k => ?_) ?_
    · simp only [dirent_right.l0]
      rw [if_neg (by omega)]
    · rw [rising_end l i (by omega), List.drop_of_length_le (by omega)]
      exact Ev.now _
  | succ d ih =>
    intro i hi hd
    have hil : i < l.length := by omega
    have r2 : rd_T24 l (i : Int) = l[i] := rd_nat l i hil
    have e2 : l.drop i = l[i] :: l.drop (i + 1) := List.drop_eq_getElem_cons hil
    obtain ⟨K, hK⟩ := ih (i + 1) (by omega) (by omega)
    rw [show i + 1 - 1 = i by omega] at hK
    have hv : ((l.drop i).all okE && risingB (l.drop (i - 1))) = (if nameB l[i].f0 = true then (if l[i].f1 < 1 then false else if l[i].f1 > 56 then false else if (i : Int) > 0 then (if (Op.bytesLess ((rd_T24 l ((i : Int) - 1)).f0).toList (l[i].f0).toList) = true then ((l.drop (i + 1)).all okE && risingB (l.drop i)) else false) else ((l.drop (i + 1)).all okE && risingB (l.drop i))) else false) := by
      have e3 : (l.drop i).all okE = (okE l[i] && (l.drop (i + 1)).all okE) := by rw [e2, List.all_cons]
      rw [e3]
      by_cases g1 : nameB l[i].f0 = true
      · rw [if_pos g1]
        by_cases g2 : l[i].f1 < 1
        · rw [if_pos g2]
          have : decide (1 ≤ l[i].f1) = false := decide_eq_false (by omega)
          unfold okE; rw [this]; simp
        · rw [if_neg g2]
          by_cases g3 : l[i].f1 > 56
          · rw [if_pos g3]
            have : decide (l[i].f1 ≤ 56) = false := decide_eq_false (by omega)
            unfold okE; rw [this]; simp
          · rw [if_neg g3]
            have ok : okE l[i] = true := by
              unfold okE; rw [g1, show decide (1 ≤ l[i].f1) = true from decide_eq_true (by omega), show decide (l[i].f1 ≤ 56) = true from decide_eq_true (by omega)]; rfl
            rw [ok, Bool.true_and]
            by_cases g4 : (i : Int) > 0
            · rw [if_pos g4, rising_drop l i (by omega) hil, show (i : Int) - 1 = ((i - 1 : Nat) : Int) by omega, rd_nat l (i - 1) (by omega)]
              by_cases g5 : lts l[i - 1].f0 l[i].f0 = true
              · rw [if_pos g5, g5, Bool.true_and]
              · rw [if_neg g5]
                have : lts l[i - 1].f0 l[i].f0 = false := by simpa using g5
                rw [this]; simp
            · obtain rfl : i = 0 := by omega
              rw [if_neg g4]
      · rw [if_neg g1]
        have : nameB l[i].f0 = false := by simpa using g1
        unfold okE; rw [this]; simp
    rw [hv]
    refine ⟨K + 1, fun k hk => ?_⟩
    obtain ⟨m, rfl⟩ : ∃ m, k = m + 1 := ⟨k - 1, by omega⟩
    have hK2 : dirent_right.l0 m l l (l.length : Int) ((i : Int) + 1) = some ((l.drop (i + 1)).all okE && risingB (l.drop i)) := hK m (by omega)
    show dirent_right.l0 (m + 1) l l (l.length : Int) (i : Int) = _
    simp only [dirent_right.l0]
    rw [if_pos (by omega), if_pos (by omega), if_pos (by omega), r2, w64 (x := (i : Int) + 1) (by omega) (by omega), w64 (x := (i : Int) - 1) (by omega) (by omega), hK2]
    show (path_Name.f l[i].f0).bind _ = _
    unfold path_Name.f
    simp only [Option.bind_some]
    by_cases g1 : nameB l[i].f0 = true
    · rw [if_pos g1, if_pos g1]
      by_cases g2 : l[i].f1 < 1
      · rw [if_pos g2, if_pos g2]
      · rw [if_neg g2, if_neg g2]
        by_cases g3 : l[i].f1 > 56
        · rw [if_pos g3, if_pos g3]
        · rw [if_neg g3, if_neg g3]
          by_cases g4 : (i : Int) > 0
          · rw [if_pos g4, if_pos g4, if_pos (by omega), if_pos (by omega)]
            split <;> rfl
          · rw [if_neg g4, if_neg g4]
    · rw [if_neg g1, if_neg g1]
theorem right_ev (l : List S24) : Ev (fun k => dirent_right.f k l) (rightB l) := by
  unfold rightB
  by_cases h : (l.length : Int) > 64
  · rw [show decide (l.length ≤ 64) = false from decide_eq_false (by omega)]
    refine Ev.congr (f := fun _ => some false) (fun k => ?_) (Ev.now _)
    unfold dirent_right.f
    rw [if_pos h]
  · rw [show decide (l.length ≤ 64) = true from decide_eq_true (by omega), Bool.true_and]
    refine Ev.congr (fun k => ?_) (right_l0 l (by omega) l.length 0 (by omega) (by omega))
    unfold dirent_right.f
    rw [if_neg h]
    rfl
theorem ref_right_l0 (l : List S24) (hl : l.length ≤ 64) : ∀ (d i : Nat), i ≤ l.length → l.length - i = d → Ev (fun k => moraineref11_Right.l0 k l (i : Int)) ((l.drop i).all okE && risingB (l.drop (i - 1))) := by
  intro d
  induction d with
  | zero =>
    intro i hi hd
    refine Ev.step (f := fun _ => some true) (fun k => ?_) ?_
    · simp only [moraineref11_Right.l0]
      rw [if_neg (by omega)]
    · rw [rising_end l i (by omega), List.drop_of_length_le (by omega)]
      exact Ev.now _
  | succ d ih =>
    intro i hi hd
    have hil : i < l.length := by omega
    have r2 : rd_T24 l (i : Int) = l[i] := rd_nat l i hil
    have e2 : l.drop i = l[i] :: l.drop (i + 1) := List.drop_eq_getElem_cons hil
    obtain ⟨K, hK⟩ := ih (i + 1) (by omega) (by omega)
    rw [show i + 1 - 1 = i by omega] at hK
    obtain ⟨Kn, hn⟩ := name_ev l[i].f0
    have e3 : (l.drop i).all okE = (okE l[i] && (l.drop (i + 1)).all okE) := by rw [e2, List.all_cons]
    rw [e3]
    refine ⟨K + Kn + 1, fun k hk => ?_⟩
    obtain ⟨m, rfl⟩ : ∃ m, k = m + 1 := ⟨k - 1, by omega⟩
    have hK2 : moraineref11_Right.l0 m l ((i : Int) + 1) = some ((l.drop (i + 1)).all okE && risingB (l.drop i)) := hK m (by omega)
    show moraineref11_Right.l0 (m + 1) l (i : Int) = _
    simp only [moraineref11_Right.l0]
    rw [if_pos (by omega), if_pos (by omega), r2, w64 (x := (i : Int) + 1) (by omega) (by omega), w64 (x := (i : Int) - 1) (by omega) (by omega), hK2, show moraineref10_Name.f m l[i].f0 = some (nameB l[i].f0) from hn m (by omega)]
    simp only [Option.bind_some]
    by_cases g1 : nameB l[i].f0 = true
    · rw [if_pos g1]
      by_cases g2 : l[i].f1 < 1
      · rw [if_pos g2]
        have : decide (1 ≤ l[i].f1) = false := decide_eq_false (by omega)
        unfold okE; rw [this]; simp
      · rw [if_neg g2]
        by_cases g3 : l[i].f1 > 56
        · rw [if_pos g3]
          have : decide (l[i].f1 ≤ 56) = false := decide_eq_false (by omega)
          unfold okE; rw [this]; simp
        · rw [if_neg g3]
          have ok : okE l[i] = true := by
            unfold okE; rw [g1, show decide (1 ≤ l[i].f1) = true from decide_eq_true (by omega), show decide (l[i].f1 ≤ 56) = true from decide_eq_true (by omega)]; rfl
          rw [ok, Bool.true_and]
          by_cases g4 : (i : Int) > 0
          · rw [if_pos g4, if_pos (by omega), if_pos (by omega), rising_drop l i (by omega) hil, show (i : Int) - 1 = ((i - 1 : Nat) : Int) by omega, rd_nat l (i - 1) (by omega)]
            by_cases g5 : lts l[i - 1].f0 l[i].f0 = true
            · rw [if_pos g5, g5, Bool.true_and]
            · rw [if_neg g5]
              have : lts l[i - 1].f0 l[i].f0 = false := by simpa using g5
              rw [this]; simp
          · obtain rfl : i = 0 := by omega
            rw [if_neg g4]
    · rw [if_neg g1]
      have : nameB l[i].f0 = false := by simpa using g1
      unfold okE; rw [this]; simp
theorem ref_right_ev (l : List S24) : Ev (fun k => moraineref11_Right.f k l) (rightB l) := by
  unfold rightB
  by_cases h : (l.length : Int) > 64
  · rw [show decide (l.length ≤ 64) = false from decide_eq_false (by omega)]
    refine Ev.congr (f := fun _ => some false) (fun k => ?_) (Ev.now _)
    unfold moraineref11_Right.f
    rw [if_pos h]
  · rw [show decide (l.length ≤ 64) = true from decide_eq_true (by omega), Bool.true_and]
    refine Ev.congr (fun k => ?_) (ref_right_l0 l (by omega) l.length 0 (by omega) (by omega))
    unfold moraineref11_Right.f
    rw [if_neg h]
    rfl
theorem nameB_size {s : ByteArray} (h : nameB s = true) : s.size ≤ 12 := by
  rw [nameB_eq] at h
  simp only [Bool.and_eq_true, decide_eq_true_eq] at h
  exact h.1.2
theorem okE_iff (x : S24) : okE x = true ↔ nameB x.f0 = true ∧ 1 ≤ x.f1 ∧ x.f1 ≤ 56 := by
  unfold okE; simp only [Bool.and_eq_true, decide_eq_true_eq, and_assoc]
theorem rightB_iff (l : List S24) : rightB l = true ↔ l.length ≤ 64 ∧ (∀ x ∈ l, okE x = true) ∧ risingB l = true := by
  unfold rightB; simp only [Bool.and_eq_true, decide_eq_true_eq, List.all_eq_true]

/-! ### Encode -/
def encE (x : S24) : List Int := x.f1 :: 0 :: (x.f0.size : Int) :: bytesOf x.f0
def encB (l : List S24) : List Int := l.flatMap encE
theorem encB_cons (x : S24) (r : List S24) : encB (x :: r) = encE x ++ encB r := rfl
theorem put2_all : (List.range 56).all (fun n => bits_Put.f 4 2 ((n : Int) + 1) == some [(n : Int) + 1, 0]) = true := by decide +kernel
theorem put2 {v : Int} (h1 : 1 ≤ v) (h2 : v ≤ 56) {k : Nat} (hk : 4 ≤ k) : bits_Put.f k 2 v = some [v, 0] := by
  have h := List.all_eq_true.1 put2_all (v - 1).toNat (List.mem_range.2 (by omega))
  rw [beq_iff_eq, show (((v - 1).toNat : Nat) : Int) + 1 = v by omega] at h
  exact at_rounds (fun k => bits_Put.mono _ _ k) hk h
theorem enc_go {k : Nat} (hk : 4 ≤ k) : ∀ (l : List S24) (out : List Int), (∀ x ∈ l, okE x = true) → out.length + 15 * l.length < 1000000000 → encGo k l out = some (out ++ encB l)
  | [], out, _, _ => by unfold encGo encB; simp
  | x :: r, out, h, hl => by
    obtain ⟨h1, h2, h3⟩ := (okE_iff x).1 (h x (List.mem_cons_self ..))
    have h4 := nameB_size h1
    have h5 := bytesOf_length x.f0
    rw [List.length_cons] at hl
    unfold encGo
    rw [put2 h2 h3 hk]
    simp only [Option.bind_some]
    rw [if_pos (by simp only [List.length_cons, List.length_nil]; omega), enc_go hk r _ (fun y hy => h y (List.mem_cons_of_mem _ hy)) (by simp only [List.length_append, List.length_cons, List.length_nil]; omega), encB_cons]
    have e : (x.f0.size : Int) % 256 = (x.f0.size : Int) := by omega
    rw [e]
    unfold encE
    simp
theorem ref_go : ∀ (l : List S24) (out : List Int), (∀ x ∈ l, okE x = true) → out.length + 15 * l.length < 1000000000 → refGo l out = some (out ++ encB l)
  | [], out, _, _ => by unfold refGo encB; simp
  | x :: r, out, h, hl => by
    obtain ⟨h1, h2, h3⟩ := (okE_iff x).1 (h x (List.mem_cons_self ..))
    have h4 := nameB_size h1
    have h5 := bytesOf_length x.f0
    rw [List.length_cons] at hl
    unfold refGo
    rw [if_pos (by omega), ref_go r _ (fun y hy => h y (List.mem_cons_of_mem _ hy)) (by simp only [encRef, List.length_append, List.length_cons, List.length_nil]; omega), encB_cons]
    have e : (x.f0.size : Int) % 256 = (x.f0.size : Int) := by omega
    have e2 : x.f1 % 256 = x.f1 := by omega
    unfold encE encRef
    rw [e, e2]
    simp
def encA (l : List S24) : List Int × Bool := if rightB l = true then (encB l, true) else ([], false)
theorem encode_ev (l : List S24) : Ev (fun k => dirent_Encode.f k l) (encA l) := by
  obtain ⟨K, hK⟩ := right_ev l
  refine ⟨K + 4, fun k hk => ?_⟩
  show dirent_Encode.f k l = _
  unfold dirent_Encode.f encA
  rw [show dirent_right.f k l = some (rightB l) from hK k (by omega)]
  simp only [Option.bind_some]
  by_cases h : rightB l = true
  · obtain ⟨h1, h2, _⟩ := (rightB_iff l).1 h
    rw [if_pos h, if_pos h, enc_go (by omega) l [] h2 (by simp; omega)]
    rfl
  · rw [if_neg h, if_neg h]
theorem ref_encode_ev (l : List S24) : Ev (fun k => moraineref11_Encode.f k l) (encA l) := by
  obtain ⟨K, hK⟩ := ref_right_ev l
  refine ⟨K, fun k hk => ?_⟩
  show moraineref11_Encode.f k l = _
  unfold moraineref11_Encode.f encA
  rw [show moraineref11_Right.f k l = some (rightB l) from hK k (by omega)]
  simp only [Option.bind_some]
  by_cases h : rightB l = true
  · obtain ⟨h1, h2, _⟩ := (rightB_iff l).1 h
    rw [if_pos h, if_pos h, ref_go l [] h2 (by simp; omega)]
    rfl
  · rw [if_neg h, if_neg h]
theorem encA_length (l : List S24) : (encA l).1.length ≤ 1000 := by
  unfold encA
  by_cases h : rightB l = true
  · rw [if_pos h]
    obtain ⟨h1, h2, _⟩ := (rightB_iff l).1 h
    have : ∀ (l : List S24), (∀ x ∈ l, okE x = true) → (encB l).length ≤ 15 * l.length := by
      intro l
      induction l with
      | nil => intro _; simp [encB]
      | cons x r ih =>
        intro h
        have h4 := nameB_size ((okE_iff x).1 (h x (List.mem_cons_self ..))).1
        have h5 := bytesOf_length x.f0
        have h6 := ih (fun y hy => h y (List.mem_cons_of_mem _ hy))
        rw [encB_cons, List.length_append, List.length_cons]
        unfold encE
        simp only [List.length_cons]
        omega
    have := this l h2
    show (encB l).length ≤ 1000
    omega
  · rw [if_neg h]; simp

/-! ### bytes that are alike -/
theorem same_bytes_l0 (b : List Int) (hl : b.length < 100000000000) : ∀ (d i : Nat), i ≤ b.length → b.length - i = d → Ev (fun k => moraineref00_SameBytes.l0 k b b (i : Int)) true := by
  intro d
  induction d with
  | zero =>
    intro i hi hd
    refine Ev.step (f := fun _ => some true) (fun k => ?_) (Ev.now _)
    simp only [moraineref00_SameBytes.l0]
    rw [if_neg (by omega)]
  | succ d ih =>
    intro i hi hd
    refine Ev.step (f := fun k => moraineref00_SameBytes.l0 k b b ((i + 1 : Nat) : Int)) (fun k => ?_) (ih (i + 1) (by omega) (by omega))
    simp only [moraineref00_SameBytes.l0]
    rw [if_pos (by omega), if_pos (by omega), if_pos (by omega), if_pos trivial, w64 (x := (i : Int) + 1) (by omega) (by omega)]
    rfl
theorem same_bytes_ev (b : List Int) (hl : b.length < 100000000000) : Ev (fun k => moraineref00_SameBytes.f k b b) true := by
  refine Ev.congr (fun k => ?_) (same_bytes_l0 b hl b.length 0 (by omega) (by omega))
  unfold moraineref00_SameBytes.f
  rw [if_pos rfl]
  rfl
theorem copy_bytes_eq (b : List Int) (hl : b.length < 100000000000) : moraineref00_CopyBytes.f b = some b := by
  unfold moraineref00_CopyBytes.f
  simp only [Option.bind_some]
  rw [if_pos (by simp; omega)]
  rfl
end Go.Proofs.Ytllfjmmdackgdaa.PZ
