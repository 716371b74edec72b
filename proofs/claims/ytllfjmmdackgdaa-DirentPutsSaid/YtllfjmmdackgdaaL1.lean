/- Plain laws: rising names, Find, Put, Cut of the program and of the reference. -/
import Derived.Test.YtllfjmmdackgdaaPZx0
import Derived.Test.YtllfjmmdackgdaaOrd
import Derived.Test.YtllfjmmdackgdaaGFind
import Derived.Test.YtllfjmmdackgdaaGCut
import Derived.Test.YtllfjmmdackgdaaGConcat
import Derived.Test.YtllfjmmdackgdaaPZx3
import Derived.Test.YtllfjmmdackgdaaPZx3
import Derived.Test.YtllfjmmdackgdaaPZx3
import Derived.Test.YtllfjmmdackgdaaPZx4
import Derived.Test.YtllfjmmdackgdaaPZx4
import Derived.Test.YtllfjmmdackgdaaPZx4
import Derived.Test.YtllfjmmdackgdaaPZx3
import Derived.Test.YtllfjmmdackgdaaPZx2
namespace Go.Proofs.Ytllfjmmdackgdaa.PZ
open Go.RowKit Go.Proofs.YtllfjmmdackgdaaW.PrintWords Go.Proofs.YtllfjmmdackgdaaW.PrintLast Go.Proofs.YtllfjmmdackgdaaW.PrintMore Go.Proofs.Ytllfjmmdackgdaa.Ord

theorem w64 {x : Int} (h : -9223372036854775808 ≤ x) (h2 : x ≤ 9223372036854775807) : wrap64 x = x := IntWalk.wrap64_in x ⟨h, h2⟩
def big : Nat := 1000000000000
theorem big_def : big = 1000000000000 := rfl
abbrev lts (a b : ByteArray) : Bool := Op.bytesLess a.toList b.toList

/-! ### names that rise -/
def risingB : List S24 → Bool
  | [] => true
  | [_] => true
  | x :: y :: r => lts x.f0 y.f0 && risingB (y :: r)
def Srt (l : List S24) : Prop := l.Pairwise (fun x y => lts x.f0 y.f0 = true)
theorem risingB_iff : ∀ (l : List S24), risingB l = true ↔ Srt l
  | [] => by simp [risingB, Srt]
  | [x] => by simp [risingB, Srt]
  | x :: y :: r => by
    have ih := risingB_iff (y :: r)
    unfold Srt at ih ⊢
    rw [risingB, Bool.and_eq_true, ih, List.pairwise_cons (l := y :: r)]
    constructor
    · rintro ⟨h1, h2⟩
      refine ⟨fun z hz => ?_, h2⟩
      rcases List.mem_cons.1 hz with rfl | hz
      · exact h1
      · exact less_trans h1 ((List.pairwise_cons.1 h2).1 z hz)
    · rintro ⟨h1, h2⟩
      exact ⟨h1 y (List.mem_cons_self ..), h2⟩
theorem rising_l0 (l : List S24) (hl : l.length < 1000000000000) : ∀ (d i : Nat), 1 ≤ i → l.length + 1 - i = d → Ev (fun k => morainelaw11_rising.l0 k l (i : Int)) (risingB (l.drop (i - 1))) := by
  intro d
  induction d with
  | zero =>
    intro i h1 hd
    refine Ev.step (f := fun _ => some (risingB (l.drop (i - 1)))) (fun k => ?_) (Ev.now _)
    simp only [morainelaw11_rising.l0]
    rw [if_neg (by omega), List.drop_of_length_le (by omega)]
    rfl
  | succ d ih =>
    intro i h1 hd
    by_cases hi : i < l.length
    · have e1 : l.drop (i - 1) = l[i - 1] :: l.drop i := by
        rw [List.drop_eq_getElem_cons (show i - 1 < l.length by omega)]
        rw [show i - 1 + 1 = i by omega]
      have e2 : l.drop i = l[i] :: l.drop (i + 1) := List.drop_eq_getElem_cons hi
      have r1 : rd_T24 l ((i : Int) - 1) = l[i - 1] := by
        rw [show (i : Int) - 1 = ((i - 1 : Nat) : Int) by omega]; exact rd_nat l (i - 1) (by omega)
      have r2 : rd_T24 l (i : Int) = l[i] := rd_nat l i hi
      have := ih (i + 1) (by omega) (by omega)
      rw [show i + 1 - 1 = i by omega] at this
      refine Ev.step (f := fun k => if lts l[i - 1].f0 l[i].f0 = true then morainelaw11_rising.l0 k l ((i + 1 : Nat) : Int) else some false) (fun k => ?_) ?_
      · simp only [morainelaw11_rising.l0]
        rw [w64 (x := (i : Int) - 1) (by omega) (by omega), w64 (x := (i : Int) + 1) (by omega) (by omega), if_pos (by omega), if_pos (by omega), if_pos (by omega), if_pos (by omega), r1, r2]
        rfl
      · rw [e1, e2, risingB, ← e2]
        by_cases h : lts l[i - 1].f0 l[i].f0 = true
        · simp only [h, if_true, Bool.true_and]
          exact this
        · simp only [h, Bool.false_and]
          exact Ev.now _
    · refine Ev.step (f := fun _ => some (risingB (l.drop (i - 1)))) (fun k => ?_) (Ev.now _)
      simp only [morainelaw11_rising.l0]
      rw [if_neg (by omega)]
      have : (l.drop (i - 1)).length ≤ 1 := by rw [List.length_drop]; omega
      match h : l.drop (i - 1), this with
      | [], _ => rfl
      | [_], _ => rfl
theorem rising_ev (l : List S24) (hl : l.length < 1000000000000) : Ev (fun k => morainelaw11_rising.f k l) (risingB l) := by
  have := rising_l0 l hl (l.length) 1 (by omega) (by omega)
  exact this

/-! ### long -/
theorem long_l0 (l : List S24) (hl : l.length ≤ 300) (hs : ∀ x ∈ l, x.f0.size ≤ 140737488355328) : ∀ (d i : Nat) (n : Int), 0 ≤ n → n ≤ 10000 → i ≤ l.length → l.length - i = d → ∃ b, Ev (fun k => morainelaw11_long.l0 k l n (i : Int)) b ∧ (b = false → ∀ j, i ≤ j → (h : j < l.length) → (l[j].f0.size : Int) ≤ 10000) := by
  intro d
  induction d with
  | zero =>
    intro i n h0 h1 hi hd
    refine ⟨false, Ev.step (f := fun _ => some false) (fun k => ?_) (Ev.now _), fun _ j hj hj2 => by omega⟩
    simp only [morainelaw11_long.l0]
    rw [if_neg (by omega)]
  | succ d ih =>
    intro i n h0 h1 hi hd
    have hil : i < l.length := by omega
    have r2 : rd_T24 l (i : Int) = l[i] := rd_nat l i hil
    have hsz := hs l[i] (List.getElem_mem hil)
    by_cases hb : n + (l[i].f0.size : Int) > 10000
    · refine ⟨true, Ev.step (f := fun _ => some true) (fun k => ?_) (Ev.now _), fun h => by cases h⟩
      simp only [morainelaw11_long.l0]
      rw [if_pos (by omega), if_pos (by omega), r2, w64 (x := n + (l[i].f0.size : Int)) (by omega) (by omega), if_pos hb]
    · obtain ⟨b, hb1, hb2⟩ := ih (i + 1) (n + (l[i].f0.size : Int)) (by omega) (by omega) (by omega) (by omega)
      refine ⟨b, Ev.step (f := fun k => morainelaw11_long.l0 k l (n + (l[i].f0.size : Int)) ((i + 1 : Nat) : Int)) (fun k => ?_) hb1, fun h j hj hj2 => ?_⟩
      · simp only [morainelaw11_long.l0]
        rw [if_pos (by omega), if_pos (by omega), r2, w64 (x := n + (l[i].f0.size : Int)) (by omega) (by omega), if_neg hb, w64 (x := (i : Int) + 1) (by omega) (by omega)]
        rfl
      · by_cases e : j = i
        · subst e; omega
        · exact hb2 h j (by omega) hj2
theorem long_ev (l : List S24) (hs : ∀ x ∈ l, x.f0.size ≤ 140737488355328) : ∃ b, Ev (fun k => morainelaw11_long.f k l) b ∧ (b = false → l.length ≤ 300 ∧ ∀ x ∈ l, (x.f0.size : Int) ≤ 10000) := by
  by_cases h : (l.length : Int) > 300
  · refine ⟨true, Ev.congr (f := fun _ => some true) (fun k => ?_) (Ev.now _), fun h => by cases h⟩
    unfold morainelaw11_long.f
    rw [if_pos h]
  · obtain ⟨b, h1, h2⟩ := long_l0 l (by omega) hs l.length 0 0 (by omega) (by omega) (by omega) (by omega)
    refine ⟨b, Ev.congr (fun k => ?_) h1, fun hb => ⟨by omega, fun x hx => ?_⟩⟩
    · unfold morainelaw11_long.f
      rw [if_neg h]
      rfl
    · obtain ⟨j, hj, rfl⟩ := List.getElem_of_mem hx
      exact h2 hb j (Nat.zero_le _) hj

/-! ### Find -/
def fI (l : List S24) (n : ByteArray) : Nat := (l.takeWhile (fun x => lts x.f0 n)).length
def fB (l : List S24) (n : ByteArray) : Bool := match l[fI l n]? with
  | some x => x.f0.toList == n.toList
  | none => false
theorem fI_le (l : List S24) (n : ByteArray) : fI l n ≤ l.length := by
  unfold fI; exact (List.takeWhile_prefix _).length_le
theorem fI_cons (x : S24) (r : List S24) (n : ByteArray) : fI (x :: r) n = if lts x.f0 n = true then fI r n + 1 else 0 := by
  unfold fI
  by_cases h : lts x.f0 n = true
  · rw [if_pos h, List.takeWhile_cons]; simp only [h]; rfl
  · rw [if_neg h, List.takeWhile_cons]; simp only [h]; rfl
theorem fB_cons (x : S24) (r : List S24) (n : ByteArray) : fB (x :: r) n = if lts x.f0 n = true then fB r n else (x.f0.toList == n.toList) := by
  unfold fB
  rw [fI_cons]
  by_cases h : lts x.f0 n = true
  · simp only [h, if_true, List.getElem?_cons_succ]
  · simp only [h]; rfl
theorem ref_find_l0 (l : List S24) (n : ByteArray) (hl : l.length < 1000000000000) : ∀ (d i : Nat), i ≤ l.length → l.length - i = d → Ev (fun k => moraineref11_Find.l0 k l n (i : Int)) (((i + fI (l.drop i) n : Nat) : Int), fB (l.drop i) n) := by
  intro d
  induction d with
  | zero =>
    intro i hi hd
    refine Ev.step (f := fun _ => some (((i + fI (l.drop i) n : Nat) : Int), fB (l.drop i) n)) (fun k => ?_) (Ev.now _)
    simp only [moraineref11_Find.l0]
    rw [if_neg (by omega), List.drop_of_length_le (by omega)]
    rfl
  | succ d ih =>
    intro i hi hd
    have hil : i < l.length := by omega
    have r2 : rd_T24 l (i : Int) = l[i] := rd_nat l i hil
    have e2 : l.drop i = l[i] :: l.drop (i + 1) := List.drop_eq_getElem_cons hil
    rw [e2, fI_cons, fB_cons]
    by_cases h : lts l[i].f0 n = true
    · refine Ev.step (f := fun k => moraineref11_Find.l0 k l n ((i + 1 : Nat) : Int)) (fun k => ?_) ?_
      · simp only [moraineref11_Find.l0]
        rw [if_pos (by omega), if_pos (by omega), r2, if_pos h, w64 (x := (i : Int) + 1) (by omega) (by omega)]
        rfl
      · rw [if_pos h, if_pos h, show i + (fI (l.drop (i + 1)) n + 1) = i + 1 + fI (l.drop (i + 1)) n by omega]
        exact ih (i + 1) (by omega) (by omega)
    · refine Ev.step (f := fun _ => some ((i : Int), (l[i].f0.toList == n.toList))) (fun k => ?_) ?_
      · simp only [moraineref11_Find.l0]
        rw [if_pos (by omega), if_pos (by omega), r2, if_neg h]
      · rw [if_neg h, if_neg h]
        exact Ev.now _
theorem ref_find_ev (l : List S24) (n : ByteArray) (hl : l.length < 1000000000000) : Ev (fun k => moraineref11_Find.f k l n) ((fI l n : Int), fB l n) := by
  have := ref_find_l0 l n hl l.length 0 (by omega) (by omega)
  rw [List.drop_zero, Nat.zero_add] at this
  exact this
/-- In a row that rises: what stands ahead of the place is less, what stands behind isn't. -/
theorem fI_lt {n : ByteArray} : ∀ (l : List S24) (j : Nat), j < fI l n → ∃ h : j < l.length, lts l[j].f0 n = true := by
  intro l
  induction l with
  | nil => intro j hj; exact absurd hj (Nat.not_lt_zero _)
  | cons x r ih =>
    intro j hj
    rw [fI_cons] at hj
    by_cases hx : lts x.f0 n = true
    · rw [if_pos hx] at hj
      cases j with
      | zero => exact ⟨by simp, hx⟩
      | succ j =>
        obtain ⟨h1, h2⟩ := ih j (by omega)
        exact ⟨by simp; omega, h2⟩
    · rw [if_neg hx] at hj
      omega
theorem fI_at {l : List S24} {n : ByteArray} (h : fI l n < l.length) : lts l[fI l n].f0 n = false := by
  induction l with
  | nil => simp at h
  | cons x r ih =>
    by_cases hx : lts x.f0 n = true
    · have e : fI (x :: r) n = fI r n + 1 := by rw [fI_cons, if_pos hx]
      have := ih (by rw [e] at h; simpa using h)
      simp only [e, List.getElem_cons_succ]
      exact this
    · have e : fI (x :: r) n = 0 := by rw [fI_cons, if_neg hx]
      simp only [e, List.getElem_cons_zero]
      simpa using hx
theorem Srt.lt {l : List S24} (h : Srt l) {i j : Nat} (hij : i < j) (hj : j < l.length) : lts l[i].f0 l[j].f0 = true := List.pairwise_iff_getElem.1 h i j (by omega) hj hij
theorem fI_ge {l : List S24} {n : ByteArray} (hs : Srt l) (j : Nat) (hj : fI l n ≤ j) (hjl : j < l.length) : lts l[j].f0 n = false := by
  have h0 := fI_at (l := l) (n := n) (by omega)
  by_cases e : j = fI l n
  · subst e; exact h0
  · have h1 := hs.lt (i := fI l n) (j := j) (by omega) hjl
    by_cases h2 : lts l[j].f0 n = true
    · have h3 : lts l[fI l n].f0 n = true := less_trans h1 h2
      rw [h0] at h3
      cases h3
    · simpa using h2
/-- The binary search comes to the same place. -/
theorem bs_eq {l : List S24} {n : ByteArray} (hs : Srt l) : ∀ (d i j : Nat), j - i = d → i ≤ fI l n → fI l n ≤ j → j ≤ l.length → bsGo l n i j = fI l n := by
  intro d
  induction d using Nat.strongRecOn with
  | _ d ih =>
    intro i j hd hi hj hjl
    rw [bsGo]
    by_cases hlt : i < j
    · rw [if_pos hlt]
      have hm : (i + j) / 2 < l.length := by omega
      have r2 : rd_T24 l (((i + j) / 2 : Nat) : Int) = l[(i + j) / 2] := rd_nat l _ hm
      have hc : cmpE (rd_T24 l (((i + j) / 2 : Nat) : Int)) n < 0 ↔ lts l[(i + j) / 2].f0 n = true := by
        rw [r2]; unfold cmpE lts; rw [cmp_lt, toList_data, toList_data]
      by_cases h : (i + j) / 2 < fI l n
      · obtain ⟨_, h1⟩ := fI_lt l _ h
        rw [if_pos (hc.2 h1)]
        exact ih (j - ((i + j) / 2 + 1)) (by omega) _ _ rfl (by omega) hj hjl
      · have h1 := fI_ge (n := n) hs ((i + j) / 2) (by omega) hm
        rw [if_neg (fun hx => by have := hc.1 hx; rw [h1] at this; cases this)]
        exact ih ((i + j) / 2 - i) (by omega) _ _ rfl hi (by omega) (by omega)
    · rw [if_neg hlt]
      omega
theorem find_eq {l : List S24} (n : ByteArray) (hs : Srt l) (hl : l.length < 1000000000000) : dirent_Find.f l n = some ((fI l n : Int), fB l n) := by
  unfold dirent_Find.f
  rw [if_pos hl, bs_eq hs _ 0 l.length rfl (Nat.zero_le _) (fI_le l n) (Nat.le_refl _)]
  congr 2
  unfold fB
  by_cases h : fI l n < l.length
  · rw [List.getElem?_eq_getElem h, rd_nat l _ h]
    have : decide (((fI l n : Nat) : Int) < (l.length : Int)) = true := decide_eq_true (by omega)
    rw [this, Bool.true_and]
    unfold cmpE
    rw [Bool.eq_iff_iff, decide_eq_true_eq, cmp_eq0, beq_iff_eq, toList_data, toList_data]
  · rw [List.getElem?_eq_none (by omega)]
    have : decide (((fI l n : Nat) : Int) < (l.length : Int)) = false := decide_eq_false (by omega)
    rw [this, Bool.false_and]
/-! ### Put -/
def putL (l : List S24) (n : ByteArray) (v : Int) : List S24 := l.take (fI l n) ++ ⟨n, v⟩ :: (if fB l n = true then l.drop (fI l n + 1) else l.drop (fI l n))
theorem fB_lt {l : List S24} {n : ByteArray} (h : fB l n = true) : ∃ hl : fI l n < l.length, l[fI l n].f0 = n := by
  unfold fB at h
  by_cases hl : fI l n < l.length
  · rw [List.getElem?_eq_getElem hl] at h
    exact ⟨hl, bytes_ext (by simpa using h)⟩
  · rw [List.getElem?_eq_none (by omega)] at h
    cases h
theorem concat3 (a b c : List S24) (h : a.length + b.length + c.length < 1000000000000) : slices_Concat.f [a, b, c] = some (a ++ (b ++ c)) := by
  unfold slices_Concat.f clen cat
  have e : [a, b, c].flatten = a ++ (b ++ c) := by simp
  rw [e]
  rw [if_pos ⟨by simp; omega, by simp⟩]
theorem put_eq {l : List S24} (n : ByteArray) (v : Int) (hs : Srt l) (hl : l.length < 100000000000) : dirent_Put.f l n v = some (putL l n v) := by
  have hf := fI_le l n
  unfold dirent_Put.f putL
  rw [find_eq n hs (by omega)]
  simp only [Option.bind_some]
  rw [if_pos (by omega), if_pos (by omega), Int.toNat_natCast]
  by_cases h : fB l n = true
  · obtain ⟨h1, _⟩ := fB_lt h
    rw [if_pos h, if_pos (by rw [List.length_drop]; omega), concat3 _ _ _ (by simp; omega), if_pos h]
    simp [List.drop_drop]
  · rw [if_neg h, concat3 _ _ _ (by simp; omega), if_neg h]
    simp
theorem ref_put_ev (l : List S24) (n : ByteArray) (v : Int) (hl : l.length < 100000000000) : Ev (fun k => moraineref11_Put.f k l n v) (putL l n v) := by
  have hf := fI_le l n
  obtain ⟨K, hK⟩ := ref_find_ev l n (by omega)
  refine ⟨K, fun k hk => ?_⟩
  have hF : moraineref11_Find.f k l n = some ((fI l n : Int), fB l n) := hK k hk
  show moraineref11_Put.f k l n v = some (putL l n v)
  unfold moraineref11_Put.f putL
  rw [hF]
  simp only [Option.bind_some]
  rw [if_pos (by omega), if_pos (by omega), Int.toNat_natCast, if_pos (by simp; omega), if_pos (by simp; omega)]
  by_cases h : fB l n = true
  · obtain ⟨h1, _⟩ := fB_lt h
    rw [if_pos h, if_pos h, w64 (by omega) (by omega), if_pos (by omega), if_pos (by omega), if_pos (by simp; omega)]
    rw [show ((fI l n : Int) + 1).toNat = fI l n + 1 by omega]
    simp
  · rw [if_neg h, if_neg h, if_pos (by simp; omega)]
    simp

/-! ### Cut -/
def cutL (l : List S24) (n : ByteArray) : List S24 := l.filter (fun x => !(x.f0.toList == n.toList))
theorem cut_eq (l : List S24) (n : ByteArray) (hl : l.length < 1000000000000) : dirent_Cut.f l n = some (cutL l n) := by
  unfold dirent_Cut.f
  rw [if_pos hl]
  rfl
theorem ref_cut_l0 (l : List S24) (n : ByteArray) (hl : l.length < 100000000000) : ∀ (d i : Nat) (out : List S24), out.length ≤ i → i ≤ l.length → l.length - i = d → Ev (fun k => moraineref11_Cut.l0 k l n out (i : Int)) (out ++ cutL (l.drop i) n) := by
  intro d
  induction d with
  | zero =>
    intro i out ho hi hd
    refine Ev.step (f := fun _ => some (out ++ cutL (l.drop i) n)) (fun k => ?_) (Ev.now _)
    simp only [moraineref11_Cut.l0]
    rw [if_neg (by omega), List.drop_of_length_le (by omega)]
    simp [cutL]
  | succ d ih =>
    intro i out ho hi hd
    have hil : i < l.length := by omega
    have r2 : rd_T24 l (i : Int) = l[i] := rd_nat l i hil
    have e2 : l.drop i = l[i] :: l.drop (i + 1) := List.drop_eq_getElem_cons hil
    by_cases h : l[i].f0.toList = n.toList
    · refine Ev.step (f := fun k => moraineref11_Cut.l0 k l n out ((i + 1 : Nat) : Int)) (fun k => ?_) ?_
      · simp only [moraineref11_Cut.l0]
        rw [if_pos (by omega), if_pos (by omega), r2, if_pos h, w64 (x := (i : Int) + 1) (by omega) (by omega)]
        rfl
      · have : cutL (l.drop i) n = cutL (l.drop (i + 1)) n := by
          rw [e2]; unfold cutL; rw [List.filter_cons]; simp [h]
        rw [this]
        exact ih (i + 1) out (by omega) (by omega) (by omega)
    · refine Ev.step (f := fun k => moraineref11_Cut.l0 k l n (out ++ [l[i]]) ((i + 1 : Nat) : Int)) (fun k => ?_) ?_
      · simp only [moraineref11_Cut.l0]
        rw [if_pos (by omega), if_pos (by omega), r2, if_neg h, if_pos (by omega), w64 (x := (i : Int) + 1) (by omega) (by omega)]
        rfl
      · have : out ++ cutL (l.drop i) n = (out ++ [l[i]]) ++ cutL (l.drop (i + 1)) n := by
          rw [e2]; unfold cutL; rw [List.filter_cons]; simp [h]
        rw [this]
        exact ih (i + 1) _ (by simp; omega) (by omega) (by omega)
theorem ref_cut_ev (l : List S24) (n : ByteArray) (hl : l.length < 100000000000) : Ev (fun k => moraineref11_Cut.f k l n) (cutL l n) := by
  have := ref_cut_l0 l n hl l.length 0 [] (by simp) (by omega) (by omega)
  rw [List.drop_zero, List.nil_append] at this
  exact this

/-! ### Same, Copy -/
theorem same_l0 (l : List S24) (hl : l.length < 100000000000) : ∀ (d i : Nat), i ≤ l.length → l.length - i = d → Ev (fun k => moraineref00_SameEntries.l0 k l l (i : Int)) true := by
  intro d
  induction d with
  | zero =>
    intro i hi hd
    refine Ev.step (f := fun _ => some true) (fun k => ?_) (Ev.now _)
    simp only [moraineref00_SameEntries.l0]
    rw [if_neg (by omega)]
  | succ d ih =>
    intro i hi hd
    refine Ev.step (f := fun k => moraineref00_SameEntries.l0 k l l ((i + 1 : Nat) : Int)) (fun k => ?_) (ih (i + 1) (by omega) (by omega))
    simp only [moraineref00_SameEntries.l0]
    rw [if_pos (by omega), if_pos (by omega), if_pos (by omega), w64 (x := (i : Int) + 1) (by omega) (by omega)]
    simp
theorem same_ev (l : List S24) (hl : l.length < 100000000000) : Ev (fun k => moraineref00_SameEntries.f k l l) true := by
  refine Ev.congr (fun k => ?_) (same_l0 l hl l.length 0 (by omega) (by omega))
  unfold moraineref00_SameEntries.f
  rw [if_pos rfl]
  rfl
theorem copy_eq (l : List S24) (hl : l.length < 100000000000) : moraineref00_CopyEntries.f l = some l := by
  unfold moraineref00_CopyEntries.f
  simp only [Option.bind_some]
  rw [if_pos (by simp; omega)]
  rfl
theorem putL_length (l : List S24) (n : ByteArray) (v : Int) : (putL l n v).length ≤ l.length + 1 := by
  have := fI_le l n
  unfold putL
  by_cases h : fB l n = true
  · rw [if_pos h]; simp; omega
  · rw [if_neg h]; simp; omega
end Go.Proofs.Ytllfjmmdackgdaa.PZ
