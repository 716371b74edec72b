import Derived.Test.YtllfjmmdackgdaaDoorM05
import Derived.Test.YtllfjmmdackgdaaDoorM07
set_option linter.unusedVariables false
set_option linter.unusedSimpArgs false
/-! TE -/
section
namespace Go.Proofs.YtllfjmmdackgdaaDoor.PZ
open Go.RowKit Go.Proofs.YtllfjmmdackgdaaDoorW.PrintWords Go.Proofs.YtllfjmmdackgdaaDoorW.PrintLast Go.Proofs.YtllfjmmdackgdaaDoorW.PrintMore Go.Proofs.YtllfjmmdackgdaaDoor.Ord
set_option linter.unusedVariables false
set_option linter.unusedSimpArgs false
theorem w64 {x : Int} (h : -9223372036854775808 ≤ x) (h2 : x ≤ 9223372036854775807) : wrap64 x = x := IntWalk.wrap64_in x ⟨h, h2⟩
abbrev lts (a b : ByteArray) : Bool := Op.bytesLess a.toList b.toList
def Srt (l : List S102) : Prop := l.Pairwise (fun x y => lts x.f0 y.f0 = true)
def fI (l : List S102) (n : ByteArray) : Nat := (l.takeWhile (fun x => lts x.f0 n)).length
def fB (l : List S102) (n : ByteArray) : Bool := match l[fI l n]? with
  | some x => x.f0.toList == n.toList
  | none => false
theorem fI_le (l : List S102) (n : ByteArray) : fI l n ≤ l.length := by
  unfold fI; exact (List.takeWhile_prefix _).length_le
theorem fI_cons (x : S102) (r : List S102) (n : ByteArray) : fI (x :: r) n = if lts x.f0 n = true then fI r n + 1 else 0 := by
  unfold fI
  by_cases h : lts x.f0 n = true
  · rw [if_pos h, List.takeWhile_cons]; simp only [h]; rfl
  · rw [if_neg h, List.takeWhile_cons]; simp only [h]; rfl
theorem fI_lt {n : ByteArray} : ∀ (l : List S102) (j : Nat), j < fI l n → ∃ h : j < l.length, lts l[j].f0 n = true := by
  intro l
  induction l with
  | nil => intro j hj; exact absurd hj (Nat.not_lt_zero _)
  | cons x r ih =>
    intro j hj
    rw [fI_cons] at hj
    by_cases hx : lts x.f0 n = true
    · rw [if_pos hx] at hj
      cases j with
      | zero => exact ⟨by simp, hx⟩
      | succ j =>
        obtain ⟨h1, h2⟩ := ih j (by omega)
        exact ⟨by simp; omega, h2⟩
    · rw [if_neg hx] at hj
      omega
theorem fI_at {l : List S102} {n : ByteArray} (h : fI l n < l.length) : lts l[fI l n].f0 n = false := by
  induction l with
  | nil => simp at h
  | cons x r ih =>
    by_cases hx : lts x.f0 n = true
    · have e : fI (x :: r) n = fI r n + 1 := by rw [fI_cons, if_pos hx]
      have := ih (by rw [e] at h; simpa using h)
      simp only [e, List.getElem_cons_succ]
      exact this
    · have e : fI (x :: r) n = 0 := by rw [fI_cons, if_neg hx]
      simp only [e, List.getElem_cons_zero]
      simpa using hx
theorem Srt.lt {l : List S102} (h : Srt l) {i j : Nat} (hij : i < j) (hj : j < l.length) : lts l[i].f0 l[j].f0 = true := List.pairwise_iff_getElem.1 h i j (by omega) hj hij
theorem fI_ge {l : List S102} {n : ByteArray} (hs : Srt l) (j : Nat) (hj : fI l n ≤ j) (hjl : j < l.length) : lts l[j].f0 n = false := by
  have h0 := fI_at (l := l) (n := n) (by omega)
  by_cases e : j = fI l n
  · subst e; exact h0
  · have h1 := hs.lt (i := fI l n) (j := j) (by omega) hjl
    by_cases h2 : lts l[j].f0 n = true
    · have h3 : lts l[fI l n].f0 n = true := less_trans h1 h2
      rw [h0] at h3
      cases h3
    · simpa using h2
/-- The binary search comes to the same place. -/
theorem bs_eq {l : List S102} {n : ByteArray} (hs : Srt l) : ∀ (d i j : Nat), j - i = d → i ≤ fI l n → fI l n ≤ j → j ≤ l.length → bsGo l n i j = fI l n := by
  intro d
  induction d using Nat.strongRecOn with
  | _ d ih =>
    intro i j hd hi hj hjl
    rw [bsGo]
    by_cases hlt : i < j
    · rw [if_pos hlt]
      have hm : (i + j) / 2 < l.length := by omega
      have r2 : rd_T102 l (((i + j) / 2 : Nat) : Int) = l[(i + j) / 2] := rd_nat l _ hm
      have hc : cmpE (rd_T102 l (((i + j) / 2 : Nat) : Int)) n < 0 ↔ lts l[(i + j) / 2].f0 n = true := by
        rw [r2]; unfold cmpE lts; rw [cmp_lt, toList_data, toList_data]
      by_cases h : (i + j) / 2 < fI l n
      · obtain ⟨_, h1⟩ := fI_lt l _ h
        rw [if_pos (hc.2 h1)]
        exact ih (j - ((i + j) / 2 + 1)) (by omega) _ _ rfl (by omega) hj hjl
      · have h1 := fI_ge (n := n) hs ((i + j) / 2) (by omega) hm
        rw [if_neg (fun hx => by have := hc.1 hx; rw [h1] at this; cases this)]
        exact ih ((i + j) / 2 - i) (by omega) _ _ rfl hi (by omega) (by omega)
    · rw [if_neg hlt]
      omega
theorem find_eq {l : List S102} (n : ByteArray) (hs : Srt l) (hl : l.length < 1000000000000) : dirent_Find.f l n = some ((fI l n : Int), fB l n) := by
  unfold dirent_Find.f
  rw [if_pos hl, bs_eq hs _ 0 l.length rfl (Nat.zero_le _) (fI_le l n) (Nat.le_refl _)]
  congr 2
  unfold fB
  by_cases h : fI l n < l.length
  · rw [List.getElem?_eq_getElem h, rd_nat l _ h]
    have : decide (((fI l n : Nat) : Int) < (l.length : Int)) = true := decide_eq_true (by omega)
    rw [this, Bool.true_and]
    unfold cmpE
    rw [Bool.eq_iff_iff, decide_eq_true_eq, cmp_eq0, beq_iff_eq, toList_data, toList_data]
  · rw [List.getElem?_eq_none (by omega)]
    have : decide (((fI l n : Nat) : Int) < (l.length : Int)) = false := decide_eq_false (by omega)
    rw [this, Bool.false_and]
/-! ### Put -/
def putL (l : List S102) (n : ByteArray) (v : Int) : List S102 := l.take (fI l n) ++ ⟨n, v⟩ :: (if fB l n = true then l.drop (fI l n + 1) else l.drop (fI l n))
theorem fB_lt {l : List S102} {n : ByteArray} (h : fB l n = true) : ∃ hl : fI l n < l.length, l[fI l n].f0 = n := by
  unfold fB at h
  by_cases hl : fI l n < l.length
  · rw [List.getElem?_eq_getElem hl] at h
    exact ⟨hl, bytes_ext (by simpa using h)⟩
  · rw [List.getElem?_eq_none (by omega)] at h
    cases h
theorem concat3 (a b c : List S102) (h : a.length + b.length + c.length < 1000000000000) : slices_Concat.f [a, b, c] = some (a ++ (b ++ c)) := by
  unfold slices_Concat.f clen cat
  have e : [a, b, c].flatten = a ++ (b ++ c) := by simp
  rw [e]
  rw [if_pos ⟨by simp; omega, by simp⟩]
def cutL (l : List S102) (n : ByteArray) : List S102 := l.filter (fun x => !(x.f0.toList == n.toList))
theorem cut_eq (l : List S102) (n : ByteArray) (hl : l.length < 1000000000000) : dirent_Cut.f l n = some (cutL l n) := by
  unfold dirent_Cut.f
  rw [if_pos hl]
  rfl
theorem nlt_self (n : ByteArray) : lts n n = false := less_irrefl _
theorem ne_of_lt {a b : ByteArray} (h : lts a b = true) : (a.toList == b.toList) = false := by
  rw [beq_eq_false_iff_ne]
  intro e
  have h2 : Op.bytesLess a.toList b.toList = true := h
  rw [e, less_irrefl] at h2
  cases h2
theorem ne_of_gt {a b : ByteArray} (h : lts b a = true) : (a.toList == b.toList) = false := by
  rw [beq_eq_false_iff_ne]
  intro e
  have h2 : Op.bytesLess b.toList a.toList = true := h
  rw [e, less_irrefl] at h2
  cases h2
/-- What stands behind the place of a name, the name's own entry aside. -/
def restL (l : List S102) (n : ByteArray) : List S102 := if fB l n = true then l.drop (fI l n + 1) else l.drop (fI l n)
theorem putL_def (l : List S102) (n : ByteArray) (v : Int) : putL l n v = l.take (fI l n) ++ ⟨n, v⟩ :: restL l n := rfl
theorem front_lt (l : List S102) (n : ByteArray) : ∀ x ∈ l.take (fI l n), lts x.f0 n = true := by
  intro x hx
  obtain ⟨j, hj, rfl⟩ := List.getElem_of_mem hx
  rw [List.length_take] at hj
  obtain ⟨h1, h2⟩ := fI_lt (n := n) l j (by omega)
  rw [List.getElem_take]
  exact h2
theorem rest_gt {l : List S102} {n : ByteArray} (hs : Srt l) : ∀ x ∈ restL l n, lts n x.f0 = true := by
  intro x hx
  unfold restL at hx
  by_cases h : fB l n = true
  · rw [if_pos h] at hx
    obtain ⟨h1, h2⟩ := fB_lt h
    obtain ⟨j, hj, rfl⟩ := List.getElem_of_mem hx
    rw [List.length_drop] at hj
    rw [List.getElem_drop]
    have := hs.lt (i := fI l n) (j := fI l n + 1 + j) (by omega) (by omega)
    rw [h2] at this
    exact this
  · rw [if_neg h] at hx
    obtain ⟨j, hj, rfl⟩ := List.getElem_of_mem hx
    rw [List.length_drop] at hj
    rw [List.getElem_drop]
    have h1 := fI_ge (n := n) hs (fI l n + j) (by omega) (by omega)
    rcases less_total n.toList l[fI l n + j].f0.toList with h2 | h2 | h2
    · exact h2
    · exfalso
      by_cases e : j = 0
      · subst e
        apply h
        unfold fB
        rw [List.getElem?_eq_getElem (by omega)]
        simp only [Nat.add_zero] at h2
        simp [h2]
      · have h3 := hs.lt (i := fI l n) (j := fI l n + j) (by omega) (by omega)
        have h4 := fI_at (l := l) (n := n) (by omega)
        have h5 : lts l[fI l n].f0 n = true := by
          show Op.bytesLess _ n.toList = true
          rw [h2]; exact h3
        rw [h4] at h5
        cases h5
    · have h3 : lts l[fI l n + j].f0 n = true := h2
      rw [h1] at h3
      cases h3
theorem srt_front {l : List S102} (hs : Srt l) (i : Nat) : Srt (l.take i) := hs.sublist (List.take_sublist _ _)
theorem srt_rest {l : List S102} (n : ByteArray) (hs : Srt l) : Srt (restL l n) := by
  unfold restL
  split
  · exact hs.sublist (List.drop_sublist _ _)
  · exact hs.sublist (List.drop_sublist _ _)
theorem front_rest {l : List S102} {n : ByteArray} (hs : Srt l) : ∀ a ∈ l.take (fI l n), ∀ b ∈ restL l n, lts a.f0 b.f0 = true := fun a ha b hb => less_trans (front_lt l n a ha) (rest_gt hs b hb)
theorem put_srt {l : List S102} (n : ByteArray) (v : Int) (hs : Srt l) : Srt (putL l n v) := by
  rw [putL_def]
  unfold Srt
  rw [List.pairwise_append, List.pairwise_cons]
  refine ⟨srt_front hs _, ⟨fun b hb => rest_gt hs b hb, srt_rest n hs⟩, fun a ha b hb => ?_⟩
  rcases List.mem_cons.1 hb with rfl | hb
  · exact front_lt l n a ha
  · exact front_rest hs a ha b hb
theorem cut_parts {l : List S102} {n : ByteArray} (hs : Srt l) : cutL (l.take (fI l n)) n = l.take (fI l n) ∧ cutL (restL l n) n = restL l n := by
  unfold cutL
  rw [List.filter_eq_self, List.filter_eq_self]
  exact ⟨fun x hx => by rw [ne_of_lt (front_lt l n x hx)]; rfl, fun x hx => by rw [ne_of_gt (rest_gt hs x hx)]; rfl⟩
theorem cut_append (a b : List S102) (n : ByteArray) : cutL (a ++ b) n = cutL a n ++ cutL b n := List.filter_append ..
theorem cut_self {l : List S102} (n : ByteArray) (hs : Srt l) : cutL l n = l.take (fI l n) ++ restL l n := by
  have h2 := (cut_parts (n := n) hs)
  by_cases h : fB l n = true
  · obtain ⟨h1, h3⟩ := fB_lt h
    have e : l = l.take (fI l n) ++ (l[fI l n] :: restL l n) := by
      unfold restL
      rw [if_pos h, ← List.drop_eq_getElem_cons h1, List.take_append_drop]
    have e2 : l[fI l n] :: restL l n = [l[fI l n]] ++ restL l n := rfl
    conv => lhs; rw [e, e2]
    rw [cut_append, cut_append, h2.1, h2.2]
    simp [cutL, h3]
  · have e : l = l.take (fI l n) ++ restL l n := by unfold restL; rw [if_neg h, List.take_append_drop]
    conv => lhs; rw [e]
    rw [cut_append, h2.1, h2.2]
theorem cut_srt {l : List S102} (n : ByteArray) (hs : Srt l) : Srt (cutL l n) := List.Pairwise.filter _ hs
theorem srt_same {a b : List S102} (h : a.Perm b) (ha : Srt a) (hb : Srt b) : a = b := by
  refine List.Perm.eq_of_pairwise (fun x y _ _ h1 h2 => ?_) ha hb h
  have h3 : lts x.f0 x.f0 = true := less_trans h1 h2
  rw [nlt_self] at h3
  cases h3
theorem put_cut {l : List S102} (n : ByteArray) (v : Int) (hs : Srt l) : (putL l n v).Perm (⟨n, v⟩ :: cutL l n) := by
  rw [cut_self n hs, putL_def]
  exact List.perm_middle
end Go.Proofs.YtllfjmmdackgdaaDoor.PZ
end
/-! TT -/
section
namespace Go.Proofs.YtllfjmmdackgdaaDoor.PZ
open Go.RowKit Go.Proofs.YtllfjmmdackgdaaDoorW.PrintWords Go.Proofs.YtllfjmmdackgdaaDoorW.PrintLast Go.Proofs.YtllfjmmdackgdaaDoorW.PrintMore Go.Proofs.YtllfjmmdackgdaaDoor.Ord Go.Proofs.YtllfjmmdackgdaaDoor.B TD
set_option linter.unusedVariables false
set_option linter.unusedSimpArgs false
/-! ### Entries -/
def ino (e : S102) : Nat := e.f1.toNat
def look (es : List S102) (n : ByteArray) : Option S102 := es.find? (fun e => e.f0.toList == n.toList)
theorem look_some {es : List S102} {n : ByteArray} {e : S102} (h : look es n = some e) : e ∈ es ∧ e.f0 = n := by
  unfold look at h
  have h1 := List.find?_some h
  exact ⟨List.mem_of_find?_eq_some h, bytes_ext (by simpa using h1)⟩
theorem look_none {es : List S102} {n : ByteArray} : look es n = none ↔ ∀ e ∈ es, e.f0 ≠ n := by
  unfold look
  rw [List.find?_eq_none]
  constructor
  · intro h e he hn
    exact h e he (by rw [hn]; simp)
  · intro h e he hn
    exact h e he (bytes_ext (by simpa using hn))
theorem srt_eq {es : List S102} (hs : Srt es) {a b : S102} (ha : a ∈ es) (hb : b ∈ es) (h : a.f0 = b.f0) : a = b := by
  induction es with
  | nil => cases ha
  | cons x r ih =>
    have hs' := List.pairwise_cons.1 hs
    have hirr : ∀ c : S102, c ∈ r → x.f0 ≠ c.f0 := by
      intro c hc e
      have h2 := hs'.1 c hc
      rw [e] at h2
      have h3 : Op.bytesLess c.f0.toList c.f0.toList = true := h2
      rw [less_irrefl] at h3
      cases h3
    rcases List.mem_cons.1 ha with e | ha2
    · rcases List.mem_cons.1 hb with e2 | hb2
      · rw [e, e2]
      · exact absurd (e ▸ h) (hirr b hb2)
    · rcases List.mem_cons.1 hb with e2 | hb2
      · exact absurd (e2 ▸ h.symm) (hirr a ha2)
      · exact ih hs'.2 ha2 hb2
theorem look_of {es : List S102} (hs : Srt es) {e : S102} (he : e ∈ es) : look es e.f0 = some e := by
  cases h : look es e.f0 with
  | none => exact absurd rfl (look_none.1 h e he)
  | some x =>
    obtain ⟨h1, h2⟩ := look_some h
    rw [srt_eq hs h1 he h2]
theorem look_iff {es : List S102} (hs : Srt es) {n : ByteArray} {e : S102} : look es n = some e ↔ e ∈ es ∧ e.f0 = n :=
  ⟨look_some, fun ⟨h1, h2⟩ => h2 ▸ look_of hs h1⟩
/-- Two rows of entries that say the same of a name. -/
theorem look_congr {es fs : List S102} (_ : Srt es) (ht : Srt fs) {n : ByteArray} (h : ∀ e, e.f0 = n → (e ∈ es ↔ e ∈ fs)) : look es n = look fs n := by
  cases h1 : look es n with
  | some x =>
    obtain ⟨h2, h3⟩ := look_some h1
    exact ((look_iff ht).2 ⟨(h x h3).1 h2, h3⟩).symm
  | none =>
    have h2 := look_none.1 h1
    refine (look_none.2 ?_).symm
    intro e he hn
    exact h2 e ((h e hn).2 he) hn
theorem mem_cut {es : List S102} {n : ByteArray} {e : S102} : e ∈ cutL es n ↔ e ∈ es ∧ e.f0 ≠ n := by
  unfold cutL
  rw [List.mem_filter]
  constructor
  · rintro ⟨h1, h2⟩
    exact ⟨h1, fun hn => by subst hn; simp at h2⟩
  · rintro ⟨h1, h2⟩
    refine ⟨h1, ?_⟩
    have : ¬ e.f0.toList = n.toList := fun hn => h2 (bytes_ext hn)
    simp [this]
theorem mem_put {es : List S102} (hs : Srt es) {n : ByteArray} {v : Int} {e : S102} : e ∈ putL es n v ↔ e = ⟨n, v⟩ ∨ (e ∈ es ∧ e.f0 ≠ n) := by
  rw [(put_cut n v hs).mem_iff, List.mem_cons, mem_cut]
theorem look_cut_same (es : List S102) (n : ByteArray) : look (cutL es n) n = none := look_none.2 fun _ he => (mem_cut.1 he).2
theorem look_cut_ne {es : List S102} (hs : Srt es) {n m : ByteArray} (h : m ≠ n) : look (cutL es n) m = look es m :=
  look_congr (cut_srt n hs) hs fun e he => by rw [mem_cut]; exact ⟨fun h => h.1, fun h2 => ⟨h2, by rw [he]; exact h⟩⟩
theorem look_put_same {es : List S102} (hs : Srt es) (n : ByteArray) (v : Int) : look (putL es n v) n = some ⟨n, v⟩ :=
  (look_iff (put_srt n v hs)).2 ⟨(mem_put hs).2 (.inl rfl), rfl⟩
theorem look_put_ne {es : List S102} (hs : Srt es) {n m : ByteArray} (v : Int) (h : m ≠ n) : look (putL es n v) m = look es m :=
  look_congr (put_srt n v hs) hs fun e he => by
    rw [mem_put hs]
    constructor
    · rintro (rfl | h2)
      · exact absurd he.symm h
      · exact h2.1
    · exact fun h2 => .inr ⟨h2, by rw [he]; exact h⟩
theorem cut_none {es : List S102} {n : ByteArray} (h : look es n = none) : cutL es n = es := by
  unfold cutL
  rw [List.filter_eq_self]
  intro e he
  have : ¬ e.f0.toList = n.toList := fun hn => look_none.1 h e he (bytes_ext hn)
  simp [this]
theorem put_count {es : List S102} (hs : Srt es) {n : ByteArray} (v : Int) (p : S102 → Bool) : (putL es n v).countP p = (cutL es n).countP p + (if p ⟨n, v⟩ then 1 else 0) := by
  rw [(put_cut n v hs).countP_eq, List.countP_cons]
theorem cut_split {es : List S102} (hs : Srt es) {n : ByteArray} {e : S102} (h : look es n = some e) : es.Perm (e :: cutL es n) := by
  obtain ⟨h1, h2⟩ := look_some h
  induction es with
  | nil => cases h1
  | cons x r ih =>
    have hs' := List.pairwise_cons.1 hs
    rcases List.mem_cons.1 h1 with rfl | h1
    · have hr : cutL r n = r := by
        unfold cutL
        rw [List.filter_eq_self]
        intro c hc
        have hne : ¬ c.f0.toList = n.toList := by
          intro hn
          have h3 := hs'.1 c hc
          have h4 : Op.bytesLess e.f0.toList c.f0.toList = true := h3
          rw [h2, hn, less_irrefl] at h4
          cases h4
        simp [hne]
      have : cutL (e :: r) n = cutL r n := by simp [cutL, h2]
      rw [this, hr]
    · have hx : ¬ x.f0.toList = n.toList := by
        intro hn
        have h3 := hs'.1 e h1
        have h4 : Op.bytesLess x.f0.toList e.f0.toList = true := h3
        rw [h2, hn, less_irrefl] at h4
        cases h4
      have e1 : cutL (x :: r) n = x :: cutL r n := by simp [cutL, hx]
      rw [e1]
      have hl : look r n = some e := (look_iff hs'.2).2 ⟨h1, h2⟩
      exact ((ih hs'.2 hl h1).cons x).trans (List.Perm.swap ..)
theorem cut_count {es : List S102} (hs : Srt es) {n : ByteArray} {e : S102} (h : look es n = some e) (p : S102 → Bool) : es.countP p = (cutL es n).countP p + (if p e then 1 else 0) := by
  rw [(cut_split hs h).countP_eq, List.countP_cons]
theorem cut_put_same {es : List S102} (hs : Srt es) {n : ByteArray} (v : Int) : cutL (putL es n v) n = cutL es n := by
  refine srt_same ?_ (cut_srt n (put_srt n v hs)) (cut_srt n hs)
  have h := (put_cut n v hs).filter (fun x => !(x.f0.toList == n.toList))
  have e1 : ((⟨n, v⟩ : S102) :: cutL es n).filter (fun x => !(x.f0.toList == n.toList)) = cutL es n := by
    rw [List.filter_cons_of_neg (by simp)]
    unfold cutL
    rw [List.filter_filter]
    congr 1
    funext x
    simp
  rw [e1] at h
  exact h
/-- Entries under other numbers. -/
def ren (f : Nat → Nat) (e : S102) : S102 := ⟨e.f0, (f (ino e) : Int)⟩
theorem ino_ren (f : Nat → Nat) (e : S102) : ino (ren f e) = f (ino e) := by simp [ino, ren]
theorem ren_srt {es : List S102} (f : Nat → Nat) (hs : Srt es) : Srt (es.map (ren f)) := by
  unfold Srt
  rw [List.pairwise_map]
  exact hs
theorem look_ren (es : List S102) (f : Nat → Nat) (n : ByteArray) : look (es.map (ren f)) n = (look es n).map (ren f) := by
  unfold look
  rw [List.find?_map]
  rfl
end Go.Proofs.YtllfjmmdackgdaaDoor.PZ
end
/-! TU -/
section
namespace Go.Proofs.YtllfjmmdackgdaaDoor.PZ
open Go.RowKit Go.Proofs.YtllfjmmdackgdaaDoorW.PrintWords Go.Proofs.YtllfjmmdackgdaaDoorW.PrintLast Go.Proofs.YtllfjmmdackgdaaDoorW.PrintMore Go.Proofs.YtllfjmmdackgdaaDoor.Ord Go.Proofs.YtllfjmmdackgdaaDoor.B TD
set_option linter.unusedVariables false
set_option linter.unusedSimpArgs false
/-! ### Trees -/
abbrev dN : S58 := z58
def nd (l : List S58) (k : Nat) : S58 := l.getD k dN
theorem nd_get {l : List S58} {k : Nat} (h : k < l.length) : nd l k = l[k] := by simp [nd, h]
theorem nd_out {l : List S58} {k : Nat} (h : l.length ≤ k) : nd l k = dN := by simp [nd, h]
def chl (l : List S58) (k : Nat) : List Nat := (nd l k).f3.map ino
def mt (l : List S58) : List Nat := met l.length (chl l)
def pl (l : List S58) (k : Nat) : Nat := (mt l).idxOf k
/-- How many of the entries lead to directories. -/
def dirs (l : List S58) (es : List S102) : Nat := es.countP (fun e => (nd l (ino e)).f0 == 2)
/-- How many entries lead to a node. -/
def ups (l : List S58) (k : Nat) : Nat := (l.map (fun n => n.f3.countP (fun e => ino e == k))).sum
/-- How many links a node has. -/
def own (l : List S58) (k : Nat) : Int := if (nd l k).f0 = 2 then ((2 + dirs l (nd l k).f3 : Nat) : Int) else (ups l k : Int)
def relink (l : List S58) : List S58 := l.mapIdx (fun k n => ⟨n.f0, own l k, n.f2, n.f3⟩)
/-- The nodes that are met, numbered as they are met. -/
def renum (l : List S58) : List S58 := (mt l).map (fun k => ⟨(nd l k).f0, 0, (nd l k).f2, (nd l k).f3.map (ren (pl l))⟩)
def num (l : List S58) : List S58 := relink (renum l)
structure Wf (l : List S58) : Prop where
  pos : 0 < l.length
  root : (nd l 0).f0 = 2
  file : ∀ k, (nd l k).f0 ≠ 2 → (nd l k).f3 = []
  srt : ∀ k, Srt (nd l k).f3
  rng : ∀ k, ∀ e ∈ (nd l k).f3, 1 ≤ e.f1 ∧ e.f1 < l.length
theorem Wf.ino_lt {l : List S58} (h : Wf l) {k : Nat} {e : S102} (he : e ∈ (nd l k).f3) : ino e < l.length ∧ 1 ≤ ino e ∧ (ino e : Int) = e.f1 := by
  have := h.rng k e he
  unfold ino
  omega
theorem Wf.ch_lt {l : List S58} (h : Wf l) {k c : Nat} (hc : c ∈ chl l k) : c < l.length ∧ 1 ≤ c := by
  unfold chl at hc
  obtain ⟨e, he, rfl⟩ := List.mem_map.1 hc
  have := h.ino_lt he
  omega
theorem Wf.zero {l : List S58} (h : Wf l) : 0 ∈ mt l := by
  obtain ⟨r, hr⟩ := met_zero (chl l) h.pos
  unfold mt
  rw [hr]; simp
theorem mt_lt {l : List S58} {k : Nat} (h : k ∈ mt l) : k < l.length := met_lt h
theorem mt_nodup (l : List S58) : (mt l).Nodup := met_nodup _ _
theorem Wf.mt_step {l : List S58} (h : Wf l) {k : Nat} (hk : k ∈ mt l) {e : S102} (he : e ∈ (nd l k).f3) : ino e ∈ mt l :=
  met_closed hk (List.mem_map_of_mem he) (h.ino_lt he).1
/-! ### The walk along names -/
def wk (l : List S58) : List ByteArray → Nat → Nat ⊕ Int
  | [], at_ => .inl at_
  | n :: ns, at_ => if (nd l at_).f0 = 2 then (match look (nd l at_).f3 n with | some e => wk l ns (ino e) | none => .inr 21) else .inr 22
theorem wk_append (l : List S58) (a b : List ByteArray) (at_ : Nat) : wk l (a ++ b) at_ = (match wk l a at_ with | .inl k => wk l b k | .inr e => .inr e) := by
  induction a generalizing at_ with
  | nil => rfl
  | cons n ns ih =>
    rw [List.cons_append, wk, wk]
    split
    · split
      · exact ih _
      · rfl
    · rfl
theorem wk_met {l : List S58} (h : Wf l) {ns : List ByteArray} : ∀ {at_ k : Nat}, at_ ∈ mt l → wk l ns at_ = .inl k → k ∈ mt l := by
  induction ns with
  | nil => intro at_ k h0 hk; cases hk; exact h0
  | cons n ns ih =>
    intro at_ k h0 hk
    rw [wk] at hk
    split at hk
    · split at hk
      · rename_i e he
        exact ih (h.mt_step h0 (look_some he).1) hk
      · cases hk
    · cases hk
theorem met_wk {l : List S58} (h : Wf l) {k : Nat} (hk : k ∈ mt l) : ∃ ns, wk l ns 0 = .inl k := by
  refine met_all (n := l.length) (ch := chl l) (R := fun k => ∃ ns, wk l ns 0 = .inl k) ⟨[], rfl⟩ ?_ hk
  rintro k ⟨ns, hns⟩ _ c hc
  obtain ⟨e, he, rfl⟩ := List.mem_map.1 hc
  have hd : (nd l k).f0 = 2 := by
    rcases Classical.em ((nd l k).f0 = 2) with h1 | h1
    · exact h1
    · rw [h.file k h1] at he; cases he
  refine ⟨ns ++ [e.f0], ?_⟩
  rw [wk_append, hns]
  simp only [wk]
  rw [if_pos hd, look_of (h.srt k) he]
/-! ### One tree under other numbers -/
structure Iso (f : Nat → Nat) (l l' : List S58) : Prop where
  wf : Wf l
  zero : f 0 = 0
  lt : ∀ k ∈ mt l, f k < l'.length
  inj : ∀ a b, a ∈ mt l → b ∈ mt l → f a = f b → a = b
  kind : ∀ k ∈ mt l, (nd l' (f k)).f0 = (nd l k).f0
  data : ∀ k ∈ mt l, (nd l' (f k)).f2 = (nd l k).f2
  ents : ∀ k ∈ mt l, (nd l' (f k)).f3 = (nd l k).f3.map (ren f)
section
variable {f : Nat → Nat} {l l' : List S58}
theorem Iso.met (h : Iso f l l') : mt l' = (mt l).map f :=
  met_map h.wf.pos h.zero (fun k hk => ⟨h.lt k hk, fun c hc => (h.wf.ch_lt hc).1, by
    unfold chl
    rw [h.ents k hk, List.map_map, List.map_map]
    congr 1⟩) h.inj
theorem Iso.wk (h : Iso f l l') (ns : List ByteArray) : ∀ {at_ : Nat}, at_ ∈ mt l → Go.Proofs.YtllfjmmdackgdaaDoor.PZ.wk l' ns (f at_) = (match Go.Proofs.YtllfjmmdackgdaaDoor.PZ.wk l ns at_ with | .inl k => .inl (f k) | .inr e => .inr e) := by
  induction ns with
  | nil => intro at_ _; rfl
  | cons n ns ih =>
    intro at_ h0
    rw [Go.Proofs.YtllfjmmdackgdaaDoor.PZ.wk, Go.Proofs.YtllfjmmdackgdaaDoor.PZ.wk, h.kind at_ h0, h.ents at_ h0, look_ren]
    split
    · cases hl : look (nd l at_).f3 n with
      | none => rfl
      | some e =>
        simp only [Option.map_some]
        rw [ino_ren]
        exact ih (h.wf.mt_step h0 (look_some hl).1)
    · rfl
theorem Iso.wf' (h : Iso f l l') (hs : ∀ k', k' < l'.length → ∃ k ∈ mt l, f k = k') : Wf l' := by
  have h0 := h.wf.zero
  have hp : 0 < l'.length := by have := h.lt 0 h0; omega
  have key : ∀ k', (∃ k ∈ mt l, f k = k') ∨ nd l' k' = dN := fun k' => by
    rcases Nat.lt_or_ge k' l'.length with hk | hk
    · exact .inl (hs k' hk)
    · exact .inr (nd_out hk)
  refine ⟨hp, ?_, fun k' hk' => ?_, fun k' => ?_, fun k' e he => ?_⟩
  · have := h.kind 0 h0
    rw [h.zero] at this
    rw [this]; exact h.wf.root
  · rcases key k' with ⟨k, hk, rfl⟩ | e
    · rw [h.kind k hk] at hk'
      rw [h.ents k hk, h.wf.file k hk']; rfl
    · rw [e]; rfl
  · rcases key k' with ⟨k, hk, rfl⟩ | e
    · rw [h.ents k hk]; exact ren_srt _ (h.wf.srt k)
    · rw [e]; exact List.Pairwise.nil
  · rcases key k' with ⟨k, hk, rfl⟩ | e2
    · rw [h.ents k hk] at he
      obtain ⟨e, hx, rfl⟩ := List.mem_map.1 he
      have h1 := h.lt _ (h.wf.mt_step hk hx)
      have h2 := h.wf.ino_lt hx
      show 1 ≤ (f (ino e) : Int) ∧ (f (ino e) : Int) < _
      have h3 : f (ino e) ≠ 0 := fun e3 => by
        have := h.inj _ _ (h.wf.mt_step hk hx) h0 (e3.trans h.zero.symm)
        omega
      omega
    · rw [e2] at he; cases he
end
/-! ### Numbering -/
theorem renum_len (l : List S58) : (renum l).length = (mt l).length := by simp [renum]
theorem relink_len (l : List S58) : (relink l).length = l.length := by simp [relink]
theorem num_len (l : List S58) : (num l).length = (mt l).length := by rw [num, relink_len, renum_len]
theorem nd_relink (l : List S58) (k : Nat) : (nd (relink l) k).f0 = (nd l k).f0 ∧ (nd (relink l) k).f2 = (nd l k).f2 ∧ (nd (relink l) k).f3 = (nd l k).f3 ∧ (k < l.length → (nd (relink l) k).f1 = own l k) := by
  rcases Nat.lt_or_ge k l.length with h | h
  · rw [nd_get h, nd_get (by rw [relink_len]; exact h)]
    simp [relink]
  · rw [nd_out h, nd_out (by rw [relink_len]; exact h)]
    exact ⟨rfl, rfl, rfl, fun h2 => by omega⟩
theorem pl_lt {l : List S58} {k : Nat} (hk : k ∈ mt l) : pl l k < (mt l).length := List.idxOf_lt_length_of_mem hk
theorem mt_pl {l : List S58} {k : Nat} (hk : k ∈ mt l) : (mt l)[pl l k]'(pl_lt hk) = k := List.getElem_idxOf (pl_lt hk)
theorem pl_inj {l : List S58} {a b : Nat} (ha : a ∈ mt l) (hb : b ∈ mt l) (h : pl l a = pl l b) : a = b := by
  rw [← mt_pl ha, ← mt_pl hb]
  congr 1
theorem pl_mt {l : List S58} {i : Nat} (h : i < (mt l).length) : pl l ((mt l)[i]) = i := by
  have h1 : (mt l)[i] ∈ mt l := List.getElem_mem h
  exact (List.getElem_inj (mt_nodup l)).1 (mt_pl h1)
theorem pl_zero {l : List S58} (h : Wf l) : pl l 0 = 0 := by
  obtain ⟨r, hr⟩ := met_zero (chl l) h.pos
  unfold pl mt
  rw [hr]; simp
theorem nd_renum {l : List S58} {k : Nat} (hk : k ∈ mt l) : nd (renum l) (pl l k) = ⟨(nd l k).f0, 0, (nd l k).f2, (nd l k).f3.map (ren (pl l))⟩ := by
  rw [nd_get (by rw [renum_len]; exact pl_lt hk)]
  simp only [renum, List.getElem_map]
  rw [mt_pl hk]
theorem iso_num {l : List S58} (h : Wf l) : Iso (pl l) l (num l) where
  wf := h
  zero := pl_zero h
  lt := fun k hk => by rw [num_len]; exact pl_lt hk
  inj := fun a b ha hb => pl_inj ha hb
  kind := fun k hk => by rw [num, (nd_relink _ _).1, nd_renum hk]
  data := fun k hk => by rw [num, (nd_relink _ _).2.1, nd_renum hk]
  ents := fun k hk => by rw [num, (nd_relink _ _).2.2.1, nd_renum hk]
theorem num_onto {l : List S58} {k' : Nat} (h : k' < (num l).length) : ∃ k ∈ mt l, pl l k = k' := by
  rw [num_len] at h
  exact ⟨_, List.getElem_mem h, pl_mt h⟩
theorem num_wf {l : List S58} (h : Wf l) : Wf (num l) := (iso_num h).wf' fun _ hk => num_onto hk
theorem num_mt {l : List S58} (h : Wf l) : mt (num l) = List.range (num l).length := by
  rw [(iso_num h).met, num_len]
  apply List.ext_getElem
  · simp
  · intro i h1 h2
    simp only [List.getElem_map, List.getElem_range]
    exact pl_mt (by simpa using h1)
end Go.Proofs.YtllfjmmdackgdaaDoor.PZ
end
/-! TV -/
section
namespace Go.Proofs.YtllfjmmdackgdaaDoor.PZ
open Go.RowKit Go.Proofs.YtllfjmmdackgdaaDoorW.PrintWords Go.Proofs.YtllfjmmdackgdaaDoorW.PrintLast Go.Proofs.YtllfjmmdackgdaaDoorW.PrintMore Go.Proofs.YtllfjmmdackgdaaDoor.Ord Go.Proofs.YtllfjmmdackgdaaDoor.B TD
set_option linter.unusedVariables false
set_option linter.unusedSimpArgs false
/-! ### Sums -/
theorem sum_sub {g : Nat → Nat} : ∀ {m r : List Nat}, m.Nodup → (∀ x ∈ m, x ∈ r) → (m.map g).sum ≤ (r.map g).sum
  | [], r, _, _ => by simp
  | x :: m, r, hn, hs => by
    have hx := hs x List.mem_cons_self
    have hp := List.perm_cons_erase hx
    obtain ⟨h1, h2⟩ := List.nodup_cons.1 hn
    have ih := sum_sub (g := g) (m := m) (r := r.erase x) h2 (fun y hy => by
      have hne : y ≠ x := fun e => h1 (e ▸ hy)
      exact (List.mem_erase_of_ne hne).2 (hs y (List.mem_cons_of_mem _ hy)))
    have e := (hp.map g).sum_nat
    rw [e, List.map_cons, List.map_cons, List.sum_cons, List.sum_cons]
    omega
theorem le_sum {g : Nat → Nat} {m : List Nat} {x : Nat} (h : x ∈ m) : g x ≤ (m.map g).sum := by
  induction m with
  | nil => cases h
  | cons y m ih =>
    rw [List.map_cons, List.sum_cons]
    rcases List.mem_cons.1 h with rfl | h
    · omega
    · have := ih h; omega
theorem sum_congr {g g' : Nat → Nat} {m : List Nat} (h : ∀ x ∈ m, g x = g' x) : (m.map g).sum = (m.map g').sum := by
  rw [List.map_congr_left h]
theorem sum_ones (m : List Nat) : (m.map (fun _ => 1)).sum = m.length := by
  induction m with
  | nil => rfl
  | cons x m ih => rw [List.map_cons, List.sum_cons, ih, List.length_cons]; omega
/-! ### Counts of entries -/
def cnt (l : List S58) (x k : Nat) : Nat := (nd l x).f3.countP (fun e => ino e == k)
theorem map_nd {α : Type} (l : List S58) (g : S58 → α) : l.map g = (List.range l.length).map (fun x => g (nd l x)) := by
  apply List.ext_getElem
  · simp
  · intro i h1 h2
    simp only [List.getElem_map, List.getElem_range]
    rw [nd_get (by simpa using h1)]
theorem ups_eq (l : List S58) (k : Nat) : ups l k = ((List.range l.length).map (fun x => cnt l x k)).sum := by
  unfold ups
  rw [map_nd l (fun n => n.f3.countP (fun e => ino e == k))]
  rfl
theorem cnt_le_ups (l : List S58) (x k : Nat) : cnt l x k ≤ ups l k := by
  rw [ups_eq]
  rcases Nat.lt_or_ge x l.length with h | h
  · exact le_sum (g := fun x => cnt l x k) (List.mem_range.2 h)
  · unfold cnt; rw [nd_out h]; simp [dN, z58]
theorem ups_pos {l : List S58} {x k : Nat} {e : S102} (he : e ∈ (nd l x).f3) (hk : ino e = k) : 1 ≤ ups l k := by
  refine Nat.le_trans ?_ (cnt_le_ups l x k)
  unfold cnt
  exact List.countP_pos_iff.2 ⟨e, he, by simpa using hk⟩
/-- Two entries that lead to one node that has one entry alone. -/
theorem ups_one {l : List S58} {k x y : Nat} (h : ups l k ≤ 1) {e e' : S102} (he : e ∈ (nd l x).f3) (hk : ino e = k) (he' : e' ∈ (nd l y).f3) (hk' : ino e' = k) : x = y := by
  rcases Classical.em (x = y) with h1 | h1
  · exact h1
  · exfalso
    have hx : x < l.length := by
      rcases Nat.lt_or_ge x l.length with h | h
      · exact h
      · rw [nd_out h] at he; cases he
    have hy : y < l.length := by
      rcases Nat.lt_or_ge y l.length with h | h
      · exact h
      · rw [nd_out h] at he'; cases he'
    have h2 := sum_sub (g := fun x => cnt l x k) (m := [x, y]) (r := List.range l.length) (by simp [h1]) (by intro z hz; simp at hz; rcases hz with rfl | rfl <;> simpa)
    rw [← ups_eq] at h2
    have h3 : 1 ≤ cnt l x k := List.countP_pos_iff.2 ⟨e, he, by simpa using hk⟩
    have h4 : 1 ≤ cnt l y k := List.countP_pos_iff.2 ⟨e', he', by simpa using hk'⟩
    simp at h2
    omega
/-! ### What tells a tree -/
/-- Right but for the numbers and the links. -/
structure Pr (l : List S58) : Prop where
  wf : Wf l
  le : l.length ≤ 56
  kind : ∀ k, k < l.length → (nd l k).f0 = 1 ∨ (nd l k).f0 = 2
  names : ∀ k, ∀ e ∈ (nd l k).f3, nameB e.f0 = true
  ents : ∀ k, (nd l k).f3.length ≤ 64
  size : ∀ k, (nd l k).f2.length ≤ 46368
  ddata : ∀ k, (nd l k).f0 = 2 → (nd l k).f2 = []
  links : ∀ k, (nd l k).f0 = 1 → ups l k ≤ 200
  up : ∀ k, (nd l k).f0 = 2 → ups l k ≤ 1
structure Rt (l : List S58) : Prop where
  pr : Pr l
  ord : mt l = List.range l.length
  own : ∀ k, k < l.length → (nd l k).f1 = Go.Proofs.YtllfjmmdackgdaaDoor.PZ.own l k
theorem ups_num {l : List S58} (h : Wf l) {k : Nat} (hk : k ∈ mt l) : ups (num l) (pl l k) = ((mt l).map (fun x => cnt l x k)).sum := by
  rw [ups_eq, num_len]
  have e : (List.range (mt l).length).map (fun x => cnt (num l) x (pl l k)) = (mt l).map (fun x => cnt l x k) := by
    apply List.ext_getElem
    · simp
    · intro i h1 h2
      simp only [List.getElem_map, List.getElem_range]
      have hi : i < (mt l).length := by simpa using h2
      have hm : (mt l)[i] ∈ mt l := List.getElem_mem hi
      have hp := pl_mt hi
      unfold cnt
      conv => lhs; rw [← hp]
      rw [(iso_num h).ents _ hm, List.countP_map]
      refine List.countP_congr fun e he => ?_
      simp only [Function.comp_apply, beq_iff_eq]
      rw [ino_ren]
      constructor
      · intro h3; exact pl_inj (h.mt_step hm he) hk h3
      · intro h3; rw [h3]
  rw [e]
theorem ups_num_le {l : List S58} (h : Wf l) {k : Nat} (hk : k ∈ mt l) : ups (num l) (pl l k) ≤ ups l k := by
  rw [ups_num h hk, ups_eq]
  exact sum_sub (g := fun x => cnt l x k) (mt_nodup l) (fun x hx => List.mem_range.2 (mt_lt hx))
theorem dirs_num {l : List S58} (h : Wf l) {k : Nat} (hk : k ∈ mt l) : dirs (num l) (nd (num l) (pl l k)).f3 = dirs l (nd l k).f3 := by
  unfold dirs
  rw [(iso_num h).ents _ hk, List.countP_map]
  refine List.countP_congr fun e he => ?_
  simp only [Function.comp_apply]
  rw [ino_ren, (iso_num h).kind _ (h.mt_step hk he)]
theorem own_relink (l : List S58) (k : Nat) : own (relink l) k = own l k := by
  unfold own
  have e2 : dirs (relink l) (nd (relink l) k).f3 = dirs l (nd l k).f3 := by
    unfold dirs
    rw [(nd_relink l k).2.2.1]
    refine List.countP_congr fun e _ => ?_
    rw [(nd_relink l _).1]
  have e3 : ups (relink l) k = ups l k := by
    rw [ups_eq, ups_eq, relink_len]
    refine sum_congr fun x _ => ?_
    unfold cnt
    rw [(nd_relink l x).2.2.1]
  rw [(nd_relink l k).1, e2, e3]
theorem num_rt {l : List S58} (h : Pr l) : Rt (num l) := by
  have hI := iso_num h.wf
  have hw := num_wf h.wf
  have key : ∀ k', (∃ k ∈ mt l, pl l k = k') ∨ nd (num l) k' = dN := fun k' => by
    rcases Nat.lt_or_ge k' (num l).length with hk | hk
    · exact .inl (num_onto hk)
    · exact .inr (nd_out hk)
  refine ⟨⟨hw, ?_, fun k' hk' => ?_, fun k' e he => ?_, fun k' => ?_, fun k' => ?_, fun k' hk' => ?_, fun k' hk' => ?_, fun k' hk' => ?_⟩, num_mt h.wf, fun k' hk' => ?_⟩
  · rw [num_len]
    have h1 : (mt l).length ≤ l.length := by
      have := sum_sub (g := fun _ => 1) (mt_nodup l) (r := List.range l.length) (fun x hx => List.mem_range.2 (mt_lt hx))
      rwa [sum_ones, sum_ones, List.length_range] at this
    have := h.le
    omega
  · obtain ⟨k, hk, rfl⟩ := num_onto hk'
    rw [hI.kind k hk]; exact h.kind k (mt_lt hk)
  · rcases key k' with ⟨k, hk, rfl⟩ | e2
    · rw [hI.ents k hk] at he
      obtain ⟨x, hx, rfl⟩ := List.mem_map.1 he
      exact h.names k x hx
    · rw [e2] at he; cases he
  · rcases key k' with ⟨k, hk, rfl⟩ | e2
    · rw [hI.ents k hk, List.length_map]; exact h.ents k
    · rw [e2]; simp [dN, z58]
  · rcases key k' with ⟨k, hk, rfl⟩ | e2
    · rw [hI.data k hk]; exact h.size k
    · rw [e2]; simp [dN, z58]
  · rcases key k' with ⟨k, hk, rfl⟩ | e2
    · rw [hI.data k hk]
      rw [hI.kind k hk] at hk'
      exact h.ddata k hk'
    · rw [e2]; rfl
  · rcases key k' with ⟨k, hk, rfl⟩ | e2
    · rw [hI.kind k hk] at hk'
      exact Nat.le_trans (ups_num_le h.wf hk) (h.links k hk')
    · rw [e2] at hk'; simp [dN, z58] at hk'
  · rcases key k' with ⟨k, hk, rfl⟩ | e2
    · rw [hI.kind k hk] at hk'
      exact Nat.le_trans (ups_num_le h.wf hk) (h.up k hk')
    · rw [e2] at hk'; simp [dN, z58] at hk'
  · have h1 : k' < (renum l).length := by rw [renum_len]; rw [num_len] at hk'; exact hk'
    unfold num
    rw [(nd_relink (renum l) k').2.2.2 h1, own_relink]
theorem own_congr {l l' : List S58} (hl : l'.length = l.length) (h0 : ∀ k, (nd l' k).f0 = (nd l k).f0) (h3 : ∀ k, (nd l' k).f3 = (nd l k).f3) (k : Nat) : own l' k = own l k := by
  unfold own
  have e2 : dirs l' (nd l' k).f3 = dirs l (nd l k).f3 := by
    unfold dirs
    rw [h3]
    exact List.countP_congr fun e _ => by rw [h0]
  have e3 : ups l' k = ups l k := by
    rw [ups_eq, ups_eq, hl]
    exact sum_congr fun x _ => by unfold cnt; rw [h3]
  rw [h0, e2, e3]
theorem nd_ext {l l' : List S58} (hl : l'.length = l.length) (h : ∀ k, k < l.length → nd l' k = nd l k) : l' = l := by
  apply List.ext_getElem hl
  intro i h1 h2
  have := h i h2
  rwa [nd_get h1, nd_get h2] at this
theorem pl_range {l : List S58} (h : mt l = List.range l.length) {k : Nat} (hk : k < l.length) : pl l k = k := by
  have hm : k ∈ mt l := by rw [h]; exact List.mem_range.2 hk
  have h1 := mt_pl hm
  simpa [h] using h1
theorem ren_id {es : List S102} {f : Nat → Nat} (h : ∀ e ∈ es, f (ino e) = ino e) (hr : ∀ e ∈ es, 0 ≤ e.f1) : es.map (ren f) = es := by
  have : es.map (ren f) = es.map id := List.map_congr_left fun e he => by
    unfold ren
    rw [h e he]
    have := hr e he
    have h2 : ((ino e : Nat) : Int) = e.f1 := by unfold ino; omega
    rw [h2]
    rfl
  rw [this, List.map_id]
/-- A tree that is right is numbered already. -/
theorem Rt.num {l : List S58} (h : Rt l) : Go.Proofs.YtllfjmmdackgdaaDoor.PZ.num l = l := by
  have hlen : (mt l).length = l.length := by rw [h.ord, List.length_range]
  have hr : ∀ k, k < l.length → nd (renum l) k = ⟨(nd l k).f0, 0, (nd l k).f2, (nd l k).f3⟩ := fun k hk => by
    have hm : k ∈ mt l := by rw [h.ord]; exact List.mem_range.2 hk
    have h1 := nd_renum hm
    rw [pl_range h.ord hk] at h1
    rw [h1, ren_id (fun e he => pl_range h.ord (h.pr.wf.ino_lt he).1) (fun e he => by have := h.pr.wf.rng k e he; omega)]
  have hlr : (renum l).length = l.length := by rw [renum_len, hlen]
  refine nd_ext (by rw [num_len, hlen]) fun k hk => ?_
  have h1 := nd_relink (renum l) k
  have ho : Go.Proofs.YtllfjmmdackgdaaDoor.PZ.own (renum l) k = Go.Proofs.YtllfjmmdackgdaaDoor.PZ.own l k := own_congr hlr
    (fun j => by
      rcases Nat.lt_or_ge j l.length with hj | hj
      · rw [hr j hj]
      · rw [nd_out hj, nd_out (by rw [hlr]; exact hj)])
    (fun j => by
      rcases Nat.lt_or_ge j l.length with hj | hj
      · rw [hr j hj]
      · rw [nd_out hj, nd_out (by rw [hlr]; exact hj)]) k
  rw [hr k hk] at h1
  have h2 := h1.2.2.2 (by rw [hlr]; exact hk)
  rw [ho, ← h.own k hk] at h2
  show nd (relink (renum l)) k = nd l k
  obtain ⟨a, b, c, _⟩ := h1
  cases hx : nd (relink (renum l)) k with
  | mk p q r s =>
    rw [hx] at a b c h2
    simp at a b c h2
    cases hy : nd l k with
    | mk p' q' r' s' =>
      rw [hy] at a b c h2
      simp at a b c h2
      rw [a, b, c, h2]
end Go.Proofs.YtllfjmmdackgdaaDoor.PZ
end
