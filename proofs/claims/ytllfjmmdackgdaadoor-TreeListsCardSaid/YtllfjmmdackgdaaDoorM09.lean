import Derived.Test.YtllfjmmdackgdaaDoorM08
import Derived.Test.YtllfjmmdackgdaaDoorM05
import Derived.WalkLawsBesides
set_option linter.unusedVariables false
set_option linter.unusedSimpArgs false
/-! TW -/
section
namespace Go.Proofs.YtllfjmmdackgdaaDoor.PZ
open Go.RowKit Go.Proofs.YtllfjmmdackgdaaDoorW.PrintWords Go.Proofs.YtllfjmmdackgdaaDoorW.PrintLast Go.Proofs.YtllfjmmdackgdaaDoorW.PrintMore Go.Proofs.YtllfjmmdackgdaaDoor.Ord Go.Proofs.YtllfjmmdackgdaaDoor.B TD
set_option linter.unusedVariables false
set_option linter.unusedSimpArgs false
/-! ### A directory's entries are set -/
def setE (l : List S58) (d : Nat) (es : List S102) : List S58 := l.set d ⟨(nd l d).f0, (nd l d).f1, (nd l d).f2, es⟩
def putT (l : List S58) (d : Nat) (n : ByteArray) (k : Nat) : List S58 := setE l d (putL (nd l d).f3 n (k : Int))
def cutT (l : List S58) (d : Nat) (n : ByteArray) : List S58 := setE l d (cutL (nd l d).f3 n)
section
variable {l : List S58} {d : Nat} {es : List S102}
theorem setE_len : (setE l d es).length = l.length := by simp [setE]
theorem nd_setE_same (h : d < l.length) : nd (setE l d es) d = ⟨(nd l d).f0, (nd l d).f1, (nd l d).f2, es⟩ := by
  rw [nd_get (by rw [setE_len]; exact h)]
  simp [setE]
theorem nd_setE_ne {k : Nat} (h : k ≠ d) : nd (setE l d es) k = nd l k := by
  rcases Nat.lt_or_ge k l.length with hk | hk
  · rw [nd_get (by rw [setE_len]; exact hk), nd_get hk]
    simp [setE, Ne.symm h]
  · rw [nd_out hk, nd_out (by rw [setE_len]; exact hk)]
theorem setE_f0 (k : Nat) : (nd (setE l d es) k).f0 = (nd l k).f0 := by
  rcases Nat.lt_or_ge d l.length with hd | hd
  · by_cases h : k = d
    · subst h; rw [nd_setE_same hd]
    · rw [nd_setE_ne h]
  · by_cases h : k = d
    · subst h; rw [nd_out hd, nd_out (by rw [setE_len]; exact hd)]
    · rw [nd_setE_ne h]
theorem setE_f2 (k : Nat) : (nd (setE l d es) k).f2 = (nd l k).f2 := by
  rcases Nat.lt_or_ge d l.length with hd | hd
  · by_cases h : k = d
    · subst h; rw [nd_setE_same hd]
    · rw [nd_setE_ne h]
  · by_cases h : k = d
    · subst h; rw [nd_out hd, nd_out (by rw [setE_len]; exact hd)]
    · rw [nd_setE_ne h]
theorem setE_f3 (hd : d < l.length) (k : Nat) : (nd (setE l d es) k).f3 = if k = d then es else (nd l k).f3 := by
  by_cases h : k = d
  · subst h; rw [nd_setE_same hd, if_pos rfl]
  · rw [nd_setE_ne h, if_neg h]
theorem setE_self (hd : d < l.length) (h : es = (nd l d).f3) : setE l d es = l :=
  nd_ext setE_len fun k _ => by
    by_cases e : k = d
    · subst e; rw [nd_setE_same hd, h]
    · rw [nd_setE_ne e]
theorem setE_setE (hd : d < l.length) (fs : List S102) : setE (setE l d es) d fs = setE l d fs :=
  nd_ext (by rw [setE_len, setE_len, setE_len]) fun k _ => by
    by_cases e : k = d
    · subst e; rw [nd_setE_same (by rw [setE_len]; exact hd), nd_setE_same hd, nd_setE_same hd]
    · rw [nd_setE_ne e, nd_setE_ne e, nd_setE_ne e]
theorem sum_upd {g g' : Nat → Nat} {m : List Nat} {d : Nat} (hn : m.Nodup) (hd : d ∈ m) (h : ∀ x ∈ m, x ≠ d → g' x = g x) : (m.map g').sum + g d = (m.map g).sum + g' d := by
  induction m with
  | nil => cases hd
  | cons x m ih =>
    obtain ⟨h1, h2⟩ := List.nodup_cons.1 hn
    rw [List.map_cons, List.map_cons, List.sum_cons, List.sum_cons]
    rcases List.mem_cons.1 hd with rfl | hd
    · have e : m.map g' = m.map g := List.map_congr_left fun y hy => h y (List.mem_cons_of_mem _ hy) (fun e => h1 (e ▸ hy))
      rw [e]; omega
    · have h3 := h x List.mem_cons_self (fun e => h1 (e ▸ hd))
      have h4 := ih h2 hd (fun y hy hne => h y (List.mem_cons_of_mem _ hy) hne)
      omega
theorem ups_setE (hd : d < l.length) (k : Nat) : ups (setE l d es) k + cnt l d k = ups l k + es.countP (fun e => ino e == k) := by
  rw [ups_eq, ups_eq, setE_len]
  have h := sum_upd (g := fun x => cnt l x k) (g' := fun x => cnt (setE l d es) x k) (m := List.range l.length) (d := d) List.nodup_range (List.mem_range.2 hd)
    (fun x _ hx => by simp only [cnt]; rw [nd_setE_ne hx])
  have e : cnt (setE l d es) d k = es.countP (fun e => ino e == k) := by unfold cnt; rw [nd_setE_same hd]
  rw [e] at h
  exact h
end
section
variable {l : List S58} {d : Nat}
theorem Pr.lt_of_dir (h : (nd l d).f0 = 2) : d < l.length := by
  rcases Nat.lt_or_ge d l.length with h1 | h1
  · exact h1
  · rw [nd_out h1] at h; simp [dN, z58] at h
theorem ups_cut_le (hd : d < l.length) (n : ByteArray) (k : Nat) : ups (cutT l d n) k ≤ ups l k := by
  have h := ups_setE (l := l) (es := cutL (nd l d).f3 n) hd k
  have h2 : (cutL (nd l d).f3 n).countP (fun e => ino e == k) ≤ cnt l d k := List.Sublist.countP_le List.filter_sublist
  unfold cutT
  omega
theorem ups_cut (hs : Srt (nd l d).f3) (hd : d < l.length) {n : ByteArray} {e : S102} (he : look (nd l d).f3 n = some e) (k : Nat) : ups (cutT l d n) k + (if ino e = k then 1 else 0) = ups l k := by
  have h := ups_setE (l := l) (es := cutL (nd l d).f3 n) hd k
  have h2 := cut_count hs he (fun e => ino e == k)
  unfold cnt at h
  unfold cutT
  simp only [beq_iff_eq] at h2
  omega
theorem ups_put (hs : Srt (nd l d).f3) (hd : d < l.length) (n : ByteArray) (x k : Nat) : ups (putT l d n x) k = ups (cutT l d n) k + (if x = k then 1 else 0) := by
  have h := ups_setE (l := l) (es := cutL (nd l d).f3 n) hd k
  have h1 := ups_setE (l := l) (es := putL (nd l d).f3 n (x : Int)) hd k
  have h2 := put_count hs (n := n) (x : Int) (fun e => ino e == k)
  have h3 : ino ⟨n, (x : Int)⟩ = x := by simp [ino]
  simp only [h3, beq_iff_eq] at h2
  unfold putT cutT
  omega
theorem Wf.setE (h : Wf l) (hd : (nd l d).f0 = 2) {es : List S102} (hs : Srt es) (hr : ∀ e ∈ es, 1 ≤ e.f1 ∧ e.f1 < l.length) : Wf (Go.Proofs.YtllfjmmdackgdaaDoor.PZ.setE l d es) := by
  have hdl := Pr.lt_of_dir hd
  refine ⟨by rw [setE_len]; exact h.pos, by rw [setE_f0]; exact h.root, fun k hk => ?_, fun k => ?_, fun k e he => ?_⟩
  · rw [setE_f0] at hk
    rw [setE_f3 hdl, if_neg (fun e => hk (by rw [e]; exact hd))]
    exact h.file k hk
  · rw [setE_f3 hdl]
    split
    · exact hs
    · exact h.srt k
  · rw [setE_f3 hdl] at he
    rw [setE_len]
    split at he
    · exact hr e he
    · exact h.rng k e he
theorem Wf.cut (h : Wf l) (hd : (nd l d).f0 = 2) (n : ByteArray) : Wf (cutT l d n) :=
  h.setE hd (cut_srt n (h.srt d)) (fun e he => h.rng d e (mem_cut.1 he).1)
theorem Wf.put (h : Wf l) (hd : (nd l d).f0 = 2) (n : ByteArray) {k : Nat} (h1 : 1 ≤ k) (hk : k < l.length) : Wf (putT l d n k) :=
  h.setE hd (put_srt n _ (h.srt d)) (fun e he => by
    rcases (mem_put (h.srt d)).1 he with rfl | he
    · show 1 ≤ (k : Int) ∧ (k : Int) < l.length
      omega
    · exact h.rng d e he.1)
theorem cut_len (es : List S102) (n : ByteArray) : (cutL es n).length ≤ es.length := List.length_filter_le _ _
theorem Pr.cut (h : Pr l) (hd : (nd l d).f0 = 2) (n : ByteArray) : Pr (cutT l d n) := by
  have hdl := Pr.lt_of_dir hd
  refine ⟨h.wf.cut hd n, ?_, fun k hk => ?_, fun k e he => ?_, fun k => ?_, fun k => ?_, fun k hk => ?_, fun k hk => ?_, fun k hk => ?_⟩ <;> unfold cutT at *
  · rw [setE_len]; exact h.le
  · rw [setE_len] at hk; rw [setE_f0]; exact h.kind k hk
  · rw [setE_f3 hdl] at he
    split at he
    · exact h.names d e (mem_cut.1 he).1
    · exact h.names k e he
  · rw [setE_f3 hdl]
    split
    · exact Nat.le_trans (cut_len _ _) (h.ents d)
    · exact h.ents k
  · rw [setE_f2]; exact h.size k
  · rw [setE_f0] at hk; rw [setE_f2]; exact h.ddata k hk
  · rw [setE_f0] at hk; exact Nat.le_trans (ups_cut_le hdl n k) (h.links k hk)
  · rw [setE_f0] at hk; exact Nat.le_trans (ups_cut_le hdl n k) (h.up k hk)
theorem Pr.put (h : Pr l) (hd : (nd l d).f0 = 2) {n : ByteArray} (hn : nameB n = true) {k : Nat} (h1 : 1 ≤ k) (hk : k < l.length) (hle : (cutL (nd l d).f3 n).length < 64)
    (hf : (nd l k).f0 = 1 → ups (cutT l d n) k + 1 ≤ 200) (hu : (nd l k).f0 = 2 → ups (cutT l d n) k = 0) : Pr (putT l d n k) := by
  have hdl := Pr.lt_of_dir hd
  have hc := h.cut hd n
  refine ⟨h.wf.put hd n h1 hk, ?_, fun j hj => ?_, fun j e he => ?_, fun j => ?_, fun j => ?_, fun j hj => ?_, fun j hj => ?_, fun j hj => ?_⟩
  · unfold putT; rw [setE_len]; exact h.le
  · unfold putT at hj ⊢; rw [setE_len] at hj; rw [setE_f0]; exact h.kind j hj
  · unfold putT at he
    rw [setE_f3 hdl] at he
    split at he
    · rcases (mem_put (h.wf.srt d)).1 he with rfl | he
      · exact hn
      · exact h.names d e he.1
    · exact h.names j e he
  · unfold putT
    rw [setE_f3 hdl]
    split
    · rw [(put_cut n (k : Int) (h.wf.srt d)).length_eq, List.length_cons]; omega
    · exact h.ents j
  · unfold putT; rw [setE_f2]; exact h.size j
  · unfold putT at hj ⊢; rw [setE_f0] at hj; rw [setE_f2]; exact h.ddata j hj
  · rw [ups_put (h.wf.srt d) hdl]
    unfold putT at hj; rw [setE_f0] at hj
    have h2 := hc.links j (by unfold cutT; rw [setE_f0]; exact hj)
    split
    · rename_i e; subst e; exact hf hj
    · exact h2
  · rw [ups_put (h.wf.srt d) hdl]
    unfold putT at hj; rw [setE_f0] at hj
    have h2 := hc.up j (by unfold cutT; rw [setE_f0]; exact hj)
    split
    · rename_i e; subst e; rw [hu hj]; omega
    · exact h2
end
/-! ### A node more -/
section
variable {l : List S58}
theorem nd_app (l : List S58) (x : S58) (k : Nat) : nd (l ++ [x]) k = if k = l.length then x else nd l k := by
  rcases Nat.lt_trichotomy k l.length with h | h | h
  · rw [if_neg (by omega), nd_get h, nd_get (by rw [List.length_append]; omega), List.getElem_append_left h]
  · subst h; rw [if_pos rfl, nd_get (by simp)]; simp
  · rw [if_neg (by omega), nd_out (l := l ++ [x]) (by rw [List.length_append, List.length_singleton]; omega), nd_out (by omega)]
theorem ups_app (l : List S58) (kd : Int) (k : Nat) : ups (l ++ [⟨kd, 0, [], []⟩]) k = ups l k := by
  unfold ups
  rw [List.map_append, List.sum_append]
  simp
theorem Wf.app (h : Wf l) (kd : Int) : Wf (l ++ [⟨kd, 0, [], []⟩]) := by
  refine ⟨by simp, ?_, fun k hk => ?_, fun k => ?_, fun k e he => ?_⟩
  · rw [nd_app, if_neg (by have := h.pos; omega)]; exact h.root
  · rw [nd_app] at hk ⊢
    split
    · rfl
    · rename_i hne; rw [if_neg hne] at hk; exact h.file k hk
  · rw [nd_app]
    split
    · exact List.Pairwise.nil
    · exact h.srt k
  · rw [nd_app] at he
    split at he
    · cases he
    · have := h.rng k e he
      rw [List.length_append]
      simp
      omega
theorem Pr.app (h : Pr l) {kd : Int} (hk : kd = 1 ∨ kd = 2) (hl : l.length < 56) : Pr (l ++ [⟨kd, 0, [], []⟩]) := by
  have hu0 : ups l l.length = 0 := by
    rw [ups_eq]
    rcases Nat.eq_zero_or_pos ((List.range l.length).map (fun x => cnt l x l.length)).sum with h1 | h1
    · exact h1
    · exfalso
      have h2 : ∀ m : List Nat, (∀ x ∈ m, cnt l x l.length = 0) → (m.map (fun x => cnt l x l.length)).sum = 0 := by
        intro m
        induction m with
        | nil => intro _; rfl
        | cons x m ih =>
          intro hm
          rw [List.map_cons, List.sum_cons, hm x List.mem_cons_self, ih (fun y hy => hm y (List.mem_cons_of_mem _ hy))]
      have h3 := h2 (List.range l.length) (fun x _ => by
        unfold cnt
        rw [List.countP_eq_zero]
        intro e he
        have := (h.wf.ino_lt he).1
        simp
        omega)
      omega
  refine ⟨h.wf.app kd, by simp; omega, fun k hk' => ?_, fun k e he => ?_, fun k => ?_, fun k => ?_, fun k hk' => ?_, fun k hk' => ?_, fun k hk' => ?_⟩
  · rw [nd_app]
    split
    · exact hk
    · exact h.kind k (by simp at hk'; omega)
  · rw [nd_app] at he
    split at he
    · cases he
    · exact h.names k e he
  · rw [nd_app]
    split
    · simp
    · exact h.ents k
  · rw [nd_app]
    split
    · simp
    · exact h.size k
  · rw [nd_app] at hk' ⊢
    split
    · rfl
    · rename_i hne; rw [if_neg hne] at hk'; exact h.ddata k hk'
  · rw [ups_app]
    rw [nd_app] at hk'
    split at hk'
    · rename_i e; rw [e, hu0]; omega
    · exact h.links k hk'
  · rw [ups_app]
    rw [nd_app] at hk'
    split at hk'
    · rename_i e; rw [e, hu0]; omega
    · exact h.up k hk'
end
/-! ### A file's bytes are set -/
def setD (l : List S58) (k : Nat) (b : List Int) : List S58 := l.set k ⟨(nd l k).f0, (nd l k).f1, b, (nd l k).f3⟩
section
variable {l : List S58} {d : Nat} {b : List Int}
theorem setD_len : (setD l d b).length = l.length := by simp [setD]
theorem nd_setD_same (h : d < l.length) : nd (setD l d b) d = ⟨(nd l d).f0, (nd l d).f1, b, (nd l d).f3⟩ := by
  rw [nd_get (by rw [setD_len]; exact h)]
  simp [setD]
theorem nd_setD_ne {k : Nat} (h : k ≠ d) : nd (setD l d b) k = nd l k := by
  rcases Nat.lt_or_ge k l.length with hk | hk
  · rw [nd_get (by rw [setD_len]; exact hk), nd_get hk]
    simp [setD, Ne.symm h]
  · rw [nd_out hk, nd_out (by rw [setD_len]; exact hk)]
theorem setD_keep (hd : d < l.length) (k : Nat) : (nd (setD l d b) k).f0 = (nd l k).f0 ∧ (nd (setD l d b) k).f1 = (nd l k).f1 ∧ (nd (setD l d b) k).f3 = (nd l k).f3 := by
  by_cases h : k = d
  · subst h; rw [nd_setD_same hd]; exact ⟨rfl, rfl, rfl⟩
  · rw [nd_setD_ne h]; exact ⟨rfl, rfl, rfl⟩
theorem Rt.setD (h : Rt l) (hd : d < l.length) (hk2 : (nd l d).f0 ≠ 2) (hb : b.length ≤ 46368) : Rt (Go.Proofs.YtllfjmmdackgdaaDoor.PZ.setD l d b) := by
  have hkp := fun k => setD_keep (l := l) (d := d) (b := b) hd k
  have hch : chl (Go.Proofs.YtllfjmmdackgdaaDoor.PZ.setD l d b) = chl l := by funext k; unfold chl; rw [(hkp k).2.2]
  have hu : ∀ k, ups (Go.Proofs.YtllfjmmdackgdaaDoor.PZ.setD l d b) k = ups l k := fun k => by
    rw [ups_eq, ups_eq, setD_len]
    exact sum_congr fun x _ => by unfold cnt; rw [(hkp x).2.2]
  have hw := h.pr.wf
  refine ⟨⟨⟨by rw [setD_len]; exact hw.pos, by rw [(hkp 0).1]; exact hw.root, fun k hk => ?_, fun k => by rw [(hkp k).2.2]; exact hw.srt k, fun k e he => ?_⟩, by rw [setD_len]; exact h.pr.le, fun k hk => ?_, fun k e he => ?_, fun k => by rw [(hkp k).2.2]; exact h.pr.ents k, fun k => ?_, fun k hk => ?_, fun k hk => ?_, fun k hk => ?_⟩, ?_, fun k hk => ?_⟩
  · rw [(hkp k).1] at hk; rw [(hkp k).2.2]; exact hw.file k hk
  · rw [(hkp k).2.2] at he; rw [setD_len]; exact hw.rng k e he
  · rw [setD_len] at hk; rw [(hkp k).1]; exact h.pr.kind k hk
  · rw [(hkp k).2.2] at he; exact h.pr.names k e he
  · by_cases e : k = d
    · subst e; rw [nd_setD_same hd]; exact hb
    · rw [nd_setD_ne e]; exact h.pr.size k
  · rw [(hkp k).1] at hk
    by_cases e : k = d
    · subst e; exact absurd hk hk2
    · rw [nd_setD_ne e]; exact h.pr.ddata k hk
  · rw [(hkp k).1] at hk; rw [hu]; exact h.pr.links k hk
  · rw [(hkp k).1] at hk; rw [hu]; exact h.pr.up k hk
  · unfold mt; rw [setD_len, hch]; exact h.ord
  · rw [setD_len] at hk
    rw [(hkp k).2.1, h.own k hk]
    exact (own_congr setD_len (fun j => (hkp j).1) (fun j => (hkp j).2.2) k).symm
theorem wk_setD (hd : d < l.length) (ns : List ByteArray) : ∀ at_, wk (setD l d b) ns at_ = wk l ns at_ := by
  induction ns with
  | nil => intro at_; rfl
  | cons n ns ih =>
    intro at_
    rw [wk, wk, (setD_keep hd at_).1, (setD_keep hd at_).2.2]
    split
    · split
      · exact ih _
      · rfl
    · rfl
end
end Go.Proofs.YtllfjmmdackgdaaDoor.PZ
end
/-! TX -/
section
namespace Go.Proofs.YtllfjmmdackgdaaDoor.PZ
open Go.RowKit Go.Proofs.YtllfjmmdackgdaaDoorW.PrintWords Go.Proofs.YtllfjmmdackgdaaDoorW.PrintLast Go.Proofs.YtllfjmmdackgdaaDoorW.PrintMore Go.Proofs.YtllfjmmdackgdaaDoor.Ord Go.Proofs.YtllfjmmdackgdaaDoor.B TD
set_option linter.unusedVariables false
set_option linter.unusedSimpArgs false
/-! ### One path leads to a directory -/
section
variable {l : List S58}
theorem nil_or_snoc {α : Type} (p : List α) : p = [] ∨ ∃ q n, p = q ++ [n] := by
  rcases List.eq_nil_or_concat p with h | ⟨q, n, h⟩
  · exact .inl h
  · exact .inr ⟨q, n, by rw [h, List.concat_eq_append]⟩
theorem wk_snoc {p : List ByteArray} {n : ByteArray} {x at_ : Nat} (h : wk l (p ++ [n]) at_ = .inl x) : ∃ y e, wk l p at_ = .inl y ∧ (nd l y).f0 = 2 ∧ look (nd l y).f3 n = some e ∧ ino e = x := by
  rw [wk_append] at h
  cases hy : wk l p at_ with
  | inr e => rw [hy] at h; cases h
  | inl y =>
    rw [hy] at h
    simp only [wk] at h
    split at h
    · split at h
      · rename_i hd _ e he
        cases h
        exact ⟨y, e, rfl, hd, he, rfl⟩
      · cases h
    · cases h
theorem wk_snoc_of {p : List ByteArray} {n : ByteArray} {y at_ : Nat} {e : S102} (h : wk l p at_ = .inl y) (hd : (nd l y).f0 = 2) (he : look (nd l y).f3 n = some e) : wk l (p ++ [n]) at_ = .inl (ino e) := by
  rw [wk_append, h]
  simp only [wk]
  rw [if_pos hd, he]
theorem two_countP {es : List S102} {p : S102 → Bool} (h : es.countP p ≤ 1) {a b : S102} (ha : a ∈ es) (hb : b ∈ es) (pa : p a = true) (pb : p b = true) : a = b := by
  induction es with
  | nil => cases ha
  | cons x r ih =>
    rw [List.countP_cons] at h
    have hz : ∀ c ∈ r, p c = true → 1 ≤ r.countP p := fun c hc pc => List.countP_pos_iff.2 ⟨c, hc, pc⟩
    rcases List.mem_cons.1 ha with e1 | h1
    · rcases List.mem_cons.1 hb with e2 | h2
      · rw [e1, e2]
      · rw [e1] at pa
        have := hz b h2 pb
        rw [if_pos pa] at h
        omega
    · rcases List.mem_cons.1 hb with e2 | h2
      · rw [e2] at pb
        have := hz a h1 pa
        rw [if_pos pb] at h
        omega
      · exact ih (by omega) h1 h2
theorem uniq (h : Pr l) : ∀ (p q : List ByteArray) (x : Nat), wk l p 0 = .inl x → wk l q 0 = .inl x → (nd l x).f0 = 2 → p = q := by
  have key : ∀ (m : Nat) (p q : List ByteArray) (x : Nat), p.length = m → wk l p 0 = .inl x → wk l q 0 = .inl x → (nd l x).f0 = 2 → p = q := by
    intro m
    induction m with
    | zero =>
      intro p q x hm hp hq hx
      obtain rfl := List.eq_nil_of_length_eq_zero hm
      cases hp
      rcases nil_or_snoc q with rfl | ⟨q', n, rfl⟩
      · rfl
      · obtain ⟨y, e, _, _, he, hi⟩ := wk_snoc hq
        have := h.wf.ino_lt (look_some he).1
        omega
    | succ m ih =>
      intro p q x hm hp hq hx
      rcases nil_or_snoc p with rfl | ⟨p', n, rfl⟩
      · simp at hm
      · obtain ⟨y, e, h1, h2, h3, h4⟩ := wk_snoc hp
        rcases nil_or_snoc q with rfl | ⟨q', n', rfl⟩
        · cases hq
          have := h.wf.ino_lt (look_some h3).1
          omega
        · obtain ⟨y', e', h1', h2', h3', h4'⟩ := wk_snoc hq
          have hu := h.up x hx
          obtain rfl := ups_one hu (look_some h3).1 h4 (look_some h3').1 h4'
          have hee : e = e' := two_countP (Nat.le_trans (cnt_le_ups l y x) hu) (look_some h3).1 (look_some h3').1 (by simpa using h4) (by simpa using h4')
          have hn : n = n' := by rw [← (look_some h3).2, ← (look_some h3').2, hee]
          have hpq := ih p' q' y (by simp at hm; exact hm) h1 h1' h2
          rw [hn, hpq]
  exact fun p q x => key p.length p q x rfl
end
/-! ### Walks over a change -/
section
variable {l l' : List S58} {d : Nat} {n : ByteArray}
/-- l' is l but for what stands under n in directory d. -/
structure But (l l' : List S58) (d : Nat) (n : ByteArray) : Prop where
  kind : ∀ k, (nd l' k).f0 = (nd l k).f0
  look : ∀ k m, k ≠ d ∨ m ≠ n → Go.Proofs.YtllfjmmdackgdaaDoor.PZ.look (nd l' k).f3 m = Go.Proofs.YtllfjmmdackgdaaDoor.PZ.look (nd l k).f3 m
theorem But.wk (h : But l l' d n) : ∀ (ns : List ByteArray) (at_ x : Nat), Go.Proofs.YtllfjmmdackgdaaDoor.PZ.wk l ns at_ = .inl x → (∀ p1 p2, ns = p1 ++ n :: p2 → Go.Proofs.YtllfjmmdackgdaaDoor.PZ.wk l p1 at_ ≠ .inl d) → Go.Proofs.YtllfjmmdackgdaaDoor.PZ.wk l' ns at_ = .inl x := by
  intro ns
  induction ns with
  | nil => intro at_ x hx _; exact hx
  | cons m ns ih =>
    intro at_ x hx hav
    rw [Go.Proofs.YtllfjmmdackgdaaDoor.PZ.wk] at hx ⊢
    rw [h.kind]
    split at hx
    · rename_i hd
      rw [if_pos hd]
      have hne : at_ ≠ d ∨ m ≠ n := by
        by_cases e : m = n
        · subst e
          exact .inl fun e => hav [] ns rfl (by rw [e]; rfl)
        · exact .inr e
      rw [h.look _ _ hne]
      split at hx
      · rename_i e he
        refine ih _ _ hx fun p1 p2 hp hw => hav (m :: p1) p2 (by rw [hp]; rfl) ?_
        rw [Go.Proofs.YtllfjmmdackgdaaDoor.PZ.wk, if_pos hd, he]
        exact hw
      · cases hx
    · cases hx
theorem but_cut (hs : Srt (nd l d).f3) (hd : d < l.length) (n : ByteArray) : But l (cutT l d n) d n :=
  ⟨fun k => setE_f0 k, fun k m h => by
    unfold cutT
    rw [setE_f3 hd]
    split
    · rename_i e; subst e
      exact look_cut_ne hs (h.resolve_left (fun h => h rfl))
    · rfl⟩
theorem but_put (hs : Srt (nd l d).f3) (hd : d < l.length) (n : ByteArray) (k : Nat) : But l (putT l d n k) d n :=
  ⟨fun k => setE_f0 k, fun j m h => by
    unfold putT
    rw [setE_f3 hd]
    split
    · rename_i e; subst e
      exact look_put_ne hs _ (h.resolve_left (fun h => h rfl))
    · rfl⟩
theorem wk_put_at (hs : Srt (nd l d).f3) (hd : (nd l d).f0 = 2) (n : ByteArray) (k : Nat) {p : List ByteArray} (h : wk (putT l d n k) p 0 = .inl d) : wk (putT l d n k) (p ++ [n]) 0 = .inl k := by
  have hdl := Pr.lt_of_dir hd
  have h2 := wk_snoc_of (e := ⟨n, (k : Int)⟩) h (by unfold putT; rw [setE_f0]; exact hd) (by unfold putT; rw [nd_setE_same hdl]; exact look_put_same hs n _)
  rw [h2]; simp [ino]
/-- Where nothing stood, what is put there is in no walk's way. -/
theorem wk_put_keep (hs : Srt (nd l d).f3) (hd : d < l.length) {n : ByteArray} (hn : look (nd l d).f3 n = none) (k : Nat) {ns : List ByteArray} {x : Nat} (h : wk l ns 0 = .inl x) : wk (putT l d n k) ns 0 = .inl x := by
  refine (but_put hs hd n k).wk ns 0 x h fun p1 p2 hp hw => ?_
  rw [hp, wk_append, hw] at h
  simp only [wk] at h
  split at h
  · rw [hn] at h; cases h
  · cases h
/-! ### Links after numbering -/
theorem ups_num_eq (h : Wf l) {k : Nat} (hk : k ∈ mt l) (hall : ∀ x, x < l.length → cnt l x k ≠ 0 → x ∈ mt l) : ups (num l) (pl l k) = ups l k := by
  rw [ups_num h hk]
  refine Nat.le_antisymm ?_ ?_
  · rw [ups_eq]; exact sum_sub (g := fun x => cnt l x k) (mt_nodup l) (fun x hx => List.mem_range.2 (mt_lt hx))
  · rw [ups_eq]
    have h1 : ∀ m : List Nat, (m.map (fun x => cnt l x k)).sum = ((m.filter (fun x => cnt l x k != 0)).map (fun x => cnt l x k)).sum := by
      intro m
      induction m with
      | nil => rfl
      | cons x m ih =>
        rw [List.map_cons, List.sum_cons, ih, List.filter_cons]
        by_cases e : cnt l x k = 0
        · rw [if_neg (by simp [e]), e]; omega
        · rw [if_pos (by simp [e]), List.map_cons, List.sum_cons]
    rw [h1]
    refine sum_sub (g := fun x => cnt l x k) (List.nodup_range.sublist List.filter_sublist) fun x hx => ?_
    obtain ⟨h2, h3⟩ := List.mem_filter.1 hx
    exact hall x (List.mem_range.1 h2) (by simpa using h3)
theorem own_num (h : Wf l) {k : Nat} (hk : k ∈ mt l) (hall : (nd l k).f0 ≠ 2 → ∀ x, x < l.length → cnt l x k ≠ 0 → x ∈ mt l) : own (num l) (pl l k) = own l k := by
  unfold own
  rw [(iso_num h).kind k hk, dirs_num h hk]
  split
  · rfl
  · rename_i hne
    rw [ups_num_eq h hk (hall hne)]
theorem f1_num {k : Nat} (hk : k ∈ mt l) : (nd (num l) (pl l k)).f1 = own (num l) (pl l k) := by
  have h1 : pl l k < (renum l).length := by rw [renum_len]; exact pl_lt hk
  unfold num
  rw [(nd_relink (renum l) _).2.2.2 h1, own_relink]
theorem Rt.full (h : Rt l) {k : Nat} (hk : k < l.length) : k ∈ mt l := by rw [h.ord]; exact List.mem_range.2 hk
end
/-! ### Cuts under other numbers -/
section
variable {f : Nat → Nat} {l l' : List S58}
theorem cut_putT {d : Nat} (h : Srt (nd l d).f3) (hd : d < l.length) (n : ByteArray) (k : Nat) : cutT (putT l d n k) d n = cutT l d n := by
  unfold cutT putT
  rw [setE_setE hd, nd_setE_same hd, cut_put_same h]
theorem cutT_none {d : Nat} (hd : d < l.length) {n : ByteArray} (hn : look (nd l d).f3 n = none) : cutT l d n = l := setE_self hd (cut_none hn)
end
end Go.Proofs.YtllfjmmdackgdaaDoor.PZ
end
/-! TY -/
section
namespace Go.Proofs.YtllfjmmdackgdaaDoor.PZ
open Go.RowKit Go.Proofs.YtllfjmmdackgdaaDoorW.PrintWords Go.Proofs.YtllfjmmdackgdaaDoorW.PrintLast Go.Proofs.YtllfjmmdackgdaaDoorW.PrintMore Go.Proofs.YtllfjmmdackgdaaDoor.Ord Go.Proofs.YtllfjmmdackgdaaDoor.B TD
set_option linter.unusedVariables false
set_option linter.unusedSimpArgs false
/-- A move from name fn of directory ad to name tn of directory bd, of node k, as the operation lets it happen. -/
structure Mv (l : List S58) (fp tp : List ByteArray) (fn tn : ByteArray) (ad bd k : Nat) : Prop where
  rt : Rt l
  hf : wk l fp 0 = .inl ad
  ha : (nd l ad).f0 = 2
  hk : ∃ e, look (nd l ad).f3 fn = some e ∧ ino e = k
  ht : wk l tp 0 = .inl bd
  hb : (nd l bd).f0 = 2
  nm : nameB tn = true
  old : ∀ e, look (nd l bd).f3 tn = some e → ino e ≠ k ∧ ((nd l k).f0 = 2 ↔ (nd l (ino e)).f0 = 2) ∧ (nd l (ino e)).f3 = []
  room : look (nd l bd).f3 tn = none → ad = bd ∨ (nd l bd).f3.length < 64
  notin : (nd l k).f0 = 2 → ¬ (fp ++ [fn]) <+: (tp ++ [tn])
def mvT (l : List S58) (fn tn : ByteArray) (ad bd k : Nat) : List S58 := putT (cutT l ad fn) bd tn k
section
variable {l : List S58} {fp tp : List ByteArray} {fn tn : ByteArray} {ad bd k : Nat}
theorem Mv.wkf (h : Mv l fp tp fn tn ad bd k) : wk l (fp ++ [fn]) 0 = .inl k := by
  obtain ⟨e, he, rfl⟩ := h.hk
  exact wk_snoc_of h.hf h.ha he
theorem Mv.adl (h : Mv l fp tp fn tn ad bd k) : ad < l.length := Pr.lt_of_dir h.ha
theorem Mv.kl (h : Mv l fp tp fn tn ad bd k) : k < l.length ∧ 1 ≤ k := by
  obtain ⟨e, he, rfl⟩ := h.hk
  have := h.rt.pr.wf.ino_lt (look_some he).1
  exact ⟨this.1, this.2.1⟩
/-- Both names are not one. -/
theorem Mv.apart (h : Mv l fp tp fn tn ad bd k) : ad ≠ bd ∨ fn ≠ tn := by
  by_cases e : ad = bd
  · refine .inr fun e2 => ?_
    obtain ⟨x, hx, hi⟩ := h.hk
    rw [e, e2] at hx
    exact (h.old x hx).1 hi
  · exact .inl e
/-- The way to the new place leads not over the old one. -/
theorem Mv.tp_free (h : Mv l fp tp fn tn ad bd k) : ∀ p1 p2, tp = p1 ++ fn :: p2 → wk l p1 0 ≠ .inl ad := by
  intro p1 p2 hp hw
  have h1 := uniq h.rt.pr p1 fp ad hw h.hf h.ha
  subst h1
  have h2 := h.ht
  have e : tp = (p1 ++ [fn]) ++ p2 := by rw [hp]; simp
  rw [e, wk_append, h.wkf] at h2
  by_cases hd : (nd l k).f0 = 2
  · exact h.notin hd ⟨p2 ++ [tn], by rw [e]; simp⟩
  · cases p2 with
    | nil =>
      simp only [wk] at h2
      cases h2
      exact hd h.hb
    | cons q p2 =>
      simp only [wk] at h2
      rw [if_neg hd] at h2
      cases h2
theorem Mv.wk0 (h : Mv l fp tp fn tn ad bd k) : wk (cutT l ad fn) tp 0 = .inl bd :=
  (but_cut (h.rt.pr.wf.srt ad) h.adl fn).wk tp 0 bd h.ht h.tp_free
theorem Mv.pr0 (h : Mv l fp tp fn tn ad bd k) : Pr (cutT l ad fn) := h.rt.pr.cut h.ha fn
theorem Mv.hb0 (h : Mv l fp tp fn tn ad bd k) : (nd (cutT l ad fn) bd).f0 = 2 := by unfold cutT; rw [setE_f0]; exact h.hb
theorem Mv.wkt (h : Mv l fp tp fn tn ad bd k) : wk (mvT l fn tn ad bd k) (tp ++ [tn]) 0 = .inl k := by
  have hb0 := h.hb0
  refine wk_put_at (h.pr0.wf.srt bd) hb0 tn k ?_
  refine (but_put (h.pr0.wf.srt bd) (Pr.lt_of_dir hb0) tn k).wk tp 0 bd h.wk0 fun p1 p2 hp hw => ?_
  have h1 := uniq h.pr0 p1 tp bd hw h.wk0 hb0
  rw [h1] at hp
  have := congrArg List.length hp
  simp at this
/-- What stands at the new name before it is put there, the old one being cut. -/
theorem Mv.look0 (h : Mv l fp tp fn tn ad bd k) : look (nd (cutT l ad fn) bd).f3 tn = look (nd l bd).f3 tn :=
  (but_cut (h.rt.pr.wf.srt ad) h.adl fn).look bd tn (h.apart.elim (fun e => .inl (Ne.symm e)) (fun e => .inr (Ne.symm e)))
theorem Mv.wkgone (h : Mv l fp tp fn tn ad bd k) : wk (mvT l fn tn ad bd k) (fp ++ [fn]) 0 = .inr 21 := by
  have hb0 := h.hb0
  have hbl0 := Pr.lt_of_dir hb0
  have h0 : wk (cutT l ad fn) fp 0 = .inl ad := (but_cut (h.rt.pr.wf.srt ad) h.adl fn).wk fp 0 ad h.hf fun p1 p2 hp hw => by
    have h1 := uniq h.rt.pr p1 fp ad hw h.hf h.ha
    rw [h1] at hp
    have := congrArg List.length hp
    simp at this
  have h1 : wk (mvT l fn tn ad bd k) fp 0 = .inl ad := by
    refine (but_put (h.pr0.wf.srt bd) hbl0 tn k).wk fp 0 ad h0 fun p1 p2 hp hw => ?_
    rw [hp, wk_append, hw] at h0
    simp only [wk] at h0
    rw [if_pos hb0, h.look0] at h0
    cases hl : look (nd l bd).f3 tn with
    | none => rw [hl] at h0; cases h0
    | some e =>
      rw [hl] at h0
      simp only at h0
      have hemp := (h.old e hl).2.2
      have hemp0 : (nd (cutT l ad fn) (ino e)).f3 = [] := by
        unfold cutT
        rw [setE_f3 h.adl]
        split
        · rename_i e2; rw [← e2, hemp]; rfl
        · exact hemp
      cases p2 with
      | nil =>
        simp only [wk] at h0
        cases h0
        obtain ⟨x, hx, _⟩ := h.hk
        have := (look_some hx).1
        rw [hemp] at this
        cases this
      | cons q p2 =>
        simp only [wk] at h0
        rw [hemp0] at h0
        split at h0
        · cases h0
        · cases h0
  rw [wk_append, h1]
  simp only [wk]
  have hkd : (nd (mvT l fn tn ad bd k) ad).f0 = 2 := by unfold mvT putT cutT; rw [setE_f0, setE_f0]; exact h.ha
  rw [if_pos hkd]
  have hl : look (nd (mvT l fn tn ad bd k) ad).f3 fn = none := by
    have h2 := (but_put (h.pr0.wf.srt bd) hbl0 tn k).look ad fn (h.apart)
    unfold mvT
    rw [h2]
    unfold cutT
    rw [nd_setE_same h.adl]
    exact look_cut_same _ _
  rw [hl]
theorem Mv.ups (h : Mv l fp tp fn tn ad bd k) (j : Nat) : Go.Proofs.YtllfjmmdackgdaaDoor.PZ.ups (mvT l fn tn ad bd k) j + (match look (nd l bd).f3 tn with | some e => (if ino e = j then 1 else 0) | none => 0) = Go.Proofs.YtllfjmmdackgdaaDoor.PZ.ups l j := by
  obtain ⟨e, he, hi⟩ := h.hk
  have h1 := ups_cut (h.rt.pr.wf.srt ad) h.adl he j
  have h2 := ups_put (h.pr0.wf.srt bd) (Pr.lt_of_dir h.hb0) tn k j
  rw [hi] at h1
  unfold mvT
  have hbl0 := Pr.lt_of_dir h.hb0
  cases hl : look (nd l bd).f3 tn with
  | none =>
    have h3 : cutT (cutT l ad fn) bd tn = cutT l ad fn := cutT_none hbl0 (h.look0.trans hl)
    rw [h3] at h2
    simp only
    omega
  | some x =>
    have h3 := ups_cut (h.pr0.wf.srt bd) hbl0 (h.look0.trans hl) j
    simp only
    omega
theorem Mv.pr (h : Mv l fp tp fn tn ad bd k) : Pr (mvT l fn tn ad bd k) := by
  obtain ⟨e, he, hi⟩ := h.hk
  obtain ⟨hkl, hk1⟩ := h.kl
  have hbl0 := Pr.lt_of_dir h.hb0
  have hu := h.ups k
  have h2 := ups_put (h.pr0.wf.srt bd) hbl0 tn k k
  rw [if_pos rfl] at h2
  have hle : Go.Proofs.YtllfjmmdackgdaaDoor.PZ.ups (mvT l fn tn ad bd k) k ≤ Go.Proofs.YtllfjmmdackgdaaDoor.PZ.ups l k := by omega
  unfold mvT at hle ⊢
  refine h.pr0.put h.hb0 h.nm hk1 (by unfold cutT; rw [setE_len]; exact hkl) ?_ (fun hf => ?_) (fun hd => ?_)
  · cases hl : look (nd l bd).f3 tn with
    | some x =>
      have h3 := (cut_split (h.pr0.wf.srt bd) (h.look0.trans hl)).length_eq
      have h4 := h.pr0.ents bd
      rw [List.length_cons] at h3
      omega
    | none =>
      rw [cut_none (h.look0.trans hl)]
      by_cases e2 : ad = bd
      · subst e2
        unfold cutT
        rw [nd_setE_same h.adl]
        have h3 := (cut_split (h.rt.pr.wf.srt ad) he).length_eq
        have h4 := h.rt.pr.ents ad
        rw [List.length_cons] at h3
        show (cutL (nd l ad).f3 fn).length < 64
        omega
      · have h3 := (h.room hl).resolve_left e2
        unfold cutT
        rw [nd_setE_ne (Ne.symm e2)]
        exact h3
  · unfold cutT at hf; rw [setE_f0] at hf
    have := h.rt.pr.links k hf
    omega
  · unfold cutT at hd; rw [setE_f0] at hd
    have := h.rt.pr.up k hd
    omega
theorem Mv.kne (h : Mv l fp tp fn tn ad bd k) (hd : (nd l k).f0 = 2) : k ≠ ad ∧ k ≠ bd := by
  constructor
  · intro e
    have h1 := h.wkf
    rw [e] at h1
    have h2 := uniq h.rt.pr (fp ++ [fn]) fp ad h1 h.hf h.ha
    have := congrArg List.length h2
    simp at this
  · intro e
    have h1 := h.wkf
    rw [e] at h1
    have h2 := uniq h.rt.pr (fp ++ [fn]) tp bd h1 h.ht h.hb
    exact h.notin hd ⟨[tn], by rw [h2]⟩
theorem Mv.kf0 (j : Nat) : (nd (mvT l fn tn ad bd k) j).f0 = (nd l j).f0 := by unfold mvT putT cutT; rw [setE_f0, setE_f0]
theorem Mv.kf2 (j : Nat) : (nd (mvT l fn tn ad bd k) j).f2 = (nd l j).f2 := by unfold mvT putT cutT; rw [setE_f2, setE_f2]
theorem Mv.len : (mvT l fn tn ad bd k).length = l.length := by unfold mvT putT cutT; rw [setE_len, setE_len]
theorem Mv.kf3 (h : Mv l fp tp fn tn ad bd k) : (nd (mvT l fn tn ad bd k) k).f3 = (nd l k).f3 := by
  by_cases hd : (nd l k).f0 = 2
  · obtain ⟨h1, h2⟩ := h.kne hd
    unfold mvT putT cutT
    rw [nd_setE_ne h2, nd_setE_ne h1]
  · rw [h.rt.pr.wf.file k hd, h.pr.wf.file k (by rw [Mv.kf0]; exact hd)]
theorem Mv.met (h : Mv l fp tp fn tn ad bd k) : k ∈ mt (mvT l fn tn ad bd k) := wk_met h.pr.wf h.pr.wf.zero h.wkt
theorem Mv.own (h : Mv l fp tp fn tn ad bd k) : Go.Proofs.YtllfjmmdackgdaaDoor.PZ.own (num (mvT l fn tn ad bd k)) (pl (mvT l fn tn ad bd k) k) = Go.Proofs.YtllfjmmdackgdaaDoor.PZ.own l k := by
  have hbl0 := Pr.lt_of_dir h.hb0
  rw [own_num h.pr.wf h.met ?_]
  · unfold Go.Proofs.YtllfjmmdackgdaaDoor.PZ.own
    rw [Mv.kf0, h.kf3]
    have e1 : dirs (mvT l fn tn ad bd k) (nd l k).f3 = dirs l (nd l k).f3 := by
      unfold dirs
      exact List.countP_congr fun e _ => by rw [Mv.kf0]
    rw [e1]
    split
    · rfl
    · have hu := h.ups k
      cases hl : look (nd l bd).f3 tn with
      | none => rw [hl] at hu; simp only at hu; omega
      | some x =>
        rw [hl] at hu
        simp only at hu
        rw [if_neg (h.old x hl).1] at hu
        omega
  · intro hf x hx hc
    rw [Mv.kf0] at hf
    -- a directory that leads to k is a directory of l, and its way is free
    have hxd : (nd l x).f0 = 2 := by
      rcases Classical.em ((nd l x).f0 = 2) with h1 | h1
      · exact h1
      · exfalso
        apply hc
        unfold cnt
        rw [h.pr.wf.file x (by rw [Mv.kf0]; exact h1)]
        rfl
    rw [Mv.len] at hx
    obtain ⟨p, hp⟩ := met_wk h.rt.pr.wf (h.rt.full hx)
    have h0 : wk (cutT l ad fn) p 0 = .inl x := (but_cut (h.rt.pr.wf.srt ad) h.adl fn).wk p 0 x hp fun p1 p2 e hw => by
      have h1 := uniq h.rt.pr p1 fp ad hw h.hf h.ha
      subst h1
      have e2 : p = (p1 ++ [fn]) ++ p2 := by rw [e]; simp
      rw [e2, wk_append, h.wkf] at hp
      cases p2 with
      | nil => simp only [wk] at hp; cases hp; exact hf hxd
      | cons q p2 =>
        simp only [wk] at hp
        rw [if_neg hf] at hp
        cases hp
    have h1 : wk (mvT l fn tn ad bd k) p 0 = .inl x := by
      refine (but_put (h.pr0.wf.srt bd) hbl0 tn k).wk p 0 x h0 fun p1 p2 e hw => ?_
      rw [e, wk_append, hw] at h0
      simp only [wk] at h0
      rw [if_pos h.hb0, h.look0] at h0
      cases hl : look (nd l bd).f3 tn with
      | none => rw [hl] at h0; cases h0
      | some e =>
        rw [hl] at h0
        simp only at h0
        have hnf : ¬ (nd l (ino e)).f0 = 2 := fun e2 => hf ((h.old e hl).2.1.2 e2)
        cases p2 with
        | nil => simp only [wk] at h0; cases h0; exact hnf hxd
        | cons q p2 =>
          simp only [wk] at h0
          rw [if_neg (by unfold cutT; rw [setE_f0]; exact hnf)] at h0
          cases h0
    exact wk_met h.pr.wf h.pr.wf.zero h1
end
end Go.Proofs.YtllfjmmdackgdaaDoor.PZ
end
/-! GNeed -/
section
namespace Go.Proofs.YtllfjmmdackgdaaDoor.PZ
open Go.RowKit Go.Proofs.YtllfjmmdackgdaaDoorW.PrintWords Go.Proofs.YtllfjmmdackgdaaDoorW.PrintLast Go.Proofs.YtllfjmmdackgdaaDoorW.PrintMore
set_option maxRecDepth 100000
set_option linter.unusedVariables false
set_option linter.unusedSimpArgs false
/-- The panic of a number. -/
def wrong (e : Int) : List PanicEntry := [{ v := .iface 24 (.int .i64 e), recovered := false }]
theorem need_ok (e : Int) (w : World) : Calls Tryd.prog 81 #[.bool true, .int .i64 e] w fun en w' => en = .returned (.tuple #[]) ∧ w' = w := by
  go_enter Tryd.func81, Tryd.ntmps81
  go_wp2
  go_end0
  exact ⟨rfl, rfl⟩
theorem need_bad (e : Int) (w : World) : Calls Tryd.prog 81 #[.bool false, .int .i64 e] w fun en w' => en = .panicked (wrong e) ∧ w' = w := by
  go_enter Tryd.func81, Tryd.ntmps81
  go_wp2
  exact ⟨rfl, rfl, rfl⟩
end Go.Proofs.YtllfjmmdackgdaaDoor.PZ
end
/-! GDir -/
section
namespace Go.Proofs.YtllfjmmdackgdaaDoor.PZ
open Go.RowKit Go.Proofs.YtllfjmmdackgdaaDoorW.PrintWords Go.Proofs.YtllfjmmdackgdaaDoorW.PrintLast Go.Proofs.YtllfjmmdackgdaaDoorW.PrintMore
set_option maxRecDepth 100000
set_option linter.unusedVariables false
set_option linter.unusedSimpArgs false
/-- A worker lies in block b: its nodes, its operation, its answer so far. -/
def Wk (w : World) (b : Nat) (nodes : Value) (rest : List Value) : Prop := w.heap[b]? = some (.cells (nodes :: rest).toArray 78 (0, 0))
theorem dir_walk (b : Nat) (A : Option Addr) (cap : Nat) (l : List S58) (rest : List Value) (k : Nat) (w : World) (hk : k < l.length) (hw : Wk w b (.slice A l.length cap) rest) (hc : Kd.C k58 w A l.length l) :
    Calls Tryd.prog 82 #[.pointer (some ⟨b, 0, none⟩), .int .i64 k] w fun en w' => en = .returned (.bool ((rd_T58 l (k : Int)).f0 == 2)) ∧ w' = w := by
  have h0 : w.cell? ⟨b, 0, none⟩ = some (.slice A l.length cap) := (blk_cell hw 0).trans rfl
  obtain ⟨ad, A2, c2, A3, c3, rfl, hx0, hx1, hx2, hx3, -, -, -, -⟩ := at_T58 hc (k : Int) (by omega) (by omega)
  rw [Int.toNat_natCast] at hx0 hx1 hx2 hx3
  clear hx1 hx2 hx3
  have hkl : decide ((k : Int) < (l.length : Int)) = true := decide_eq_true (by omega)
  have HC := Aside0.mk hc
  have HW := Aside0.mk hw
  clear hc hw
  go_enter Tryd.func82, Tryd.ntmps82
  go_wp2
  go_ret
  exact ⟨rfl, rfl⟩
end Go.Proofs.YtllfjmmdackgdaaDoor.PZ
end
