/- Plain words: what Put and Cut do to entries whose names rise. -/
import Derived.Test.YtllfjmmdackgdaaL1
namespace Go.Proofs.Ytllfjmmdackgdaa.PZ
open Go.RowKit Go.Proofs.YtllfjmmdackgdaaW.PrintWords Go.Proofs.YtllfjmmdackgdaaW.PrintLast Go.Proofs.YtllfjmmdackgdaaW.PrintMore Go.Proofs.Ytllfjmmdackgdaa.Ord

theorem nlt_self (n : ByteArray) : lts n n = false := less_irrefl _
theorem ne_of_lt {a b : ByteArray} (h : lts a b = true) : (a.toList == b.toList) = false := by
  rw [beq_eq_false_iff_ne]
  intro e
  have h2 : Op.bytesLess a.toList b.toList = true := h
  rw [e, less_irrefl] at h2
  cases h2
theorem ne_of_gt {a b : ByteArray} (h : lts b a = true) : (a.toList == b.toList) = false := by
  rw [beq_eq_false_iff_ne]
  intro e
  have h2 : Op.bytesLess b.toList a.toList = true := h
  rw [e, less_irrefl] at h2
  cases h2
/-- What stands behind the place of a name, the name's own entry aside. -/
def restL (l : List S24) (n : ByteArray) : List S24 := if fB l n = true then l.drop (fI l n + 1) else l.drop (fI l n)
theorem putL_def (l : List S24) (n : ByteArray) (v : Int) : putL l n v = l.take (fI l n) ++ ⟨n, v⟩ :: restL l n := rfl
theorem front_lt (l : List S24) (n : ByteArray) : ∀ x ∈ l.take (fI l n), lts x.f0 n = true := by
  intro x hx
  obtain ⟨j, hj, rfl⟩ := List.getElem_of_mem hx
  rw [List.length_take] at hj
  obtain ⟨h1, h2⟩ := fI_lt (n := n) l j (by omega)
  rw [List.getElem_take]
  exact h2
theorem rest_gt {l : List S24} {n : ByteArray} (hs : Srt l) : ∀ x ∈ restL l n, lts n x.f0 = true := by
  intro x hx
  unfold restL at hx
  by_cases h : fB l n = true
  · rw [if_pos h] at hx
    obtain ⟨h1, h2⟩ := fB_lt h
    obtain ⟨j, hj, rfl⟩ := List.getElem_of_mem hx
    rw [List.length_drop] at hj
    rw [List.getElem_drop]
    have := hs.lt (i := fI l n) (j := fI l n + 1 + j) (by omega) (by omega)
    rw [h2] at this
    exact this
  · rw [if_neg h] at hx
    obtain ⟨j, hj, rfl⟩ := List.getElem_of_mem hx
    rw [List.length_drop] at hj
    rw [List.getElem_drop]
    have h1 := fI_ge (n := n) hs (fI l n + j) (by omega) (by omega)
    rcases less_total n.toList l[fI l n + j].f0.toList with h2 | h2 | h2
    · exact h2
    · exfalso
      by_cases e : j = 0
      · subst e
        apply h
        unfold fB
        rw [List.getElem?_eq_getElem (by omega)]
        simp only [Nat.add_zero] at h2
        simp [h2]
      · have h3 := hs.lt (i := fI l n) (j := fI l n + j) (by omega) (by omega)
        have h4 := fI_at (l := l) (n := n) (by omega)
        have h5 : lts l[fI l n].f0 n = true := by
          show Op.bytesLess _ n.toList = true
          rw [h2]; exact h3
        rw [h4] at h5
        cases h5
    · have h3 : lts l[fI l n + j].f0 n = true := h2
      rw [h1] at h3
      cases h3
theorem srt_front {l : List S24} (hs : Srt l) (i : Nat) : Srt (l.take i) := hs.sublist (List.take_sublist _ _)
theorem srt_rest {l : List S24} (n : ByteArray) (hs : Srt l) : Srt (restL l n) := by
  unfold restL
  split
  · exact hs.sublist (List.drop_sublist _ _)
  · exact hs.sublist (List.drop_sublist _ _)
theorem front_rest {l : List S24} {n : ByteArray} (hs : Srt l) : ∀ a ∈ l.take (fI l n), ∀ b ∈ restL l n, lts a.f0 b.f0 = true := fun a ha b hb => less_trans (front_lt l n a ha) (rest_gt hs b hb)
theorem put_srt {l : List S24} (n : ByteArray) (v : Int) (hs : Srt l) : Srt (putL l n v) := by
  rw [putL_def]
  unfold Srt
  rw [List.pairwise_append, List.pairwise_cons]
  refine ⟨srt_front hs _, ⟨fun b hb => rest_gt hs b hb, srt_rest n hs⟩, fun a ha b hb => ?_⟩
  rcases List.mem_cons.1 hb with rfl | hb
  · exact front_lt l n a ha
  · exact front_rest hs a ha b hb
theorem fI_append (a b : List S24) (n : ByteArray) (h : ∀ x ∈ a, lts x.f0 n = true) : fI (a ++ b) n = a.length + fI b n := by
  unfold fI
  rw [List.takeWhile_append_of_pos h, List.length_append]
theorem put_fI (l : List S24) (n : ByteArray) (v : Int) : fI (putL l n v) n = fI l n := by
  have h1 : (l.take (fI l n)).length = fI l n := by rw [List.length_take]; have := fI_le l n; omega
  rw [putL_def, fI_append _ _ _ (front_lt l n), h1, fI_cons, if_neg (by rw [nlt_self]; exact Bool.false_ne_true)]
  omega
theorem put_at (l : List S24) (n : ByteArray) (v : Int) : (putL l n v)[fI l n]? = some ⟨n, v⟩ := by
  rw [putL_def]
  have h1 : (l.take (fI l n)).length = fI l n := by rw [List.length_take]; have := fI_le l n; omega
  rw [List.getElem?_append_right (by omega), h1, Nat.sub_self]
  rfl
theorem put_fB (l : List S24) (n : ByteArray) (v : Int) : fB (putL l n v) n = true := by
  unfold fB
  rw [put_fI, put_at]
  simp
theorem cut_parts {l : List S24} {n : ByteArray} (hs : Srt l) : cutL (l.take (fI l n)) n = l.take (fI l n) ∧ cutL (restL l n) n = restL l n := by
  unfold cutL
  rw [List.filter_eq_self, List.filter_eq_self]
  exact ⟨fun x hx => by rw [ne_of_lt (front_lt l n x hx)]; rfl, fun x hx => by rw [ne_of_gt (rest_gt hs x hx)]; rfl⟩
theorem cut_append (a b : List S24) (n : ByteArray) : cutL (a ++ b) n = cutL a n ++ cutL b n := List.filter_append ..
theorem cut_put {l : List S24} (n : ByteArray) (v : Int) (hs : Srt l) : cutL (putL l n v) n = l.take (fI l n) ++ restL l n := by
  rw [putL_def, cut_append, (cut_parts hs).1]
  congr 1
  have e : (⟨n, v⟩ : S24) :: restL l n = [⟨n, v⟩] ++ restL l n := rfl
  rw [e, cut_append, (cut_parts hs).2]
  simp [cutL]
theorem cut_self {l : List S24} (n : ByteArray) (hs : Srt l) : cutL l n = l.take (fI l n) ++ restL l n := by
  have h2 := (cut_parts (n := n) hs)
  by_cases h : fB l n = true
  · obtain ⟨h1, h3⟩ := fB_lt h
    have e : l = l.take (fI l n) ++ (l[fI l n] :: restL l n) := by
      unfold restL
      rw [if_pos h, ← List.drop_eq_getElem_cons h1, List.take_append_drop]
    have e2 : l[fI l n] :: restL l n = [l[fI l n]] ++ restL l n := rfl
    conv => lhs; rw [e, e2]
    rw [cut_append, cut_append, h2.1, h2.2]
    simp [cutL, h3]
  · have e : l = l.take (fI l n) ++ restL l n := by unfold restL; rw [if_neg h, List.take_append_drop]
    conv => lhs; rw [e]
    rw [cut_append, h2.1, h2.2]
theorem cut_srt {l : List S24} (n : ByteArray) (hs : Srt l) : Srt (cutL l n) := List.Pairwise.filter _ hs
theorem cut_fB {l : List S24} (n : ByteArray) : fB (cutL l n) n = false := by
  by_cases h : fB (cutL l n) n = true
  · obtain ⟨h1, h2⟩ := fB_lt h
    have hm := List.getElem_mem h1
    unfold cutL at hm
    have := (List.mem_filter.1 hm).2
    change (!((cutL l n)[fI (cutL l n) n].f0.toList == n.toList)) = true at this
    rw [h2] at this
    simp at this
  · simpa using h

end Go.Proofs.Ytllfjmmdackgdaa.PZ
