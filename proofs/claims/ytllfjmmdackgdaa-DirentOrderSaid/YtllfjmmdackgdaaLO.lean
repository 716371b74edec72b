/- Plain law of DirentOrder: it answers true at all entries. -/
import Derived.Test.YtllfjmmdackgdaaLA
import Derived.Test.YtllfjmmdackgdaaLQ
import Derived.Test.YtllfjmmdackgdaaPZx10
namespace Go.Proofs.Ytllfjmmdackgdaa.PZ
open Go.RowKit Go.Proofs.YtllfjmmdackgdaaW.PrintWords Go.Proofs.YtllfjmmdackgdaaW.PrintLast Go.Proofs.YtllfjmmdackgdaaW.PrintMore Go.Proofs.Ytllfjmmdackgdaa.Ord Go.Proofs.Ytllfjmmdackgdaa.B

theorem put_perm {l : List S24} {n : ByteArray} (v : Int) (h : fB l n = false) : (putL l n v).Perm (⟨n, v⟩ :: l) := by
  rw [putL_def]
  unfold restL
  rw [h, if_neg (by simp)]
  refine List.perm_middle.trans ?_
  rw [List.take_append_drop]
theorem fB_mem {l : List S24} {n : ByteArray} (h : fB l n = true) : ∃ x ∈ l, x.f0 = n := by
  obtain ⟨h1, h2⟩ := fB_lt h
  exact ⟨_, List.getElem_mem h1, h2⟩
/-- Names that are unlike. -/
def Unl (l : List S24) : Prop := l.Pairwise (fun x y => x.f0 ≠ y.f0)
theorem srt_unl {l : List S24} (h : Srt l) : Unl l := by
  refine List.Pairwise.imp (fun {a b} hab e => ?_) h
  rw [e, nlt_self] at hab
  cases hab
theorem unl_perm {a b : List S24} (h : a.Perm b) (ha : Unl a) : Unl b := h.pairwise ha (fun h e => h e.symm)
theorem srt_same {a b : List S24} (h : a.Perm b) (ha : Srt a) (hb : Srt b) : a = b := by
  refine List.Perm.eq_of_pairwise (fun x y _ _ h1 h2 => ?_) ha hb h
  have h3 : lts x.f0 x.f0 = true := less_trans h1 h2
  rw [nlt_self] at h3
  cases h3

theorem order_l1 (l a : List S24) (hl : l.length ≤ 300) (ha : Srt a) (hp : a.Perm l) : ∀ (j : Nat) (b : List S24), j ≤ l.length → Srt b → b.Perm (l.drop j) → Ev (fun k => morainelaw11_DirentOrder.l1 k l a b ((j : Int) - 1)) true := by
  have hu : Unl l := unl_perm hp (srt_unl ha)
  intro j
  induction j with
  | zero =>
    intro b _ hb hbp
    rw [List.drop_zero] at hbp
    obtain rfl : a = b := srt_same (hp.trans hbp.symm) ha hb
    have hal := hp.length_eq
    obtain ⟨K1, h1⟩ := same_ev a (by omega)
    obtain ⟨K2, h2⟩ := rising_ev a (by omega)
    rw [(risingB_iff a).2 ha] at h2
    refine ⟨K1 + K2 + 1, fun k hk => ?_⟩
    obtain ⟨m, rfl⟩ : ∃ m, k = m + 1 := ⟨k - 1, by omega⟩
    show morainelaw11_DirentOrder.l1 (m + 1) l a a (((0 : Nat) : Int) - 1) = some true
    simp only [morainelaw11_DirentOrder.l1]
    rw [if_neg (by omega), show moraineref00_SameEntries.f m a a = some true from h1 _ (by omega)]
    simp only [Option.bind_some]
    rw [if_pos trivial, show morainelaw11_rising.f m a = some true from h2 _ (by omega)]
    simp only [Option.bind_some]
    rw [if_pos trivial, hal]
    simp
  | succ j ih =>
    intro b hj hb hbp
    have hbl := hbp.length_eq
    rw [List.length_drop] at hbl
    have r2 : rd_T24 l (j : Int) = l[j] := rd_nat l j (by omega)
    have e2 : l.drop j = l[j] :: l.drop (j + 1) := List.drop_eq_getElem_cons (by omega)
    have hn : fB b l[j].f0 = false := by
      by_cases h : fB b l[j].f0 = true
      · exfalso
        obtain ⟨x, hx, hxn⟩ := fB_mem h
        have hx2 := hbp.mem_iff.1 hx
        have hu2 : Unl (l.drop j) := List.Pairwise.sublist (List.drop_sublist _ _) hu
        rw [e2] at hu2
        exact (List.pairwise_cons.1 hu2).1 x hx2 hxn.symm
      · simpa using h
    have hp2 : (putL b l[j].f0 l[j].f1).Perm (l.drop j) := by
      refine (put_perm _ hn).trans ?_
      rw [e2]
      exact List.Perm.cons _ hbp
    obtain ⟨K, hK⟩ := ih (putL b l[j].f0 l[j].f1) (by omega) (put_srt _ _ hb) hp2
    refine ⟨K + 1, fun k hk => ?_⟩
    obtain ⟨m, rfl⟩ : ∃ m, k = m + 1 := ⟨k - 1, by omega⟩
    have e3 : (((j + 1 : Nat) : Int) - 1) = (j : Int) := by omega
    show morainelaw11_DirentOrder.l1 (m + 1) l a b (((j + 1 : Nat) : Int) - 1) = some true
    rw [e3]
    simp only [morainelaw11_DirentOrder.l1]
    rw [if_pos (by omega), if_pos (by omega), if_pos (by omega), r2, put_eq _ _ hb (by omega)]
    simp only [Option.bind_some]
    rw [w64 (by omega) (by omega)]
    exact hK m (by omega)

theorem order_l0 (l : List S24) (hl : l.length ≤ 300) : ∀ (d i : Nat) (a : List S24), i ≤ l.length → l.length - i = d → Srt a → a.Perm (l.take i) → Ev (fun k => morainelaw11_DirentOrder.l0 k l a (i : Int)) true := by
  intro d
  induction d with
  | zero =>
    intro i a hi hd ha hp
    have e : l.take i = l := List.take_of_length_le (by omega)
    rw [e] at hp
    obtain ⟨K, hK⟩ := order_l1 l a hl ha hp l.length [] (Nat.le_refl _) List.Pairwise.nil (by rw [List.drop_length])
    refine ⟨K + 1, fun k hk => ?_⟩
    obtain ⟨m, rfl⟩ : ∃ m, k = m + 1 := ⟨k - 1, by omega⟩
    show morainelaw11_DirentOrder.l0 (m + 1) l a (i : Int) = some true
    simp only [morainelaw11_DirentOrder.l0]
    rw [if_neg (by omega), w64 (by omega) (by omega)]
    exact hK m (by omega)
  | succ d ih =>
    intro i a hi hd ha hp
    have hil : i < l.length := by omega
    have hal := hp.length_eq
    rw [List.length_take] at hal
    have r2 : rd_T24 l (i : Int) = l[i] := rd_nat l i hil
    by_cases hb : fB a l[i].f0 = true
    · refine ⟨1, fun k hk => ?_⟩
      obtain ⟨m, rfl⟩ : ∃ m, k = m + 1 := ⟨k - 1, by omega⟩
      show morainelaw11_DirentOrder.l0 (m + 1) l a (i : Int) = some true
      simp only [morainelaw11_DirentOrder.l0]
      rw [if_pos (by omega), if_pos (by omega), r2, find_eq _ ha (by omega)]
      simp only [Option.bind_some]
      rw [if_pos hb]
    · have hb0 : fB a l[i].f0 = false := by simpa using hb
      have hp2 : (putL a l[i].f0 l[i].f1).Perm (l.take (i + 1)) := by
        refine (put_perm _ hb0).trans ?_
        rw [← List.take_append_getElem hil]
        exact (List.Perm.cons _ hp).trans (List.perm_append_singleton _ _).symm
      obtain ⟨K, hK⟩ := ih (i + 1) (putL a l[i].f0 l[i].f1) (by omega) (by omega) (put_srt _ _ ha) hp2
      refine ⟨K + 1, fun k hk => ?_⟩
      obtain ⟨m, rfl⟩ : ∃ m, k = m + 1 := ⟨k - 1, by omega⟩
      show morainelaw11_DirentOrder.l0 (m + 1) l a (i : Int) = some true
      simp only [morainelaw11_DirentOrder.l0]
      rw [if_pos (by omega), if_pos (by omega), r2, find_eq _ ha (by omega)]
      simp only [Option.bind_some]
      rw [if_neg hb, put_eq _ _ ha (by omega)]
      simp only [Option.bind_some]
      rw [w64 (by omega) (by omega)]
      exact hK m (by omega)

theorem order_ev (l : List S24) (hs : ∀ x ∈ l, x.f0.size ≤ 140737488351232) : Ev (fun k => morainelaw11_DirentOrder.f k l) true := by
  obtain ⟨Ka, ha⟩ := alive_ev
  obtain ⟨b, ⟨Kl, hl⟩, hlong⟩ := long_ev l (fun x hx => by have := hs x hx; omega)
  have jt : ∀ m, morainelaw11_DirentOrder.j0 (m + 1) l true = some true := fun m => by simp only [morainelaw11_DirentOrder.j0]; rfl
  cases b with
  | true =>
    refine ⟨Ka + Kl + 1, fun k hk => ?_⟩
    obtain ⟨m, rfl⟩ : ∃ m, k = m + 1 := ⟨k - 1, by omega⟩
    show morainelaw11_DirentOrder.f (m + 1) l = some true
    unfold morainelaw11_DirentOrder.f
    rw [show morainelaw11_alive.f (m + 1) = some true from ha _ (by omega)]
    simp only [Option.bind_some]
    rw [if_pos trivial, show morainelaw11_long.f (m + 1) l = some true from hl _ (by omega)]
    simp only [Option.bind_some]
    rw [if_pos trivial]
    exact jt m
  | false =>
    obtain ⟨h300, _⟩ := hlong rfl
    obtain ⟨K0, h0⟩ := order_l0 l (by omega) l.length 0 [] (Nat.zero_le _) (by omega) List.Pairwise.nil (by rw [List.take_zero])
    refine ⟨Ka + Kl + K0 + 2, fun k hk => ?_⟩
    obtain ⟨m, rfl⟩ : ∃ m, k = m + 2 := ⟨k - 2, by omega⟩
    show morainelaw11_DirentOrder.f (m + 2) l = some true
    unfold morainelaw11_DirentOrder.f
    rw [show morainelaw11_alive.f (m + 2) = some true from ha _ (by omega)]
    simp only [Option.bind_some]
    rw [if_pos trivial, show morainelaw11_long.f (m + 2) l = some false from hl _ (by omega)]
    simp only [Option.bind_some]
    rw [if_neg (by simp)]
    by_cases h60 : (l.length : Int) > 60
    · rw [show decide ((l.length : Int) > 60) = true from decide_eq_true h60]
      exact jt (m + 1)
    · rw [show decide ((l.length : Int) > 60) = false from decide_eq_false h60]
      simp only [morainelaw11_DirentOrder.j0]
      rw [if_neg (by simp)]
      exact h0 (m + 1) (by omega)
end Go.Proofs.Ytllfjmmdackgdaa.PZ
