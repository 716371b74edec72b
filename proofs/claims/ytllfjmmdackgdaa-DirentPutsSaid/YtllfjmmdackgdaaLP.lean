/- Plain law of DirentPuts: it answers true at all entries. -/
import Derived.Test.YtllfjmmdackgdaaLA
import Derived.Test.YtllfjmmdackgdaaLQ
import Derived.Test.YtllfjmmdackgdaaPZx9
namespace Go.Proofs.Ytllfjmmdackgdaa.PZ
open Go.RowKit Go.Proofs.YtllfjmmdackgdaaW.PrintWords Go.Proofs.YtllfjmmdackgdaaW.PrintLast Go.Proofs.YtllfjmmdackgdaaW.PrintMore Go.Proofs.Ytllfjmmdackgdaa.Ord Go.Proofs.Ytllfjmmdackgdaa.B

theorem puts_ev (l : List S24) (n : ByteArray) (v : Int) (hs : ∀ x ∈ l, x.f0.size ≤ 140737488351232) : Ev (fun k => morainelaw11_DirentPuts.f k l n v) true := by
  obtain ⟨Ka, ha⟩ := alive_ev
  obtain ⟨b, ⟨Kl, hl⟩, hlong⟩ := long_ev l (fun x hx => by have := hs x hx; omega)
  have jt : ∀ m, morainelaw11_DirentPuts.j0 (m + 1) l true n v = some true := fun m => by simp only [morainelaw11_DirentPuts.j0]; rfl
  cases b with
  | true =>
    refine ⟨Ka + Kl + 1, fun k hk => ?_⟩
    obtain ⟨m, rfl⟩ : ∃ m, k = m + 1 := ⟨k - 1, by omega⟩
    show morainelaw11_DirentPuts.f (m + 1) l n v = some true
    unfold morainelaw11_DirentPuts.f
    rw [show morainelaw11_alive.f (m + 1) = some true from ha _ (by omega), show morainelaw11_long.f (m + 1) l = some true from hl _ (by omega)]
    simp only [Option.bind_some, if_true]
    exact jt m
  | false =>
    obtain ⟨h300, _⟩ := hlong rfl
    obtain ⟨Kr, hr⟩ := rising_ev l (by omega)
    by_cases hsr : risingB l = true
    · rw [hsr] at hr
      have srt := (risingB_iff l).1 hsr
      have hpl := putL_length l n v
      have sp := put_srt n v srt
      have hcp : (cutL (putL l n v) n).length ≤ (putL l n v).length := List.length_filter_le _ _
      obtain ⟨Kp, hp⟩ := rising_ev (putL l n v) (by omega)
      rw [(risingB_iff _).2 sp] at hp
      obtain ⟨Kc, hc⟩ := rising_ev (cutL (putL l n v) n) (by omega)
      rw [(risingB_iff _).2 (cut_srt n sp)] at hc
      obtain ⟨K1, h1⟩ := same_ev (cutL l n) (by have : (cutL l n).length ≤ l.length := List.length_filter_le _ _; omega)
      refine ⟨Ka + Kl + Kr + Kp + Kc + K1 + 2, fun k hk => ?_⟩
      obtain ⟨m, rfl⟩ : ∃ m, k = m + 2 := ⟨k - 2, by omega⟩
      show morainelaw11_DirentPuts.f (m + 2) l n v = some true
      unfold morainelaw11_DirentPuts.f
      rw [show morainelaw11_alive.f (m + 2) = some true from ha _ (by omega), show morainelaw11_long.f (m + 2) l = some false from hl _ (by omega), show morainelaw11_rising.f (m + 2) l = some true from hr _ (by omega)]
      simp only [Option.bind_some, if_true]
      rw [if_neg (by simp)]
      by_cases hb : (n.size : Int) > 1000
      · rw [show decide ((n.size : Int) > 1000) = true from decide_eq_true hb]
        exact jt (m + 1)
      · rw [show decide ((n.size : Int) > 1000) = false from decide_eq_false hb]
        have hat := put_at l n v
        have hlt : fI l n < (putL l n v).length := by
          rcases Nat.lt_or_ge (fI l n) (putL l n v).length with h | h
          · exact h
          · rw [List.getElem?_eq_none h] at hat; cases hat
        have hrd : rd_T24 (putL l n v) (fI l n : Int) = ⟨n, v⟩ := by
          rw [rd_nat _ _ hlt]
          rw [List.getElem?_eq_getElem hlt] at hat
          exact Option.some.inj hat
        simp only [morainelaw11_DirentPuts.j0]
        rw [if_neg (by simp), put_eq n v srt (by omega)]
        simp only [Option.bind_some]
        rw [find_eq n sp (by omega), put_fI, put_fB]
        simp only [Option.bind_some]
        rw [if_pos trivial, if_neg (by omega), if_pos (by omega), if_pos (by omega), hrd, if_neg (by simp), show morainelaw11_rising.f (m + 1) (putL l n v) = some true from hp _ (by omega)]
        simp only [Option.bind_some]
        have hlen : (l.take (fI l n)).length + (restL l n).length + 1 = (putL l n v).length := by rw [putL_def]; simp; omega
        simp only [morainelaw11_DirentPuts.j1]
        rw [if_neg (by simp), cut_eq _ _ (by omega)]
        simp only [Option.bind_some]
        rw [find_eq n (cut_srt n sp) (by omega), cut_fB]
        simp only [Option.bind_some]
        rw [if_neg (by simp), show morainelaw11_rising.f m (cutL (putL l n v) n) = some true from hc _ (by omega)]
        simp only [Option.bind_some]
        rw [if_pos trivial, if_pos (by rw [w64 (by omega) (by omega), cut_put n v srt, List.length_append]; omega), cut_eq l n (by omega)]
        simp only [Option.bind_some]
        rw [cut_put n v srt, ← cut_self n srt, show moraineref00_SameEntries.f m (cutL l n) (cutL l n) = some true from h1 _ (by omega)]
        rfl
    · replace hsr : risingB l = false := by simpa using hsr
      rw [hsr] at hr
      refine ⟨Ka + Kl + Kr + 1, fun k hk => ?_⟩
      obtain ⟨m, rfl⟩ : ∃ m, k = m + 1 := ⟨k - 1, by omega⟩
      show morainelaw11_DirentPuts.f (m + 1) l n v = some true
      unfold morainelaw11_DirentPuts.f
      rw [show morainelaw11_alive.f (m + 1) = some true from ha _ (by omega), show morainelaw11_long.f (m + 1) l = some false from hl _ (by omega), show morainelaw11_rising.f (m + 1) l = some false from hr _ (by omega)]
      simp only [Option.bind_some, if_true]
      rw [if_neg (by simp), if_neg (by simp)]
      exact jt m
end Go.Proofs.Ytllfjmmdackgdaa.PZ
