/- Plain law of DirentLists: it answers true at all entries. -/
import Derived.Test.YtllfjmmdackgdaaLA
import Derived.Test.YtllfjmmdackgdaaPZx8
namespace Go.Proofs.Ytllfjmmdackgdaa.PZ
open Go.RowKit Go.Proofs.YtllfjmmdackgdaaW.PrintWords Go.Proofs.YtllfjmmdackgdaaW.PrintLast Go.Proofs.YtllfjmmdackgdaaW.PrintMore Go.Proofs.Ytllfjmmdackgdaa.Ord Go.Proofs.Ytllfjmmdackgdaa.B

theorem cutL_length (l : List S24) (n : ByteArray) : (cutL l n).length ≤ l.length := List.length_filter_le _ _

theorem lists_ev (l : List S24) (n : ByteArray) (v : Int) (hs : ∀ x ∈ l, x.f0.size ≤ 140737488351232) : Ev (fun k => morainelaw11_DirentLists.f k l n v) true := by
  obtain ⟨Ka, ha⟩ := alive_ev
  obtain ⟨b, ⟨Kl, hl⟩, hlong⟩ := long_ev l (fun x hx => by have := hs x hx; omega)
  have jt : ∀ m, morainelaw11_DirentLists.j0 (m + 1) l true n v = some true := fun m => by simp only [morainelaw11_DirentLists.j0]; rfl
  cases b with
  | true =>
    refine ⟨Ka + Kl + 1, fun k hk => ?_⟩
    obtain ⟨m, rfl⟩ : ∃ m, k = m + 1 := ⟨k - 1, by omega⟩
    show morainelaw11_DirentLists.f (m + 1) l n v = some true
    unfold morainelaw11_DirentLists.f
    rw [show morainelaw11_alive.f (m + 1) = some true from ha _ (by omega), show morainelaw11_long.f (m + 1) l = some true from hl _ (by omega)]
    simp only [Option.bind_some, if_true]
    exact jt m
  | false =>
    obtain ⟨h300, _⟩ := hlong rfl
    obtain ⟨Kr, hr⟩ := rising_ev l (by omega)
    by_cases hsr : risingB l = true
    · rw [hsr] at hr
      have srt := (risingB_iff l).1 hsr
      obtain ⟨Kf, hf⟩ := ref_find_ev l n (by omega)
      obtain ⟨Kp, hp⟩ := ref_put_ev l n v (by omega)
      obtain ⟨Kc, hc⟩ := ref_cut_ev l n (by omega)
      have hpl := putL_length l n v
      have hcl := cutL_length l n
      obtain ⟨K1, h1⟩ := same_ev (putL l n v) (by omega)
      obtain ⟨K2, h2⟩ := same_ev (cutL l n) (by omega)
      obtain ⟨K3, h3⟩ := same_ev l (by omega)
      refine ⟨Ka + Kl + Kr + Kf + Kp + Kc + K1 + K2 + K3 + 1, fun k hk => ?_⟩
      obtain ⟨m, rfl⟩ : ∃ m, k = m + 1 := ⟨k - 1, by omega⟩
      show morainelaw11_DirentLists.f (m + 1) l n v = some true
      unfold morainelaw11_DirentLists.f
      rw [show morainelaw11_alive.f (m + 1) = some true from ha _ (by omega), show morainelaw11_long.f (m + 1) l = some false from hl _ (by omega), show morainelaw11_rising.f (m + 1) l = some true from hr _ (by omega)]
      simp only [Option.bind_some, if_true]
      rw [if_neg (by simp)]
      by_cases hb : (n.size : Int) > 1000
      · rw [show decide ((n.size : Int) > 1000) = true from decide_eq_true hb]
        exact jt m
      · rw [show decide ((n.size : Int) > 1000) = false from decide_eq_false hb]
        simp only [morainelaw11_DirentLists.j0]
        rw [if_neg (by simp), copy_eq l (by omega)]
        simp only [Option.bind_some]
        rw [find_eq n srt (by omega), show moraineref11_Find.f m l n = some ((fI l n : Int), fB l n) from hf _ (by omega)]
        simp only [Option.bind_some]
        rw [if_pos trivial, if_pos (by simp), put_eq n v srt (by omega), show moraineref11_Put.f m l n v = some (putL l n v) from hp _ (by omega)]
        simp only [Option.bind_some]
        rw [show moraineref00_SameEntries.f m (putL l n v) (putL l n v) = some true from h1 _ (by omega)]
        simp only [Option.bind_some]
        rw [if_pos trivial, cut_eq l n (by omega), show moraineref11_Cut.f m l n = some (cutL l n) from hc _ (by omega)]
        simp only [Option.bind_some]
        rw [show moraineref00_SameEntries.f m (cutL l n) (cutL l n) = some true from h2 _ (by omega)]
        simp only [Option.bind_some]
        rw [if_pos trivial, show moraineref00_SameEntries.f m l l = some true from h3 _ (by omega)]
        rfl
    · replace hsr : risingB l = false := by simpa using hsr
      rw [hsr] at hr
      refine ⟨Ka + Kl + Kr + 1, fun k hk => ?_⟩
      obtain ⟨m, rfl⟩ : ∃ m, k = m + 1 := ⟨k - 1, by omega⟩
      show morainelaw11_DirentLists.f (m + 1) l n v = some true
      unfold morainelaw11_DirentLists.f
      rw [show morainelaw11_alive.f (m + 1) = some true from ha _ (by omega), show morainelaw11_long.f (m + 1) l = some false from hl _ (by omega), show morainelaw11_rising.f (m + 1) l = some false from hr _ (by omega)]
      simp only [Option.bind_some, if_true]
      rw [if_neg (by simp), if_neg (by simp)]
      exact jt m
end Go.Proofs.Ytllfjmmdackgdaa.PZ
