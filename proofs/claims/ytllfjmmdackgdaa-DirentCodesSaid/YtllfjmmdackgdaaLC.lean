/- Plain law of DirentCodes: it answers true at all entries and bytes. -/
import Derived.Test.YtllfjmmdackgdaaLA
import Derived.Test.YtllfjmmdackgdaaLF
import Derived.Test.YtllfjmmdackgdaaPZx10
namespace Go.Proofs.Ytllfjmmdackgdaa.PZ
open Go.RowKit Go.Proofs.YtllfjmmdackgdaaW.PrintWords Go.Proofs.YtllfjmmdackgdaaW.PrintLast Go.Proofs.YtllfjmmdackgdaaW.PrintMore Go.Proofs.Ytllfjmmdackgdaa.Ord Go.Proofs.Ytllfjmmdackgdaa.B

theorem ans_length (b : List Int) (l : List S24) (h : decP b [] = some l) (hb : Byt b) : l.length ≤ 64 := ((rightB_iff l).1 (enc_dec _ b [] l rfl hb h).1).1
theorem ansP_length (b : List Int) (hb : Byt b) : (ansP (decP b [])).1.length ≤ 64 := by
  cases h : decP b [] with
  | none => exact Nat.zero_le _
  | some l => exact ans_length b l h hb

theorem codes_ev (l : List S24) (b : List Int) (hs : ∀ x ∈ l, x.f0.size ≤ 140737488351232) (hb : Byt b) : Ev (fun k => morainelaw11_DirentCodes.f k l b) true := by
  obtain ⟨Ka, ha⟩ := alive_ev
  obtain ⟨t, ⟨Kl, hl⟩, hlong⟩ := long_ev l (fun x hx => by have := hs x hx; omega)
  have jt : ∀ m, morainelaw11_DirentCodes.j0 (m + 1) l b true = some true := fun m => by simp only [morainelaw11_DirentCodes.j0]; rfl
  cases t with
  | true =>
    refine ⟨Ka + Kl + 1, fun k hk => ?_⟩
    obtain ⟨m, rfl⟩ : ∃ m, k = m + 1 := ⟨k - 1, by omega⟩
    show morainelaw11_DirentCodes.f (m + 1) l b = some true
    unfold morainelaw11_DirentCodes.f
    rw [show morainelaw11_alive.f (m + 1) = some true from ha _ (by omega)]
    simp only [Option.bind_some]
    rw [if_pos trivial, show morainelaw11_long.f (m + 1) l = some true from hl _ (by omega)]
    simp only [Option.bind_some]
    rw [if_pos trivial]
    exact jt m
  | false =>
    obtain ⟨h300, _⟩ := hlong rfl
    by_cases h5 : (b.length : Int) > 5000
    · refine ⟨Ka + Kl + 1, fun k hk => ?_⟩
      obtain ⟨m, rfl⟩ : ∃ m, k = m + 1 := ⟨k - 1, by omega⟩
      show morainelaw11_DirentCodes.f (m + 1) l b = some true
      unfold morainelaw11_DirentCodes.f
      rw [show morainelaw11_alive.f (m + 1) = some true from ha _ (by omega)]
      simp only [Option.bind_some]
      rw [if_pos trivial, show morainelaw11_long.f (m + 1) l = some false from hl _ (by omega)]
      simp only [Option.bind_some]
      rw [if_neg (by simp), show decide ((b.length : Int) > 5000) = true from decide_eq_true h5]
      exact jt m
    · obtain ⟨K1, e1⟩ := encode_ev l
      obtain ⟨K2, e2⟩ := ref_encode_ev l
      obtain ⟨K3, e3⟩ := decode_ev b (by omega) hb
      obtain ⟨K4, e4⟩ := ref_decode_ev b (by omega) hb
      have hz := encA_length l
      have hy := ansP_length b hb
      obtain ⟨K5, e5⟩ := same_bytes_ev (encA l).1 (by omega)
      obtain ⟨K6, e6⟩ := same_ev (ansP (decP b [])).1 (by omega)
      obtain ⟨K7, e7⟩ := same_ev l (by omega)
      refine ⟨Ka + Kl + K1 + K2 + K3 + K4 + K5 + K6 + K7 + 1, fun k hk => ?_⟩
      obtain ⟨m, rfl⟩ : ∃ m, k = m + 1 := ⟨k - 1, by omega⟩
      show morainelaw11_DirentCodes.f (m + 1) l b = some true
      unfold morainelaw11_DirentCodes.f
      rw [show morainelaw11_alive.f (m + 1) = some true from ha _ (by omega)]
      simp only [Option.bind_some]
      rw [if_pos trivial, show morainelaw11_long.f (m + 1) l = some false from hl _ (by omega)]
      simp only [Option.bind_some]
      rw [if_neg (by simp), show decide ((b.length : Int) > 5000) = false from decide_eq_false h5]
      simp only [morainelaw11_DirentCodes.j0]
      rw [if_neg (by simp), copy_eq l (by omega)]
      simp only [Option.bind_some]
      rw [show dirent_Encode.f m l = some (encA l) from e1 m (by omega)]
      simp only [Option.bind_some]
      rw [show moraineref11_Encode.f m l = some (encA l) from e2 m (by omega)]
      simp only [Option.bind_some]
      rw [copy_bytes_eq b (by omega)]
      simp only [Option.bind_some]
      rw [show dirent_Decode.f m b = some (ansP (decP b [])) from e3 m (by omega)]
      simp only [Option.bind_some]
      rw [show moraineref11_Decode.f m b = some (ansP (decP b [])) from e4 m (by omega)]
      simp only [Option.bind_some]
      rw [show moraineref00_SameBytes.f m (encA l).1 (encA l).1 = some true from e5 m (by omega)]
      simp only [Option.bind_some]
      rw [if_pos trivial, if_pos (by simp), show moraineref00_SameEntries.f m (ansP (decP b [])).1 (ansP (decP b [])).1 = some true from e6 m (by omega)]
      simp only [Option.bind_some]
      rw [if_pos trivial, if_pos (by simp), show moraineref00_SameEntries.f m l l = some true from e7 m (by omega)]
      rfl
end Go.Proofs.Ytllfjmmdackgdaa.PZ
