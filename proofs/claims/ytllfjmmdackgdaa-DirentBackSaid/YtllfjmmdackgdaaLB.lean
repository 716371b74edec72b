/- Plain law of DirentBack: it answers true at all entries and bytes. -/
import Derived.Test.YtllfjmmdackgdaaLA
import Derived.Test.YtllfjmmdackgdaaLF
import Derived.Test.YtllfjmmdackgdaaPZx11
namespace Go.Proofs.Ytllfjmmdackgdaa.PZ
open Go.RowKit Go.Proofs.YtllfjmmdackgdaaW.PrintWords Go.Proofs.YtllfjmmdackgdaaW.PrintLast Go.Proofs.YtllfjmmdackgdaaW.PrintMore Go.Proofs.Ytllfjmmdackgdaa.Ord Go.Proofs.Ytllfjmmdackgdaa.B

theorem encB_bytes (l : List S24) (h : ∀ x ∈ l, okE x = true) : Byt (encB l) := by
  induction l with
  | nil => intro x hx; cases hx
  | cons y r ih =>
    obtain ⟨h1, h2, h3⟩ := (okE_iff y).1 (h y (List.mem_cons_self ..))
    have h4 := nameB_size h1
    intro x hx
    rw [encB_cons] at hx
    rcases List.mem_append.1 hx with hx | hx
    · unfold encE at hx
      rcases List.mem_cons.1 hx with rfl | hx
      · omega
      · rcases List.mem_cons.1 hx with rfl | hx
        · omega
        · rcases List.mem_cons.1 hx with rfl | hx
          · omega
          · unfold bytesOf at hx
            obtain ⟨c, _, rfl⟩ := List.mem_map.1 hx
            have := c.toNat_lt
            omega
    · exact ih (fun z hz => h z (List.mem_cons_of_mem _ hz)) x hx

theorem back_j1 (b : List Int) (hl : b.length ≤ 5000) (hb : Byt b) : Ev (fun k => morainelaw11_DirentBack.j1 k b) true := by
  obtain ⟨K3, e3⟩ := decode_ev b (by omega) hb
  cases h : decP b [] with
  | none =>
    rw [h] at e3
    refine ⟨K3 + 1, fun k hk => ?_⟩
    obtain ⟨m, rfl⟩ : ∃ m, k = m + 1 := ⟨k - 1, by omega⟩
    show morainelaw11_DirentBack.j1 (m + 1) b = some true
    simp only [morainelaw11_DirentBack.j1]
    rw [show dirent_Decode.f m b = some ([], false) from e3 m (by omega)]
    rfl
  | some o =>
    rw [h] at e3
    obtain ⟨hr, r, hor, hen⟩ := enc_dec _ b [] o rfl hb h
    rw [List.nil_append] at hor
    subst hor
    obtain ⟨h1, h2, h3⟩ := (rightB_iff o).1 hr
    obtain ⟨K1, e1⟩ := encode_ev o
    have he : encA o = (b, true) := by unfold encA; rw [if_pos hr, hen h2]
    rw [he] at e1
    obtain ⟨K5, e5⟩ := same_bytes_ev b (by omega)
    refine ⟨K1 + K3 + K5 + 1, fun k hk => ?_⟩
    obtain ⟨m, rfl⟩ : ∃ m, k = m + 1 := ⟨k - 1, by omega⟩
    show morainelaw11_DirentBack.j1 (m + 1) b = some true
    simp only [morainelaw11_DirentBack.j1]
    rw [show dirent_Decode.f m b = some (o, true) from e3 m (by omega)]
    simp only [Option.bind_some]
    rw [if_pos trivial, show dirent_Encode.f m o = some (b, true) from e1 m (by omega)]
    simp only [Option.bind_some]
    rw [if_pos trivial, show moraineref00_SameBytes.f m b b = some true from e5 m (by omega)]
    rfl

theorem back_j0 (l : List S24) (b : List Int) (h300 : l.length ≤ 300) (hl : b.length ≤ 5000) (hb : Byt b) : Ev (fun k => morainelaw11_DirentBack.j0 k l b false) true := by
  obtain ⟨Kj, ej⟩ := back_j1 b hl hb
  obtain ⟨K1, e1⟩ := encode_ev l
  unfold encA at e1
  by_cases hr : rightB l = true
  · rw [if_pos hr] at e1
    obtain ⟨h1, h2, h3⟩ := (rightB_iff l).1 hr
    have hlen := encA_length l
    unfold encA at hlen
    rw [if_pos hr] at hlen
    change (encB l).length ≤ 1000 at hlen
    obtain ⟨K3, e3⟩ := decode_ev (encB l) (by omega) (encB_bytes l h2)
    rw [dec_enc l [] h2 (by simp; omega), List.nil_append, if_pos hr] at e3
    obtain ⟨K7, e7⟩ := same_ev l (by omega)
    refine ⟨Kj + K1 + K3 + K7 + 1, fun k hk => ?_⟩
    obtain ⟨m, rfl⟩ : ∃ m, k = m + 1 := ⟨k - 1, by omega⟩
    show morainelaw11_DirentBack.j0 (m + 1) l b false = some true
    simp only [morainelaw11_DirentBack.j0]
    rw [if_neg (by simp), show dirent_Encode.f m l = some (encB l, true) from e1 m (by omega)]
    simp only [Option.bind_some]
    rw [if_pos trivial, show dirent_Decode.f m (encB l) = some (l, true) from e3 m (by omega)]
    simp only [Option.bind_some]
    rw [if_pos trivial, show moraineref00_SameEntries.f m l l = some true from e7 m (by omega)]
    simp only [Option.bind_some]
    rw [if_pos trivial]
    exact ej m (by omega)
  · rw [if_neg hr] at e1
    refine ⟨Kj + K1 + 1, fun k hk => ?_⟩
    obtain ⟨m, rfl⟩ : ∃ m, k = m + 1 := ⟨k - 1, by omega⟩
    show morainelaw11_DirentBack.j0 (m + 1) l b false = some true
    simp only [morainelaw11_DirentBack.j0]
    rw [if_neg (by simp), show dirent_Encode.f m l = some ([], false) from e1 m (by omega)]
    simp only [Option.bind_some]
    rw [if_neg (by simp)]
    exact ej m (by omega)

theorem back_ev (l : List S24) (b : List Int) (hs : ∀ x ∈ l, x.f0.size ≤ 140737488351232) (hb : Byt b) : Ev (fun k => morainelaw11_DirentBack.f k l b) true := by
  obtain ⟨Ka, ha⟩ := alive_ev
  obtain ⟨t, ⟨Kl, hl⟩, hlong⟩ := long_ev l (fun x hx => by have := hs x hx; omega)
  have jt : ∀ m, morainelaw11_DirentBack.j0 (m + 1) l b true = some true := fun m => by simp only [morainelaw11_DirentBack.j0]; rfl
  cases t with
  | true =>
    refine ⟨Ka + Kl + 1, fun k hk => ?_⟩
    obtain ⟨m, rfl⟩ : ∃ m, k = m + 1 := ⟨k - 1, by omega⟩
    show morainelaw11_DirentBack.f (m + 1) l b = some true
    unfold morainelaw11_DirentBack.f
    rw [show morainelaw11_alive.f (m + 1) = some true from ha _ (by omega)]
    simp only [Option.bind_some]
    rw [if_pos trivial, show morainelaw11_long.f (m + 1) l = some true from hl _ (by omega)]
    simp only [Option.bind_some]
    rw [if_pos trivial]
    exact jt m
  | false =>
    obtain ⟨h300, _⟩ := hlong rfl
    by_cases h5 : (b.length : Int) > 5000
    · refine ⟨Ka + Kl + 1, fun k hk => ?_⟩
      obtain ⟨m, rfl⟩ : ∃ m, k = m + 1 := ⟨k - 1, by omega⟩
      show morainelaw11_DirentBack.f (m + 1) l b = some true
      unfold morainelaw11_DirentBack.f
      rw [show morainelaw11_alive.f (m + 1) = some true from ha _ (by omega)]
      simp only [Option.bind_some]
      rw [if_pos trivial, show morainelaw11_long.f (m + 1) l = some false from hl _ (by omega)]
      simp only [Option.bind_some]
      rw [if_neg (by simp), show decide ((b.length : Int) > 5000) = true from decide_eq_true h5]
      exact jt m
    · obtain ⟨K0, e0⟩ := back_j0 l b h300 (by omega) hb
      refine ⟨Ka + Kl + K0 + 1, fun k hk => ?_⟩
      show morainelaw11_DirentBack.f k l b = some true
      unfold morainelaw11_DirentBack.f
      rw [show morainelaw11_alive.f k = some true from ha _ (by omega)]
      simp only [Option.bind_some]
      rw [if_pos trivial, show morainelaw11_long.f k l = some false from hl _ (by omega)]
      simp only [Option.bind_some]
      rw [if_neg (by simp), show decide ((b.length : Int) > 5000) = false from decide_eq_false h5]
      exact e0 k (by omega)
end Go.Proofs.Ytllfjmmdackgdaa.PZ
