/- The walk of slices.Concat and slices.Grow at []api.Entry. -/
import Derived.Test.YtllfjmmdackgdaaPZx0
namespace Go.Proofs.Ytllfjmmdackgdaa.PZ
open Go.RowKit Go.Proofs.YtllfjmmdackgdaaW.PrintWords Go.Proofs.YtllfjmmdackgdaaW.PrintLast Go.Proofs.YtllfjmmdackgdaaW.PrintMore
set_option linter.unusedVariables false
set_option linter.unusedSimpArgs false

theorem atLs {w : World} {A : Option Addr} {n : Nat} {xs : List (List S24)} (h : Kd.C (Kd.slice 24 k24) w A n xs) (i : Nat) (h1 : i < n) :
    ∃ ad A0 c0, A = some ad ∧ w.cell? (ad.add i) = some (.slice A0 (xs.getD i []).length c0) ∧ (xs.getD i []).length ≤ c0 ∧ k24.C w A0 (xs.getD i []).length (xs.getD i []) := by
  obtain ⟨ad, c, e, _, hK, hc0⟩ := Kd.C_get h ([] : List S24) (i : Int) (by omega) (by omega)
  have hc : ∀ j u, c[j]? = some u → w.cell? (ad.add (i * 1 + j)) = some u := hc0
  obtain ⟨A0, c0, rfl, l0, g0⟩ := hK
  exact ⟨ad, A0, c0, e, by have hq := hc 0 _ rfl; rwa [Nat.mul_one, Nat.add_zero] at hq, l0, g0⟩

/-- All of them in one row (a name that simp doesn't open). -/
def cat {α : Type} (l : List (List α)) : List α := l.flatten
def clen {α : Type} (l : List (List α)) : Nat := (cat l).length
theorem flatten_take_succ {α : Type} (xs : List (List α)) (k : Nat) (h : k < xs.length) : cat (xs.take (k + 1)) = cat (xs.take k) ++ xs.getD k [] := by
  unfold cat
  rw [List.take_succ_eq_append_getElem h, List.flatten_append]
  simp [List.getD_eq_getElem?_getD, List.getElem?_eq_getElem h]
theorem flatten_take_le {α : Type} (xs : List (List α)) (k : Nat) : clen (xs.take k) ≤ clen xs := by
  unfold clen cat
  have : xs.flatten = (xs.take k).flatten ++ (xs.drop k).flatten := by rw [← List.flatten_append, List.take_append_drop]
  rw [this, List.length_append]; omega

set_option maxHeartbeats 1000000 in
theorem grow_walk (n : Nat) (hn : n < 1000000000000) (w : World) :
    Calls Try.prog 37 #[.slice none 0 0, .int .i64 n] w fun e w' => ∃ v0_ : Value, e = .returned v0_ ∧ Kd.R k24 24 w' w.heap.size (fun _ => True) v0_ [] ∧ Below w.heap.size w w' := by
  have hu := Try.underlying24
  by_cases h0 : n = 0
  · subst h0
    go_enter Try.func37, Try.ntmps37
    go_wp2
    go_ret
    exact ⟨_, rfl, Kd.R_nil _ _ _ _ _, Below.refl _ _⟩
  · have h1 : decide (0 < (n : Int)) = true := decide_eq_true (by omega)
    have h2 : decide (0 < n) = true := decide_eq_true (by omega)
    go_enter Try.func37, Try.ntmps37
    go_wp2_with (first | ((with_reducible refine gate_builtin (b := .append) (xs := #[.tmp 20, .tmp 21]) rfl ?_); at_builtin; refine Kd.R_append_zeros k24 (w0 := w) w.heap.size rfl (.tmp 20) (.tmp 21) 22 3 24 (.agg #[(.string ⟨#[]⟩), (.int .i64 0)]) 24 rfl Try.underlying22 Try.underlying3 info24 rfl (by decide) (by omega) (.slice none 0 0) [] z24 (kx := .i64) n (fun _ => True) rfl rfl ?az ?af ?aO ?a0 ?aB ?aS ?aL ?_; (case az => exact k24_mkM _ _ _ _); (case af => exact fun _ _ => trivial); (case aO => exact Kd.R_nil _ _ _ _ _); (case a0 => omega); (case aB => exact Below.refl _ _); (case aS => exact Nat.le_refl _); (case aL => simp; omega); intro v1 w1 ho hb hg hat; obtain ⟨gg, gc, rfl, gb, gl, gcl, -⟩ := Kd.R_form ho (by simp; omega); have HO := Aside0.mk ho; have HB := Aside0.mk hb; clear ho hb hg hat))
    go_ret
    exact ⟨_, rfl, Kd.R_take HO.out (Nat.zero_le _), HB.out⟩

set_option maxHeartbeats 2000000 in
theorem concat_walk (A0 : Option Addr) (c0 : Nat) (l0 : List (List S24)) (w : World) (hr0 : Kd.C (Kd.slice 24 k24) w A0 l0.length l0) (hc0 : l0.length ≤ c0) (hn : clen l0 < 1000000000000) (hn2 : l0.length < 1000000000000) :
    Calls Try.prog 28 #[.slice A0 l0.length c0] w fun e w' => ∃ v0_ : Value, e = .returned v0_ ∧ Kd.R k24 24 w' w.heap.size (fun _ => True) v0_ (cat l0) ∧ Below w.heap.size w w' := by
  have hu := Try.underlying24
  have HR0 := Aside0.mk hr0
  have HC0 := Aside0.mk hc0
  clear hr0 hc0
  go_enter Try.func28, Try.ntmps28
  go_wp2
  go_loop [3, 5, 11] (fun v3 v5 v11 => ∃ k : Nat, k ≤ l0.length ∧ v3 = .int .i64 (clen (l0.take k) : Nat) ∧ v11 = .int .i64 k) (fun v3 v5 v11 => l0.length - (intOf v11).toNat)
  case atStart => exact ⟨0, Nat.zero_le _, rfl, rfl⟩
  case round =>
    obtain ⟨k, hk, rfl, rfl⟩ := hrel
    have hfl := flatten_take_le l0 k
    by_cases hlt : k < l0.length
    · obtain ⟨ad, A1, c1, e, hx, hc1, hr1⟩ := atLs HR0.out k hlt
      cases e
      have hfs := flatten_take_succ l0 k hlt
      have hfl2 := flatten_take_le l0 (k + 1)
      have hls : clen (l0.take (k + 1)) = clen (l0.take k) + (l0.getD k []).length := by unfold clen; rw [hfs, List.length_append]
      have HS := Aside0.mk hls
      have hb1 : clen (l0.take k) + (l0.getD k []).length < 1000000000000 := by omega
      clear hls hfs hfl2 hr1
      generalize hL : clen (l0.take k) = L at *
      generalize hM : (l0.getD k []).length = M at *
      clear hL hM
      go_wp2
      go_round
      case rel => exact ⟨k + 1, by omega, by rw [HS.out]; rfl, rfl⟩
      case measure => simp [intOf]; omega
    · have hkl : k = l0.length := by omega
      subst hkl
      rw [List.take_length]
      clear hfl
      go_wp2_with (go_at_call 37; refine (grow_walk (clen l0) hn _).mono ?_; rintro e w1 ⟨v0, rfl, ho, hb⟩; have HO := Aside0.mk ho; have HB := Aside0.mk hb; clear ho hb)
      go_loopw [6, 8, 27] (fun v6 v8 v27 wr => ∃ k : Nat, k ≤ l0.length ∧ v27 = .int .i64 k ∧ Aside0 (Kd.R k24 24 wr w.heap.size (fun _ => True) v6 (cat (l0.take k))) ∧ Aside0 (Below w.heap.size w wr)) (fun v6 v8 v27 _ => l0.length - (intOf v27).toNat)
      case atStart => exact ⟨0, Nat.zero_le _, rfl, HO, HB⟩
      case round =>
        clear HO HB
        obtain ⟨k, hk, rfl, HO, HB⟩ := hrel
        by_cases hlt : k < l0.length
        · obtain ⟨ad, A1, c1, e, hx, hc1, hr1⟩ := atLs HR0.out k hlt
          cases e
          have hfs := flatten_take_succ l0 k hlt
          have hfl2 := flatten_take_le l0 (k + 1)
          have HS := Aside0.mk hfs
          have hb1 : (cat (l0.take k)).length + (l0.getD k []).length < 1000000000000 := by rw [← List.length_append, ← hfs]; unfold clen at hfl2 hn; omega
          clear hfs hfl2
          replace hx := (HB.out.cell (World.block_lt_of_cell? w _ hx)).trans hx
          have HR1 := Aside0.mk (Kd.C_below hr1 HB.out)
          clear hr1
          generalize hL : (cat (l0.take k)) = L at *
          generalize hM : l0.getD k [] = M at *
          clear hL hM
          go_wp2_with (first | ((with_reducible refine gate_builtin (b := .append) (xs := #[.tmp 31, .tmp 32]) rfl ?_); at_builtin; refine Kd.R_append_rows k24 (w0 := w) w.heap.size rfl (.tmp 31) (.tmp 32) 22 24 (.agg #[(.string ⟨#[]⟩), (.int .i64 0)]) 24 rfl Try.underlying22 info24 rfl (by decide) (by omega) _ L M _ _ _ (fun _ => True) (fun _ => False) rfl rfl HO.out ?aR (fun _ _ h => h) (fun _ h => h.elim) (fun _ _ => trivial) HB.out HB.out.size ?aL ?_; (case aR => exact HR1.out); (case aL => omega); intro v1 w1 ho hb hg hat; rw [← HS.out] at ho; have n0_ := Aside0.mk ho; have n1_ := Aside0.mk hb; clear HO HB ho hb hg hat; have HO := n0_; have HB := n1_; clear n0_ n1_))
          go_roundw
          case rel => exact ⟨k + 1, by omega, rfl, HO, HB⟩
          case measure => simp [intOf]; omega
        · have hkl : k = l0.length := by omega
          subst hkl
          rw [List.take_length] at HO
          go_wp2
          go_ret
          exact ⟨_, rfl, HO.out, HB.out⟩
def slices_Concat.f (l0 : List (List S24)) : Option (List S24) :=
  if clen l0 < 1000000000000 ∧ l0.length < 1000000000000 then some (cat l0) else none
theorem slices_Concat.calls (A0 : Option Addr) (c0 : Nat) (l0 : List (List S24)) (r : List (S24)) (w : World) (hr0 : Kd.C (Kd.slice 24 k24) w A0 l0.length l0) (hc0 : l0.length ≤ c0) (h : slices_Concat.f l0 = some r) :
    Calls Try.prog 28 #[.slice A0 l0.length c0] w fun e w' => ∃ v0_ : Value, e = .returned v0_ ∧ Kd.R k24 24 w' w.heap.size (fun _ => True) v0_ r ∧ Below w.heap.size w w' := by
  unfold slices_Concat.f at h
  by_cases hb : clen l0 < 1000000000000 ∧ l0.length < 1000000000000
  · rw [if_pos hb] at h
    obtain rfl := Option.some.inj h
    exact concat_walk A0 c0 l0 w hr0 hc0 hb.1 hb.2
  · rw [if_neg hb] at h
    cases h
end Go.Proofs.Ytllfjmmdackgdaa.PZ
