/- The walk of dirent.Encode. -/
import Derived.Test.YtllfjmmdackgdaaPZx0
import Derived.Test.YtllfjmmdackgdaaPZx2
import Derived.Test.YtllfjmmdackgdaaPZx3
namespace Go.Proofs.Ytllfjmmdackgdaa.PZ
open Go.RowKit Go.Proofs.YtllfjmmdackgdaaW.PrintWords Go.Proofs.YtllfjmmdackgdaaW.PrintLast Go.Proofs.YtllfjmmdackgdaaW.PrintMore
set_option linter.unusedVariables false
set_option linter.unusedSimpArgs false

/-- The bytes of entries, put behind those that are there. -/
def encGo (k : Nat) : List S24 → List Int → Option (List Int)
  | [], out => some out
  | x :: r, out => (bits_Put.f k 2 x.f1).bind fun b => if out.length + b.length + x.f0.size < 1000000000000 then encGo k r (((out ++ b) ++ [(x.f0.size : Int) % 256]) ++ bytesOf x.f0) else none
def dirent_Encode.f (k : Nat) (l0 : List S24) : Option (List Int × Bool) :=
  (dirent_right.f k l0).bind fun t => if t = true then (encGo k l0 []).bind fun b => some (b, true) else some ([], false)
theorem encGo.mono (k : Nat) : ∀ (l : List S24) (out : List Int), LeO (encGo k l out) (encGo (k + 1) l out) := by
  intro l
  induction l with
  | nil => intro out; exact LeO.refl _
  | cons x r ih =>
    intro out
    unfold encGo
    refine LeO.bind (bits_Put.mono _ _ _) (fun b => ?_)
    exact LeO.ite (ih _) (LeO.refl _)
theorem dirent_Encode.mono : ∀ a0 k, LeO (dirent_Encode.f k a0) (dirent_Encode.f (k + 1) a0) := by
  intro a0 k
  unfold dirent_Encode.f
  refine LeO.bind (dirent_right.mono _ _) (fun t => ?_)
  exact LeO.ite (LeO.bind (encGo.mono k a0 []) (fun _ => LeO.refl _)) (LeO.refl _)

theorem drop_cons {α : Type} (l : List α) (k : Nat) (h : k < l.length) : l.drop k = l[k] :: l.drop (k + 1) := List.drop_eq_getElem_cons h

set_option maxHeartbeats 4000000 in
theorem encode_walk (k : Nat) (A0 : Option Addr) (c0 : Nat) (l0 : List S24) (res : List Int) (w : World) (hr0 : Kd.C k24 w A0 l0.length l0) (hc0 : l0.length ≤ c0) (hn : l0.length < 1000000000000) (ht : dirent_right.f k l0 = some true) (he : encGo k l0 [] = some res) :
    Calls Try.prog 19 #[.slice A0 l0.length c0] w fun e w' => ∃ v0_ : Value, e = .returned (.tuple #[v0_, .bool true]) ∧ Kd.R (Kd.int .u8) 5 w' w.heap.size (fun _ => True) v0_ res ∧ Below w.heap.size w w' := by
  have hu := Try.underlying24
  have HR0 := Aside0.mk hr0
  have HT := Aside0.mk ht
  have HE := Aside0.mk he
  clear hr0 ht he
  go_enter Try.func19, Try.ntmps19
  go_wp2_with (go_at_call 32; refine (dirent_right.calls k _ _ l0 true _ HR0.out hc0 HT.out).mono ?_; rintro e w1 ⟨rfl, hb⟩; have HB := Aside0.mk hb; clear hb)
  go_loopw [4, 6, 12] (fun v4 v6 v12 wr => ∃ (j : Nat) (out : List Int), j ≤ l0.length ∧ v12 = .int .i64 j ∧ Aside0 (encGo k (l0.drop j) out = some res) ∧ Aside0 (Kd.R (Kd.int .u8) 5 wr w.heap.size (fun _ => True) v4 out) ∧ Aside0 (Below w.heap.size w wr)) (fun v4 v6 v12 _ => l0.length - (intOf v12).toNat)
  case atStart => exact ⟨0, [], Nat.zero_le _, rfl, ⟨HE.out⟩, ⟨Kd.R_nil _ _ _ _ _⟩, HB⟩
  case round =>
    clear HB HE
    obtain ⟨j, out, hj, rfl, HE, HO, HB⟩ := hrel
    by_cases hlt : j < l0.length
    · obtain ⟨ad, e, hx0, hx1⟩ := at_T24 HR0.out (j : Int) (by omega) (by omega)
      cases e
      rw [Int.toNat_natCast] at hx0 hx1
      replace hx0 := (HB.out.cell (World.block_lt_of_cell? w _ hx0)).trans hx0
      replace hx1 := (HB.out.cell (World.block_lt_of_cell? w _ hx1)).trans hx1
      have hE2 := HE.out
      rw [drop_cons l0 j hlt] at hE2
      have hq : rd_T24 l0 (j : Int) = l0[j] := by unfold rd_T24; simp [List.getD_eq_getElem?_getD, List.getElem?_eq_getElem hlt]
      rw [hq] at hx0 hx1
      clear hq
      generalize l0[j] = x at hx0 hx1 hE2
      unfold encGo at hE2
      obtain ⟨b, hb0, hE3⟩ := Option.bind_eq_some_iff.mp hE2
      by_cases hl : out.length + b.length + x.f0.size < 1000000000000
      · rw [if_pos hl] at hE3
        have HP := Aside0.mk hb0
        have HE3 := Aside0.mk hE3
        have HL := Aside0.mk hl
        clear hE2 hb0 hE3 hl
        have HLT := Aside0.mk (Kd.R_lt HO.out)
        go_wp2_with (first
          | (go_at_call 33; refine (bits_Put.calls k 2 x.f1 b _ HP.out).mono ?_; rintro e w1 ⟨v1, rfl, ho, hb⟩; obtain ⟨A1, c1, rfl⟩ := Kd.R_slice ho; have HBX := Aside0.mk ((hb.block wr.heap.size (by simp)).trans (blk_new wr (.cells #[.string x.f0, .int .i64 x.f1] 24))); have HB2 := Aside0.mk ((below_alloc (Below.refl wr.heap.size wr) (.cells #[.string x.f0, .int .i64 x.f1] 24)).trans (hb.mono (by simp))); have HOb := Aside0.mk (Kd.R_reads' ho).2.2; have hz0 : w1.cell? ⟨wr.heap.size, 0, none⟩ = some (.string x.f0) := (blk_cell HBX.out 0).trans rfl; clear ho hb)
          | ((with_reducible refine gate_builtin (b := .append) (xs := #[.tmp 16, .tmp 19]) rfl ?_); at_builtin; refine Kd.R_append_rows (Kd.int .u8) (w0 := w) w.heap.size rfl (.tmp 16) (.tmp 19) 34 5 (.int .u8 0) 1 rfl Try.underlying34 info5 rfl (by decide) (by omega) u4 out b _ _ _ (fun _ => True) (fun _ => False) rfl rfl ?aO ?aR (fun _ _ h => h) (fun _ h => h.elim) (fun _ _ => trivial) ?aB ?aS ?aL ?_; (case aO => exact Kd.R_below HO.out HB2.out); (case aR => exact HOb.out); (case aB => exact HB.out.trans (HB2.out.mono HB.out.size)); (case aS => exact Nat.le_trans HB.out.size HB2.out.size); (case aL => have := HL.out; omega); intro v2 w2 ho hbb hg hat; have HO2 := Aside0.mk ho; have HB3 := Aside0.mk hbb; have HBX2 := Aside0.mk (blk_grown HBX.out hg (fun h => Nat.lt_irrefl _ (HLT.out _ h.symm))); have HNE := Aside0.mk (show ∀ k, v2.ownBlock = some k → k ≠ wr.heap.size from fun k hk hk2 => (by rcases hat with h | ⟨q, h, hq⟩ <;> rw [h] at hk; (· exact Nat.lt_irrefl _ (hk2 ▸ HLT.out k hk)); (· injection hk with hk; have := blk_lt HBX.out; omega))); have hz1 : w2.cell? ⟨wr.heap.size, 0, none⟩ = some (.string x.f0) := (blk_cell HBX2.out 0).trans rfl; clear ho hbb hg hat hz0)
          | ((with_reducible refine gate_builtin (b := .append) (xs := #[.tmp 21, .tmp 26]) rfl ?_); at_builtin; refine Kd.R_append (Kd.int .u8) (w0 := w) w.heap.size rfl (.tmp 21) (.tmp 26) 34 5 (.int .u8 0) 1 rfl Try.underlying34 info5 rfl (by decide) (by omega) v2 (out ++ b) ((x.f0.size : Int) % 256) [.int .u8 ((x.f0.size : Int) % 256)] (fun _ => True) (fun _ => False) rfl rfl rfl (fun _ h => h.elim) (fun _ _ => trivial) HO2.out HB3.out HB3.out.size ?aL ?_; (case aL => have := HL.out; rw [List.length_append]; omega); intro v3 w3 ho hbb hg hat; have HO3 := Aside0.mk ho; have HB4 := Aside0.mk hbb; have hz2 : w3.cell? ⟨wr.heap.size, 0, none⟩ = some (.string x.f0) := (blk_cell (blk_grown HBX2.out hg (fun h => HNE.out _ h.symm rfl)) 0).trans rfl; clear ho hbb hg hat hz1)
          | ((with_reducible refine gate_builtin (b := .append) (xs := #[.tmp 28, .tmp 30]) rfl ?_); at_builtin; refine print_append_str (w0 := w) w.heap.size rfl (.tmp 28) (.tmp 30) 34 9 5 rfl Try.underlying34 Try.underlying9 info5 v3 ((out ++ b) ++ [(x.f0.size : Int) % 256]) x.f0 rfl rfl (Kd.own_of_R HO3.out) HB4.out HB4.out.size ?aL ?_; (case aL => have := HL.out; simp only [List.length_append, List.length_singleton]; omega); intro v4 w4 ho0 hbb hg; have ho := Kd.R_of_own (h1 := fun _ => rfl) (ok := fun _ => True) ho0 (fun _ _ => trivial); have HO4 := Aside0.mk ho; have HB5 := Aside0.mk hbb; clear ho0 ho hbb hg))
        go_roundw
        case rel => exact ⟨j + 1, _, by omega, rfl, HE3, ⟨HO4.out⟩, HB5⟩
        case measure => simp [intOf]; omega
      · rw [if_neg hl] at hE3
        cases hE3
    · have hjl : j = l0.length := by omega
      subst hjl
      have hE2 := HE.out
      rw [List.drop_length] at hE2
      obtain rfl := Option.some.inj hE2
      clear hE2
      go_wp2
      refine bodyPost_ret (v := .tuple #[u4, .bool true]) (by simp [results, Try.results19, go_sem]) rfl ⟨_, rfl, HO.out, HB.out⟩

theorem encode_no (k : Nat) (A0 : Option Addr) (c0 : Nat) (l0 : List S24) (w : World) (hr0 : Kd.C k24 w A0 l0.length l0) (hc0 : l0.length ≤ c0) (ht : dirent_right.f k l0 = some false) :
    Calls Try.prog 19 #[.slice A0 l0.length c0] w fun e w' => ∃ v0_ : Value, e = .returned (.tuple #[v0_, .bool false]) ∧ Kd.R (Kd.int .u8) 5 w' w.heap.size (fun _ => True) v0_ [] ∧ Below w.heap.size w w' := by
  have HR0 := Aside0.mk hr0
  have HT := Aside0.mk ht
  clear hr0 ht
  go_enter Try.func19, Try.ntmps19
  go_wp2_with (go_at_call 32; refine (dirent_right.calls k _ _ l0 false _ HR0.out hc0 HT.out).mono ?_; rintro e w1 ⟨rfl, hb⟩; have HB := Aside0.mk hb; clear hb)
  go_ret2
  exact ⟨_, rfl, Kd.R_nil _ _ _ _ _, HB.out⟩

theorem dirent_Encode.calls (k : Nat) (A0 : Option Addr) (c0 : Nat) (l0 : List (S24)) (r1 : List Int) (r2 : Bool) (w : World) (hr0 : Kd.C k24 w A0 l0.length l0) (hc0 : l0.length ≤ c0) (h : dirent_Encode.f k l0 = some (r1, r2)) :
    Calls Try.prog 19 #[.slice A0 l0.length c0] w fun e w' => ∃ v0_ : Value, e = .returned (.tuple #[v0_, .bool r2]) ∧ Kd.R (Kd.int .u8) 5 w' w.heap.size (fun _ => True) v0_ r1 ∧ Below w.heap.size w w' := by
  unfold dirent_Encode.f at h
  obtain ⟨t, ht, h⟩ := Option.bind_eq_some_iff.mp h
  cases t with
  | true =>
    rw [if_pos rfl] at h
    obtain ⟨b, hb, h⟩ := Option.bind_eq_some_iff.mp h
    cases h
    by_cases hn : l0.length < 1000000000000
    · exact encode_walk k A0 c0 l0 _ w hr0 hc0 hn ht hb
    · unfold dirent_right.f at ht
      rw [if_pos (by omega)] at ht
      cases ht
  | false =>
    rw [if_neg (by decide)] at h
    cases h
    exact encode_no k A0 c0 l0 w hr0 hc0 ht
end Go.Proofs.Ytllfjmmdackgdaa.PZ
