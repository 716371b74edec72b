import Derived.Test.YtllfjmmdackgdaaDoorM15
import Derived.Test.YtllfjmmdackgdaaDoorM22
import Derived.Deep.QuietTactic
import Derived.Deep.RegionLaw
import Derived.BigQuiet
import Derived.Test.YtllfjmmdackgdaaDoorM05
import Derived.Lib.SliceRun
set_option linter.unusedVariables false
set_option linter.unusedSimpArgs false
/-! TZ -/
section
namespace Go.Proofs.YtllfjmmdackgdaaDoor.PZ
open Go.RowKit Go.Proofs.YtllfjmmdackgdaaDoorW.PrintWords Go.Proofs.YtllfjmmdackgdaaDoorW.PrintLast Go.Proofs.YtllfjmmdackgdaaDoorW.PrintMore Go.Proofs.YtllfjmmdackgdaaDoor.Ord Go.Proofs.YtllfjmmdackgdaaDoor.B TD
set_option maxRecDepth 100000
set_option linter.unusedVariables false
set_option linter.unusedSimpArgs false
theorem Rt.ok {l : List S58} (h : Rt l) : Ok l := ⟨h.pr.wf, fun k => by have := h.pr.ents k; omega, by have := h.pr.le; omega⟩
theorem last_name {p : ByteArray} (h0 : (splitA p).2 = 0) (hr : (splitA p).1 ≠ []) : nameB ((splitA p).1.getLastD ByteArray.empty) = true := by
  have h := splitA_right p h0
  have hm : (splitA p).1.getLastD ByteArray.empty ∈ (splitA p).1 := by
    rw [List.getLastD_eq_getLast?, List.getLast?_eq_some_getLast hr]
    exact List.getLast_mem hr
  unfold rightN at h
  rw [Bool.and_eq_true] at h
  exact List.all_eq_true.1 h.2 _ hm
theorem ups_zero {l : List S58} (hw : Wf l) : ups l l.length = 0 := by
  rw [ups_eq]
  rcases Nat.eq_zero_or_pos ((List.range l.length).map (fun x => cnt l x l.length)).sum with h1 | h1
  · exact h1
  · exfalso
    have h2 : ∀ m : List Nat, (∀ x ∈ m, cnt l x l.length = 0) → (m.map (fun x => cnt l x l.length)).sum = 0 := by
      intro m
      induction m with
      | nil => intro _; rfl
      | cons x m ih =>
        intro hm
        rw [List.map_cons, List.sum_cons, hm x List.mem_cons_self, ih (fun y hy => hm y (List.mem_cons_of_mem _ hy))]
    have h3 := h2 (List.range l.length) (fun x _ => by
      unfold cnt
      rw [List.countP_eq_zero]
      intro e he
      have := (hw.ino_lt he).1
      simp
      omega)
    omega
theorem putT_app {l : List S58} {d : Nat} (hd : d < l.length) (n : ByteArray) (k : Nat) (x : S58) : putT l d n k ++ [x] = putT (l ++ [x]) d n k := by
  unfold putT setE
  have h : nd (l ++ [x]) d = nd l d := by rw [nd_app, if_neg (by omega)]
  rw [h, List.set_append_left _ _ hd]
theorem create_pr {l l' : List S58} {p : ByteArray} {kd : Int} (h : Rt l) (hk : kd = 1 ∨ kd = 2) (hc : createF l p kd = .inl l') : Pr l' := by
  unfold createF at hc
  split at hc
  · cases hc
  rename_i hr
  split at hc
  · cases hc
  · cases hc
  rename_i d nm hs
  split at hc
  · cases hc
  rename_i hf
  split at hc
  · rename_i hl
    injection hc with hc
    subst hc
    obtain ⟨q, hq, hw, hnm, hd, hdl, ho⟩ := spotF_inl hs
    rw [putT_app hdl]
    have hpa := h.pr.app hk hl
    have hnd : nd (l ++ [⟨kd, 0, [], []⟩]) d = nd l d := by rw [nd_app, if_neg (by omega)]
    have hlk : look (nd l d).f3 nm = none := by
      cases hh : look (nd l d).f3 nm with
      | none => rfl
      | some e => rw [hh] at ho; cases ho
    have hct : cutT (l ++ [⟨kd, 0, [], []⟩]) d nm = l ++ [⟨kd, 0, [], []⟩] := cutT_none (by rw [List.length_append]; omega) (by rw [hnd]; exact hlk)
    have hu0 : ups (l ++ [⟨kd, 0, [], []⟩]) l.length = 0 := by
      rw [ups_app]
      exact ups_zero h.pr.wf
    refine hpa.put (by rw [hnd]; exact hd) ?_ h.pr.wf.pos (by simp) ?_ (fun _ => ?_) (fun _ => ?_)
    · have h0 : (splitA p).2 = 0 := by rw [hq]
      rw [hnm, show q = (splitA p).1 by rw [hq]]
      exact last_name h0 (fun he => hr (splitA_nil h0 he))
    · rw [hnd, cut_none hlk]
      have := fullB_f (Bool.not_eq_true _ |>.mp hf)
      have h2 := of_decide_eq_false (Bool.not_eq_true _ |>.mp hf)
      omega
    · rw [hct, hu0]; omega
    · rw [hct, hu0]
  · cases hc
theorem file_one {l : List S58} (h : Rt l) {k : Nat} (hk : k < l.length) (hd : (nd l k).f0 ≠ 2) : (nd l k).f0 = 1 ∧ 1 ≤ k := by
  refine ⟨(h.pr.kind k hk).resolve_right hd, ?_⟩
  rcases Nat.eq_zero_or_pos k with h0 | h0
  · subst h0
    exact absurd h.pr.wf.root hd
  · exact h0
theorem spot_free {l : List S58} {p : ByteArray} {d : Nat} {nm : ByteArray} (h : spotF l p = .inl (d, nm, none)) : look (nd l d).f3 nm = none := by
  obtain ⟨q, hq, hw, hnm, hd, hdl, ho⟩ := spotF_inl h
  cases hh : look (nd l d).f3 nm with
  | none => rfl
  | some e => rw [hh] at ho; cases ho
theorem spot_name {l : List S58} {p : ByteArray} {d : Nat} {nm : ByteArray} {o : Option Nat} (h : spotF l p = .inl (d, nm, o)) (hr : p ≠ rootP) : nameB nm = true := by
  obtain ⟨q, hq, hw, hnm, hd, hdl, ho⟩ := spotF_inl h
  have h0 : (splitA p).2 = 0 := by rw [hq]
  rw [hnm, show q = (splitA p).1 by rw [hq]]
  exact last_name h0 (fun he => hr (splitA_nil h0 he))
theorem full_lt {l : List S58} {d : Nat} (hf : ¬ fullB l d = true) : (nd l d).f3.length < 64 := by
  have h2 := of_decide_eq_false (Bool.not_eq_true _ |>.mp hf)
  omega
theorem fileF_lt0 {l : List S58} {p : ByteArray} {k : Nat} (ho : Ok l) (h : fileF l p = .inl k) : k < l.length ∧ (nd l k).f0 ≠ 2 ∧ (splitA p).2 = 0 ∧ wk l (splitA p).1 0 = .inl k := by
  unfold fileF placeF at h
  by_cases h0 : (splitA p).2 = 0
  · rw [if_pos h0] at h
    cases hk : wk l (splitA p).1 0 with
    | inr n => rw [hk] at h; cases h
    | inl j =>
      rw [hk] at h
      dsimp only at h
      split at h
      · cases h
      · rename_i hn
        injection h with h
        subst h
        exact ⟨wk_lt ho.wf ho.wf.pos hk, hn, h0, rfl⟩
  · rw [if_neg h0] at h
    cases h
theorem link_pr {l l' : List S58} {p q : ByteArray} (h : Rt l) (hc : linkF l p q = .inl l') : Pr l' := by
  unfold linkF at hc
  split at hc
  · cases hc
  split at hc
  · cases hc
  split at hc
  · cases hc
  rename_i k hk
  split at hc
  · cases hc
  rename_i hd
  split at hc
  · cases hc
  rename_i hr
  split at hc
  · cases hc
  · cases hc
  rename_i d nm hs
  split at hc
  · rename_i hl
    split at hc
    · cases hc
    · rename_i hf
      injection hc with hc
      subst hc
      have hkl := wk_lt h.pr.wf h.pr.wf.pos hk
      obtain ⟨h1, hk1⟩ := file_one h hkl hd
      have hsp := spotF_inl hs
      have hdl := hsp.choose_spec.2.2.2.2.1
      have hct := cutT_none hdl (spot_free hs)
      have hown := h.own k hkl
      unfold own at hown
      rw [if_neg hd] at hown
      refine h.pr.put hsp.choose_spec.2.2.2.1 (spot_name hs hr) hk1 hkl (by rw [cut_none (spot_free hs)]; exact full_lt hf) (fun _ => ?_) (fun h2 => absurd h2 hd)
      rw [hct]
      omega
  · cases hc
theorem unlink_pr {l l' : List S58} {p : ByteArray} (h : Rt l) (hc : unlinkF l p = .inl l') : Pr l' := by
  unfold unlinkF at hc
  split at hc
  · cases hc
  split at hc
  · cases hc
  split at hc
  · cases hc
  rename_i hs
  injection hc with hc
  subst hc
  exact h.pr.cut (spotF_inl hs).choose_spec.2.2.2.1 _
theorem rmdir_pr {l l' : List S58} {p : ByteArray} (h : Rt l) (hc : rmdirF l p = .inl l') : Pr l' := by
  unfold rmdirF at hc
  split at hc
  · cases hc
  split at hc
  · split at hc
    · cases hc
    split at hc
    · cases hc
    rename_i hs
    injection hc with hc
    subst hc
    exact h.pr.cut (spotF_inl hs).choose_spec.2.2.2.1 _
  · cases hc
theorem sizedF_len (b : List Int) (n : Nat) : (sizedF b n).length = n := by
  unfold sizedF
  rw [List.length_append, List.length_take, List.length_replicate]
  omega
theorem overF_len (b x : List Int) (a : Nat) (h : a + x.length ≤ b.length) : (overF b a x).length = b.length := by
  unfold overF
  rw [List.length_append, List.length_append, List.length_take, List.length_drop]
  omega
theorem trunc_rt {l l' : List S58} {p : ByteArray} {n : Int} (h : Rt l) (hc : truncF l p n = .inl l') : Rt l' := by
  unfold truncF at hc
  split at hc
  · cases hc
  rename_i k hk
  split at hc
  · rename_i hn
    injection hc with hc
    subst hc
    obtain ⟨hkl, hd, -, -⟩ := fileF_lt0 h.ok hk
    exact h.setD hkl hd (by rw [sizedF_len]; omega)
  · cases hc
theorem write_rt {l l' : List S58} {p : ByteArray} {a : Int} {x : List Int} (h : Rt l) (hc : writeF l p a x = .inl l') : Rt l' := by
  unfold writeF at hc
  split at hc
  · cases hc
  rename_i k hk
  split at hc
  · rename_i hn
    injection hc with hc
    obtain ⟨hkl, hd, -, -⟩ := fileF_lt0 h.ok hk
    split at hc
    · subst hc; exact h
    · subst hc
      have hs := h.pr.size k
      refine h.setD hkl hd ?_
      rw [overF_len _ _ _ (by rw [sizedF_len]; omega), sizedF_len]
      omega
  · cases hc
theorem spot_at {l : List S58} {p : ByteArray} {d : Nat} {nm : ByteArray} {o : Option Nat} (h : spotF l p = .inl (d, nm, o)) (hr : p ≠ rootP) :
    ∃ q, splitA p = (q ++ [nm], 0) ∧ wk l q 0 = .inl d ∧ (nd l d).f0 = 2 ∧ nameB nm = true ∧ o = (look (nd l d).f3 nm).map ino := by
  obtain ⟨q, hq, hw, hnm, hd, hdl, ho⟩ := spotF_inl h
  have h0 : (splitA p).2 = 0 := by rw [hq]
  have hne : q ≠ [] := fun he => hr (splitA_nil h0 (by rw [hq]; exact he))
  refine ⟨q.dropLast, ?_, hw, hd, spot_name h hr, ho⟩
  rw [hq, hnm, List.getLastD_eq_getLast?, List.getLast?_eq_some_getLast hne]
  exact Prod.ext (List.dropLast_concat_getLast hne).symm rfl
theorem within_prefix {a b : ByteArray} {x y : List ByteArray} (ha : splitA a = (x, 0)) (hb : splitA b = (y, 0)) (h : y <+: x) : withinA a b = true := by
  unfold withinA withB
  rw [ha, hb]
  obtain ⟨t, rfl⟩ := h
  simp
theorem rename_mv {l l' : List S58} {p q : ByteArray} (h : Rt l) (hc : renameF l p q = .inl l') :
    p ≠ rootP ∧ q ≠ rootP ∧ ∃ k a b, wk l (splitA p).1 0 = .inl k ∧ spotF l p = .inl a ∧ spotF l q = .inl b ∧ (splitA p).2 = 0 ∧ (splitA q).2 = 0 ∧
      ((b.2.2 = some k ∧ l' = l) ∨ (b.2.2 ≠ some k ∧ ∃ fp tp, splitA p = (fp ++ [a.2.1], 0) ∧ splitA q = (tp ++ [b.2.1], 0) ∧ Mv l fp tp a.2.1 b.2.1 a.1 b.1 k ∧ l' = mvT l a.2.1 b.2.1 a.1 b.1 k)) := by
  unfold renameF at hc
  split at hc
  · cases hc
  rename_i h0
  split at hc
  · cases hc
  rename_i h1
  split at hc
  · cases hc
  rename_i hr
  have hrp : p ≠ rootP := fun he => hr (.inl he)
  have hrq : q ≠ rootP := fun he => hr (.inr he)
  have h0 := Classical.not_not.1 h0
  have h1 := Classical.not_not.1 h1
  split at hc
  · cases hc
  rename_i k hk
  split at hc
  · cases hc
  rename_i hin
  split at hc
  · cases hc
  rename_i a ha
  split at hc
  · cases hc
  rename_i b hb
  refine ⟨hrp, hrq, k, a, b, hk, ha, hb, h0, h1, ?_⟩
  obtain ⟨ad, fn, ao⟩ := a
  obtain ⟨bd, tn, bo⟩ := b
  obtain ⟨fp, hsp, hfw, had, hfn, hao⟩ := spot_at ha hrp
  obtain ⟨tp, hsq, htw, hbd, htn, hbo⟩ := spot_at hb hrq
  dsimp only
  have hke : ∃ e, look (nd l ad).f3 fn = some e ∧ ino e = k := by
    have h2 := hk
    rw [hsp] at h2
    obtain ⟨y, e, hy, hyd, hle, hie⟩ := wk_snoc h2
    rw [hfw] at hy
    injection hy with hy
    subst hy
    exact ⟨e, hle, hie⟩
  have hnot : bo ≠ some k → (nd l k).f0 = 2 → ¬ (fp ++ [fn]) <+: (tp ++ [tn]) := by
    intro hb2 hkd hpre
    by_cases hqp : q = p
    · subst hqp
      rw [hsp] at hsq
      injection hsq with he _
      have he1 := List.append_inj_left' he rfl
      have he2 := List.append_inj_right' he rfl
      injection he2 with he2 _
      subst he1 he2
      rw [hfw] at htw
      injection htw with hx
      subst hx
      obtain ⟨e, hle, hie⟩ := hke
      rw [hbo, hle] at hb2
      exact hb2 (by rw [← hie]; rfl)
    · exact hin ⟨hkd, hqp, within_prefix hsq hsp hpre⟩
  unfold moveF at hc
  dsimp only at hc
  cases bo with
  | none =>
    dsimp only at hc
    split at hc
    · rename_i hroom
      injection hc with hc
      refine .inr ⟨by simp, fp, tp, hsp, hsq, ?_, hc.symm⟩
      have hno : look (nd l bd).f3 tn = none := by
        cases hh : look (nd l bd).f3 tn with
        | none => rfl
        | some e => rw [hh] at hbo; cases hbo
      refine ⟨h, hfw, had, hke, htw, hbd, htn, fun e he => ?_, fun _ => hroom.imp id (fun hf => full_lt (by rw [hf]; decide)), hnot (by simp)⟩
      rw [hno] at he
      cases he
    · cases hc
  | some j =>
    dsimp only at hc
    split at hc
    · rename_i hj
      injection hc with hc
      exact .inl ⟨by rw [hj], hc.symm⟩
    · rename_i hj
      split at hc
      · cases hc
      rename_i hk1
      split at hc
      · cases hc
      rename_i hk2
      split at hc
      · cases hc
      rename_i hk3
      injection hc with hc
      have hjk : some j ≠ some k := fun he => hj (by injection he)
      refine .inr ⟨hjk, fp, tp, hsp, hsq, ⟨h, hfw, had, hke, htw, hbd, htn, fun e he => ?_, fun hn => ?_, hnot hjk⟩, hc.symm⟩
      · rw [he] at hbo
        injection hbo with hbo
        subst hbo
        refine ⟨hj, ⟨fun hx => ?_, fun hx => ?_⟩, Classical.not_not.1 hk3⟩
        · exact Classical.byContradiction fun hy => hk1 ⟨hx, hy⟩
        · exact Classical.byContradiction fun hy => hk2 ⟨hy, hx⟩
      · rw [hn] at hbo
        cases hbo
theorem rename_pr {l l' : List S58} {p q : ByteArray} (h : Rt l) (hc : renameF l p q = .inl l') : Pr l' := by
  obtain ⟨_, _, k, a, b, _, _, _, _, _, hx⟩ := rename_mv h hc
  rcases hx with ⟨_, rfl⟩ | ⟨_, fp, tp, _, _, hm, rfl⟩
  · exact h.pr
  · exact hm.pr
/-- What an operation makes of a right tree is right, ahead of its numbering. -/
theorem work_pr {l l' : List S58} {o : S39} {r : S47} (h : Rt l) (hc : workF l o = .inl (l', r)) : Pr l' := by
  have hp : ∀ {X : List S58 ⊕ Int}, plain X = .inl (l', r) → X = .inl l' := by
    intro X hX
    unfold plain at hX
    cases X with
    | inl x => injection hX with hX; injection hX with hX _; rw [hX]
    | inr e => cases hX
  unfold workF at hc
  by_cases h1 : o.f0 = 1
  · rw [if_pos h1] at hc
    exact create_pr h (.inl rfl) (hp hc)
  rw [if_neg h1] at hc
  by_cases h2 : o.f0 = 2
  · rw [if_pos h2] at hc
    exact create_pr h (.inr rfl) (hp hc)
  rw [if_neg h2] at hc
  by_cases h3 : o.f0 = 3
  · rw [if_pos h3] at hc
    exact link_pr h (hp hc)
  rw [if_neg h3] at hc
  by_cases h4 : o.f0 = 4
  · rw [if_pos h4] at hc
    exact unlink_pr h (hp hc)
  rw [if_neg h4] at hc
  by_cases h5 : o.f0 = 5
  · rw [if_pos h5] at hc
    exact rmdir_pr h (hp hc)
  rw [if_neg h5] at hc
  by_cases h6 : o.f0 = 6
  · rw [if_pos h6] at hc
    exact rename_pr h (hp hc)
  rw [if_neg h6] at hc
  by_cases h7 : o.f0 = 7
  · rw [if_pos h7] at hc
    cases hw : readF l o.f1 o.f3 o.f4 with
    | inr e => rw [hw] at hc; cases hc
    | inl x => rw [hw] at hc; injection hc with hc; injection hc with hc _; subst hc; exact h.pr
  rw [if_neg h7] at hc
  by_cases h8 : o.f0 = 8
  · rw [if_pos h8] at hc
    cases hw : writeF l o.f1 o.f3 o.f5 with
    | inr e => rw [hw] at hc; cases hc
    | inl x => rw [hw] at hc; injection hc with hc; injection hc with hc _; subst hc; exact (write_rt h hw).pr
  rw [if_neg h8] at hc
  by_cases h9 : o.f0 = 9
  · rw [if_pos h9] at hc
    exact (trunc_rt h (hp hc)).pr
  rw [if_neg h9] at hc
  by_cases h10 : o.f0 = 10
  · rw [if_pos h10] at hc
    cases hw : placeF l o.f1 with
    | inr e => rw [hw] at hc; cases hc
    | inl x => rw [hw] at hc; injection hc with hc; injection hc with hc _; subst hc; exact h.pr
  rw [if_neg h10] at hc
  by_cases h11 : o.f0 = 11
  · rw [if_pos h11] at hc
    cases hw : listF l o.f1 with
    | inr e => rw [hw] at hc; cases hc
    | inl x => rw [hw] at hc; injection hc with hc; injection hc with hc _; subst hc; exact h.pr
  rw [if_neg h11] at hc
  by_cases h12 : o.f0 = 12
  · rw [if_pos h12] at hc
    injection hc with hc; injection hc with hc _; subst hc; exact h.pr
  rw [if_neg h12] at hc
  by_cases h13 : o.f0 = 13
  · rw [if_pos h13] at hc
    cases hw : placeF l o.f1 with
    | inr e => rw [hw] at hc; cases hc
    | inl x => rw [hw] at hc; injection hc with hc; injection hc with hc _; subst hc; exact h.pr
  rw [if_neg h13] at hc
  cases hc
/-- Every operation makes a right tree of a right one. -/
theorem do_rt {l : List S58} (h : Rt l) (o : S39) : Rt (doF l o).1 := by
  unfold doF
  cases hw : workF l o with
  | inl x => exact num_rt (work_pr h hw)
  | inr e => exact h
end Go.Proofs.YtllfjmmdackgdaaDoor.PZ
end
/-! GWrite -/
section
namespace Go.Proofs.YtllfjmmdackgdaaDoor.PZ
open Go.RowKit Go.Proofs.YtllfjmmdackgdaaDoorW.PrintWords Go.Proofs.YtllfjmmdackgdaaDoorW.PrintLast Go.Proofs.YtllfjmmdackgdaaDoorW.PrintMore Go.Proofs.YtllfjmmdackgdaaDoor.Ord TD
attribute [local go_sem ↓] Go.wp_at_zero Go.wp_at_succ
set_option maxRecDepth 100000
set_option linter.unusedVariables false
set_option linter.unusedSimpArgs false
/-- copy into the midst of a row, at a step of a region that draws. -/
theorem step_copy_cells {P : Program} {ops : Array Oper} {o : Oper} {a : Act} {w : World} {K : Act → World → Prop} {Q : Exit → Act → World → Prop} {E : Prop} (hw : Region.wanted o (yielded ops a.tmps) = true) (d s : Operand) (dT sT : TypeId)
    (ho : o.op = .call { callee := .builtin .copy, args := #[d, s], argTypes := #[dT, sT] }) (elem : TypeId) (hu : P.underlying dT = some (.slice elem)) (hsz : (P.info? elem).map (·.size) = some 1)
    (g off dLen dCap : Nat) (ad : Addr) (sLen sCap : Nat) (hd : a.eval d = .slice (some ⟨g, off, none⟩) dLen dCap) (hs : a.eval s = .slice (some ad) sLen sCap) (cs : List Value) (hn : cs.length = Nat.min sLen dLen)
    (hsrc : ∀ j v, cs[j]? = some v → w.cell? (ad.add j) = some v) (hc : ∀ j, j < cs.length → (w.cell? ⟨g, off + j, none⟩).isSome = true) (hf : ∀ j, j < cs.length → w.frozen? ⟨g, off + j, none⟩ = false) (h1 : ∀ v ∈ cs, v.oneCell' = true)
    (h : ∀ w1, w1 = w.setCells g off cs → K (a.put o.dst (goInt cs.length)) w1) :
    if Region.wanted o (yielded ops a.tmps) = true then Oper.wp P o a w K Q else E := by
  rw [if_pos hw]
  have hrun := run_copy_cells (P := P) w dT sT o.type elem g off dLen dCap ad sLen sCap cs hu hsz hn hsrc hc hf h1
  unfold Oper.wp
  simp [execOp, ho, resolve, invoke, builtin, hd, hs, hrun, Result.andThen]
  exact h _ rfl
theorem setCell_swap (w : World) (p : Addr) (u : Value) (g o : Nat) (v : Value) (h : p.block ≠ g) : (w.setCell p u).setCell ⟨g, o, none⟩ v = (w.setCell ⟨g, o, none⟩ v).setCell p u := by
  unfold World.setCell
  congr 1
  apply Array.ext_getElem?
  intro i
  simp only [Array.getElem?_modify]
  by_cases h1 : g = i
  · by_cases h2 : p.block = i
    · omega
    · simp [h1, h2]
  · by_cases h2 : p.block = i
    · simp [h1, h2]
    · simp [h1, h2]
theorem setCells_swap (p : Addr) (u : Value) (g : Nat) (h : p.block ≠ g) : ∀ (vs : List Value) (o : Nat) (w : World), (w.setCell p u).setCells g o vs = (w.setCells g o vs).setCell p u
  | [], _, _ => rfl
  | v :: vs, o, w => by
    show ((w.setCell p u).setCell ⟨g, o, none⟩ v).setCells g (o + 1) vs = ((w.setCell ⟨g, o, none⟩ v).setCells g (o + 1) vs).setCell p u
    rw [setCell_swap w p u g o v h, setCells_swap p u g h vs (o + 1)]
/-- A row of numbers of one's own, behind a copy into its midst. -/
theorem R_setCells {e base g n cap : Nat} {w : World} {ok : Nat → Prop} {xs ys : List Int} {at_ : Nat} (HO : (Kd.int .u8).R e w base ok (.slice (some ⟨g, 0, none⟩) n cap) xs) (hle : at_ + ys.length ≤ xs.length) :
    (Kd.int .u8).R e (w.setCells g at_ (nums .u8 ys)) base ok (.slice (some ⟨g, 0, none⟩) n cap) (overF xs at_ ys) ∧ (∀ j, j < xs.length → (w.cell? ⟨g, j, none⟩).isSome = true) ∧ (∀ j, w.frozen? ⟨g, j, none⟩ = false) := by
  have hown := Kd.own_of_R HO
  rcases hown.2 with ⟨hv, hx0⟩ | ⟨g', cap', cur, hv, hb, hh, hnc, hcm, hcs, htake⟩
  · cases hv
  injection hv with hv1 hv2 hv3
  injection hv1 with hv1
  injection hv1 with hv1
  subst hv1 hv2 hv3
  have hcs1 : cur.size = cap := by omega
  have hl : (nums .u8 ys).length = ys.length := nums_length _ _
  obtain ⟨cur', h3, h4, h5⟩ := setCells_row (nums .u8 ys) at_ w cur hh (by rw [hl]; omega)
  have hln : (overF xs at_ ys).length = xs.length := by unfold overF; rw [List.length_append, List.length_append, List.length_take, List.length_drop]; omega
  refine ⟨Kd.R_of_own ?_ HO.1, fun j hj => ?_, fun j => blk_frozen hh j⟩
  · rw [hln]
    refine ⟨by rw [encs_length, hln, Nat.mul_one], .inr ⟨g, cap, cur', rfl, hb, h3, hnc, hcm, by rw [h4, hcs], ?_⟩⟩
    rw [h5, hl]
    have htk : cur.toList.take xs.length = nums .u8 xs := by rw [Nat.mul_one] at htake; exact htake
    show (cur.toList.take at_ ++ nums .u8 ys ++ cur.toList.drop (at_ + ys.length)).take (xs.length * 1) = nums .u8 (overF xs at_ ys)
    rw [Nat.mul_one]
    have e1 : cur.toList.take at_ = nums .u8 (xs.take at_) := by
      rw [nums, List.map_take, ← nums, ← htk, List.take_take, Nat.min_eq_left (by omega)]
    have e2 : (cur.toList.drop (at_ + ys.length)).take (xs.length - (at_ + ys.length)) = nums .u8 (xs.drop (at_ + ys.length)) := by
      rw [nums, List.map_drop, ← nums, ← htk, List.drop_take]
    have hl1 : (cur.toList.take at_ ++ nums .u8 ys).length = at_ + ys.length := by rw [List.length_append, e1, nums_length, nums_length, List.length_take]; omega
    rw [List.take_append, hl1, List.take_of_length_le (by rw [hl1]; exact hle), e2, e1, overF, nums_append, nums_append]
  · rw [blk_cell hh]
    simp
    omega
theorem sum_wrap (i n : Nat) (h : i + n ≤ 100000) : IntKind.i64.wrap ((i : Int) + (n : Int)) = ((i + n : Nat) : Int) := by
  rw [IntKind.wrap_i64]
  omega
theorem nums_at {w : World} {ad : Addr} {xs : List Int} (h : ∀ j, j < xs.length → w.cell? (ad.add j) = some (.int .u8 (xs.getD j 0))) : ∀ j v, (nums .u8 xs)[j]? = some v → w.cell? (ad.add j) = some v := by
  intro j v hv
  rw [nums, List.getElem?_map] at hv
  cases hx : xs[j]? with
  | none => rw [hx] at hv; cases hv
  | some u =>
    rw [hx] at hv
    injection hv with hv
    rw [← hv, h j (List.getElem?_eq_some_iff.1 hx).1, List.getD_eq_getElem?_getD, hx]
    rfl
theorem nums_one (xs : List Int) : ∀ v ∈ nums .u8 xs, v.oneCell' = true := by
  intro v hv
  rw [nums, List.mem_map] at hv
  obtain ⟨u, -, rfl⟩ := hv
  rfl
/-- What stands behind write's copy. -/
theorem write_after (B b : Nat) (l : List S58) (rest : List Value) (g cap k i M g4 c4 : Nat) (xs : List Int) (w1 w2 w6 : World) (hW1 : Wk w1 b (.slice (some ⟨g, 0, none⟩) l.length cap) rest) (hbB : Below w1.heap.size w1 w2) (hgb : g ≠ b) (hg4 : w1.heap.size ≤ g4) (hg : g < w1.heap.size)
    (hP : ∀ (w' : World) (u : Value) (bs : List Int), Below w1.heap.size w1 w' → Kd.R (Kd.int .u8) 5 w' w1.heap.size (fun _ => True) u bs → Kd.S k58 58 (w'.setCell ⟨g, k * 4 + 2, none⟩ u) B (fun k => k ≠ b) (.slice (some ⟨g, 0, none⟩) l.length cap) (setD l k bs))
    (hR : Kd.R (Kd.int .u8) 5 w2 w1.heap.size (fun _ => True) (.slice (some ⟨g4, 0, none⟩) M c4) (sizedF (nd l k).f2 M)) (hM : i + xs.length ≤ M)
    (h6 : w6 = (w2.setCell ⟨g, k * 4 + 2, none⟩ (.slice (some ⟨g4, 0, none⟩) M c4)).drew.setCells g4 i (nums .u8 xs)) :
    Wk w6 b (.slice (some ⟨g, 0, none⟩) l.length cap) rest ∧ Kd.S k58 58 w6 B (fun k => k ≠ b) (.slice (some ⟨g, 0, none⟩) l.length cap) (setD l k (overF (sizedF (nd l k).f2 M) i xs)) ∧ ∃ w3, Below w1.heap.size w1 w3 ∧ w6 = w3.setCell ⟨g, k * 4 + 2, none⟩ (.slice (some ⟨g4, 0, none⟩) M c4) := by
  have e : w6 = (w2.drew.setCells g4 i (nums .u8 xs)).setCell ⟨g, k * 4 + 2, none⟩ (.slice (some ⟨g4, 0, none⟩) M c4) := h6.trans (setCells_swap ⟨g, k * 4 + 2, none⟩ _ g4 (show g ≠ g4 by omega) _ i w2.drew)
  have hb3 : Below w1.heap.size w1 (w2.drew.setCells g4 i (nums .u8 xs)) := (below_drew1 hbB).trans (below_setCells hg4 _ _)
  have hr3 := (R_setCells (w := w2.drew) (xs := sizedF (nd l k).f2 M) (ys := xs) (at_ := i) (Kd.R_drew hR) (by rw [sizedF_len]; exact hM)).1
  subst e
  exact ⟨blk_far (p := ⟨g, k * 4 + 2, none⟩) (blk_below hW1 hb3) (Ne.symm hgb) _, hP _ _ _ hb3 hr3, _, hb3, rfl⟩
set_option maxHeartbeats 4000000 in
theorem write_walk (B b : Nat) (l : List S58) (x y z : Value) (p : ByteArray) (a : Int) (Ad : Option Addr) (cd : Nat) (xs : List Int) (r0 r1 r2 r3 r4 : Value) (w : World) (hst : St B b l (x :: .string p :: y :: .int .i64 a :: z :: .slice Ad xs.length cd :: r0 :: r1 :: r2 :: r3 :: r4 :: [.int .i64 0]) w) (ho : Ok l) (hp : p.size < 10000000) (hd : ∀ k, (nd l k).f2.length < 1000000000)
    (hxc : xs.length ≤ cd) (hx : ∀ w', Below B w w' → Kd.C (Kd.int .u8) w' Ad xs.length xs) :
    Calls Tryd.prog 75 #[.pointer (some ⟨b, 0, none⟩)] w fun en w' => (match writeF l p a xs with
      | .inl l' => en = .returned (.tuple #[]) ∧ St B b l' (x :: .string p :: y :: .int .i64 a :: z :: .slice Ad xs.length cd :: r0 :: r1 :: r2 :: r3 :: r4 :: [.int .i64 xs.length]) w'
      | .inr e => en = .panicked (wrong e)) ∧ BW B w w' := by
  obtain ⟨hBb, v, hw, hS⟩ := hst
  have hbl := blk_lt hw
  have hBw : B ≤ w.heap.size := by omega
  have hk4 : w.cell? ⟨b, 4, none⟩ = some (.int .i64 a) := (blk_cell hw 4).trans rfl
  have hk6 : w.cell? ⟨b, 6, none⟩ = some (.slice Ad xs.length cd) := (blk_cell hw 6).trans rfl
  obtain ⟨g, cap, rfl, hBg, hgl, -⟩ := Kd.S_form hS ho.wf.pos
  have HW := Aside0.mk hw
  have HS := Aside0.mk hS
  have HO := Aside0.mk ho
  have HX := Aside0.mk hx
  clear hw hS ho hx
  unfold writeF
  cases hf : fileF l p with
  | inr e =>
    dsimp only
    have HF := Aside0.mk hf
    clear hf
    go_enter Tryd.func75, Tryd.ntmps75
    go_wp2_with (first | (go_at_call 96; (with_reducible refine (file_walk B b l _ p _ g cap _ hBb HW.out HS.out HO.out hp).mono ?_); rintro e w1 ⟨h1, hb⟩; rw [HF.out] at h1; subst h1; exact ⟨rfl, rfl, BW.mono hb hBw⟩))
  | inl k =>
    dsimp only
    have hkl := (fileF_lt HO.out hf).1
    have HF := Aside0.mk hf
    clear hf
    by_cases hn : 0 ≤ a ∧ a ≤ 46368 ∧ (xs.length : Int) ≤ 46368 - a
    · rw [if_pos hn]
      obtain ⟨hn0, hn1, hn2⟩ := hn
      obtain ⟨i, rfl⟩ : ∃ m : Nat, a = m := ⟨a.toNat, by omega⟩
      have hd0 : decide ((0 : Int) ≤ (i : Int)) = true := decide_eq_true hn0
      have hd1 : decide ((i : Int) ≤ 46368) = true := decide_eq_true hn1
      have hd2 : decide ((xs.length : Int) ≤ 46368 - (i : Int)) = true := decide_eq_true hn2
      rw [Int.toNat_natCast]
      have hdk := hd k
      by_cases hx0 : xs.length = 0
      · rw [if_pos hx0]
        have hxz : decide ((0 : Int) < (xs.length : Int)) = false := decide_eq_false (by omega)
        have hxz2 : decide (0 < xs.length) = false := decide_eq_false (by omega)
        clear hx0
        go_enter Tryd.func75, Tryd.ntmps75
        go_wp2_with (first
          | (go_at_call 96; (with_reducible refine (file_walk B b l _ p _ g cap _ hBb HW.out HS.out HO.out hp).mono ?_); rintro e w1 ⟨h1, hb⟩; rw [HF.out] at h1; subst h1; have hk4_ := (hb.cell (p := ⟨b, 4, none⟩) hbl).trans hk4; have hk6_ := (hb.cell (p := ⟨b, 6, none⟩) hbl).trans hk6; have HW1 := Aside0.mk (blk_below HW.out hb); have HS1 := Aside0.mk (Kd.S_below HS.out hb); have HB := Aside0.mk hb; clear hb))
        go_quiet (fail)
        have hy12 : w1.cell? ⟨b, 12, none⟩ = some (.int .i64 0) := (blk_cell HW1.out 12).trans rfl
        have hf12 := blk_frozen HW1.out 12
        go_wp2_with (first | (go_at_call 81; (with_reducible refine (need_ok _ _).mono ?_); rintro e w9 ⟨rfl, h9⟩; subst w9))
        go_end0
        exact ⟨⟨rfl, hBb, _, Wk.set (blk_drewN HW1.out _) 11 _, Kd.S_far (p := ⟨b, 12, none⟩) (Kd.S_drewN HS1.out _) (fun k hk => hk) _⟩, ((BW.mono HB.out hBw).drewN _).setW hBb (blk_drewN HW1.out _) 12 _⟩
      · rw [if_neg hx0]
        have hxp : 0 < xs.length := Nat.pos_of_ne_zero hx0
        have hxz : decide ((0 : Int) < (xs.length : Int)) = true := decide_eq_true (by omega)
        have hxz2 : decide (0 < xs.length) = true := decide_eq_true hxp
        obtain ⟨M, hM⟩ : ∃ M, max (nd l k).f2.length (i + xs.length) = M := ⟨_, rfl⟩
        have hmx : max ((nd l k).f2.length : Int) (IntKind.i64.wrap ((i : Int) + (xs.length : Int))) = (M : Int) := by rw [sum_wrap i xs.length (by omega)]; omega
        have hM1 : i + xs.length ≤ M := by omega
        have hM2 : M < 1000000000 := by omega
        have hMp : 0 < M := by omega
        rw [hM]
        have HM := Aside0.mk hM
        clear hx0 hM
        go_enter Tryd.func75, Tryd.ntmps75
        go_wp2_with (first
          | (go_at_call 96; (with_reducible refine (file_walk B b l _ p _ g cap _ hBb HW.out HS.out HO.out hp).mono ?_); rintro e w1 ⟨h1, hb⟩; rw [HF.out] at h1; subst h1; have hk4_ := (hb.cell (p := ⟨b, 4, none⟩) hbl).trans hk4; have hk6_ := (hb.cell (p := ⟨b, 6, none⟩) hbl).trans hk6; have HW1 := Aside0.mk (blk_below HW.out hb); have hS1 := Kd.S_below HS.out hb; have hbl1 := blk_lt HW1.out; have hB1 : B ≤ w1.heap.size := (by omega); obtain ⟨v2, v3, -, -, hx2, -, hR2, -, hfr, hgb, -, -, hput⟩ := S_node hbl1 hS1 k hkl hB1; obtain ⟨A2, c2, rfl, hl2, hC2⟩ := Kd.R_reads hR2; have hf2 := hfr 2; have HP := Aside0.mk hput; have HC := Aside0.mk hC2; have HB := Aside0.mk hb; have hgl1 := World.block_lt_of_cell? _ _ hx2; clear hb hS1 hR2 hfr hput hC2))
        go_quiet (fail)
        go_wp2_with (first | (go_at_call 81; (with_reducible refine (need_ok _ _).mono ?_); rintro e w9 ⟨rfl, h9⟩; subst w9))
        go_region_with (first | (go_at_call 97; (with_reducible refine (sized_walk A2 c2 (nd l k).f2 M _ ?hC hl2 hM2).mono ?_); (case hC => exact Kd.C_below HC.out (by repeat (first | with_reducible exact Below.refl _ _ | with_reducible apply below_drew1 | with_reducible apply pw_below_drewN)));  rintro e w2 ⟨v4, rfl, hr, hb⟩; obtain ⟨g4, c4, hv4, hg4, hl4, -⟩ := Kd.R_form hr (by rw [sizedF_len]; exact hMp); rw [sizedF_len] at hv4; subst hv4; have HR := Aside0.mk (Kd.R_lower hr (show w1.heap.size ≤ (w1.drewN (nq + 1)).heap.size from Nat.le_refl _)); have HB2 := Aside0.mk (below_step (pw_below_drewN (Below.refl w1.heap.size w1) _) hb); have hg41 : w1.heap.size ≤ g4 := hg4; have hy2 : w2.cell? ⟨g, k * 4 + 2, none⟩ = some (.slice A2 (nd l k).f2.length c2) := (HB2.out.cell (p := ⟨g, k * 4 + 2, none⟩) hgl1).trans hx2; have hyf : w2.frozen? ⟨g, k * 4 + 2, none⟩ = false := (HB2.out.frozen (p := ⟨g, k * 4 + 2, none⟩) hgl1).trans hf2; have hy6 : w2.cell? ⟨b, 6, none⟩ = some (.slice Ad xs.length cd) := (HB2.out.cell (p := ⟨b, 6, none⟩) hbl1).trans hk6_; clear hr hb hg4))
        all_goals
          clear hmx
          have hgg : g4 ≠ g := by omega
          have hlc : M ≤ c4 := by have := (Kd.R_reads' HR.out).2.1; exact this
          have hci : ¬ c4 = i := by omega
          have hi0 : (0 : Int) ≤ (i : Int) := by omega
          have hi1 : (i : Int) ≤ (M : Int) := by omega
          have hi2 : (M : Int) ≤ (c4 : Int) := by omega
          have hadd : (⟨g4, 0, none⟩ : Addr).add i = ⟨g4, i, none⟩ := add_plain g4 i
          have HXC := Aside0.mk (HX.out (w2.setCell ⟨g, k * 4 + 2, none⟩ (.slice (some ⟨g4, 0, none⟩) M c4)).drew (below_drew1 ((Below.trans (Below.mono HB.out hBw) (Below.mono HB2.out hB1)).setCell (p := ⟨g, k * 4 + 2, none⟩) hBg _)))
          have HR5 := Aside0.mk (R_setCells (w := (w2.setCell ⟨g, k * 4 + 2, none⟩ (.slice (some ⟨g4, 0, none⟩) M c4)).drew) (xs := sizedF (nd l k).f2 M) (ys := xs) (at_ := i) (Kd.R_drew (Kd.R_far (p := ⟨g, k * 4 + 2, none⟩) (Kd.R_mono (Kd.R_bound HR.out) (ok' := fun k => k ≠ g) (fun k hk => by have := hk.2.1; omega)) (fun k hk => hk) _)) (by rw [sizedF_len]; exact hM1))
          obtain ⟨ad, hA, hsrc⟩ := (Kd.reads_of_C (d := (0 : Int)) HXC.out).2.2 hxp
          subst hA
          have HSR := Aside0.mk hsrc
          clear hsrc
          go_wp2
          go_region_law ((refine step_copy_cells (by rfl) _ _ _ _ (by rfl) 5 Tryd.underlying37 info5s g4 i (M - i) (c4 - i) ad xs.length cd (by rfl) (by rfl) (nums .u8 xs) (by rw [nums_length]; exact (Nat.min_eq_left (Nat.le_sub_of_add_le (Nat.add_comm i xs.length ▸ hM1))).symm) (nums_at HSR.out) (fun j hj => HR5.out.2.1 (i + j) (by rw [nums_length] at hj; rw [sizedF_len]; omega)) (fun j _ => HR5.out.2.2 (i + j)) (nums_one xs) ?_; intro w6 h6; obtain ⟨hw6, hs6, w3, hb3, e3⟩ := write_after B b l _ g cap k i M g4 c4 xs w1 w2 w6 HW1.out HB2.out hgb hg41 hgl1 HP.out HR.out hM1 h6; have HW6 := Aside0.mk hw6; have HS6 := Aside0.mk hs6; have HB6 := Aside0.mk (BW.trans (BW.mono HB.out hBw) (e3 ▸ (BW.mono hb3 hB1).setN hBg (Kd.S_below (Kd.S_below HS.out HB.out) hb3) (k * 4 + 2) _)); have hz12 := (blk_cell HW6.out 12).trans (show _ = some (Value.int .i64 0) from rfl); have hzf := blk_frozen HW6.out 12; clear h6 hw6 hs6 hb3 e3))
          all_goals go_wp2
          all_goals go_end0
          all_goals exact ⟨⟨rfl, hBb, _, Wk.set HW6.out 11 _, Kd.S_far (p := ⟨b, 12, none⟩) HS6.out (fun k hk => hk) _⟩, HB6.out.setW hBb HW6.out 12 _⟩
    · rw [if_neg hn]
      dsimp only
      by_cases h0 : 0 ≤ a
      · have hd0 : decide ((0 : Int) ≤ a) = true := decide_eq_true h0
        by_cases h1 : a ≤ 46368
        · have hd1 : decide (a ≤ 46368) = true := decide_eq_true h1
          have hd2 : decide ((xs.length : Int) ≤ 46368 - a) = false := decide_eq_false fun h => hn ⟨h0, h1, h⟩
          clear hn
          go_enter Tryd.func75, Tryd.ntmps75
          go_wp2_with (first
            | (go_at_call 96; (with_reducible refine (file_walk B b l _ p _ g cap _ hBb HW.out HS.out HO.out hp).mono ?_); rintro e w1 ⟨h1, hb⟩; rw [HF.out] at h1; subst h1; have hk4_ := (hb.cell (p := ⟨b, 4, none⟩) hbl).trans hk4; have hk6_ := (hb.cell (p := ⟨b, 6, none⟩) hbl).trans hk6; have HB := Aside0.mk hb; clear hb))
          go_quiet (fail)
          go_wp2_with (first | (go_at_call 81; (with_reducible refine (need_bad 28 _).mono ?_); rintro e w9 ⟨rfl, h9⟩; subst w9; exact ⟨rfl, rfl, (BW.mono HB.out hBw).drewN _⟩))
        · have hd1 : decide (a ≤ 46368) = false := decide_eq_false h1
          clear hn h1
          go_enter Tryd.func75, Tryd.ntmps75
          go_wp2_with (first
            | (go_at_call 96; (with_reducible refine (file_walk B b l _ p _ g cap _ hBb HW.out HS.out HO.out hp).mono ?_); rintro e w1 ⟨h1, hb⟩; rw [HF.out] at h1; subst h1; have hk4_ := (hb.cell (p := ⟨b, 4, none⟩) hbl).trans hk4; have hk6_ := (hb.cell (p := ⟨b, 6, none⟩) hbl).trans hk6; have HB := Aside0.mk hb; clear hb))
          go_quiet (fail)
          go_wp2_with (first | (go_at_call 81; (with_reducible refine (need_bad 28 _).mono ?_); rintro e w9 ⟨rfl, h9⟩; subst w9; exact ⟨rfl, rfl, (BW.mono HB.out hBw).drewN _⟩))
      · have hd0 : decide ((0 : Int) ≤ a) = false := decide_eq_false h0
        clear hn h0
        go_enter Tryd.func75, Tryd.ntmps75
        go_wp2_with (first
          | (go_at_call 96; (with_reducible refine (file_walk B b l _ p _ g cap _ hBb HW.out HS.out HO.out hp).mono ?_); rintro e w1 ⟨h1, hb⟩; rw [HF.out] at h1; subst h1; have hk4_ := (hb.cell (p := ⟨b, 4, none⟩) hbl).trans hk4; have hk6_ := (hb.cell (p := ⟨b, 6, none⟩) hbl).trans hk6; have HB := Aside0.mk hb; clear hb))
        go_quiet (fail)
        go_wp2_with (first | (go_at_call 81; (with_reducible refine (need_bad 28 _).mono ?_); rintro e w9 ⟨rfl, h9⟩; subst w9; exact ⟨rfl, rfl, (BW.mono HB.out hBw).drewN _⟩))
end Go.Proofs.YtllfjmmdackgdaaDoor.PZ
end
/-! GCloneB -/
section
namespace Go.Proofs.YtllfjmmdackgdaaDoor.PZ
open Go.RowKit Go.Proofs.YtllfjmmdackgdaaDoorW.PrintWords Go.Proofs.YtllfjmmdackgdaaDoorW.PrintLast Go.Proofs.YtllfjmmdackgdaaDoorW.PrintMore
set_option maxRecDepth 100000
set_option linter.unusedVariables false
set_option linter.unusedSimpArgs false
theorem cloneb_walk (A0 : Option Addr) (c0 : Nat) (l0 : List Int) (w : World) (hr0 : Kd.C (Kd.int .u8) w A0 l0.length l0) (hc0 : l0.length ≤ c0) (hn : l0.length < 1000000000000) :
    Calls Tryd.prog 66 #[.slice A0 l0.length c0] w fun e w' => ∃ v0_ : Value, e = .returned v0_ ∧ Kd.R (Kd.int .u8) 5 w' w.heap.size (fun _ => True) v0_ l0 ∧ Below w.heap.size w w' := by
  cases A0 with
  | none =>
    have h0 : l0 = [] := by
      rcases Nat.eq_zero_or_pos l0.length with h | h
      · exact List.eq_nil_of_length_eq_zero h
      · obtain ⟨ad, e, _⟩ := Kd.at_int hr0 0 (by omega) (by omega)
        cases e
    subst h0
    have hnil : ∀ W, (binOp .eql 37 (.slice none 0 c0) (.slice none 0 0)).run Tryd.prog W = .ok (.bool true) W := fun W => Lib.run_eql_slice_nil (P := Tryd.prog) W 37 5 none 0 c0 0 0 Tryd.underlying37
    go_enter Tryd.func66, Tryd.ntmps66
    go_wp2
    go_ret
    exact ⟨_, rfl, Kd.R_nil _ _ _ _ _, Below.refl _ _⟩
  | some ad =>
    have HR0 := Aside0.mk hr0
    clear hr0
    have hnil : ∀ W, (binOp .eql 37 (.slice (some ad) l0.length c0) (.slice none 0 0)).run Tryd.prog W = .ok (.bool false) W := fun W => Lib.run_eql_slice_nil (P := Tryd.prog) W 37 5 (some ad) l0.length c0 0 0 Tryd.underlying37
    have HB := Aside0.mk (Below.refl w.heap.size w)
    go_enter Tryd.func66, Tryd.ntmps66
    go_wp2_with (first | ((with_reducible refine gate_dst (N := 5) rfl ?_); refine Kd.R_lit (Kd.int .u8) _ 5 ?hg (N := 5) ?hd (xs := ([] : List Int)) (inner := []) (ok := fun _ => True) (okp := fun _ => True) ?hr ?hp (fun _ hk => hk) trivial (Below.refl _ _) (Nat.le_refl _) (by simp) ?_; (case hd => rfl); (case hg => rfl); (case hr => first | (go_simp; done) | (go_simp; rfl)); (case hp => exact (Reps.none _ _)); intro v1 w1 ho hb hg_ hnew_; clear hg_ hnew_; have HO := Aside0.mk ho; have HB1 := Aside0.mk hb; clear hb ho) | ((with_reducible refine gate_builtin (b := .append) (xs := #[.tmp 5, .tmp 6]) rfl ?_); at_builtin; refine Kd.R_append_rows (Kd.int .u8) (w0 := w) w.heap.size rfl (.tmp 5) (.tmp 6) 37 5 (.int .u8 0) 1 rfl Tryd.underlying37 info5 rfl (by decide) (by omega) v1 [] l0 _ _ _ (fun _ => True) (fun _ => False) rfl rfl ?aO ?aR (fun _ _ h => h) (fun _ h => h.elim) (fun _ _ => trivial) ?aB ?aS ?aL ?_; (case aR => exact Kd.C_below HR0.out HB1.out); (case aB => exact HB1.out); (case aO => exact HO.out); (case aS => exact HB1.out.size); (case aL => simp; omega); intro v2 w2 ho hb hg hat; have HO2 := Aside0.mk ho; have HB2 := Aside0.mk hb; clear ho hb hg hat))
    go_ret
    exact ⟨_, rfl, HO2.out, HB2.out⟩
end Go.Proofs.YtllfjmmdackgdaaDoor.PZ
end
