/- What the statement TreeUndoneCardSaid alone wants beside the common texts M..: the walk of the law's own Go function and its plain facts. No condition but those in the theorems. -/
import Derived.Test.YtllfjmmdackgdaaDoorM00
import Derived.Test.YtllfjmmdackgdaaDoorM01
import Derived.Test.YtllfjmmdackgdaaDoorM02
import Derived.Test.YtllfjmmdackgdaaDoorM03
import Derived.Test.YtllfjmmdackgdaaDoorM04
import Derived.Test.YtllfjmmdackgdaaDoorM05
import Derived.Test.YtllfjmmdackgdaaDoorM06
import Derived.Test.YtllfjmmdackgdaaDoorM07
import Derived.Test.YtllfjmmdackgdaaDoorM08
import Derived.Test.YtllfjmmdackgdaaDoorM09
import Derived.Test.YtllfjmmdackgdaaDoorM10
import Derived.Test.YtllfjmmdackgdaaDoorM11
import Derived.Test.YtllfjmmdackgdaaDoorM12
import Derived.Test.YtllfjmmdackgdaaDoorM13
import Derived.Test.YtllfjmmdackgdaaDoorM14
import Derived.Test.YtllfjmmdackgdaaDoorM15
import Derived.Test.YtllfjmmdackgdaaDoorM16
import Derived.Test.YtllfjmmdackgdaaDoorM17
import Derived.Test.YtllfjmmdackgdaaDoorM18
import Derived.Test.YtllfjmmdackgdaaDoorM19
import Derived.Test.YtllfjmmdackgdaaDoorM20
import Derived.Test.YtllfjmmdackgdaaDoorM21
import Derived.Test.YtllfjmmdackgdaaDoorM22
import Derived.Test.YtllfjmmdackgdaaDoorM23
import Derived.Test.YtllfjmmdackgdaaDoorM24
import Derived.Test.YtllfjmmdackgdaaDoorM25
import Derived.Test.YtllfjmmdackgdaaDoorM26
import Derived.Test.YtllfjmmdackgdaaDoorM27
import Derived.Test.YtllfjmmdackgdaaDoorM28
import Derived.Test.YtllfjmmdackgdaaDoorM29
import Derived.Test.YtllfjmmdackgdaaDoorM30
import Derived.Test.YtllfjmmdackgdaaDoorM31
import Derived.Test.YtllfjmmdackgdaaDoorM32
import Derived.Test.YtllfjmmdackgdaaDoorM33
import Derived.Test.YtllfjmmdackgdaaDoorM34
import Derived.Test.YtllfjmmdackgdaaDoorM35
import Derived.Test.YtllfjmmdackgdaaDoorM36
import Derived.Test.YtllfjmmdackgdaaDoorM37
import Derived.Test.YtllfjmmdackgdaaDoorM38
import Derived.Test.YtllfjmmdackgdaaDoorM39
set_option linter.unusedVariables false
set_option linter.unusedSimpArgs false
/-! TT -/
section
namespace Go.Proofs.YtllfjmmdackgdaaDoor.PZ
open Go.RowKit Go.Proofs.YtllfjmmdackgdaaDoorW.PrintWords Go.Proofs.YtllfjmmdackgdaaDoorW.PrintLast Go.Proofs.YtllfjmmdackgdaaDoorW.PrintMore Go.Proofs.YtllfjmmdackgdaaDoor.Ord Go.Proofs.YtllfjmmdackgdaaDoor.B TD
set_option linter.unusedVariables false
set_option linter.unusedSimpArgs false
theorem ren_ren (f g : Nat → Nat) (e : S102) : ren f (ren g e) = ren (fun k => f (g k)) e := by
  unfold ren ino
  simp
theorem cut_ren (es : List S102) (f : Nat → Nat) (n : ByteArray) : cutL (es.map (ren f)) n = (cutL es n).map (ren f) := by
  unfold cutL
  rw [List.filter_map]
  rfl
end Go.Proofs.YtllfjmmdackgdaaDoor.PZ
end
/-! TU -/
section
namespace Go.Proofs.YtllfjmmdackgdaaDoor.PZ
open Go.RowKit Go.Proofs.YtllfjmmdackgdaaDoorW.PrintWords Go.Proofs.YtllfjmmdackgdaaDoorW.PrintLast Go.Proofs.YtllfjmmdackgdaaDoorW.PrintMore Go.Proofs.YtllfjmmdackgdaaDoor.Ord Go.Proofs.YtllfjmmdackgdaaDoor.B TD
set_option linter.unusedVariables false
set_option linter.unusedSimpArgs false
section
variable {f : Nat → Nat} {l l' : List S58}
theorem idxOf_map {m : List Nat} {f : Nat → Nat} (hi : ∀ a b, a ∈ m → b ∈ m → f a = f b → a = b) {k : Nat} (hk : k ∈ m) : (m.map f).idxOf (f k) = m.idxOf k := by
  induction m with
  | nil => cases hk
  | cons x r ih =>
    rw [List.map_cons, List.idxOf_cons, List.idxOf_cons]
    by_cases e : x = k
    · subst e; simp
    · have e2 : ¬ f x = f k := fun h => e (hi x k List.mem_cons_self hk h)
      have hk' : k ∈ r := by
        rcases List.mem_cons.1 hk with h | h
        · exact absurd h.symm e
        · exact h
      rw [show (x == k) = false from beq_eq_false_iff_ne.2 e, show (f x == f k) = false from beq_eq_false_iff_ne.2 e2]
      simp only [cond_false]
      rw [ih (fun a b ha hb => hi a b (List.mem_cons_of_mem _ ha) (List.mem_cons_of_mem _ hb)) hk']
theorem Iso.pl (h : Iso f l l') {k : Nat} (hk : k ∈ mt l) : Go.Proofs.YtllfjmmdackgdaaDoor.PZ.pl l' (f k) = Go.Proofs.YtllfjmmdackgdaaDoor.PZ.pl l k := by
  unfold Go.Proofs.YtllfjmmdackgdaaDoor.PZ.pl
  rw [h.met]
  exact idxOf_map h.inj hk
theorem ren_congr {es : List S102} {f g : Nat → Nat} (h : ∀ e ∈ es, f (ino e) = g (ino e)) : es.map (ren f) = es.map (ren g) :=
  List.map_congr_left fun e he => by unfold ren; rw [h e he]
theorem Iso.renum (h : Iso f l l') : Go.Proofs.YtllfjmmdackgdaaDoor.PZ.renum l' = Go.Proofs.YtllfjmmdackgdaaDoor.PZ.renum l := by
  unfold Go.Proofs.YtllfjmmdackgdaaDoor.PZ.renum
  rw [h.met, List.map_map]
  refine List.map_congr_left fun k hk => ?_
  show (⟨(nd l' (f k)).f0, 0, (nd l' (f k)).f2, (nd l' (f k)).f3.map (ren (Go.Proofs.YtllfjmmdackgdaaDoor.PZ.pl l'))⟩ : S58) = _
  rw [h.kind k hk, h.data k hk, h.ents k hk, List.map_map]
  congr 1
  have e1 : (ren (Go.Proofs.YtllfjmmdackgdaaDoor.PZ.pl l') ∘ ren f) = ren (fun k => Go.Proofs.YtllfjmmdackgdaaDoor.PZ.pl l' (f k)) := by funext e; exact ren_ren _ _ e
  rw [e1]
  exact ren_congr fun e he => h.pl (h.wf.mt_step hk he)
theorem Iso.num (h : Iso f l l') : Go.Proofs.YtllfjmmdackgdaaDoor.PZ.num l' = Go.Proofs.YtllfjmmdackgdaaDoor.PZ.num l := by unfold Go.Proofs.YtllfjmmdackgdaaDoor.PZ.num; rw [h.renum]
end
end Go.Proofs.YtllfjmmdackgdaaDoor.PZ
end
/-! TX -/
section
namespace Go.Proofs.YtllfjmmdackgdaaDoor.PZ
open Go.RowKit Go.Proofs.YtllfjmmdackgdaaDoorW.PrintWords Go.Proofs.YtllfjmmdackgdaaDoorW.PrintLast Go.Proofs.YtllfjmmdackgdaaDoorW.PrintMore Go.Proofs.YtllfjmmdackgdaaDoor.Ord Go.Proofs.YtllfjmmdackgdaaDoor.B TD
set_option linter.unusedVariables false
set_option linter.unusedSimpArgs false
section
variable {l : List S58}
end
section
variable {l l' : List S58} {d : Nat} {n : ByteArray}
end
section
variable {f : Nat → Nat} {l l' : List S58}
theorem mt_cut_sub (h : Wf l) {d : Nat} (hd : d < l.length) (n : ByteArray) {k : Nat} (hk : k ∈ mt (cutT l d n)) : k ∈ mt l := by
  refine met_all (n := (cutT l d n).length) (ch := chl (cutT l d n)) (R := fun k => k ∈ mt l) h.zero ?_ hk
  intro k hj _ c hc
  obtain ⟨e, he, rfl⟩ := List.mem_map.1 hc
  unfold cutT at he
  rw [setE_f3 hd] at he
  split at he
  · rename_i e2; subst e2
    exact h.mt_step hj (mem_cut.1 he).1
  · exact h.mt_step hj he
theorem Iso.cut (h : Iso f l l') {d : Nat} (hdm : d ∈ mt l) (hd : (nd l d).f0 = 2) (n : ByteArray) : Iso f (cutT l d n) (cutT l' (f d) n) := by
  have hdl := Pr.lt_of_dir hd
  have hdl' := h.lt d hdm
  have hsub : ∀ k, k ∈ mt (cutT l d n) → k ∈ mt l := fun k hk => mt_cut_sub h.wf hdl n hk
  refine ⟨h.wf.cut hd n, h.zero, fun k hk => ?_, fun a b ha hb => h.inj a b (hsub a ha) (hsub b hb), fun k hk => ?_, fun k hk => ?_, fun k hk => ?_⟩
  · unfold cutT; rw [setE_len]; exact h.lt k (hsub k hk)
  · unfold cutT; rw [setE_f0, setE_f0]; exact h.kind k (hsub k hk)
  · unfold cutT; rw [setE_f2, setE_f2]; exact h.data k (hsub k hk)
  · unfold cutT
    rw [setE_f3 hdl, setE_f3 hdl']
    by_cases e : k = d
    · subst e; rw [if_pos rfl, if_pos rfl, h.ents k hdm, cut_ren]
    · rw [if_neg e, if_neg (fun e2 => e (h.inj _ _ (hsub k hk) hdm e2))]
      exact h.ents k (hsub k hk)
/-- A node that nothing leads to is no matter. -/
theorem num_app (h : Wf l) (kd : Int) : num (l ++ [⟨kd, 0, [], []⟩]) = num l := by
  have hn : ∀ k ∈ mt l, nd (l ++ [⟨kd, 0, [], []⟩]) k = nd l k := fun k hk => by rw [nd_app, if_neg (by have := mt_lt hk; omega)]
  refine (Iso.num (f := id) ⟨h, rfl, fun k hk => ?_, fun a b _ _ e => e, fun k hk => ?_, fun k hk => ?_, fun k hk => ?_⟩)
  · have := mt_lt hk
    simp; omega
  · show (nd _ k).f0 = _; rw [hn k hk]
  · show (nd _ k).f2 = _; rw [hn k hk]
  · show (nd _ k).f3 = _
    rw [hn k hk, ren_id (fun e _ => rfl) (fun e he => by have := h.rng k e he; omega)]
end
end Go.Proofs.YtllfjmmdackgdaaDoor.PZ
end
/-! TL -/
section
namespace Go.Proofs.YtllfjmmdackgdaaDoor.PZ
open Go.RowKit Go.Proofs.YtllfjmmdackgdaaDoorW.PrintWords Go.Proofs.YtllfjmmdackgdaaDoorW.PrintLast Go.Proofs.YtllfjmmdackgdaaDoorW.PrintMore Go.Proofs.YtllfjmmdackgdaaDoor.Ord Go.Proofs.YtllfjmmdackgdaaDoor.B TD
set_option maxRecDepth 100000
set_option linter.unusedVariables false
set_option linter.unusedSimpArgs false
theorem num_spot {l : List S58} (h : Wf l) (p : ByteArray) : spotF (num l) p = (match spotF l p with | .inl s => .inl (pl l s.1, s.2.1, s.2.2.map (pl l)) | .inr e => .inr e) := by
  unfold spotF
  split
  · rw [num_wk h]
    cases hw : wk l (splitA p).1.dropLast 0 with
    | inr e => rfl
    | inl d =>
      dsimp only
      have hd := wk_met h h.zero hw
      rw [(iso_num h).kind d hd]
      split
      · rw [(iso_num h).ents d hd, look_ren]
        dsimp only
        rw [Option.map_map, Option.map_map]
        have hfe : (ino ∘ ren (pl l)) = (pl l ∘ ino) := funext fun e => ino_ren _ _
        rw [hfe]
      · rfl
  · rfl
theorem wk_app {l : List S58} (h : Wf l) (kd : Int) (ns : List ByteArray) : ∀ {at_ : Nat}, at_ ∈ mt l → wk (l ++ [⟨kd, 0, [], []⟩]) ns at_ = wk l ns at_ := by
  induction ns with
  | nil => intro at_ _; rfl
  | cons n ns ih =>
    intro at_ hm
    have hn : nd (l ++ [⟨kd, 0, [], []⟩]) at_ = nd l at_ := by rw [nd_app, if_neg (by have := mt_lt hm; omega)]
    unfold wk
    rw [hn]
    split
    · cases hl : look (nd l at_).f3 n with
      | none => rfl
      | some e =>
        dsimp only
        exact ih (h.mt_step hm (look_some hl).1)
    · rfl
theorem create_at {l l' : List S58} {p : ByteArray} {kd : Int} (h : Rt l) (hc : createF l p kd = .inl l') :
    p ≠ rootP ∧ ∃ q d nm, splitA p = (q ++ [nm], 0) ∧ wk l q 0 = .inl d ∧ (nd l d).f0 = 2 ∧ d < l.length ∧ look (nd l d).f3 nm = none ∧ l' = putT (l ++ [⟨kd, 0, [], []⟩]) d nm l.length := by
  unfold createF at hc
  split at hc
  · cases hc
  rename_i hr
  split at hc
  · cases hc
  · cases hc
  rename_i d nm hs
  split at hc
  · cases hc
  split at hc
  · injection hc with hc
    obtain ⟨q, hq, hw, hd, hn, ho⟩ := spot_at hs hr
    have hdl := (spotF_inl hs).choose_spec.2.2.2.2.1
    exact ⟨hr, q, d, nm, hq, hw, hd, hdl, spot_free hs, by rw [← hc, putT_app hdl]⟩
  · cases hc
/-- A node is made, and what is found then at its path. -/
theorem created {l l' : List S58} {p : ByteArray} {kd : Int} (h : Rt l) (hk : kd = 1 ∨ kd = 2) (hc : createF l p kd = .inl l') :
    ∃ d nm, placeF l' p = .inl l.length ∧ (nd l' l.length).f0 = kd ∧ (nd l' l.length).f3 = [] ∧ spotF l' p = .inl (d, nm, some l.length) ∧ (nd l' d).f0 = 2 ∧ num (cutT l' d nm) = l ∧ placeF l p = .inr 21 ∧ l.length ≠ 0 := by
  obtain ⟨hr, q, d, nm, hq, hw, hd, hdl, hlk, rfl⟩ := create_at h hc
  have hL := h.pr.wf.app kd
  have hn : nd (l ++ [⟨kd, 0, [], []⟩]) d = nd l d := by rw [nd_app, if_neg (by omega)]
  have hdL : d < (l ++ [(⟨kd, 0, [], []⟩ : S58)]).length := by rw [List.length_append]; omega
  have hlkL : look (nd (l ++ [⟨kd, 0, [], []⟩]) d).f3 nm = none := by rw [hn]; exact hlk
  have hwL : wk (l ++ [⟨kd, 0, [], []⟩]) q 0 = .inl d := by rw [wk_app h.pr.wf kd q h.pr.wf.zero]; exact hw
  have hw1 := wk_put_keep (hL.srt d) hdL hlkL l.length hwL
  have hw2 := wk_put_at (hL.srt d) (by rw [hn]; exact hd) nm l.length hw1
  have hpl : d ≠ l.length := by omega
  have hf0 : (nd (putT (l ++ [⟨kd, 0, [], []⟩]) d nm l.length) l.length).f0 = kd := by unfold putT; rw [setE_f0, nd_app, if_pos rfl]
  have hf3 : (nd (putT (l ++ [⟨kd, 0, [], []⟩]) d nm l.length) l.length).f3 = [] := by unfold putT; rw [setE_f3 hdL, if_neg (Ne.symm hpl), nd_app, if_pos rfl]
  have hd2 : (nd (putT (l ++ [⟨kd, 0, [], []⟩]) d nm l.length) d).f0 = 2 := by unfold putT; rw [setE_f0, hn]; exact hd
  refine ⟨d, nm, ?_, hf0, hf3, ?_, hd2, ?_, ?_, by have := h.pr.wf.pos; omega⟩
  · unfold placeF
    rw [hq, if_pos rfl]
    exact hw2
  · unfold spotF
    rw [hq, if_pos rfl]
    dsimp only
    rw [List.dropLast_concat, hw1]
    dsimp only
    rw [if_pos hd2, List.getLastD_concat]
    have h3 : (nd (putT (l ++ [⟨kd, 0, [], []⟩]) d nm l.length) d).f3 = putL (nd l d).f3 nm (l.length : Int) := by unfold putT; rw [setE_f3 hdL, if_pos rfl, hn]
    rw [h3, look_put_same (h.pr.wf.srt d)]
    simp [ino]
  · rw [cut_putT (hL.srt d) hdL, cutT_none hdL hlkL, num_app h.pr.wf]
    exact h.num
  · unfold placeF
    rw [hq, if_pos rfl]
    dsimp only
    rw [wk_append, hw]
    dsimp only
    unfold wk
    rw [if_pos hd, hlk]
/-- What is made is taken away again: the tree is as it was, and was another in between. -/
theorem undone_file {l l' : List S58} {p : ByteArray} (h : Rt l) (hc : createF l p 1 = .inl l') : ∃ l2, unlinkF (num l') p = .inl l2 ∧ num l2 = l ∧ num l' ≠ l := by
  obtain ⟨d, nm, hpl, hf0, hf3, hsp, hd2, hnum, hold, -⟩ := created h (.inl rfl) hc
  have hp := create_pr h (.inl rfl) hc
  have hm := wk_met hp.wf hp.wf.zero (fileplace hpl)
  have hdm : d ∈ mt l' := by
    obtain ⟨q, hq, hw, -⟩ := spotF_inl hsp
    exact wk_met hp.wf hp.wf.zero hw
  refine ⟨cutT (num l') (pl l' d) nm, ?_, ?_, fun he => ?_⟩
  · unfold unlinkF
    rw [num_place hp.wf, hpl]
    dsimp only
    rw [(iso_num hp.wf).kind _ hm, hf0, if_neg (by decide), num_spot hp.wf, hsp]
  · rw [((iso_num hp.wf).cut hdm hd2 nm).num]
    exact hnum
  · have h1 := num_place hp.wf p
    rw [he, hold, hpl] at h1
    cases h1
theorem undone_dir {l l' : List S58} {p : ByteArray} (h : Rt l) (hc : createF l p 2 = .inl l') : ∃ l2, rmdirF (num l') p = .inl l2 ∧ num l2 = l ∧ num l' ≠ l := by
  obtain ⟨d, nm, hpl, hf0, hf3, hsp, hd2, hnum, hold, hn0⟩ := created h (.inr rfl) hc
  have hp := create_pr h (.inr rfl) hc
  have hm := wk_met hp.wf hp.wf.zero (fileplace hpl)
  have hdm : d ∈ mt l' := by
    obtain ⟨q, hq, hw, -⟩ := spotF_inl hsp
    exact wk_met hp.wf hp.wf.zero hw
  refine ⟨cutT (num l') (pl l' d) nm, ?_, ?_, fun he => ?_⟩
  · unfold rmdirF
    rw [num_place hp.wf, hpl]
    dsimp only
    rw [(iso_num hp.wf).kind _ hm, hf0, if_pos rfl, num_spot hp.wf, hsp, if_neg]
    rintro (hz | hz)
    · exact hn0 (pl_inj hm hp.wf.zero (by rw [hz, pl_zero hp.wf]))
    · rw [(iso_num hp.wf).ents _ hm, hf3] at hz
      exact hz rfl
  · rw [((iso_num hp.wf).cut hdm hd2 nm).num]
    exact hnum
  · have h1 := num_place hp.wf p
    rw [he, hold, hpl] at h1
    cases h1
theorem undone_link {l l' : List S58} {p q : ByteArray} (h : Rt l) (hc : linkF l p q = .inl l') : ∃ l2, unlinkF (num l') q = .inl l2 ∧ num l2 = l ∧ num l' ≠ l := by
  obtain ⟨k, d, nm, hpl, hkl, hk1, hpp, hpq, hkk, hkeep, hsp, hd2, hnum, hold, -⟩ := linked h hc
  have hp := link_pr h hc
  have hm := wk_met hp.wf hp.wf.zero (fileplace hpq)
  have hdm : d ∈ mt l' := by
    obtain ⟨q, hq, hw, -⟩ := spotF_inl hsp
    exact wk_met hp.wf hp.wf.zero hw
  refine ⟨cutT (num l') (pl l' d) nm, ?_, ?_, fun he => ?_⟩
  · unfold unlinkF
    rw [num_place hp.wf, hpq]
    dsimp only
    rw [(iso_num hp.wf).kind _ hm, hkk, if_neg (by decide), num_spot hp.wf, hsp]
  · rw [((iso_num hp.wf).cut hdm hd2 nm).num]
    exact hnum
  · have h1 := num_place hp.wf q
    rw [he, hold, hpq] at h1
    cases h1
end Go.Proofs.YtllfjmmdackgdaaDoor.PZ
end
/-! TLawB -/
section
namespace Go.Proofs.YtllfjmmdackgdaaDoor.PZ
open Go.RowKit Go.Proofs.YtllfjmmdackgdaaDoorW.PrintWords Go.Proofs.YtllfjmmdackgdaaDoorW.PrintLast Go.Proofs.YtllfjmmdackgdaaDoorW.PrintMore TD
set_option maxRecDepth 100000
/-- What is made is taken away again. -/
theorem undone_law1 {l : List S58} (h : Rt l) {p q : ByteArray} (hr : (doF l ⟨1, p, q, 0, 0, []⟩).2.f0 = 0) :
    (doF (doF l ⟨1, p, q, 0, 0, []⟩).1 ⟨4, p, ⟨#[]⟩, 0, 0, []⟩).2.f0 = 0 ∧ (doF (doF l ⟨1, p, q, 0, 0, []⟩).1 ⟨4, p, ⟨#[]⟩, 0, 0, []⟩).1 = l ∧ (doF l ⟨1, p, q, 0, 0, []⟩).1 ≠ l := by
  obtain ⟨l', r, hw, he⟩ := ok_work hr
  obtain ⟨hc, rfl⟩ := plain_in (show plain (createF l p 1) = .inl (l', r) from hw)
  obtain ⟨l2, h1, h2, h3⟩ := undone_file h hc
  rw [he]
  dsimp only
  rw [do_in (l := num l') (o := ⟨4, p, ⟨#[]⟩, 0, 0, []⟩) (l' := l2) (r := res0) (by show plain (unlinkF (num l') p) = _; rw [h1]; rfl)]
  exact ⟨rfl, h2, h3⟩
theorem undone_law2 {l : List S58} (h : Rt l) {p q : ByteArray} (hr : (doF l ⟨2, p, q, 0, 0, []⟩).2.f0 = 0) :
    (doF (doF l ⟨2, p, q, 0, 0, []⟩).1 ⟨5, p, ⟨#[]⟩, 0, 0, []⟩).2.f0 = 0 ∧ (doF (doF l ⟨2, p, q, 0, 0, []⟩).1 ⟨5, p, ⟨#[]⟩, 0, 0, []⟩).1 = l ∧ (doF l ⟨2, p, q, 0, 0, []⟩).1 ≠ l := by
  obtain ⟨l', r, hw, he⟩ := ok_work hr
  obtain ⟨hc, rfl⟩ := plain_in (show plain (createF l p 2) = .inl (l', r) from hw)
  obtain ⟨l2, h1, h2, h3⟩ := undone_dir h hc
  rw [he]
  dsimp only
  rw [do_in (l := num l') (o := ⟨5, p, ⟨#[]⟩, 0, 0, []⟩) (l' := l2) (r := res0) (by show plain (rmdirF (num l') p) = _; rw [h1]; rfl)]
  exact ⟨rfl, h2, h3⟩
theorem undone_law3 {l : List S58} (h : Rt l) {p q : ByteArray} (hr : (doF l ⟨3, p, q, 0, 0, []⟩).2.f0 = 0) :
    (doF (doF l ⟨3, p, q, 0, 0, []⟩).1 ⟨4, q, ⟨#[]⟩, 0, 0, []⟩).2.f0 = 0 ∧ (doF (doF l ⟨3, p, q, 0, 0, []⟩).1 ⟨4, q, ⟨#[]⟩, 0, 0, []⟩).1 = l ∧ (doF l ⟨3, p, q, 0, 0, []⟩).1 ≠ l := by
  obtain ⟨l', r, hw, he⟩ := ok_work hr
  obtain ⟨hc, rfl⟩ := plain_in (show plain (linkF l p q) = .inl (l', r) from hw)
  obtain ⟨l2, h1, h2, h3⟩ := undone_link h hc
  rw [he]
  dsimp only
  rw [do_in (l := num l') (o := ⟨4, q, ⟨#[]⟩, 0, 0, []⟩) (l' := l2) (r := res0) (by show plain (unlinkF (num l') q) = _; rw [h1]; rfl)]
  exact ⟨rfl, h2, h3⟩
end Go.Proofs.YtllfjmmdackgdaaDoor.PZ
end
/-! GBoxR -/
section
namespace Go.Proofs.YtllfjmmdackgdaaDoor.PZ
open Go.RowKit Go.Proofs.YtllfjmmdackgdaaDoorW.PrintWords Go.Proofs.YtllfjmmdackgdaaDoorW.PrintLast Go.Proofs.YtllfjmmdackgdaaDoorW.PrintMore Go.Proofs.YtllfjmmdackgdaaDoor.B TD
set_option linter.unusedVariables false
theorem add_off (a : Addr) (n : Nat) : (a.add n).off = a.off + n := by
  unfold Addr.add
  split
  · rename_i h; simp_all
  · rfl
/-- What a cell of a block holds. -/
theorem cell_of {w : World} {ad : Addr} {g T : Nat} {u : Value} {cs : Array Value} {f : Nat × Nat} (hg : w.heap[g]? = some (.cells cs T f)) (h : w.cell? ad = some u) (e : ad.block = g) : cs[ad.off]? = some u := by
  unfold World.cell? at h
  rw [e, hg] at h
  dsimp only at h
  split at h
  · cases h
  · exact h
section
variable {w W : World} {g T : Nat} {z0 z3 z4 z5 : Int} {Ag Bg : Option Addr} {ng mg cg dg : Nat} {f : Nat × Nat} {A : Option Addr} {n : Nat}
theorem res_cells {i : Nat} {u : Value} (h : (#[.int .i64 z0, .slice Ag ng cg, .slice Bg mg dg, .int .i64 z3, .int .i64 z4, .int .i64 z5] : Array Value)[i]? = some u) :
    ((i = 0 ∨ i = 3 ∨ i = 4 ∨ i = 5) ∧ ∃ z, u = .int .i64 z) ∨ ((i = 1 ∨ i = 2) ∧ ∃ A n c, u = .slice A n c) := by
  match i, h with
  | 0, h => exact .inl ⟨.inl rfl, z0, (Option.some.inj h).symm⟩
  | 1, h => exact .inr ⟨.inl rfl, Ag, ng, cg, (Option.some.inj h).symm⟩
  | 2, h => exact .inr ⟨.inr rfl, Bg, mg, dg, (Option.some.inj h).symm⟩
  | 3, h => exact .inl ⟨.inr (.inl rfl), z3, (Option.some.inj h).symm⟩
  | 4, h => exact .inl ⟨.inr (.inr (.inl rfl)), z4, (Option.some.inj h).symm⟩
  | 5, h => exact .inl ⟨.inr (.inr (.inr rfl)), z5, (Option.some.inj h).symm⟩
  | i + 6, h => rw [Array.getElem?_eq_none (by simp)] at h; cases h
theorem C_flatR {α : Type} {d : Kd α} {xs : List α} (hf : ∀ x cs, d.K w x cs → ∃ (i : Nat) (u : Value), cs[i]? = some u ∧ (∀ A n c, u ≠ .slice A n c) ∧ ∀ z, u ≠ .int .i64 z) (hK : ∀ x cs, d.K w x cs → d.K W x cs) (hg : w.heap[g]? = some (.cells #[.int .i64 z0, .slice Ag ng cg, .slice Bg mg dg, .int .i64 z3, .int .i64 z4, .int .i64 z5] T f)) (hk : ∀ k, k ≠ g → W.heap[k]? = w.heap[k]?) (h : d.C w A n xs) : d.C W A n xs :=
  ⟨h.1, h.2.1, fun hn => by
    obtain ⟨ad, e, hc⟩ := h.2.2 hn
    refine ⟨ad, e, fun j p hj => ?_⟩
    obtain ⟨c, hs, hr, hcell⟩ := hc j p hj
    obtain ⟨i, u, hu, h1, h2⟩ := hf _ _ hr
    have hb : ad.block ≠ g := fun he => by
      rcases res_cells (cell_of hg (hcell i u hu) (by rw [add_block]; exact he)) with ⟨-, z, hz⟩ | ⟨-, A, n, c, hz⟩
      · exact h2 z hz
      · exact h1 _ _ _ hz
    exact ⟨c, hs, hK _ _ hr, fun i u hu => (cell_apart hk (by rw [add_block]; exact hb)).trans (hcell i u hu)⟩⟩
theorem C_resR {xs : List S58} (hg : w.heap[g]? = some (.cells #[.int .i64 z0, .slice Ag ng cg, .slice Bg mg dg, .int .i64 z3, .int .i64 z4, .int .i64 z5] T f)) (hk : ∀ k, k ≠ g → W.heap[k]? = w.heap[k]?) (h : k58.C w A n xs) : k58.C W A n xs :=
  ⟨h.1, h.2.1, fun hn => by
    obtain ⟨ad, e, hc⟩ := h.2.2 hn
    refine ⟨ad, e, fun j p hj => ?_⟩
    obtain ⟨c, hs, hr, hcell⟩ := hc j p hj
    obtain ⟨A2, c2, A3, c3, rfl, l2, g2, l3, g3⟩ := k58_open hr
    have hb : ad.block ≠ g := fun he => by
      have q0 := res_cells (cell_of hg (hcell 0 _ rfl) (by rw [add_block]; exact he))
      have q1 := res_cells (cell_of hg (hcell 1 _ rfl) (by rw [add_block]; exact he))
      have q2 := res_cells (cell_of hg (hcell 2 _ rfl) (by rw [add_block]; exact he))
      rw [add_off] at q0 q1 q2
      rcases q0 with ⟨q0, -⟩ | ⟨-, _, _, _, q⟩
      · rcases q1 with ⟨q1, -⟩ | ⟨-, _, _, _, q⟩
        · rcases q2 with ⟨-, _, q⟩ | ⟨q2, -⟩
          · cases q
          · omega
        · cases q
      · cases q
    refine ⟨_, hs, k58_mk W p l2 (C_flatR (w := w) (W := W) (d := Kd.int .u8) (fun x cs h => ⟨0, .int .u8 x, by subst h; rfl, fun _ _ _ e => (by cases e), fun _ e => (by cases e)⟩) (fun _ _ h => h) hg hk g2) l3
      (C_flatR (w := w) (W := W) (fun x cs h => ⟨0, .string x.f0, by rw [k102_open h]; rfl, fun _ _ _ e => (by cases e), fun _ e => (by cases e)⟩) (fun x cs h => by rw [k102_open h]; exact k102_mk W x) hg hk g3), fun i u hu => (cell_apart hk (by rw [add_block]; exact hb)).trans (hcell i u hu)⟩⟩
end
/-- An answer stored into a variable. -/
def set6 (w : World) (g : Nat) (v0 v1 v2 v3 v4 v5 : Value) : World := (((((w.setCell ⟨g, 0, none⟩ v0).setCell ⟨g, 1, none⟩ v1).setCell ⟨g, 2, none⟩ v2).setCell ⟨g, 3, none⟩ v3).setCell ⟨g, 4, none⟩ v4).setCell ⟨g, 5, none⟩ v5
section
variable {w : World} {g T : Nat} {v0 v1 v2 v3 v4 v5 u0 u1 u2 u3 u4 u5 : Value}
theorem set6_keep {k : Nat} (h : k ≠ g) : (set6 w g v0 v1 v2 v3 v4 v5).heap[k]? = w.heap[k]? := by
  unfold set6
  rw [Below.heap_setCell _ ⟨g, 5, none⟩ _ k h, Below.heap_setCell _ ⟨g, 4, none⟩ _ k h, Below.heap_setCell _ ⟨g, 3, none⟩ _ k h, Below.heap_setCell _ ⟨g, 2, none⟩ _ k h, Below.heap_setCell _ ⟨g, 1, none⟩ _ k h, Below.heap_setCell _ ⟨g, 0, none⟩ _ k h]
theorem set6_blk (hR : w.heap[g]? = some (.cells #[u0, u1, u2, u3, u4, u5] T (0, 0))) : (set6 w g v0 v1 v2 v3 v4 v5).heap[g]? = some (.cells #[v0, v1, v2, v3, v4, v5] T (0, 0)) :=
  blk_put (blk_put (blk_put (blk_put (blk_put (blk_put hR 0 v0 rfl) 1 v1 rfl) 2 v2 rfl) 3 v3 rfl) 4 v4 rfl) 5 v5 rfl
theorem set6_below {B : Nat} {w0 : World} (h : Below B w0 w) (hg : B ≤ g) : Below B w0 (set6 w g v0 v1 v2 v3 v4 v5) :=
  (((((h.setCell (p := ⟨g, 0, none⟩) hg _).setCell (p := ⟨g, 1, none⟩) hg _).setCell (p := ⟨g, 2, none⟩) hg _).setCell (p := ⟨g, 3, none⟩) hg _).setCell (p := ⟨g, 4, none⟩) hg _).setCell (p := ⟨g, 5, none⟩) hg _
theorem set6_size : (set6 w g v0 v1 v2 v3 v4 v5).heap.size = w.heap.size := by
  unfold set6
  simp
/-- The world behind a tree laid in a new variable and an answer stored into an elder one. -/
theorem after_store {w0 : World} {z0 z3 z4 z5 : Int} {Ag Bg A : Option Addr} {ng cg mg dg c : Nat} {xs : List S58} (hR : w.heap[g]? = some (.cells #[.int .i64 z0, .slice Ag ng cg, .slice Bg mg dg, .int .i64 z3, .int .i64 z4, .int .i64 z5] T (0, 0))) (hb : Below w0.heap.size w0 w) (hg : w0.heap.size ≤ g) (hC : k58.C w A xs.length xs) :
    ((((((((w.setCell ⟨g, 0, none⟩ v0).setCell ⟨g, 1, none⟩ v1).setCell ⟨g, 2, none⟩ v2).setCell ⟨g, 3, none⟩ v3).setCell ⟨g, 4, none⟩ v4).setCell ⟨g, 5, none⟩ v5).alloc (.cells #[.slice A xs.length c] 42)).cell? ⟨w.heap.size, 0, none⟩ = some (.slice A xs.length c)) ∧
    ((((((((w.setCell ⟨g, 0, none⟩ v0).setCell ⟨g, 1, none⟩ v1).setCell ⟨g, 2, none⟩ v2).setCell ⟨g, 3, none⟩ v3).setCell ⟨g, 4, none⟩ v4).setCell ⟨g, 5, none⟩ v5).alloc (.cells #[.slice A xs.length c] 42)).cell? ⟨g, 0, none⟩ = some v0) ∧
    (∀ k v, k ≠ g → w.cell? ⟨k, 0, none⟩ = some v → ((((((((w.setCell ⟨g, 0, none⟩ v0).setCell ⟨g, 1, none⟩ v1).setCell ⟨g, 2, none⟩ v2).setCell ⟨g, 3, none⟩ v3).setCell ⟨g, 4, none⟩ v4).setCell ⟨g, 5, none⟩ v5).alloc (.cells #[.slice A xs.length c] 42)).cell? ⟨k, 0, none⟩ = some v)) ∧
    Below w0.heap.size w0 (((((((w.setCell ⟨g, 0, none⟩ v0).setCell ⟨g, 1, none⟩ v1).setCell ⟨g, 2, none⟩ v2).setCell ⟨g, 3, none⟩ v3).setCell ⟨g, 4, none⟩ v4).setCell ⟨g, 5, none⟩ v5).alloc (.cells #[.slice A xs.length c] 42)) ∧
    k58.C (((((((w.setCell ⟨g, 0, none⟩ v0).setCell ⟨g, 1, none⟩ v1).setCell ⟨g, 2, none⟩ v2).setCell ⟨g, 3, none⟩ v3).setCell ⟨g, 4, none⟩ v4).setCell ⟨g, 5, none⟩ v5).alloc (.cells #[.slice A xs.length c] 42)) A xs.length xs := by
  change ((set6 w g v0 v1 v2 v3 v4 v5).alloc _).cell? _ = _ ∧ ((set6 w g v0 v1 v2 v3 v4 v5).alloc _).cell? _ = _ ∧ (∀ k v, k ≠ g → w.cell? ⟨k, 0, none⟩ = some v → ((set6 w g v0 v1 v2 v3 v4 v5).alloc _).cell? _ = _) ∧ Below w0.heap.size w0 ((set6 w g v0 v1 v2 v3 v4 v5).alloc _) ∧ k58.C ((set6 w g v0 v1 v2 v3 v4 v5).alloc _) A xs.length xs
  refine ⟨?_, (blk_cell (blk_alloc (set6_blk hR) _) 0).trans rfl, fun k v hk h => ?_, below_alloc (set6_below hb hg) _, Kd.C_alloc (C_resR hR (fun k h => set6_keep h) hC) _⟩
  · have h := blk_new (set6 w g v0 v1 v2 v3 v4 v5) (.cells #[.slice A xs.length c] 42)
    rw [set6_size] at h
    exact (blk_cell h 0).trans rfl
  · have hl : k < (set6 w g v0 v1 v2 v3 v4 v5).heap.size := by rw [set6_size]; exact World.block_lt_of_cell? w _ h
    exact ((below_alloc (Below.refl _ (set6 w g v0 v1 v2 v3 v4 v5)) (.cells #[.slice A xs.length c] 42)).cell (p := ⟨k, 0, none⟩) hl).trans ((cell_apart (g := g) (fun k h => set6_keep h) (ad := ⟨k, 0, none⟩) hk).trans h)
end
end Go.Proofs.YtllfjmmdackgdaaDoor.PZ
end
/-! GLTreeUndone -/
section
namespace Go.Proofs.YtllfjmmdackgdaaDoor.PZ
open Go.RowKit Go.Proofs.YtllfjmmdackgdaaDoorW.PrintWords Go.Proofs.YtllfjmmdackgdaaDoorW.PrintLast Go.Proofs.YtllfjmmdackgdaaDoorW.PrintMore Go.Proofs.YtllfjmmdackgdaaDoor.B Go.Proofs.YtllfjmmdackgdaaDoor.Ord TD
set_option maxRecDepth 100000
set_option linter.unusedVariables false
set_option linter.unusedSimpArgs false
set_option maxHeartbeats 8000000 in
theorem undone_walk (A : Option Addr) (c : Nat) (ops : List S39) (p q : ByteArray) (w : World) (hr : Kd.C k39 w A ops.length ops) (hc : ops.length ≤ c) :
    Calls Tryd.prog 10 #[.slice A ops.length c, .string p, .string q] w fun e w' => e = .returned (.bool true) ∧ Below w.heap.size w w' := by
  have HR := Aside0.mk hr
  clear hr
  by_cases hp : 1000 < p.size
  · have hpb : decide (1000 < (p.size : Int)) = true := decide_eq_true (by omega)
    have hpc : decide (1000 < p.size) = true := decide_eq_true hp
    clear hp
    go_enter Tryd.func10, Tryd.ntmps10
    go_wp2_with (first | (go_at_call 26; (with_reducible refine (alive_walk _).mono ?_); rintro e w1 ⟨rfl, hb⟩; have HB1 := Aside0.mk (below_step (w := w) (by repeat (first | exact Below.refl _ _ | with_reducible apply pw_below_drewN | with_reducible apply below_drew1 | with_reducible apply below_alloc)) hb); clear hb) | (go_at_call 27; (with_reducible refine (made_walk A c ops _ (Kd.C_below HR.out HB1.out) hc).mono ?_); rintro e w2 ⟨l, Al, cl, b, rfl, ht, hcl, hC, hb⟩; have HT := Aside0.mk ht; have HH := Aside0.mk (And.intro hcl hC); clear ht hcl hC; have HB2 := Aside0.mk (below_step (w := w) (by repeat (first | exact HB1.out | with_reducible apply pw_below_drewN | with_reducible apply below_drew1 | with_reducible apply below_alloc)) hb); clear hb; cases b))
    all_goals (go_ret; exact ⟨rfl, by repeat (first | exact HB2.out | with_reducible apply pw_below_drewN | with_reducible apply below_drew1 | with_reducible apply below_alloc)⟩)
  have hpb : decide (1000 < (p.size : Int)) = false := decide_eq_false (by omega)
  have hpc : decide (1000 < p.size) = false := decide_eq_false hp
  have hp' := Aside0.mk (Nat.le_of_not_lt hp)
  clear hp
  by_cases hq : 1000 < q.size
  · have hqb : decide (1000 < (q.size : Int)) = true := decide_eq_true (by omega)
    have hqc : decide (1000 < q.size) = true := decide_eq_true hq
    clear hq
    go_enter Tryd.func10, Tryd.ntmps10
    go_wp2_with (first | (go_at_call 26; (with_reducible refine (alive_walk _).mono ?_); rintro e w1 ⟨rfl, hb⟩; have HB1 := Aside0.mk (below_step (w := w) (by repeat (first | exact Below.refl _ _ | with_reducible apply pw_below_drewN | with_reducible apply below_drew1 | with_reducible apply below_alloc)) hb); clear hb) | (go_at_call 27; (with_reducible refine (made_walk A c ops _ (Kd.C_below HR.out HB1.out) hc).mono ?_); rintro e w2 ⟨l, Al, cl, b, rfl, ht, hcl, hC, hb⟩; have HT := Aside0.mk ht; have HH := Aside0.mk (And.intro hcl hC); clear ht hcl hC; have HB2 := Aside0.mk (below_step (w := w) (by repeat (first | exact HB1.out | with_reducible apply pw_below_drewN | with_reducible apply below_drew1 | with_reducible apply below_alloc)) hb); clear hb; cases b))
    all_goals (go_ret; exact ⟨rfl, by repeat (first | exact HB2.out | with_reducible apply pw_below_drewN | with_reducible apply below_drew1 | with_reducible apply below_alloc)⟩)
  have hqb : decide (1000 < (q.size : Int)) = false := decide_eq_false (by omega)
  have hqc : decide (1000 < q.size) = false := decide_eq_false hq
  have hq' := Aside0.mk (Nat.le_of_not_lt hq)
  clear hq
  go_enter Tryd.func10, Tryd.ntmps10
  go_wp2_with (first
    | (go_at_call 26; (with_reducible refine (alive_walk _).mono ?_); rintro e w1 ⟨rfl, hb⟩; have HB1 := Aside0.mk (below_step (w := w) (by repeat (first | exact Below.refl _ _ | with_reducible apply pw_below_drewN | with_reducible apply below_drew1 | with_reducible apply below_alloc)) hb); clear hb)
    | (go_at_call 27; (with_reducible refine (made_walk A c ops _ (Kd.C_below HR.out HB1.out) hc).mono ?_); rintro e w2 ⟨l, Al, cl, b, rfl, ht, hcl, hC, hb⟩; have HT := Aside0.mk ht; have HH := Aside0.mk (And.intro hcl hC); clear ht hcl hC; have HB2 := Aside0.mk (below_step (w := w) (by repeat (first | exact HB1.out | with_reducible apply pw_below_drewN | with_reducible apply below_drew1 | with_reducible apply below_alloc)) hb); clear hb; cases b))
  all_goals first
    | (go_ret; refine ⟨rfl, ?_⟩; (repeat (first | exact HB2.out | with_reducible apply pw_below_drewN | with_reducible apply below_drew1 | with_reducible apply below_alloc)); done)
    | skip
  go_loopw [10] (fun v10 wr => ∃ k : Nat, k ≤ 3 ∧ v10 = .int .i64 k ∧ Aside0 (Below (((w2.alloc (.cells #[.slice Al l.length cl] 42)).alloc (.cells #[.int .i64 1, .int .i64 4, .int .i64 2, .int .i64 5, .int .i64 3, .int .i64 4] 63))).heap.size (((w2.alloc (.cells #[.slice Al l.length cl] 42)).alloc (.cells #[.int .i64 1, .int .i64 4, .int .i64 2, .int .i64 5, .int .i64 3, .int .i64 4] 63))) wr)) (fun v10 _ => 3 - (intOf v10).toNat)
  case atStart => exact ⟨0, by omega, rfl, ⟨Below.refl _ _⟩⟩
  case round =>
    obtain ⟨k, hk, rfl, HB⟩ := hrel
    have HA := Aside0.mk (blk_below (box_new2 w2 (.cells #[.slice Al l.length cl] 42) (.cells #[.int .i64 1, .int .i64 4, .int .i64 2, .int .i64 5, .int .i64 3, .int .i64 4] 63)) HB.out)
    have HTB := Aside0.mk (blk_below (blk_alloc (blk_new w2 (.cells #[.slice Al l.length cl] 42)) _) HB.out)
    have HB2r := Aside0.mk (show Below w2.heap.size w2 wr from below_step (by repeat (first | exact Below.refl _ _ | with_reducible apply pw_below_drewN | with_reducible apply below_drew1 | with_reducible apply below_alloc)) HB.out)
    have HBr := Aside0.mk (below_step HB2.out HB2r.out)
    have ht := (blk_cell HTB.out 0).trans (show _ = some (Value.slice Al l.length cl) from rfl)
    have hal := blk_lt HA.out
    have hal' := Nat.lt_of_succ_lt hal
    have ha0 := (blk_cell HA.out 0).trans (show _ = some (Value.int .i64 1) from rfl)
    have ha1 := (blk_cell HA.out 1).trans (show _ = some (Value.int .i64 4) from rfl)
    have ha2 := (blk_cell HA.out 2).trans (show _ = some (Value.int .i64 2) from rfl)
    have ha3 := (blk_cell HA.out 3).trans (show _ = some (Value.int .i64 5) from rfl)
    have ha4 := (blk_cell HA.out 4).trans (show _ = some (Value.int .i64 3) from rfl)
    have ha5 := (blk_cell HA.out 5).trans (show _ = some (Value.int .i64 4) from rfl)
    by_cases hlt : k < 3
    · have hk3 : k = 0 ∨ k = 1 ∨ k = 2 := by omega
      rcases hk3 with rfl | rfl | rfl
      · clear hk hlt
        go_upto_region 17 with (first
          | (go_at_call 29; (with_reducible refine (do_call0 Al l.length cl l rfl 1 p q 0 0 _ ?hr HH.out.1 HT.out (by have := hp'.out; omega) (by have := hq'.out; omega)).mono ?_); (case hr => exact Kd.C_below HH.out.2 (below_step HB2r.out (below_alloc (below_alloc (Below.refl wr.heap.size wr) (.cells #[.int .i64 1, .string p, .string q, .int .i64 0, .int .i64 0, .slice none 0 0] 39)) (.cells #[.int .i64 4, .string p, .string ⟨#[]⟩, .int .i64 0, .int .i64 0, .slice none 0 0] 39)))); rintro e w3 h; generalize hs : doF l ⟨1, p, q, 0, 0, []⟩ = s at h; obtain ⟨x3, r3⟩ := s; have S3 := Aside0.mk hs; clear hs; obtain ⟨A3, c3, B3, b3, C3, d3, rfl, hh, hb⟩ := h; have HH3 := Aside0.mk hh; have HT3 := Aside0.mk (show Rt x3 by have h := do_rt HT.out ⟨1, p, q, 0, 0, []⟩; rwa [S3.out] at h); have H13 := Aside0.mk (show Below wr.heap.size wr w3 from below_step (below_alloc (below_alloc (Below.refl wr.heap.size wr) (.cells #[.int .i64 1, .string p, .string q, .int .i64 0, .int .i64 0, .slice none 0 0] 39)) (.cells #[.int .i64 4, .string p, .string ⟨#[]⟩, .int .i64 0, .int .i64 0, .slice none 0 0] 39)) hb); have O3 := Aside0.mk (show HoldO (wr.heap.size + 1) (.int .i64 4) (.string p) (.string ⟨#[]⟩) (.int .i64 0) (.int .i64 0) (.slice none 0 0) w3 from ⟨blk_below (box_new2 wr (.cells #[.int .i64 1, .string p, .string q, .int .i64 0, .int .i64 0, .slice none 0 0] 39) (.cells #[.int .i64 4, .string p, .string ⟨#[]⟩, .int .i64 0, .int .i64 0, .slice none 0 0] 39)) hb⟩); obtain ⟨o0, o1, o2, o3, o4, o5, o6⟩ := O3.out.cells; have o7 := Nat.lt_of_succ_lt o6; have ht3 := (H13.out.cell hal').trans ht; have hl3 := Nat.lt_of_lt_of_le hal H13.out.size; clear hh hb ht; cases hzb : (r3.f0 != 0))
          | (go_at_call 29; (with_reducible refine (do_call0 A3 x3.length c3 x3 rfl 4 p ⟨#[]⟩ 0 0 _ (Kd.C_below HH3.out.rows (by repeat (first | exact Below.refl _ _ | with_reducible apply pw_below_drewN | with_reducible apply below_drew1 | with_reducible apply below_alloc))) HH3.out.cap HT3.out (by have := hp'.out; omega) (by decide)).mono ?_); rintro e w4 h; generalize hs : doF x3 ⟨4, p, ⟨#[]⟩, 0, 0, []⟩ = s at h; obtain ⟨x4, r4⟩ := s; have S4 := Aside0.mk hs; clear hs; obtain ⟨A4, c4, B4, b4, C4, d4, rfl, hh, hb⟩ := h; have HH4 := Aside0.mk hh; have H34 := Aside0.mk (show Below w3.heap.size w3 w4 from below_step (by repeat (first | exact Below.refl _ _ | with_reducible apply pw_below_drewN | with_reducible apply below_drew1 | with_reducible apply below_alloc)) hb); have HLAW := Aside0.mk (show r4.f0 = 0 ∧ x4 = l ∧ x3 ≠ l by have h := undone_law1 HT.out (p := p) (q := q) (by rw [S3.out]; exact bne_eq_false_iff_eq.1 hzb); rw [S3.out] at h; dsimp only at h; rw [S4.out] at h; exact h); have z4 : (r4.f0 != 0) = false := bne_eq_false_iff_eq.mpr HLAW.out.1; have RB := Aside0.mk (HH3.out.laid hb).2; have NB := Aside0.mk (HH3.out.laid hb).1; obtain ⟨hn4, hn4l⟩ := NB.out.cells; obtain ⟨q0, q1, q2, q3, q4, q5, q6⟩ := RB.out.cells; have q7 := Nat.lt_of_succ_lt q6; have hf4 := blk_frozen RB.out.blk; have ht4 := (H34.out.cell (World.block_lt_of_cell? _ _ ht3)).trans ht3; have hl4 := Nat.lt_of_lt_of_le hl3 H34.out.size; have hne1 : w2.heap.size ≠ w3.heap.size + 1 := (by have := H13.out.size; omega); clear hh hb ht3 o0 o1 o2 o3 o4 o5 o6 o7))
        · have HST := Aside0.mk (after_store (v0 := .int .i64 r4.f0) (v1 := .slice B4 r4.f1.length b4) (v2 := .slice C4 r4.f2.length d4) (v3 := .int .i64 r4.f3) (v4 := .int .i64 r4.f4) (v5 := .int .i64 r4.f5) (c := c4) RB.out.blk H34.out (Nat.le_succ _) HH4.out.rows)
          generalize (((((((w4.setCell ⟨w3.heap.size + 1, 0, none⟩ (.int .i64 r4.f0)).setCell ⟨w3.heap.size + 1, 1, none⟩ (.slice B4 r4.f1.length b4)).setCell ⟨w3.heap.size + 1, 2, none⟩ (.slice C4 r4.f2.length d4)).setCell ⟨w3.heap.size + 1, 3, none⟩ (.int .i64 r4.f3)).setCell ⟨w3.heap.size + 1, 4, none⟩ (.int .i64 r4.f4)).setCell ⟨w3.heap.size + 1, 5, none⟩ (.int .i64 r4.f5)).alloc (.cells #[.slice A4 x4.length c4] 42)) = W5 at HST ⊢
          have f1 := HST.out.1
          have f2 := HST.out.2.1
          have f3 := HST.out.2.2.1 _ _ hne1 ht4
          have f4 := HST.out.2.2.1 _ _ (Nat.ne_of_lt (Nat.lt_succ_self _)) hn4
          clear q0 q1 q2 q3 q4 q5 q6 q7 hf4 ht4 hn4 hn4l hl4 hne1 hl3
          go_wp2_with (first
            | (go_at_call 31; (with_reducible refine (sametree_walk A4 c4 x4 Al cl l _ (Kd.C_below HST.out.2.2.2.2 (by repeat (first | exact Below.refl _ _ | with_reducible apply pw_below_drewN | with_reducible apply below_drew1 | with_reducible apply below_alloc))) HH4.out.cap (Kd.C_below HH.out.2 (below_step (below_step HB2r.out H13.out) (below_step HST.out.2.2.2.1 (by repeat (first | exact Below.refl _ _ | with_reducible apply pw_below_drewN | with_reducible apply below_drew1 | with_reducible apply below_alloc))))) HH.out.1 (by rw [HLAW.out.2.1]; exact (rt_small HT.out).1) (by rw [HLAW.out.2.1]; exact (rt_small HT.out).2)).mono ?_); rintro e w6 ⟨⟨b6, rfl, hq⟩, hb⟩; obtain rfl : b6 = true := hq.2 HLAW.out.2.1; have H56 := Aside0.mk (show Below W5.heap.size W5 w6 from below_step (by repeat (first | exact Below.refl _ _ | with_reducible apply pw_below_drewN | with_reducible apply below_drew1 | with_reducible apply below_alloc)) hb); have g3 := (H56.out.cell (World.block_lt_of_cell? _ _ f3)).trans f3; have g4 := (H56.out.cell (World.block_lt_of_cell? _ _ f4)).trans f4; clear f1 f2 f3 f4 hb hq)
            | (go_at_call 31; (with_reducible refine (sametree_walk A3 c3 x3 Al cl l _ (Kd.C_below HH3.out.rows (below_step HST.out.2.2.2.1 (by repeat (first | exact H56.out | with_reducible apply pw_below_drewN | with_reducible apply below_drew1 | with_reducible apply below_alloc)))) HH3.out.cap (Kd.C_below HH.out.2 (below_step (below_step HB2r.out H13.out) (below_step HST.out.2.2.2.1 (by repeat (first | exact H56.out | with_reducible apply pw_below_drewN | with_reducible apply below_drew1 | with_reducible apply below_alloc))))) HH.out.1 (rt_small HT3.out).1 (rt_small HT3.out).2).mono ?_); rintro e w7 ⟨⟨b7, rfl, hq⟩, hb⟩; obtain rfl : b7 = false := Bool.eq_false_iff.2 (fun h => HLAW.out.2.2 (hq.1 h)); have H57 := Aside0.mk (show Below W5.heap.size W5 w7 from below_step (by repeat (first | exact H56.out | with_reducible apply pw_below_drewN | with_reducible apply below_drew1 | with_reducible apply below_alloc)) hb); clear hb hq))
          go_roundw
          case rel => exact ⟨1, by omega, rfl, ⟨below_step (below_step (below_step HB.out H13.out) HST.out.2.2.2.1) H57.out⟩⟩
          case measure => simp [intOf]
        · have GO3 := Aside0.mk (below_step HB.out H13.out)
          exact ⟨⟨1, by omega, rfl, ⟨by repeat (first | exact GO3.out | with_reducible apply pw_below_drewN | with_reducible apply below_drew1 | with_reducible apply below_alloc)⟩⟩, by simp [intOf]⟩
      · clear hk hlt
        go_upto_region 17 with (first
          | (go_at_call 29; (with_reducible refine (do_call0 Al l.length cl l rfl 2 p q 0 0 _ ?hr HH.out.1 HT.out (by have := hp'.out; omega) (by have := hq'.out; omega)).mono ?_); (case hr => exact Kd.C_below HH.out.2 (below_step HB2r.out (below_alloc (below_alloc (Below.refl wr.heap.size wr) (.cells #[.int .i64 2, .string p, .string q, .int .i64 0, .int .i64 0, .slice none 0 0] 39)) (.cells #[.int .i64 5, .string p, .string ⟨#[]⟩, .int .i64 0, .int .i64 0, .slice none 0 0] 39)))); rintro e w3 h; generalize hs : doF l ⟨2, p, q, 0, 0, []⟩ = s at h; obtain ⟨x3, r3⟩ := s; have S3 := Aside0.mk hs; clear hs; obtain ⟨A3, c3, B3, b3, C3, d3, rfl, hh, hb⟩ := h; have HH3 := Aside0.mk hh; have HT3 := Aside0.mk (show Rt x3 by have h := do_rt HT.out ⟨2, p, q, 0, 0, []⟩; rwa [S3.out] at h); have H13 := Aside0.mk (show Below wr.heap.size wr w3 from below_step (below_alloc (below_alloc (Below.refl wr.heap.size wr) (.cells #[.int .i64 2, .string p, .string q, .int .i64 0, .int .i64 0, .slice none 0 0] 39)) (.cells #[.int .i64 5, .string p, .string ⟨#[]⟩, .int .i64 0, .int .i64 0, .slice none 0 0] 39)) hb); have O3 := Aside0.mk (show HoldO (wr.heap.size + 1) (.int .i64 5) (.string p) (.string ⟨#[]⟩) (.int .i64 0) (.int .i64 0) (.slice none 0 0) w3 from ⟨blk_below (box_new2 wr (.cells #[.int .i64 2, .string p, .string q, .int .i64 0, .int .i64 0, .slice none 0 0] 39) (.cells #[.int .i64 5, .string p, .string ⟨#[]⟩, .int .i64 0, .int .i64 0, .slice none 0 0] 39)) hb⟩); obtain ⟨o0, o1, o2, o3, o4, o5, o6⟩ := O3.out.cells; have o7 := Nat.lt_of_succ_lt o6; have ht3 := (H13.out.cell hal').trans ht; have hl3 := Nat.lt_of_lt_of_le hal H13.out.size; clear hh hb ht; cases hzb : (r3.f0 != 0))
          | (go_at_call 29; (with_reducible refine (do_call0 A3 x3.length c3 x3 rfl 5 p ⟨#[]⟩ 0 0 _ (Kd.C_below HH3.out.rows (by repeat (first | exact Below.refl _ _ | with_reducible apply pw_below_drewN | with_reducible apply below_drew1 | with_reducible apply below_alloc))) HH3.out.cap HT3.out (by have := hp'.out; omega) (by decide)).mono ?_); rintro e w4 h; generalize hs : doF x3 ⟨5, p, ⟨#[]⟩, 0, 0, []⟩ = s at h; obtain ⟨x4, r4⟩ := s; have S4 := Aside0.mk hs; clear hs; obtain ⟨A4, c4, B4, b4, C4, d4, rfl, hh, hb⟩ := h; have HH4 := Aside0.mk hh; have H34 := Aside0.mk (show Below w3.heap.size w3 w4 from below_step (by repeat (first | exact Below.refl _ _ | with_reducible apply pw_below_drewN | with_reducible apply below_drew1 | with_reducible apply below_alloc)) hb); have HLAW := Aside0.mk (show r4.f0 = 0 ∧ x4 = l ∧ x3 ≠ l by have h := undone_law2 HT.out (p := p) (q := q) (by rw [S3.out]; exact bne_eq_false_iff_eq.1 hzb); rw [S3.out] at h; dsimp only at h; rw [S4.out] at h; exact h); have z4 : (r4.f0 != 0) = false := bne_eq_false_iff_eq.mpr HLAW.out.1; have RB := Aside0.mk (HH3.out.laid hb).2; have NB := Aside0.mk (HH3.out.laid hb).1; obtain ⟨hn4, hn4l⟩ := NB.out.cells; obtain ⟨q0, q1, q2, q3, q4, q5, q6⟩ := RB.out.cells; have q7 := Nat.lt_of_succ_lt q6; have hf4 := blk_frozen RB.out.blk; have ht4 := (H34.out.cell (World.block_lt_of_cell? _ _ ht3)).trans ht3; have hl4 := Nat.lt_of_lt_of_le hl3 H34.out.size; have hne1 : w2.heap.size ≠ w3.heap.size + 1 := (by have := H13.out.size; omega); clear hh hb ht3 o0 o1 o2 o3 o4 o5 o6 o7))
        · have HST := Aside0.mk (after_store (v0 := .int .i64 r4.f0) (v1 := .slice B4 r4.f1.length b4) (v2 := .slice C4 r4.f2.length d4) (v3 := .int .i64 r4.f3) (v4 := .int .i64 r4.f4) (v5 := .int .i64 r4.f5) (c := c4) RB.out.blk H34.out (Nat.le_succ _) HH4.out.rows)
          generalize (((((((w4.setCell ⟨w3.heap.size + 1, 0, none⟩ (.int .i64 r4.f0)).setCell ⟨w3.heap.size + 1, 1, none⟩ (.slice B4 r4.f1.length b4)).setCell ⟨w3.heap.size + 1, 2, none⟩ (.slice C4 r4.f2.length d4)).setCell ⟨w3.heap.size + 1, 3, none⟩ (.int .i64 r4.f3)).setCell ⟨w3.heap.size + 1, 4, none⟩ (.int .i64 r4.f4)).setCell ⟨w3.heap.size + 1, 5, none⟩ (.int .i64 r4.f5)).alloc (.cells #[.slice A4 x4.length c4] 42)) = W5 at HST ⊢
          have f1 := HST.out.1
          have f2 := HST.out.2.1
          have f3 := HST.out.2.2.1 _ _ hne1 ht4
          have f4 := HST.out.2.2.1 _ _ (Nat.ne_of_lt (Nat.lt_succ_self _)) hn4
          clear q0 q1 q2 q3 q4 q5 q6 q7 hf4 ht4 hn4 hn4l hl4 hne1 hl3
          go_wp2_with (first
            | (go_at_call 31; (with_reducible refine (sametree_walk A4 c4 x4 Al cl l _ (Kd.C_below HST.out.2.2.2.2 (by repeat (first | exact Below.refl _ _ | with_reducible apply pw_below_drewN | with_reducible apply below_drew1 | with_reducible apply below_alloc))) HH4.out.cap (Kd.C_below HH.out.2 (below_step (below_step HB2r.out H13.out) (below_step HST.out.2.2.2.1 (by repeat (first | exact Below.refl _ _ | with_reducible apply pw_below_drewN | with_reducible apply below_drew1 | with_reducible apply below_alloc))))) HH.out.1 (by rw [HLAW.out.2.1]; exact (rt_small HT.out).1) (by rw [HLAW.out.2.1]; exact (rt_small HT.out).2)).mono ?_); rintro e w6 ⟨⟨b6, rfl, hq⟩, hb⟩; obtain rfl : b6 = true := hq.2 HLAW.out.2.1; have H56 := Aside0.mk (show Below W5.heap.size W5 w6 from below_step (by repeat (first | exact Below.refl _ _ | with_reducible apply pw_below_drewN | with_reducible apply below_drew1 | with_reducible apply below_alloc)) hb); have g3 := (H56.out.cell (World.block_lt_of_cell? _ _ f3)).trans f3; have g4 := (H56.out.cell (World.block_lt_of_cell? _ _ f4)).trans f4; clear f1 f2 f3 f4 hb hq)
            | (go_at_call 31; (with_reducible refine (sametree_walk A3 c3 x3 Al cl l _ (Kd.C_below HH3.out.rows (below_step HST.out.2.2.2.1 (by repeat (first | exact H56.out | with_reducible apply pw_below_drewN | with_reducible apply below_drew1 | with_reducible apply below_alloc)))) HH3.out.cap (Kd.C_below HH.out.2 (below_step (below_step HB2r.out H13.out) (below_step HST.out.2.2.2.1 (by repeat (first | exact H56.out | with_reducible apply pw_below_drewN | with_reducible apply below_drew1 | with_reducible apply below_alloc))))) HH.out.1 (rt_small HT3.out).1 (rt_small HT3.out).2).mono ?_); rintro e w7 ⟨⟨b7, rfl, hq⟩, hb⟩; obtain rfl : b7 = false := Bool.eq_false_iff.2 (fun h => HLAW.out.2.2 (hq.1 h)); have H57 := Aside0.mk (show Below W5.heap.size W5 w7 from below_step (by repeat (first | exact H56.out | with_reducible apply pw_below_drewN | with_reducible apply below_drew1 | with_reducible apply below_alloc)) hb); clear hb hq))
          go_roundw
          case rel => exact ⟨2, by omega, rfl, ⟨below_step (below_step (below_step HB.out H13.out) HST.out.2.2.2.1) H57.out⟩⟩
          case measure => simp [intOf]
        · have GO3 := Aside0.mk (below_step HB.out H13.out)
          exact ⟨⟨2, by omega, rfl, ⟨by repeat (first | exact GO3.out | with_reducible apply pw_below_drewN | with_reducible apply below_drew1 | with_reducible apply below_alloc)⟩⟩, by simp [intOf]⟩
      · clear hk hlt
        go_upto_region 17 with (first
          | (go_at_call 29; (with_reducible refine (do_call0 Al l.length cl l rfl 3 p q 0 0 _ ?hr HH.out.1 HT.out (by have := hp'.out; omega) (by have := hq'.out; omega)).mono ?_); (case hr => exact Kd.C_below HH.out.2 (below_step HB2r.out (below_alloc (below_alloc (Below.refl wr.heap.size wr) (.cells #[.int .i64 3, .string p, .string q, .int .i64 0, .int .i64 0, .slice none 0 0] 39)) (.cells #[.int .i64 4, .string q, .string ⟨#[]⟩, .int .i64 0, .int .i64 0, .slice none 0 0] 39)))); rintro e w3 h; generalize hs : doF l ⟨3, p, q, 0, 0, []⟩ = s at h; obtain ⟨x3, r3⟩ := s; have S3 := Aside0.mk hs; clear hs; obtain ⟨A3, c3, B3, b3, C3, d3, rfl, hh, hb⟩ := h; have HH3 := Aside0.mk hh; have HT3 := Aside0.mk (show Rt x3 by have h := do_rt HT.out ⟨3, p, q, 0, 0, []⟩; rwa [S3.out] at h); have H13 := Aside0.mk (show Below wr.heap.size wr w3 from below_step (below_alloc (below_alloc (Below.refl wr.heap.size wr) (.cells #[.int .i64 3, .string p, .string q, .int .i64 0, .int .i64 0, .slice none 0 0] 39)) (.cells #[.int .i64 4, .string q, .string ⟨#[]⟩, .int .i64 0, .int .i64 0, .slice none 0 0] 39)) hb); have O3 := Aside0.mk (show HoldO (wr.heap.size + 1) (.int .i64 4) (.string q) (.string ⟨#[]⟩) (.int .i64 0) (.int .i64 0) (.slice none 0 0) w3 from ⟨blk_below (box_new2 wr (.cells #[.int .i64 3, .string p, .string q, .int .i64 0, .int .i64 0, .slice none 0 0] 39) (.cells #[.int .i64 4, .string q, .string ⟨#[]⟩, .int .i64 0, .int .i64 0, .slice none 0 0] 39)) hb⟩); obtain ⟨o0, o1, o2, o3, o4, o5, o6⟩ := O3.out.cells; have o7 := Nat.lt_of_succ_lt o6; have ht3 := (H13.out.cell hal').trans ht; have hl3 := Nat.lt_of_lt_of_le hal H13.out.size; clear hh hb ht; cases hzb : (r3.f0 != 0))
          | (go_at_call 29; (with_reducible refine (do_call0 A3 x3.length c3 x3 rfl 4 q ⟨#[]⟩ 0 0 _ (Kd.C_below HH3.out.rows (by repeat (first | exact Below.refl _ _ | with_reducible apply pw_below_drewN | with_reducible apply below_drew1 | with_reducible apply below_alloc))) HH3.out.cap HT3.out (by have := hq'.out; omega) (by decide)).mono ?_); rintro e w4 h; generalize hs : doF x3 ⟨4, q, ⟨#[]⟩, 0, 0, []⟩ = s at h; obtain ⟨x4, r4⟩ := s; have S4 := Aside0.mk hs; clear hs; obtain ⟨A4, c4, B4, b4, C4, d4, rfl, hh, hb⟩ := h; have HH4 := Aside0.mk hh; have H34 := Aside0.mk (show Below w3.heap.size w3 w4 from below_step (by repeat (first | exact Below.refl _ _ | with_reducible apply pw_below_drewN | with_reducible apply below_drew1 | with_reducible apply below_alloc)) hb); have HLAW := Aside0.mk (show r4.f0 = 0 ∧ x4 = l ∧ x3 ≠ l by have h := undone_law3 HT.out (p := p) (q := q) (by rw [S3.out]; exact bne_eq_false_iff_eq.1 hzb); rw [S3.out] at h; dsimp only at h; rw [S4.out] at h; exact h); have z4 : (r4.f0 != 0) = false := bne_eq_false_iff_eq.mpr HLAW.out.1; have RB := Aside0.mk (HH3.out.laid hb).2; have NB := Aside0.mk (HH3.out.laid hb).1; obtain ⟨hn4, hn4l⟩ := NB.out.cells; obtain ⟨q0, q1, q2, q3, q4, q5, q6⟩ := RB.out.cells; have q7 := Nat.lt_of_succ_lt q6; have hf4 := blk_frozen RB.out.blk; have ht4 := (H34.out.cell (World.block_lt_of_cell? _ _ ht3)).trans ht3; have hl4 := Nat.lt_of_lt_of_le hl3 H34.out.size; have hne1 : w2.heap.size ≠ w3.heap.size + 1 := (by have := H13.out.size; omega); clear hh hb ht3 o0 o1 o2 o3 o4 o5 o6 o7))
        · have HST := Aside0.mk (after_store (v0 := .int .i64 r4.f0) (v1 := .slice B4 r4.f1.length b4) (v2 := .slice C4 r4.f2.length d4) (v3 := .int .i64 r4.f3) (v4 := .int .i64 r4.f4) (v5 := .int .i64 r4.f5) (c := c4) RB.out.blk H34.out (Nat.le_succ _) HH4.out.rows)
          generalize (((((((w4.setCell ⟨w3.heap.size + 1, 0, none⟩ (.int .i64 r4.f0)).setCell ⟨w3.heap.size + 1, 1, none⟩ (.slice B4 r4.f1.length b4)).setCell ⟨w3.heap.size + 1, 2, none⟩ (.slice C4 r4.f2.length d4)).setCell ⟨w3.heap.size + 1, 3, none⟩ (.int .i64 r4.f3)).setCell ⟨w3.heap.size + 1, 4, none⟩ (.int .i64 r4.f4)).setCell ⟨w3.heap.size + 1, 5, none⟩ (.int .i64 r4.f5)).alloc (.cells #[.slice A4 x4.length c4] 42)) = W5 at HST ⊢
          have f1 := HST.out.1
          have f2 := HST.out.2.1
          have f3 := HST.out.2.2.1 _ _ hne1 ht4
          have f4 := HST.out.2.2.1 _ _ (Nat.ne_of_lt (Nat.lt_succ_self _)) hn4
          clear q0 q1 q2 q3 q4 q5 q6 q7 hf4 ht4 hn4 hn4l hl4 hne1 hl3
          go_wp2_with (first
            | (go_at_call 31; (with_reducible refine (sametree_walk A4 c4 x4 Al cl l _ (Kd.C_below HST.out.2.2.2.2 (by repeat (first | exact Below.refl _ _ | with_reducible apply pw_below_drewN | with_reducible apply below_drew1 | with_reducible apply below_alloc))) HH4.out.cap (Kd.C_below HH.out.2 (below_step (below_step HB2r.out H13.out) (below_step HST.out.2.2.2.1 (by repeat (first | exact Below.refl _ _ | with_reducible apply pw_below_drewN | with_reducible apply below_drew1 | with_reducible apply below_alloc))))) HH.out.1 (by rw [HLAW.out.2.1]; exact (rt_small HT.out).1) (by rw [HLAW.out.2.1]; exact (rt_small HT.out).2)).mono ?_); rintro e w6 ⟨⟨b6, rfl, hq⟩, hb⟩; obtain rfl : b6 = true := hq.2 HLAW.out.2.1; have H56 := Aside0.mk (show Below W5.heap.size W5 w6 from below_step (by repeat (first | exact Below.refl _ _ | with_reducible apply pw_below_drewN | with_reducible apply below_drew1 | with_reducible apply below_alloc)) hb); have g3 := (H56.out.cell (World.block_lt_of_cell? _ _ f3)).trans f3; have g4 := (H56.out.cell (World.block_lt_of_cell? _ _ f4)).trans f4; clear f1 f2 f3 f4 hb hq)
            | (go_at_call 31; (with_reducible refine (sametree_walk A3 c3 x3 Al cl l _ (Kd.C_below HH3.out.rows (below_step HST.out.2.2.2.1 (by repeat (first | exact H56.out | with_reducible apply pw_below_drewN | with_reducible apply below_drew1 | with_reducible apply below_alloc)))) HH3.out.cap (Kd.C_below HH.out.2 (below_step (below_step HB2r.out H13.out) (below_step HST.out.2.2.2.1 (by repeat (first | exact H56.out | with_reducible apply pw_below_drewN | with_reducible apply below_drew1 | with_reducible apply below_alloc))))) HH.out.1 (rt_small HT3.out).1 (rt_small HT3.out).2).mono ?_); rintro e w7 ⟨⟨b7, rfl, hq⟩, hb⟩; obtain rfl : b7 = false := Bool.eq_false_iff.2 (fun h => HLAW.out.2.2 (hq.1 h)); have H57 := Aside0.mk (show Below W5.heap.size W5 w7 from below_step (by repeat (first | exact H56.out | with_reducible apply pw_below_drewN | with_reducible apply below_drew1 | with_reducible apply below_alloc)) hb); clear hb hq))
          go_roundw
          case rel => exact ⟨3, by omega, rfl, ⟨below_step (below_step (below_step HB.out H13.out) HST.out.2.2.2.1) H57.out⟩⟩
          case measure => simp [intOf]
        · have GO3 := Aside0.mk (below_step HB.out H13.out)
          exact ⟨⟨3, by omega, rfl, ⟨by repeat (first | exact GO3.out | with_reducible apply pw_below_drewN | with_reducible apply below_drew1 | with_reducible apply below_alloc)⟩⟩, by simp [intOf]⟩
    · go_wp2
      go_ret
      exact ⟨rfl, HBr.out⟩
end Go.Proofs.YtllfjmmdackgdaaDoor.PZ
end
