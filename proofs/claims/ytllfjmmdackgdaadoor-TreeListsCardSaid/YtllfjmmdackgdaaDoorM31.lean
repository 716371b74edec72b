import Derived.Test.YtllfjmmdackgdaaDoorM08
import Derived.Test.YtllfjmmdackgdaaDoorM30
import Derived.Test.YtllfjmmdackgdaaDoorM14
import Derived.BigQuiet
import Derived.Deep.QuietTactic
set_option linter.unusedVariables false
set_option linter.unusedSimpArgs false
/-! TS -/
section
namespace Go.Proofs.YtllfjmmdackgdaaDoor.PZ
open Go.RowKit Go.Proofs.YtllfjmmdackgdaaDoorW.PrintWords Go.Proofs.YtllfjmmdackgdaaDoorW.PrintLast Go.Proofs.YtllfjmmdackgdaaDoorW.PrintMore Go.Proofs.YtllfjmmdackgdaaDoor.Ord Go.Proofs.YtllfjmmdackgdaaDoor.B TD
set_option linter.unusedVariables false
set_option linter.unusedSimpArgs false
/-! ### sane -/
def okE (n : Nat) (e : S102) : Bool := nameB e.f0 && decide (1 ≤ e.f1) && decide (e.f1 < n)
def okP (p : Option ByteArray) (e : S102) : Bool := match p with
  | none => true
  | some q => lts q e.f0
def sanE (n : Nat) : List S102 → Option ByteArray → Bool
  | [], _ => true
  | e :: r, p => okE n e && okP p e && sanE n r (some e.f0)
def saneN (x : S58) (n : Nat) : Bool :=
  if x.f0 = 1 then decide (x.f3.length = 0) && decide (x.f2.length ≤ 46368) && decide (x.f1 ≤ 200)
  else if x.f0 = 2 then sanE n x.f3 none && decide (x.f2.length = 0) && decide (x.f3.length ≤ 64) else false
def prevE (es : List S102) (i : Nat) : Option ByteArray := if i = 0 then none else some (rd_T102 es ((i - 1 : Nat) : Int)).f0
theorem rdE (es : List S102) (i : Nat) (h : i < es.length) : rd_T102 es (i : Int) = es[i] := by simp [rd_T102, List.getD_eq_getElem?_getD, List.getElem?_eq_getElem h]
theorem sanE_iff (n : Nat) : ∀ (es : List S102) (p : Option ByteArray), sanE n es p = true ↔ (∀ e ∈ es, okE n e = true) ∧ Srt es ∧ (∀ q, p = some q → ∀ e ∈ es, lts q e.f0 = true)
  | [], p => by simp [sanE, Srt]
  | e :: r, p => by
    rw [sanE, Bool.and_eq_true, Bool.and_eq_true, sanE_iff n r (some e.f0)]
    constructor
    · rintro ⟨⟨h1, h2⟩, h3, h4, h5⟩
      refine ⟨fun x hx => ?_, List.pairwise_cons.2 ⟨fun x hx => h5 _ rfl x hx, h4⟩, fun q hq x hx => ?_⟩
      · rcases List.mem_cons.1 hx with rfl | hx
        · exact h1
        · exact h3 x hx
      · subst hq
        rcases List.mem_cons.1 hx with rfl | hx
        · exact h2
        · exact less_trans h2 (h5 _ rfl x hx)
    · rintro ⟨h1, h2, h3⟩
      obtain ⟨h4, h5⟩ := List.pairwise_cons.1 h2
      refine ⟨⟨h1 e List.mem_cons_self, ?_⟩, fun x hx => h1 x (List.mem_cons_of_mem _ hx), h5, fun q hq x hx => ?_⟩
      · cases p with
        | none => rfl
        | some q => exact h3 q rfl e List.mem_cons_self
      · injection hq with hq
        subst hq
        exact h4 x hx
/-! ### Right -/
def okAt (l : List S58) (k : Nat) : Bool :=
  decide ((mt l).length = l.length) && decide ((mt l).getD k 0 = k) && decide (own l k = (nd l k).f1) && !(decide (0 < k) && decide ((nd l k).f0 = 2) && !decide (ups l k = 1))
def rightB (l : List S58) : Bool :=
  decide (1 ≤ l.length) && decide (l.length ≤ 56) && decide ((nd l 0).f0 = 2) && l.all (fun x => saneN x l.length) && (List.range l.length).all (okAt l)
theorem saneN_file {x : S58} {n : Nat} (h : saneN x n = true) (h1 : x.f0 = 1) : x.f3 = [] ∧ x.f2.length ≤ 46368 ∧ x.f1 ≤ 200 := by
  unfold saneN at h
  rw [if_pos h1] at h
  simp only [Bool.and_eq_true, decide_eq_true_eq] at h
  exact ⟨List.eq_nil_of_length_eq_zero h.1.1, h.1.2, h.2⟩
theorem saneN_dir {x : S58} {n : Nat} (h : saneN x n = true) (h1 : x.f0 = 2) : (∀ e ∈ x.f3, okE n e = true) ∧ Srt x.f3 ∧ x.f2 = [] ∧ x.f3.length ≤ 64 := by
  unfold saneN at h
  rw [if_neg (by omega), if_pos h1] at h
  simp only [Bool.and_eq_true, decide_eq_true_eq] at h
  obtain ⟨h2, h3, _⟩ := (sanE_iff n _ none).1 h.1.1
  exact ⟨h2, h3, List.eq_nil_of_length_eq_zero h.1.2, h.2⟩
theorem saneN_kind {x : S58} {n : Nat} (h : saneN x n = true) : x.f0 = 1 ∨ x.f0 = 2 := by
  unfold saneN at h
  by_cases h1 : x.f0 = 1
  · exact .inl h1
  · by_cases h2 : x.f0 = 2
    · exact .inr h2
    · rw [if_neg h1, if_neg h2] at h; cases h
/-- What Right knows when it asks for the order and the links. -/
structure Sn (l : List S58) : Prop where
  pos : 1 ≤ l.length
  le : l.length ≤ 56
  root : (nd l 0).f0 = 2
  sane : ∀ k, k < l.length → saneN (nd l k) l.length = true
theorem Sn.key {l : List S58} (h : Sn l) (k : Nat) : (nd l k = dN) ∨ (k < l.length ∧ saneN (nd l k) l.length = true) := by
  rcases Nat.lt_or_ge k l.length with hk | hk
  · exact .inr ⟨hk, h.sane k hk⟩
  · exact .inl (nd_out hk)
theorem Sn.wf {l : List S58} (h : Sn l) : Wf l := by
  refine ⟨h.pos, h.root, fun k hk => ?_, fun k => ?_, fun k e he => ?_⟩
  · rcases h.key k with h1 | ⟨h1, h2⟩
    · rw [h1]; rfl
    · rcases saneN_kind h2 with h3 | h3
      · exact (saneN_file h2 h3).1
      · exact absurd h3 hk
  · rcases h.key k with h1 | ⟨h1, h2⟩
    · rw [h1]; exact List.Pairwise.nil
    · rcases saneN_kind h2 with h3 | h3
      · rw [(saneN_file h2 h3).1]; exact List.Pairwise.nil
      · exact (saneN_dir h2 h3).2.1
  · rcases h.key k with h1 | ⟨h1, h2⟩
    · rw [h1] at he; cases he
    · rcases saneN_kind h2 with h3 | h3
      · rw [(saneN_file h2 h3).1] at he; cases he
      · have := (saneN_dir h2 h3).1 e he
        unfold okE at this
        simp only [Bool.and_eq_true, decide_eq_true_eq] at this
        exact ⟨this.1.2, this.2⟩
theorem Sn.ents {l : List S58} (h : Sn l) (k : Nat) : (nd l k).f3.length ≤ 64 := by
  rcases h.key k with h1 | ⟨h1, h2⟩
  · rw [h1]; simp [z58]
  · rcases saneN_kind h2 with h3 | h3
    · rw [(saneN_file h2 h3).1]; simp
    · exact (saneN_dir h2 h3).2.2.2
theorem all_nd {l : List S58} {p : S58 → Bool} : l.all p = true ↔ ∀ k, k < l.length → p (nd l k) = true := by
  rw [List.all_eq_true]
  constructor
  · intro h k hk; rw [nd_get hk]; exact h _ (List.getElem_mem hk)
  · intro h x hx
    obtain ⟨k, hk, rfl⟩ := List.getElem_of_mem hx
    have := h k hk
    rwa [nd_get hk] at this
theorem sn_of {l : List S58} (h1 : 1 ≤ l.length) (h2 : l.length ≤ 56) (h3 : (nd l 0).f0 = 2) (h4 : l.all (fun x => saneN x l.length) = true) : Sn l := ⟨h1, h2, h3, all_nd.1 h4⟩
theorem right_iff (l : List S58) : rightB l = true ↔ Rt l := by
  constructor
  · intro h
    unfold rightB at h
    simp only [Bool.and_eq_true, decide_eq_true_eq] at h
    obtain ⟨⟨⟨⟨h1, h2⟩, h3⟩, h4⟩, h5⟩ := h
    have hs := sn_of h1 h2 h3 h4
    have hat : ∀ k, k < l.length → (mt l).length = l.length ∧ (mt l).getD k 0 = k ∧ own l k = (nd l k).f1 ∧ (0 < k → (nd l k).f0 = 2 → ups l k = 1) := fun k hk => by
      have := List.all_eq_true.1 h5 k (List.mem_range.2 hk)
      unfold okAt at this
      simp only [Bool.and_eq_true, decide_eq_true_eq, Bool.not_eq_true', Bool.and_eq_false_iff, decide_eq_false_iff_not] at this
      obtain ⟨⟨⟨a, b⟩, c⟩, d⟩ := this
      refine ⟨a, b, c, fun h6 h7 => ?_⟩
      rcases d with (d | d) | d
      · omega
      · exact absurd h7 d
      · simpa using d
    have hlen := (hat 0 (by omega)).1
    have hord : mt l = List.range l.length := by
      apply List.ext_getElem
      · rw [hlen, List.length_range]
      · intro i h6 h7
        have h8 := (hat i (by omega)).2.1
        rw [List.getElem_range]
        rw [List.getD_eq_getElem?_getD, List.getElem?_eq_getElem h6] at h8
        exact h8
    refine ⟨⟨hs.wf, h2, fun k hk => saneN_kind (hs.sane k hk), fun k e he => ?_, hs.ents, fun k => ?_, fun k hk => ?_, fun k hk => ?_, fun k hk => ?_⟩, hord, fun k hk => (hat k hk).2.2.1.symm⟩
    · rcases hs.key k with h6 | ⟨h6, h7⟩
      · rw [h6] at he; cases he
      · rcases saneN_kind h7 with h8 | h8
        · rw [(saneN_file h7 h8).1] at he; cases he
        · have := (saneN_dir h7 h8).1 e he
          unfold okE at this
          simp only [Bool.and_eq_true, decide_eq_true_eq] at this
          exact this.1.1
    · rcases hs.key k with h6 | ⟨h6, h7⟩
      · rw [h6]; simp [z58]
      · rcases saneN_kind h7 with h8 | h8
        · exact (saneN_file h7 h8).2.1
        · rw [(saneN_dir h7 h8).2.2.1]; simp
    · rcases hs.key k with h6 | ⟨h6, h7⟩
      · rw [h6] at hk; simp [z58] at hk
      · exact (saneN_dir h7 hk).2.2.1
    · rcases hs.key k with h6 | ⟨h6, h7⟩
      · rw [h6] at hk; simp [z58] at hk
      · have h8 := (saneN_file h7 hk).2.2
        have h9 := (hat k h6).2.2.1
        unfold own at h9
        rw [if_neg (by omega)] at h9
        omega
    · rcases hs.key k with h6 | ⟨h6, h7⟩
      · rw [h6] at hk; simp [z58] at hk
      · by_cases h0 : 0 < k
        · exact Nat.le_of_eq ((hat k h6).2.2.2 h0 hk)
        · have h0' : k = 0 := by omega
          subst h0'
          rw [ups_eq]
          have : ∀ m : List Nat, (m.map (fun x => cnt l x 0)).sum = 0 := by
            intro m
            induction m with
            | nil => rfl
            | cons x m ih =>
              rw [List.map_cons, List.sum_cons, ih]
              have : cnt l x 0 = 0 := by
                unfold cnt
                rw [List.countP_eq_zero]
                intro e he
                have := hs.wf.ino_lt he
                simp; omega
              omega
          rw [this]; omega
  · intro h
    have hw := h.pr.wf
    unfold rightB
    simp only [Bool.and_eq_true, decide_eq_true_eq]
    refine ⟨⟨⟨⟨hw.pos, h.pr.le⟩, hw.root⟩, all_nd.2 fun k hk => ?_⟩, List.all_eq_true.2 fun k hk => ?_⟩
    · unfold saneN
      rcases h.pr.kind k hk with h1 | h1
      · rw [if_pos h1]
        simp only [Bool.and_eq_true, decide_eq_true_eq]
        refine ⟨⟨by rw [hw.file k (by omega)]; rfl, h.pr.size k⟩, ?_⟩
        rw [h.own k hk]
        unfold own
        rw [if_neg (by omega)]
        have := h.pr.links k h1
        omega
      · rw [if_neg (by omega), if_pos h1]
        simp only [Bool.and_eq_true, decide_eq_true_eq]
        refine ⟨⟨(sanE_iff _ _ none).2 ⟨fun e he => ?_, hw.srt k, fun q hq => by cases hq⟩, by rw [h.pr.ddata k h1]; rfl⟩, h.pr.ents k⟩
        unfold okE
        simp only [Bool.and_eq_true, decide_eq_true_eq]
        exact ⟨⟨h.pr.names k e he, (hw.rng k e he).1⟩, (hw.rng k e he).2⟩
    · have hk' := List.mem_range.1 hk
      unfold okAt
      simp only [Bool.and_eq_true, decide_eq_true_eq, Bool.not_eq_true', Bool.and_eq_false_iff, decide_eq_false_iff_not]
      refine ⟨⟨⟨by rw [h.ord, List.length_range], by rw [h.ord]; simp [List.getD_eq_getElem?_getD, hk']⟩, (h.own k hk').symm⟩, ?_⟩
      by_cases h0 : 0 < k
      · by_cases h2 : (nd l k).f0 = 2
        · refine .inr ?_
          simp only [Bool.not_eq_false', decide_eq_true_eq]
          refine Nat.le_antisymm (h.pr.up k h2) ?_
          obtain ⟨p, hp⟩ := met_wk hw (by rw [h.ord]; exact hk : k ∈ mt l)
          rcases List.eq_nil_or_concat p with h3 | ⟨q, m, h3⟩
          · subst h3; cases hp; omega
          · rw [List.concat_eq_append] at h3
            subst h3
            rw [wk_append] at hp
            split at hp
            · rename_i y hy
              simp only [wk] at hp
              split at hp
              · split at hp
                · rename_i e he
                  cases hp
                  exact ups_pos (look_some he).1 rfl
                · cases hp
              · cases hp
            · cases hp
        · exact .inl (.inr h2)
      · exact .inl (.inl h0)
end Go.Proofs.YtllfjmmdackgdaaDoor.PZ
end
/-! TK -/
section
namespace Go.Proofs.YtllfjmmdackgdaaDoor.PZ
open Go.RowKit Go.Proofs.YtllfjmmdackgdaaDoorW.PrintWords Go.Proofs.YtllfjmmdackgdaaDoorW.PrintLast Go.Proofs.YtllfjmmdackgdaaDoorW.PrintMore Go.Proofs.YtllfjmmdackgdaaDoor.Ord Go.Proofs.YtllfjmmdackgdaaDoor.B TD
set_option linter.unusedVariables false
set_option linter.unusedSimpArgs false
/-- A row of numbers as a function. -/
def tabl (n : Nat) (f : Nat → Int) : List Int := (List.range n).map f
theorem tabl_len (n : Nat) (f : Nat → Int) : (tabl n f).length = n := by simp [tabl]
theorem rd_tabl (n : Nat) (f : Nat → Int) (i : Nat) (h : i < n) : rd (tabl n f) (i : Int) = f i := by
  simp [rd, tabl, List.getD_eq_getElem?_getD, h]
theorem set_tabl (n : Nat) (f : Nat → Int) (i : Nat) (v : Int) (h : i < n) : (tabl n f).set i v = tabl n (fun k => if k = i then v else f k) := by
  apply List.ext_getElem
  · simp [tabl]
  · intro j h1 h2
    simp only [tabl, List.getElem_set, List.getElem_map, List.getElem_range]
    by_cases e : i = j
    · subst e; simp
    · rw [if_neg e, if_neg (Ne.symm e)]
theorem tabl_congr {n : Nat} {f g : Nat → Int} (h : ∀ k, k < n → f k = g k) : tabl n f = tabl n g := by
  unfold tabl
  exact List.map_congr_left fun k hk => h k (List.mem_range.1 hk)
theorem rep_tabl (n : Nat) : List.replicate n (0 : Int) = tabl n (fun _ => 0) := by
  apply List.ext_getElem
  · simp [tabl]
  · intro i h1 h2; simp [tabl]
section
variable (l : List S58)
/-- Entries that lead to k out of the first i nodes. -/
def upP (i k : Nat) : Nat := ((List.range i).map (fun x => cnt l x k)).sum
theorem upP_succ (i k : Nat) : upP l (i + 1) k = upP l i k + cnt l i k := by
  unfold upP
  rw [List.range_succ, List.map_append, List.sum_append]
  simp
/-- The links of k that the first i nodes tell. -/
def ownP (i k : Nat) : Nat := if (nd l k).f0 = 2 then (if k < i then 2 + dirs l (nd l k).f3 else 0) else upP l i k
/-- .. and the first j entries of node i. -/
def upQ (i j k : Nat) : Nat := upP l i k + ((nd l i).f3.take j).countP (fun e => ino e == k)
def ownQ (i j k : Nat) : Nat := if (nd l k).f0 = 2 then (if k < i then 2 + dirs l (nd l k).f3 else if k = i then 2 + dirs l ((nd l i).f3.take j) else 0) else upQ l i j k
theorem upQ_end (i k : Nat) : upQ l i (nd l i).f3.length k = upP l (i + 1) k := by
  unfold upQ; rw [List.take_length, upP_succ]; rfl
theorem ownQ_end (i k : Nat) : ownQ l i (nd l i).f3.length k = ownP l (i + 1) k := by
  unfold ownQ ownP
  rw [upQ_end, List.take_length]
  by_cases h : (nd l k).f0 = 2
  · rw [if_pos h, if_pos h]
    by_cases h1 : k < i
    · rw [if_pos h1, if_pos (by omega)]
    · rw [if_neg h1]
      by_cases h2 : k = i
      · subst h2; rw [if_pos rfl, if_pos (by omega)]
      · rw [if_neg h2, if_neg (by omega)]
  · rw [if_neg h, if_neg h]
theorem upQ_zero (i k : Nat) : upQ l i 0 k = upP l i k := by simp [upQ]
theorem ownQ_zero (i k : Nat) : ownQ l i 0 k = if k = i ∧ (nd l k).f0 = 2 then 2 else ownP l i k := by
  unfold ownQ ownP
  rw [upQ_zero]
  by_cases h : (nd l k).f0 = 2
  · rw [if_pos h, if_pos h]
    by_cases h2 : k = i
    · subst h2
      rw [if_neg (show ¬ k < k by omega), if_pos rfl, if_pos ⟨rfl, h⟩]
      simp [dirs]
    · rw [if_neg (show ¬ (k = i ∧ (nd l k).f0 = 2) from fun e => h2 e.1), if_neg h2]
  · rw [if_neg h, if_neg h, if_neg (show ¬ (k = i ∧ (nd l k).f0 = 2) from fun e => h e.2)]
theorem take_succ_countP {α : Type} (es : List α) (j : Nat) (h : j < es.length) (p : α → Bool) : (es.take (j + 1)).countP p = (es.take j).countP p + (if p es[j] then 1 else 0) := by
  rw [List.take_succ_eq_append_getElem h, List.countP_append]
  simp [List.countP_cons]
theorem upQ_succ (i j k : Nat) (h : j < (nd l i).f3.length) : upQ l i (j + 1) k = if k = ino (nd l i).f3[j] then upQ l i j k + 1 else upQ l i j k := by
  unfold upQ
  rw [take_succ_countP _ _ h]
  by_cases e : k = ino (nd l i).f3[j]
  · subst e; simp; omega
  · have : ¬ ino (nd l i).f3[j] = k := fun h => e h.symm
    simp [e, this]
theorem ownQ_dir (i j k : Nat) (h : j < (nd l i).f3.length) (hi : (nd l i).f0 = 2) (hd : (nd l (ino (nd l i).f3[j])).f0 = 2) : ownQ l i (j + 1) k = if k = i then ownQ l i j k + 1 else ownQ l i j k := by
  unfold ownQ
  by_cases hk : (nd l k).f0 = 2
  · rw [if_pos hk, if_pos hk]
    by_cases h1 : k = i
    · subst h1
      simp only [if_neg (show ¬ k < k by omega), if_true]
      unfold dirs
      rw [take_succ_countP _ _ h]
      simp [hd]
      omega
    · rw [if_neg h1, if_neg h1, if_neg h1]
  · rw [if_neg hk, if_neg hk, upQ_succ _ _ _ _ h, if_neg (fun e => hk (by rw [e]; exact hd)), if_neg (fun e => hk (by rw [e]; exact hi))]
theorem ownQ_file (i j k : Nat) (h : j < (nd l i).f3.length) (hd : (nd l (ino (nd l i).f3[j])).f0 ≠ 2) : ownQ l i (j + 1) k = if k = ino (nd l i).f3[j] then ownQ l i j k + 1 else ownQ l i j k := by
  unfold ownQ
  by_cases hk : (nd l k).f0 = 2
  · rw [if_pos hk, if_pos hk, if_neg (show ¬ k = ino (nd l i).f3[j] from fun e => hd (by rw [← e]; exact hk))]
    by_cases h1 : k = i
    · subst h1
      simp only [if_neg (show ¬ k < k by omega), if_true]
      unfold dirs
      rw [take_succ_countP _ _ h]
      simp [hd]
    · rw [if_neg h1, if_neg h1]
  · rw [if_neg hk, if_neg hk, upQ_succ _ _ _ _ h]
end
theorem upP_le {l : List S58} (h64 : ∀ k, (nd l k).f3.length ≤ 64) (i k : Nat) : upP l i k ≤ 64 * i := by
  induction i with
  | zero => simp [upP]
  | succ i ih =>
    rw [upP_succ]
    have : cnt l i k ≤ 64 := Nat.le_trans List.countP_le_length (h64 i)
    omega
theorem upQ_le {l : List S58} (h64 : ∀ k, (nd l k).f3.length ≤ 64) (i j k : Nat) : upQ l i j k ≤ 64 * i + 64 := by
  unfold upQ
  have h1 := upP_le h64 i k
  have h2 : ((nd l i).f3.take j).countP (fun e => ino e == k) ≤ 64 := Nat.le_trans List.countP_le_length (by rw [List.length_take]; have := h64 i; omega)
  omega
theorem ownQ_le {l : List S58} (h64 : ∀ k, (nd l k).f3.length ≤ 64) (i j k : Nat) : ownQ l i j k ≤ 64 * i + 66 := by
  have hd : ∀ es : List S102, es.length ≤ 64 → dirs l es ≤ 64 := fun es he => Nat.le_trans List.countP_le_length he
  unfold ownQ
  split
  · split
    · have := hd _ (h64 k); omega
    · split
      · have := hd ((nd l i).f3.take j) (by rw [List.length_take]; have := h64 i; omega); omega
      · omega
  · have := upQ_le h64 i j k; omega
theorem rdN (l : List S58) (k : Nat) : rd_T58 l (k : Int) = nd l k := rfl
theorem links_l1 {l : List S58} (hw : Wf l) (h56 : l.length ≤ 56) (h64 : ∀ k, (nd l k).f3.length ≤ 64) (i : Nat) (hi : i < l.length) (R : List Int × List Int)
    (hnext : Ev (fun k => tree_links.l0 k (tabl l.length (fun k => (ownP l (i + 1) k : Int))) (tabl l.length (fun k => (upP l (i + 1) k : Int))) l (l.length : Int) ((i + 1 : Nat) : Int) l) R) :
    ∀ (m j : Nat), j ≤ (nd l i).f3.length → (nd l i).f3.length - j = m →
      Ev (fun k => tree_links.l1 k (tabl l.length (fun k => (ownQ l i j k : Int))) (tabl l.length (fun k => (upQ l i j k : Int))) (i : Int) l (l.length : Int) (i : Int) (nd l i).f3 ((nd l i).f3.length : Int) (j : Int) l) R := by
  intro m
  induction m with
  | zero =>
    intro j hj hm
    obtain rfl : j = (nd l i).f3.length := by omega
    have e1 : tabl l.length (fun k => (ownQ l i (nd l i).f3.length k : Int)) = tabl l.length (fun k => (ownP l (i + 1) k : Int)) := tabl_congr fun k _ => by rw [ownQ_end]
    have e2 : tabl l.length (fun k => (upQ l i (nd l i).f3.length k : Int)) = tabl l.length (fun k => (upP l (i + 1) k : Int)) := tabl_congr fun k _ => by rw [upQ_end]
    rw [e1, e2]
    refine Ev.step (fun k => ?_) hnext
    rw [tree_links.l1, if_neg (by omega)]
    rw [show wrap64 ((i : Int) + 1) = ((i + 1 : Nat) : Int) by rw [w64 (by omega) (by omega)]; omega]
  | succ m ih =>
    intro j hj hm
    have hjl : j < (nd l i).f3.length := by omega
    have hm' : (nd l i).f3[j] ∈ (nd l i).f3 := List.getElem_mem hjl
    have hino := hw.ino_lt hm'
    have hij := h64 i
    have ih' := ih (j + 1) (by omega) (by omega)
    have r := rdE (nd l i).f3 j hjl
    have hid : (nd l i).f0 = 2 := by
      rcases Classical.em ((nd l i).f0 = 2) with h | h
      · exact h
      · rw [hw.file i h] at hjl; simp at hjl
    have hwj : wrap64 ((j : Int) + 1) = ((j + 1 : Nat) : Int) := by rw [w64 (by omega) (by omega)]; omega
    refine Ev.step (fun k => ?_) ih'
    rw [tree_links.l1, if_pos (by omega), if_pos (by omega), if_pos (by omega), r, ← hino.2.2, if_pos (by omega), if_pos (by rw [tabl_len]; omega)]
    simp only [Option.bind_some]
    rw [if_pos (by omega), rdN, rd_tabl _ _ _ hino.1]
    simp only [Int.toNat_natCast]
    rw [set_tabl _ _ _ _ hino.1, hwj]
    have hu := upQ_le h64 i j (ino (nd l i).f3[j])
    have eu : tabl l.length (fun k => if k = ino (nd l i).f3[j] then wrap64 ((upQ l i j (ino (nd l i).f3[j]) : Int) + 1) else (upQ l i j k : Int)) = tabl l.length (fun k => (upQ l i (j + 1) k : Int)) := tabl_congr fun k _ => by
      rw [upQ_succ _ _ _ _ hjl]
      split
      · rename_i e; rw [w64 (by omega) (by omega), e]; omega
      · rfl
    rw [eu]
    by_cases hd : (nd l (ino (nd l i).f3[j])).f0 = 2
    · rw [if_pos hd, if_pos (by omega), if_pos (by rw [tabl_len]; omega), rd_tabl _ _ _ hi, set_tabl _ _ _ _ hi]
      have ho := ownQ_le h64 i j i
      have eo : tabl l.length (fun k => if k = i then wrap64 ((ownQ l i j i : Int) + 1) else (ownQ l i j k : Int)) = tabl l.length (fun k => (ownQ l i (j + 1) k : Int)) := tabl_congr fun k _ => by
        rw [ownQ_dir _ _ _ _ hjl hid hd]
        split
        · rename_i e; rw [w64 (by omega) (by omega), e]; omega
        · rfl
      rw [eo]
    · rw [if_neg hd, if_pos (by rw [tabl_len]; omega), rd_tabl _ _ _ hino.1, set_tabl _ _ _ _ hino.1]
      have ho := ownQ_le h64 i j (ino (nd l i).f3[j])
      have eo : tabl l.length (fun k => if k = ino (nd l i).f3[j] then wrap64 ((ownQ l i j (ino (nd l i).f3[j]) : Int) + 1) else (ownQ l i j k : Int)) = tabl l.length (fun k => (ownQ l i (j + 1) k : Int)) := tabl_congr fun k _ => by
        rw [ownQ_file _ _ _ _ hjl hd]
        split
        · rename_i e; rw [w64 (by omega) (by omega), e]; omega
        · rfl
      rw [eo]
theorem links_l0 {l : List S58} (hw : Wf l) (h56 : l.length ≤ 56) (h64 : ∀ k, (nd l k).f3.length ≤ 64) : ∀ (m i : Nat), i ≤ l.length → l.length - i = m →
    Ev (fun k => tree_links.l0 k (tabl l.length (fun k => (ownP l i k : Int))) (tabl l.length (fun k => (upP l i k : Int))) l (l.length : Int) (i : Int) l) (tabl l.length (own l), tabl l.length (fun k => (ups l k : Int))) := by
  intro m
  induction m with
  | zero =>
    intro i hi hm
    obtain rfl : i = l.length := by omega
    have e1 : tabl l.length (fun k => (ownP l l.length k : Int)) = tabl l.length (own l) := tabl_congr fun k hk => by
      unfold ownP own
      rw [ups_eq]
      rw [if_pos hk]
      split
      · rfl
      · rfl
    have e2 : tabl l.length (fun k => (upP l l.length k : Int)) = tabl l.length (fun k => (ups l k : Int)) := tabl_congr fun k _ => by rw [ups_eq]; rfl
    rw [e1, e2]
    refine Ev.step (f := fun _ => some _) (fun k => ?_) (Ev.now _)
    rw [tree_links.l0, if_neg (by omega)]
  | succ m ih =>
    intro i hi hm
    have hil : i < l.length := by omega
    have h1 := links_l1 hw h56 h64 i hil _ (ih (i + 1) (by omega) (by omega)) (nd l i).f3.length 0 (Nat.zero_le _) (by omega)
    have e2 : tabl l.length (fun k => (upQ l i 0 k : Int)) = tabl l.length (fun k => (upP l i k : Int)) := tabl_congr fun k _ => by rw [upQ_zero]
    rw [e2] at h1
    by_cases hd : (nd l i).f0 = 2
    · have e1 : tabl l.length (fun k => if k = i then wrap64 ((ownP l i i : Int) + 2) else (ownP l i k : Int)) = tabl l.length (fun k => (ownQ l i 0 k : Int)) := tabl_congr fun k _ => by
        rw [ownQ_zero]
        by_cases e : k = i
        · subst e
          rw [if_pos rfl, if_pos ⟨rfl, hd⟩]
          have : ownP l k k = 0 := by unfold ownP; rw [if_pos hd, if_neg (by omega)]
          rw [this, w64 (by omega) (by omega)]; rfl
        · rw [if_neg e, if_neg (fun h => e h.1)]
      refine Ev.step (fun k => ?_) (Ev.step (g := fun k => tree_links.j1 k (tabl l.length (fun k => (ownQ l i 0 k : Int))) (tabl l.length (fun k => (upP l i k : Int))) (i : Int) l (l.length : Int) (i : Int) l (nd l i).f0 (nd l i).f1 (nd l i).f2 (nd l i).f3) (fun k => ?_) h1)
      · rw [tree_links.l0, if_pos (by omega), if_pos (by omega), if_pos (by omega), rdN, if_pos hd, if_pos (by rw [tabl_len]; omega), rd_tabl _ _ _ hil]
        simp only [Int.toNat_natCast]
        rw [set_tabl _ _ _ _ hil, e1]
      · rw [tree_links.j1]; rfl
    · have e1 : tabl l.length (fun k => (ownP l i k : Int)) = tabl l.length (fun k => (ownQ l i 0 k : Int)) := tabl_congr fun k _ => by
        rw [ownQ_zero, if_neg (fun h => hd (by rw [← h.1]; exact h.2))]
      refine Ev.step (fun k => ?_) (Ev.step (g := fun k => tree_links.j1 k (tabl l.length (fun k => (ownQ l i 0 k : Int))) (tabl l.length (fun k => (upP l i k : Int))) (i : Int) l (l.length : Int) (i : Int) l (nd l i).f0 (nd l i).f1 (nd l i).f2 (nd l i).f3) (fun k => ?_) h1)
      · rw [tree_links.l0, if_pos (by omega), if_pos (by omega), if_pos (by omega), rdN, if_neg hd, e1]
      · rw [tree_links.j1]; rfl
theorem links_ev {l : List S58} (hw : Wf l) (h56 : l.length ≤ 56) (h64 : ∀ k, (nd l k).f3.length ≤ 64) : Ev (fun k => tree_links.f k l) (tabl l.length (own l), tabl l.length (fun k => (ups l k : Int))) := by
  have h := links_l0 hw h56 h64 l.length 0 (Nat.zero_le _) (by omega)
  have e1 : tabl l.length (fun k => (ownP l 0 k : Int)) = List.replicate l.length 0 := by
    rw [rep_tabl]
    exact tabl_congr fun k _ => by unfold ownP upP; simp
  have e2 : tabl l.length (fun k => (upP l 0 k : Int)) = List.replicate l.length 0 := by
    rw [rep_tabl]
    exact tabl_congr fun k _ => by unfold upP; simp
  rw [e1, e2] at h
  refine Ev.congr (fun k => ?_) h
  unfold tree_links.f
  rw [if_pos (by omega), if_pos (by omega), Int.toNat_natCast]
  rfl
end Go.Proofs.YtllfjmmdackgdaaDoor.PZ
end
/-! GSane -/
section
namespace Go.Proofs.YtllfjmmdackgdaaDoor.PZ
open Go.RowKit Go.Proofs.YtllfjmmdackgdaaDoorW.PrintWords Go.Proofs.YtllfjmmdackgdaaDoorW.PrintLast Go.Proofs.YtllfjmmdackgdaaDoorW.PrintMore Go.Proofs.YtllfjmmdackgdaaDoor.B Go.Proofs.YtllfjmmdackgdaaDoor.Ord TD
set_option maxRecDepth 100000
set_option linter.unusedVariables false
set_option linter.unusedSimpArgs false
theorem sanE_step {n : Nat} {es : List S102} {i : Nat} (h : i < es.length) : sanE n (es.drop i) (prevE es i) = (okE n (rd_T102 es i) && okP (prevE es i) (rd_T102 es i) && sanE n (es.drop (i + 1)) (prevE es (i + 1))) := by
  rw [List.drop_eq_getElem_cons h, rdE es i h]
  have hp : prevE es (i + 1) = some es[i].f0 := by
    unfold prevE
    rw [if_neg (by omega), Nat.add_sub_cancel, rdE es i h]
  rw [hp]
  rfl
/-- A node, laid. -/
def boxN (w : World) (x1 : Int) (A2 : Option Addr) (n2 c2 : Nat) (A3 : Option Addr) (n3 c3 : Nat) : World := w.alloc (.cells #[.int .i64 2, .int .i64 x1, .slice A2 n2 c2, .slice A3 n3 c3] 58)
theorem boxN_cell {w W : World} {x1 : Int} {A2 A3 : Option Addr} {n2 c2 n3 c3 : Nat} (h : Below (boxN w x1 A2 n2 c2 A3 n3 c3).heap.size (boxN w x1 A2 n2 c2 A3 n3 c3) W) :
    W.cell? ⟨w.heap.size, 2, none⟩ = some (.slice A2 n2 c2) ∧ W.cell? ⟨w.heap.size, 3, none⟩ = some (.slice A3 n3 c3) ∧ w.heap.size < W.heap.size ∧ Below w.heap.size w W := by
  have hk := blk_below (blk_new w (.cells #[.int .i64 2, .int .i64 x1, .slice A2 n2 c2, .slice A3 n3 c3] 58)) h
  exact ⟨(blk_cell hk 2).trans rfl, (blk_cell hk 3).trans rfl, blk_lt hk, below_step (below_alloc (Below.refl _ _) _) h⟩
set_option maxHeartbeats 4000000 in
theorem sane_walk (x : S58) (n : Nat) (A2 : Option Addr) (c2 : Nat) (A3 : Option Addr) (c3 : Nat) (w : World) (hn : n < 1000000000000) (hl : x.f3.length < 1000000000000) (hr3 : Kd.C k102 w A3 x.f3.length x.f3) (hc3 : x.f3.length ≤ c3) :
    Calls Tryd.prog 50 #[.agg #[.int .i64 x.f0, .int .i64 x.f1, .slice A2 x.f2.length c2, .slice A3 x.f3.length c3], .int .i64 n] w fun e w' => e = .returned (.bool (saneN x n)) ∧ Below w.heap.size w w' := by
  have HR := Aside0.mk hr3
  clear hr3
  obtain ⟨x0, x1, x2, x3⟩ := x
  dsimp only at *
  by_cases k1 : x0 = 1
  · subst k1
    by_cases p1 : x3.length = 0
    · have b1 : ((x3.length : Int) == 0) = true := beq_iff_eq.2 (by omega)
      by_cases p2 : x2.length ≤ 46368
      · have b2 : decide ((x2.length : Int) ≤ 46368) = true := decide_eq_true (by omega)
        have b2' : decide (x2.length ≤ 46368) = true := decide_eq_true p2
        have HS := Aside0.mk (show saneN ⟨1, x1, x2, x3⟩ n = decide (x1 ≤ 200) by show (decide (x3.length = 0) && decide (x2.length ≤ 46368) && decide (x1 ≤ 200)) = _; rw [decide_eq_true p1, b2']; rfl)
        clear p1 p2
        go_enter Tryd.func50, Tryd.ntmps50
        go_wp2
        go_ret
        exact ⟨by rw [HS.out]; rfl, below_alloc (Below.refl _ _) _⟩
      · have b2 : decide ((x2.length : Int) ≤ 46368) = false := decide_eq_false (by omega)
        have b2' : decide (x2.length ≤ 46368) = false := decide_eq_false p2
        have HS := Aside0.mk (show saneN ⟨1, x1, x2, x3⟩ n = false by show (decide (x3.length = 0) && decide (x2.length ≤ 46368) && decide (x1 ≤ 200)) = _; rw [b2', Bool.and_false]; rfl)
        clear p1 p2
        go_enter Tryd.func50, Tryd.ntmps50
        go_wp2
        go_ret
        exact ⟨by rw [HS.out]; rfl, below_alloc (Below.refl _ _) _⟩
    · have b1 : ((x3.length : Int) == 0) = false := beq_eq_false_iff_ne.2 (by omega)
      have HS := Aside0.mk (show saneN ⟨1, x1, x2, x3⟩ n = false by show (decide (x3.length = 0) && decide (x2.length ≤ 46368) && decide (x1 ≤ 200)) = _; rw [decide_eq_false p1]; rfl)
      have b1' : ¬ x3 = [] := fun h => p1 (by rw [h]; rfl)
      clear p1
      go_enter Tryd.func50, Tryd.ntmps50
      go_wp2
      go_ret
      exact ⟨by rw [HS.out]; rfl, below_alloc (Below.refl _ _) _⟩
  · have b0 : (x0 == 1) = false := beq_eq_false_iff_ne.2 k1
    by_cases k2 : x0 = 2
    · subst k2
      clear k1
      have HSN := Aside0.mk (show saneN ⟨2, x1, x2, x3⟩ n = (sanE n x3 none && decide (x2.length = 0) && decide (x3.length ≤ 64)) from rfl)
      go_enter Tryd.func50, Tryd.ntmps50
      go_wp2
      go_loopw [31] (fun v31 wr => ∃ k : Nat, k ≤ x3.length ∧ v31 = .int .i64 k ∧ Aside0 (sanE n (x3.drop k) (prevE x3 k) = sanE n x3 none) ∧ Aside0 (Below (boxN w x1 A2 x2.length c2 A3 x3.length c3).heap.size (boxN w x1 A2 x2.length c2 A3 x3.length c3) wr)) (fun v31 _ => x3.length - (intOf v31).toNat)
      case atStart => exact ⟨0, Nat.zero_le _, rfl, ⟨rfl⟩, ⟨Below.refl _ _⟩⟩
      case round =>
        obtain ⟨k, hk, rfl, HE, HB⟩ := hrel
        obtain ⟨hb2, hb3, hbl, hbw⟩ := boxN_cell HB.out
        have HBW := Aside0.mk hbw
        clear hbw
        by_cases hlt : k < x3.length
        · have hki : (k : Int) < (x3.length : Int) := by omega
          have HE2 := Aside0.mk (HE.out.symm.trans (sanE_step hlt))
          obtain ⟨ad, rfl, hx0, hx1⟩ := at_T102 HR.out (k : Int) (by omega) (by omega)
          rw [Int.toNat_natCast] at hx0 hx1
          replace hx0 := (HBW.out.cell (World.block_lt_of_cell? w _ hx0)).trans hx0
          replace hx1 := (HBW.out.cell (World.block_lt_of_cell? w _ hx1)).trans hx1
          obtain ⟨e, he⟩ : ∃ e, rd_T102 x3 (k : Int) = e := ⟨_, rfl⟩
          rw [he] at hx0 hx1 HE2
          cases hnb : nameB e.f0 with
          | false =>
            have HS := Aside0.mk (HE2.out.trans (by unfold okE; rw [hnb]; rfl : _ = false))
            go_wp2
            go_quiet ((go_at_call 18; exact Calls.quiet_of_same (name_walk _ _)))
            go_wp2
            go_ret
            exact ⟨by rw [HSN.out, HS.out]; rfl, by repeat (first | exact HBW.out | with_reducible apply pw_below_drewN | with_reducible apply below_drew1 | with_reducible apply below_alloc)⟩
          | true =>
            by_cases q1 : e.f1 < 1
            · have q1b : decide (e.f1 < 1) = true := decide_eq_true q1
              have q1c : decide (1 ≤ e.f1) = false := decide_eq_false (by omega)
              have HS := Aside0.mk (HE2.out.trans (by unfold okE; rw [hnb, q1c]; rfl : _ = false))
              go_wp2
              go_quiet ((go_at_call 18; exact Calls.quiet_of_same (name_walk _ _)))
              go_wp2
              go_ret
              exact ⟨by rw [HSN.out, HS.out]; rfl, by repeat (first | exact HBW.out | with_reducible apply pw_below_drewN | with_reducible apply below_drew1 | with_reducible apply below_alloc)⟩
            · have q1b : decide (e.f1 < 1) = false := decide_eq_false q1
              have q1c : decide (1 ≤ e.f1) = true := decide_eq_true (by omega)
              by_cases q2 : (n : Int) ≤ e.f1
              · have q2b : decide ((n : Int) ≤ e.f1) = true := decide_eq_true q2
                have q2c : decide (e.f1 < (n : Int)) = false := decide_eq_false (by omega)
                have HS := Aside0.mk (HE2.out.trans (by unfold okE; rw [hnb, q1c, q2c]; rfl : _ = false))
                go_wp2
                go_quiet ((go_at_call 18; exact Calls.quiet_of_same (name_walk _ _)))
                go_wp2
                go_ret
                exact ⟨by rw [HSN.out, HS.out]; rfl, by repeat (first | exact HBW.out | with_reducible apply pw_below_drewN | with_reducible apply below_drew1 | with_reducible apply below_alloc)⟩
              · have q2b : decide ((n : Int) ≤ e.f1) = false := decide_eq_false q2
                have q2c : decide (e.f1 < (n : Int)) = true := decide_eq_true (by omega)
                rcases Nat.eq_zero_or_pos k with k0 | k0
                · have k0b : decide (0 < (k : Int)) = false := decide_eq_false (by omega)
                  have k0c : decide (0 < k) = false := decide_eq_false (by omega)
                  have hpv : prevE x3 k = none := by unfold prevE; rw [if_pos k0]
                  rw [hpv] at HE2
                  clear hpv k0
                  have HS := Aside0.mk (HE2.out.trans (by unfold okE; rw [hnb, q1c, q2c]; rfl : _ = sanE n (x3.drop (k + 1)) (prevE x3 (k + 1))))
                  go_wp2
                  go_quiet ((go_at_call 18; exact Calls.quiet_of_same (name_walk _ _)))
                  go_wp2
                  go_roundw
                  case rel => exact ⟨k + 1, by omega, rfl, ⟨HS.out.symm⟩, ⟨by repeat (first | exact HB.out | with_reducible apply pw_below_drewN | with_reducible apply below_drew1 | with_reducible apply below_alloc)⟩⟩
                  case measure => simp [intOf]; omega
                · have k0b : decide (0 < (k : Int)) = true := decide_eq_true (by omega)
                  have k0c : decide (0 < k) = true := decide_eq_true k0
                  have k1n : (k : Int) - 1 = ((k - 1 : Nat) : Int) := by omega
                  have k1l : ((k - 1 : Nat) : Int) < (x3.length : Int) := by omega
                  obtain ⟨ad', e', hy0, hy1⟩ := at_T102 HR.out ((k - 1 : Nat) : Int) (by omega) (by omega)
                  cases e'
                  rw [Int.toNat_natCast] at hy0 hy1
                  replace hy0 := (HBW.out.cell (World.block_lt_of_cell? w _ hy0)).trans hy0
                  have hyl : (ad.add ((k - 1) * 2)).block < wr.heap.size := World.block_lt_of_cell? wr _ hy0
                  have hpv : prevE x3 k = some (rd_T102 x3 ((k - 1 : Nat) : Int)).f0 := by unfold prevE; rw [if_neg (by omega)]
                  rw [hpv] at HE2
                  clear hpv hy1
                  generalize (rd_T102 x3 ((k - 1 : Nat) : Int)).f0 = pv at hy0 HE2
                  cases hlb : Op.bytesLess pv.toList e.f0.toList with
                  | false =>
                    have HS := Aside0.mk (HE2.out.trans (by unfold okE okP; rw [hnb, q1c, q2c]; show (true && lts pv e.f0 && _) = false; unfold lts; rw [hlb]; rfl : _ = false))
                    go_wp2
                    go_quiet ((go_at_call 18; exact Calls.quiet_of_same (name_walk _ _)))
                    go_wp2
                    go_ret
                    exact ⟨by rw [HSN.out, HS.out]; rfl, by repeat (first | exact HBW.out | with_reducible apply pw_below_drewN | with_reducible apply below_drew1 | with_reducible apply below_alloc)⟩
                  | true =>
                    have HS := Aside0.mk (HE2.out.trans (by unfold okE okP; rw [hnb, q1c, q2c]; show (true && lts pv e.f0 && _) = _; unfold lts; rw [hlb]; rfl : _ = sanE n (x3.drop (k + 1)) (prevE x3 (k + 1))))
                    go_wp2
                    go_quiet ((go_at_call 18; exact Calls.quiet_of_same (name_walk _ _)))
                    go_wp2
                    go_roundw
                    case rel => exact ⟨k + 1, by omega, rfl, ⟨HS.out.symm⟩, ⟨by repeat (first | exact HB.out | with_reducible apply pw_below_drewN | with_reducible apply below_drew1 | with_reducible apply below_alloc)⟩⟩
                    case measure => simp [intOf]; omega
        · have hke : k = x3.length := by omega
          subst hke
          have HS := Aside0.mk (HE.out.symm.trans (by rw [List.drop_length]; rfl : _ = true))
          by_cases p1 : x2.length = 0
          · have b1 : ((x2.length : Int) == 0) = true := beq_iff_eq.2 (by omega)
            by_cases p2 : x3.length ≤ 64
            · have b2 : decide ((x3.length : Int) ≤ 64) = true := decide_eq_true (by omega)
              have b2' : decide (x3.length ≤ 64) = true := decide_eq_true p2
              have b1' : decide (x2.length = 0) = true := decide_eq_true p1
              clear p1 p2
              go_wp2
              go_ret
              exact ⟨by rw [HSN.out, HS.out, b1', b2']; rfl, by repeat (first | exact HBW.out | with_reducible apply pw_below_drewN | with_reducible apply below_drew1 | with_reducible apply below_alloc)⟩
            · have b2 : decide ((x3.length : Int) ≤ 64) = false := decide_eq_false (by omega)
              have b2' : decide (x3.length ≤ 64) = false := decide_eq_false p2
              clear p1 p2
              go_wp2
              go_ret
              exact ⟨by rw [HSN.out, b2', Bool.and_false]; rfl, by repeat (first | exact HBW.out | with_reducible apply pw_below_drewN | with_reducible apply below_drew1 | with_reducible apply below_alloc)⟩
          · have b1 : ((x2.length : Int) == 0) = false := beq_eq_false_iff_ne.2 (by omega)
            have b1' : decide (x2.length = 0) = false := decide_eq_false p1
            have b1n : ¬ x2 = [] := fun h => p1 (by rw [h]; rfl)
            clear p1
            go_wp2
            go_ret
            exact ⟨by rw [HSN.out, b1', Bool.and_false]; rfl, by repeat (first | exact HBW.out | with_reducible apply pw_below_drewN | with_reducible apply below_drew1 | with_reducible apply below_alloc)⟩
    · have b0' : (x0 == 2) = false := beq_eq_false_iff_ne.2 k2
      have HS := Aside0.mk (show saneN ⟨x0, x1, x2, x3⟩ n = false by unfold saneN; rw [if_neg k1, if_neg k2])
      clear k1 k2
      go_enter Tryd.func50, Tryd.ntmps50
      go_wp2
      go_ret
      exact ⟨by rw [HS.out]; rfl, below_alloc (Below.refl _ _) _⟩
end Go.Proofs.YtllfjmmdackgdaaDoor.PZ
end
