import Derived.Test.YtbhjggbijkjmnaaGreatDoorM04
import Derived.Test.YtbhjggbijkjmnaaGreatDoorM02
import Derived.WalkLawsBesides
import Derived.Test.YtbhjggbijkjmnaaGreatDoorM03
set_option linter.unusedVariables false
set_option linter.unusedSimpArgs false
section
namespace Go.Proofs.YtbhjggbijkjmnaaGreatDoor.PZ
open Go.RowKit Go.Proofs.YtbhjggbijkjmnaaGreatDoorW.PrintWords Go.Proofs.YtbhjggbijkjmnaaGreatDoorW.PrintLast Go.Proofs.YtbhjggbijkjmnaaGreatDoorW.PrintMore Go.Proofs.YtbhjggbijkjmnaaGreatDoor.B Go.Proofs.YtbhjggbijkjmnaaGreatDoor.Ord TD
set_option maxRecDepth 100000
abbrev dN : S52 := z52
def nd (l : List S52) (k : Nat) : S52 := l.getD k dN
theorem Qbm {l : List S52} {k : Nat} (h : k < l.length) : nd l k = l[k] := by simp [nd, h]
theorem Qbr {l : List S52} {k : Nat} (h : l.length ≤ k) : nd l k = dN := by simp [nd, h]
def chl (l : List S52) (k : Nat) : List Nat := (nd l k).f3.map ino
def mt (l : List S52) : List Nat := met l.length (chl l)
def pl (l : List S52) (k : Nat) : Nat := (mt l).idxOf k
def dirs (l : List S52) (es : List S62) : Nat := es.countP (fun e => (nd l (ino e)).f0 == 2)
def ups (l : List S52) (k : Nat) : Nat := (l.map (fun n => n.f3.countP (fun e => ino e == k))).sum
def own (l : List S52) (k : Nat) : Int := if (nd l k).f0 = 2 then ((2 + dirs l (nd l k).f3 : Nat) : Int) else (ups l k : Int)
def Qcz (l : List S52) : List S52 := l.mapIdx (fun k n => ⟨n.f0, own l k, n.f2, n.f3⟩)
def renum (l : List S52) : List S52 := (mt l).map (fun k => ⟨(nd l k).f0, 0, (nd l k).f2, (nd l k).f3.map (ren (pl l))⟩)
def num (l : List S52) : List S52 := Qcz (renum l)
structure Wf (l : List S52) : Prop where
 pos : 0 < l.length
 root : (nd l 0).f0 = 2
 file : ∀ k, (nd l k).f0 ≠ 2 → (nd l k).f3 = []
 srt : ∀ k, Srt (nd l k).f3
 rng : ∀ k, ∀ e ∈ (nd l k).f3, 1 ≤ e.f1 ∧ e.f1 < l.length
theorem Wf.ino_lt {l : List S52} (h : Wf l) {k : Nat} {e : S62} (he : e ∈ (nd l k).f3) : ino e < l.length ∧ 1 ≤ ino e ∧ (ino e : Int) = e.f1 := by
 have := h.rng k e he
 unfold ino
 omega
theorem Wf.ch_lt {l : List S52} (h : Wf l) {k c : Nat} (hc : c ∈ chl l k) : c < l.length ∧ 1 ≤ c := by
 unfold chl at hc
 obtain ⟨e, he, rfl⟩ := List.mem_map.1 hc
 have := h.ino_lt he
 omega
theorem Wf.zero {l : List S52} (h : Wf l) : 0 ∈ mt l := by
 obtain ⟨r, hr⟩ := met_zero (chl l) h.pos
 unfold mt
 rw [hr]; simp
theorem mt_lt {l : List S52} {k : Nat} (h : k ∈ mt l) : k < l.length := met_lt h
theorem Qfd (l : List S52) : (mt l).Nodup := met_nodup _ _
theorem Wf.mt_step {l : List S52} (h : Wf l) {k : Nat} (hk : k ∈ mt l) {e : S62} (he : e ∈ (nd l k).f3) : ino e ∈ mt l :=
 met_closed hk (List.mem_map_of_mem he) (h.ino_lt he).1
def wk (l : List S52) : List ByteArray → Nat → Nat ⊕ Int
 | [], at_ => .inl at_
 | n :: ns, at_ => if (nd l at_).f0 = 2 then (match look (nd l at_).f3 n with | some e => wk l ns (ino e) | none => .inr 21) else .inr 22
theorem wk_append (l : List S52) (a b : List ByteArray) (at_ : Nat) : wk l (a ++ b) at_ = (match wk l a at_ with | .inl k => wk l b k | .inr e => .inr e) := by
 induction a generalizing at_ with
 | nil => rfl
 | cons n ns ih =>
  rw [List.cons_append, wk, wk]
  split
  ·
   split
   · exact ih _
   · rfl
  · rfl
theorem met_wk {l : List S52} (h : Wf l) {k : Nat} (hk : k ∈ mt l) : ∃ ns, wk l ns 0 = .inl k := by
 refine met_all (n := l.length) (ch := chl l) (R := fun k => ∃ ns, wk l ns 0 = .inl k) ⟨[], rfl⟩ ?_ hk
 rintro k ⟨ns, hns⟩ _ c hc
 obtain ⟨e, he, rfl⟩ := List.mem_map.1 hc
 have hd : (nd l k).f0 = 2 := by
  rcases Classical.em ((nd l k).f0 = 2) with h1 | h1
  · exact h1
  · rw [h.file k h1] at he; cases he
 refine ⟨ns ++ [e.f0], ?_⟩
 rw [wk_append, hns]
 simp only [wk]
 rw [if_pos hd, look_of (h.srt k) he]
structure Iso (f : Nat → Nat) (l l' : List S52) : Prop where
 wf : Wf l
 zero : f 0 = 0
 lt : ∀ k ∈ mt l, f k < l'.length
 inj : ∀ a b, a ∈ mt l → b ∈ mt l → f a = f b → a = b
 kind : ∀ k ∈ mt l, (nd l' (f k)).f0 = (nd l k).f0
 data : ∀ k ∈ mt l, (nd l' (f k)).f2 = (nd l k).f2
 ents : ∀ k ∈ mt l, (nd l' (f k)).f3 = (nd l k).f3.map (ren f)
section
variable {f : Nat → Nat} {l l' : List S52}
theorem Iso.met (h : Iso f l l') : mt l' = (mt l).map f :=
 met_map h.wf.pos h.zero (fun k hk => ⟨h.lt k hk, fun c hc => (h.wf.ch_lt hc).1, by
  unfold chl
  rw [h.ents k hk, List.map_map, List.map_map]
  congr 1⟩) h.inj
theorem Iso.wf' (h : Iso f l l') (hs : ∀ k', k' < l'.length → ∃ k ∈ mt l, f k = k') : Wf l' := by
 have h0 := h.wf.zero
 have hp : 0 < l'.length := by have := h.lt 0 h0; omega
 have key : ∀ k', (∃ k ∈ mt l, f k = k') ∨ nd l' k' = dN := fun k' => by
  rcases Nat.lt_or_ge k' l'.length with hk | hk
  · exact .inl (hs k' hk)
  · exact .inr (Qbr hk)
 refine ⟨hp, ?_, fun k' hk' => ?_, fun k' => ?_, fun k' e he => ?_⟩
 ·
  have := h.kind 0 h0
  rw [h.zero] at this
  rw [this]; exact h.wf.root
 ·
  rcases key k' with ⟨k, hk, rfl⟩ | e
  ·
   rw [h.kind k hk] at hk'
   rw [h.ents k hk, h.wf.file k hk']; rfl
  · rw [e]; rfl
 ·
  rcases key k' with ⟨k, hk, rfl⟩ | e
  · rw [h.ents k hk]; exact ren_srt _ (h.wf.srt k)
  · rw [e]; exact List.Pairwise.nil
 ·
  rcases key k' with ⟨k, hk, rfl⟩ | e2
  ·
   rw [h.ents k hk] at he
   obtain ⟨e, hx, rfl⟩ := List.mem_map.1 he
   have h1 := h.lt _ (h.wf.mt_step hk hx)
   have h2 := h.wf.ino_lt hx
   show 1 ≤ (f (ino e) : Int) ∧ (f (ino e) : Int) < _
   have h3 : f (ino e) ≠ 0 := fun e3 => by
    have := h.inj _ _ (h.wf.mt_step hk hx) h0 (e3.trans h.zero.symm)
    omega
   omega
  · rw [e2] at he; cases he
end
theorem Qdq (l : List S52) : (renum l).length = (mt l).length := by simp [renum]
theorem Qgf (l : List S52) : (Qcz l).length = l.length := by simp [Qcz]
theorem Qfl (l : List S52) : (num l).length = (mt l).length := by rw [num, Qgf, Qdq]
theorem Qcl (l : List S52) (k : Nat) : (nd (Qcz l) k).f0 = (nd l k).f0 ∧ (nd (Qcz l) k).f2 = (nd l k).f2 ∧ (nd (Qcz l) k).f3 = (nd l k).f3 ∧ (k < l.length → (nd (Qcz l) k).f1 = own l k) := by
 rcases Nat.lt_or_ge k l.length with h | h
 ·
  rw [Qbm h, Qbm (by rw [Qgf]; exact h)]
  simp [Qcz]
 ·
  rw [Qbr h, Qbr (by rw [Qgf]; exact h)]
  exact ⟨rfl, rfl, rfl, fun h2 => by omega⟩
theorem pl_lt {l : List S52} {k : Nat} (hk : k ∈ mt l) : pl l k < (mt l).length := List.idxOf_lt_length_of_mem hk
theorem mt_pl {l : List S52} {k : Nat} (hk : k ∈ mt l) : (mt l)[pl l k]'(pl_lt hk) = k := List.getElem_idxOf (pl_lt hk)
theorem pl_inj {l : List S52} {a b : Nat} (ha : a ∈ mt l) (hb : b ∈ mt l) (h : pl l a = pl l b) : a = b := by
 rw [← mt_pl ha, ← mt_pl hb]
 congr 1
theorem pl_mt {l : List S52} {i : Nat} (h : i < (mt l).length) : pl l ((mt l)[i]) = i := by
 have h1 : (mt l)[i] ∈ mt l := List.getElem_mem h
 exact (List.getElem_inj (Qfd l)).1 (mt_pl h1)
theorem pl_zero {l : List S52} (h : Wf l) : pl l 0 = 0 := by
 obtain ⟨r, hr⟩ := met_zero (chl l) h.pos
 unfold pl mt
 rw [hr]; simp
theorem nd_renum {l : List S52} {k : Nat} (hk : k ∈ mt l) : nd (renum l) (pl l k) = ⟨(nd l k).f0, 0, (nd l k).f2, (nd l k).f3.map (ren (pl l))⟩ := by
 rw [Qbm (by rw [Qdq]; exact pl_lt hk)]
 simp only [renum, List.getElem_map]
 rw [mt_pl hk]
theorem iso_num {l : List S52} (h : Wf l) : Iso (pl l) l (num l) where
 wf := h
 zero := pl_zero h
 lt := fun k hk => by rw [Qfl]; exact pl_lt hk
 inj := fun a b ha hb => pl_inj ha hb
 kind := fun k hk => by rw [num, (Qcl _ _).1, nd_renum hk]
 data := fun k hk => by rw [num, (Qcl _ _).2.1, nd_renum hk]
 ents := fun k hk => by rw [num, (Qcl _ _).2.2.1, nd_renum hk]
theorem num_onto {l : List S52} {k' : Nat} (h : k' < (num l).length) : ∃ k ∈ mt l, pl l k = k' := by
 rw [Qfl] at h
 exact ⟨_, List.getElem_mem h, pl_mt h⟩
theorem num_wf {l : List S52} (h : Wf l) : Wf (num l) := (iso_num h).wf' fun _ hk => num_onto hk
theorem num_mt {l : List S52} (h : Wf l) : mt (num l) = List.range (num l).length := by
 rw [(iso_num h).met, Qfl]
 apply List.ext_getElem
 · simp
 ·
  intro i h1 h2
  simp only [List.getElem_map, List.getElem_range]
  exact pl_mt (by simpa using h1)
theorem Qfw {g : Nat → Nat} : ∀ {m r : List Nat}, m.Nodup → (∀ x ∈ m, x ∈ r) → (m.map g).sum ≤ (r.map g).sum
 | [], r, _, _ => by simp
 | x :: m, r, hn, hs => by
  have hx := hs x List.mem_cons_self
  have hp := List.perm_cons_erase hx
  obtain ⟨h1, h2⟩ := List.nodup_cons.1 hn
  have ih := Qfw (g := g) (m := m) (r := r.erase x) h2 (fun y hy => by
   have hne : y ≠ x := fun e => h1 (e ▸ hy)
   exact (List.mem_erase_of_ne hne).2 (hs y (List.mem_cons_of_mem _ hy)))
  have e := (hp.map g).sum_nat
  rw [e, List.map_cons, List.map_cons, List.sum_cons, List.sum_cons]
  omega
theorem le_sum {g : Nat → Nat} {m : List Nat} {x : Nat} (h : x ∈ m) : g x ≤ (m.map g).sum := by
 induction m with
 | nil => cases h
 | cons y m ih =>
  rw [List.map_cons, List.sum_cons]
  rcases List.mem_cons.1 h with rfl | h
  · omega
  · have := ih h; omega
theorem sum_congr {g g' : Nat → Nat} {m : List Nat} (h : ∀ x ∈ m, g x = g' x) : (m.map g).sum = (m.map g').sum := by
 rw [List.map_congr_left h]
theorem Qcv (m : List Nat) : (m.map (fun _ => 1)).sum = m.length := by
 induction m with
 | nil => rfl
 | cons x m ih => rw [List.map_cons, List.sum_cons, ih, List.length_cons]; omega
def cnt (l : List S52) (x k : Nat) : Nat := (nd l x).f3.countP (fun e => ino e == k)
theorem map_nd {α : Type} (l : List S52) (g : S52 → α) : l.map g = (List.range l.length).map (fun x => g (nd l x)) := by
 apply List.ext_getElem
 · simp
 ·
  intro i h1 h2
  simp only [List.getElem_map, List.getElem_range]
  rw [Qbm (by simpa using h1)]
theorem Qdj (l : List S52) (k : Nat) : ups l k = ((List.range l.length).map (fun x => cnt l x k)).sum := by
 unfold ups
 rw [map_nd l (fun n => n.f3.countP (fun e => ino e == k))]
 rfl
theorem cnt_le_ups (l : List S52) (x k : Nat) : cnt l x k ≤ ups l k := by
 rw [Qdj]
 rcases Nat.lt_or_ge x l.length with h | h
 · exact le_sum (g := fun x => cnt l x k) (List.mem_range.2 h)
 · unfold cnt; rw [Qbr h]; simp [dN, z52]
theorem ups_pos {l : List S52} {x k : Nat} {e : S62} (he : e ∈ (nd l x).f3) (hk : ino e = k) : 1 ≤ ups l k := by
 refine Nat.le_trans ?_ (cnt_le_ups l x k)
 unfold cnt
 exact List.countP_pos_iff.2 ⟨e, he, by simpa using hk⟩
structure Pr (l : List S52) : Prop where
 wf : Wf l
 le : l.length ≤ 56
 kind : ∀ k, k < l.length → (nd l k).f0 = 1 ∨ (nd l k).f0 = 2
 names : ∀ k, ∀ e ∈ (nd l k).f3, nameB e.f0 = true
 ents : ∀ k, (nd l k).f3.length ≤ 64
 size : ∀ k, (nd l k).f2.length ≤ 46368
 ddata : ∀ k, (nd l k).f0 = 2 → (nd l k).f2 = []
 links : ∀ k, (nd l k).f0 = 1 → ups l k ≤ 200
 up : ∀ k, (nd l k).f0 = 2 → ups l k ≤ 1
structure Rt (l : List S52) : Prop where
 pr : Pr l
 ord : mt l = List.range l.length
 own : ∀ k, k < l.length → (nd l k).f1 = Go.Proofs.YtbhjggbijkjmnaaGreatDoor.PZ.own l k
theorem ups_num {l : List S52} (h : Wf l) {k : Nat} (hk : k ∈ mt l) : ups (num l) (pl l k) = ((mt l).map (fun x => cnt l x k)).sum := by
 rw [Qdj, Qfl]
 have e : (List.range (mt l).length).map (fun x => cnt (num l) x (pl l k)) = (mt l).map (fun x => cnt l x k) := by
  apply List.ext_getElem
  · simp
  ·
   intro i h1 h2
   simp only [List.getElem_map, List.getElem_range]
   have hi : i < (mt l).length := by simpa using h2
   have hm : (mt l)[i] ∈ mt l := List.getElem_mem hi
   have hp := pl_mt hi
   unfold cnt
   conv => lhs; rw [← hp]
   rw [(iso_num h).ents _ hm, List.countP_map]
   refine List.countP_congr fun e he => ?_
   simp only [Function.comp_apply, beq_iff_eq]
   rw [ino_ren]
   constructor
   · intro h3; exact pl_inj (h.mt_step hm he) hk h3
   · intro h3; rw [h3]
 rw [e]
theorem ups_num_le {l : List S52} (h : Wf l) {k : Nat} (hk : k ∈ mt l) : ups (num l) (pl l k) ≤ ups l k := by
 rw [ups_num h hk, Qdj]
 exact Qfw (g := fun x => cnt l x k) (Qfd l) (fun x hx => List.mem_range.2 (mt_lt hx))
theorem own_relink (l : List S52) (k : Nat) : own (Qcz l) k = own l k := by
 unfold own
 have e2 : dirs (Qcz l) (nd (Qcz l) k).f3 = dirs l (nd l k).f3 := by
  unfold dirs
  rw [(Qcl l k).2.2.1]
  refine List.countP_congr fun e _ => ?_
  rw [(Qcl l _).1]
 have e3 : ups (Qcz l) k = ups l k := by
  rw [Qdj, Qdj, Qgf]
  refine sum_congr fun x _ => ?_
  unfold cnt
  rw [(Qcl l x).2.2.1]
 rw [(Qcl l k).1, e2, e3]
theorem num_rt {l : List S52} (h : Pr l) : Rt (num l) := by
 have hI := iso_num h.wf
 have hw := num_wf h.wf
 have key : ∀ k', (∃ k ∈ mt l, pl l k = k') ∨ nd (num l) k' = dN := fun k' => by
  rcases Nat.lt_or_ge k' (num l).length with hk | hk
  · exact .inl (num_onto hk)
  · exact .inr (Qbr hk)
 refine ⟨⟨hw, ?_, fun k' hk' => ?_, fun k' e he => ?_, fun k' => ?_, fun k' => ?_, fun k' hk' => ?_, fun k' hk' => ?_, fun k' hk' => ?_⟩, num_mt h.wf, fun k' hk' => ?_⟩
 ·
  rw [Qfl]
  have h1 : (mt l).length ≤ l.length := by
   have := Qfw (g := fun _ => 1) (Qfd l) (r := List.range l.length) (fun x hx => List.mem_range.2 (mt_lt hx))
   rwa [Qcv, Qcv, List.length_range] at this
  have := h.le
  omega
 ·
  obtain ⟨k, hk, rfl⟩ := num_onto hk'
  rw [hI.kind k hk]; exact h.kind k (mt_lt hk)
 ·
  rcases key k' with ⟨k, hk, rfl⟩ | e2
  ·
   rw [hI.ents k hk] at he
   obtain ⟨x, hx, rfl⟩ := List.mem_map.1 he
   exact h.names k x hx
  · rw [e2] at he; cases he
 ·
  rcases key k' with ⟨k, hk, rfl⟩ | e2
  · rw [hI.ents k hk, List.length_map]; exact h.ents k
  · rw [e2]; simp [dN, z52]
 ·
  rcases key k' with ⟨k, hk, rfl⟩ | e2
  · rw [hI.data k hk]; exact h.size k
  · rw [e2]; simp [dN, z52]
 ·
  rcases key k' with ⟨k, hk, rfl⟩ | e2
  ·
   rw [hI.data k hk]
   rw [hI.kind k hk] at hk'
   exact h.ddata k hk'
  · rw [e2]; rfl
 ·
  rcases key k' with ⟨k, hk, rfl⟩ | e2
  ·
   rw [hI.kind k hk] at hk'
   exact Nat.le_trans (ups_num_le h.wf hk) (h.links k hk')
  · rw [e2] at hk'; simp [dN, z52] at hk'
 ·
  rcases key k' with ⟨k, hk, rfl⟩ | e2
  ·
   rw [hI.kind k hk] at hk'
   exact Nat.le_trans (ups_num_le h.wf hk) (h.up k hk')
  · rw [e2] at hk'; simp [dN, z52] at hk'
 ·
  have h1 : k' < (renum l).length := by rw [Qdq]; rw [Qfl] at hk'; exact hk'
  unfold num
  rw [(Qcl (renum l) k').2.2.2 h1, own_relink]
theorem own_congr {l l' : List S52} (hl : l'.length = l.length) (h0 : ∀ k, (nd l' k).f0 = (nd l k).f0) (h3 : ∀ k, (nd l' k).f3 = (nd l k).f3) (k : Nat) : own l' k = own l k := by
 unfold own
 have e2 : dirs l' (nd l' k).f3 = dirs l (nd l k).f3 := by
  unfold dirs
  rw [h3]
  exact List.countP_congr fun e _ => by rw [h0]
 have e3 : ups l' k = ups l k := by
  rw [Qdj, Qdj, hl]
  exact sum_congr fun x _ => by unfold cnt; rw [h3]
 rw [h0, e2, e3]
theorem nd_ext {l l' : List S52} (hl : l'.length = l.length) (h : ∀ k, k < l.length → nd l' k = nd l k) : l' = l := by
 apply List.ext_getElem hl
 intro i h1 h2
 have := h i h2
 rwa [Qbm h1, Qbm h2] at this
theorem pl_range {l : List S52} (h : mt l = List.range l.length) {k : Nat} (hk : k < l.length) : pl l k = k := by
 have hm : k ∈ mt l := by rw [h]; exact List.mem_range.2 hk
 have h1 := mt_pl hm
 simpa [h] using h1
theorem ren_id {es : List S62} {f : Nat → Nat} (h : ∀ e ∈ es, f (ino e) = ino e) (hr : ∀ e ∈ es, 0 ≤ e.f1) : es.map (ren f) = es := by
 have : es.map (ren f) = es.map id := List.map_congr_left fun e he => by
  unfold ren
  rw [h e he]
  have := hr e he
  have h2 : ((ino e : Nat) : Int) = e.f1 := by unfold ino; omega
  rw [h2]
  rfl
 rw [this, List.map_id]
theorem Rt.num {l : List S52} (h : Rt l) : Go.Proofs.YtbhjggbijkjmnaaGreatDoor.PZ.num l = l := by
 have hlen : (mt l).length = l.length := by rw [h.ord, List.length_range]
 have hr : ∀ k, k < l.length → nd (renum l) k = ⟨(nd l k).f0, 0, (nd l k).f2, (nd l k).f3⟩ := fun k hk => by
  have hm : k ∈ mt l := by rw [h.ord]; exact List.mem_range.2 hk
  have h1 := nd_renum hm
  rw [pl_range h.ord hk] at h1
  rw [h1, ren_id (fun e he => pl_range h.ord (h.pr.wf.ino_lt he).1) (fun e he => by have := h.pr.wf.rng k e he; omega)]
 have hlr : (renum l).length = l.length := by rw [Qdq, hlen]
 refine nd_ext (by rw [Qfl, hlen]) fun k hk => ?_
 have h1 := Qcl (renum l) k
 have ho : Go.Proofs.YtbhjggbijkjmnaaGreatDoor.PZ.own (renum l) k = Go.Proofs.YtbhjggbijkjmnaaGreatDoor.PZ.own l k := own_congr hlr
  (fun j => by
   rcases Nat.lt_or_ge j l.length with hj | hj
   · rw [hr j hj]
   · rw [Qbr hj, Qbr (by rw [hlr]; exact hj)])
  (fun j => by
   rcases Nat.lt_or_ge j l.length with hj | hj
   · rw [hr j hj]
   · rw [Qbr hj, Qbr (by rw [hlr]; exact hj)]) k
 rw [hr k hk] at h1
 have h2 := h1.2.2.2 (by rw [hlr]; exact hk)
 rw [ho, ← h.own k hk] at h2
 show nd (Qcz (renum l)) k = nd l k
 obtain ⟨a, b, c, _⟩ := h1
 cases hx : nd (Qcz (renum l)) k with
 | mk p q r s =>
  rw [hx] at a b c h2
  simp at a b c h2
  cases hy : nd l k with
  | mk p' q' r' s' =>
   rw [hy] at a b c h2
   simp at a b c h2
   rw [a, b, c, h2]
def setE (l : List S52) (d : Nat) (es : List S62) : List S52 := l.set d ⟨(nd l d).f0, (nd l d).f1, (nd l d).f2, es⟩
def putT (l : List S52) (d : Nat) (n : ByteArray) (k : Nat) : List S52 := setE l d (putL (nd l d).f3 n (k : Int))
def cutT (l : List S52) (d : Nat) (n : ByteArray) : List S52 := setE l d (cutL (nd l d).f3 n)
section
variable {l : List S52} {d : Nat} {es : List S62}
theorem setE_len : (setE l d es).length = l.length := by simp [setE]
theorem Qbf (h : d < l.length) : nd (setE l d es) d = ⟨(nd l d).f0, (nd l d).f1, (nd l d).f2, es⟩ := by
 rw [Qbm (by rw [setE_len]; exact h)]
 simp [setE]
theorem Qbo {k : Nat} (h : k ≠ d) : nd (setE l d es) k = nd l k := by
 rcases Nat.lt_or_ge k l.length with hk | hk
 ·
  rw [Qbm (by rw [setE_len]; exact hk), Qbm hk]
  simp [setE, Ne.symm h]
 · rw [Qbr hk, Qbr (by rw [setE_len]; exact hk)]
theorem Qcr (k : Nat) : (nd (setE l d es) k).f0 = (nd l k).f0 := by
 rcases Nat.lt_or_ge d l.length with hd | hd
 ·
  by_cases h : k = d
  · subst h; rw [Qbf hd]
  · rw [Qbo h]
 ·
  by_cases h : k = d
  · subst h; rw [Qbr hd, Qbr (by rw [setE_len]; exact hd)]
  · rw [Qbo h]
theorem setE_f2 (k : Nat) : (nd (setE l d es) k).f2 = (nd l k).f2 := by
 rcases Nat.lt_or_ge d l.length with hd | hd
 ·
  by_cases h : k = d
  · subst h; rw [Qbf hd]
  · rw [Qbo h]
 ·
  by_cases h : k = d
  · subst h; rw [Qbr hd, Qbr (by rw [setE_len]; exact hd)]
  · rw [Qbo h]
theorem Qfg (hd : d < l.length) (k : Nat) : (nd (setE l d es) k).f3 = if k = d then es else (nd l k).f3 := by
 by_cases h : k = d
 · subst h; rw [Qbf hd, if_pos rfl]
 · rw [Qbo h, if_neg h]
theorem setE_self (hd : d < l.length) (h : es = (nd l d).f3) : setE l d es = l :=
 nd_ext setE_len fun k _ => by
  by_cases e : k = d
  · subst e; rw [Qbf hd, h]
  · rw [Qbo e]
theorem setE_setE (hd : d < l.length) (fs : List S62) : setE (setE l d es) d fs = setE l d fs :=
 nd_ext (by rw [setE_len, setE_len, setE_len]) fun k _ => by
  by_cases e : k = d
  · subst e; rw [Qbf (by rw [setE_len]; exact hd), Qbf hd, Qbf hd]
  · rw [Qbo e, Qbo e, Qbo e]
theorem sum_upd {g g' : Nat → Nat} {m : List Nat} {d : Nat} (hn : m.Nodup) (hd : d ∈ m) (h : ∀ x ∈ m, x ≠ d → g' x = g x) : (m.map g').sum + g d = (m.map g).sum + g' d := by
 induction m with
 | nil => cases hd
 | cons x m ih =>
  obtain ⟨h1, h2⟩ := List.nodup_cons.1 hn
  rw [List.map_cons, List.map_cons, List.sum_cons, List.sum_cons]
  rcases List.mem_cons.1 hd with rfl | hd
  ·
   have e : m.map g' = m.map g := List.map_congr_left fun y hy => h y (List.mem_cons_of_mem _ hy) (fun e => h1 (e ▸ hy))
   rw [e]; omega
  ·
   have h3 := h x List.mem_cons_self (fun e => h1 (e ▸ hd))
   have h4 := ih h2 hd (fun y hy hne => h y (List.mem_cons_of_mem _ hy) hne)
   omega
theorem ups_setE (hd : d < l.length) (k : Nat) : ups (setE l d es) k + cnt l d k = ups l k + es.countP (fun e => ino e == k) := by
 rw [Qdj, Qdj, setE_len]
 have h := sum_upd (g := fun x => cnt l x k) (g' := fun x => cnt (setE l d es) x k) (m := List.range l.length) (d := d) List.nodup_range (List.mem_range.2 hd)
  (fun x _ hx => by simp only [cnt]; rw [Qbo hx])
 have e : cnt (setE l d es) d k = es.countP (fun e => ino e == k) := by unfold cnt; rw [Qbf hd]
 rw [e] at h
 exact h
end
section
variable {l : List S52} {d : Nat}
theorem Pr.lt_of_dir (h : (nd l d).f0 = 2) : d < l.length := by
 rcases Nat.lt_or_ge d l.length with h1 | h1
 · exact h1
 · rw [Qbr h1] at h; simp [dN, z52] at h
theorem ups_cut_le (hd : d < l.length) (n : ByteArray) (k : Nat) : ups (cutT l d n) k ≤ ups l k := by
 have h := ups_setE (l := l) (es := cutL (nd l d).f3 n) hd k
 have h2 : (cutL (nd l d).f3 n).countP (fun e => ino e == k) ≤ cnt l d k := List.Sublist.countP_le List.filter_sublist
 unfold cutT
 omega
theorem ups_cut (hs : Srt (nd l d).f3) (hd : d < l.length) {n : ByteArray} {e : S62} (he : look (nd l d).f3 n = some e) (k : Nat) : ups (cutT l d n) k + (if ino e = k then 1 else 0) = ups l k := by
 have h := ups_setE (l := l) (es := cutL (nd l d).f3 n) hd k
 have h2 := cut_count hs he (fun e => ino e == k)
 unfold cnt at h
 unfold cutT
 simp only [beq_iff_eq] at h2
 omega
theorem ups_put (hs : Srt (nd l d).f3) (hd : d < l.length) (n : ByteArray) (x k : Nat) : ups (putT l d n x) k = ups (cutT l d n) k + (if x = k then 1 else 0) := by
 have h := ups_setE (l := l) (es := cutL (nd l d).f3 n) hd k
 have h1 := ups_setE (l := l) (es := putL (nd l d).f3 n (x : Int)) hd k
 have h2 := put_count hs (n := n) (x : Int) (fun e => ino e == k)
 have h3 : ino ⟨n, (x : Int)⟩ = x := by simp [ino]
 simp only [h3, beq_iff_eq] at h2
 unfold putT cutT
 omega
theorem Wf.setE (h : Wf l) (hd : (nd l d).f0 = 2) {es : List S62} (hs : Srt es) (hr : ∀ e ∈ es, 1 ≤ e.f1 ∧ e.f1 < l.length) : Wf (Go.Proofs.YtbhjggbijkjmnaaGreatDoor.PZ.setE l d es) := by
 have hdl := Pr.lt_of_dir hd
 refine ⟨by rw [setE_len]; exact h.pos, by rw [Qcr]; exact h.root, fun k hk => ?_, fun k => ?_, fun k e he => ?_⟩
 ·
  rw [Qcr] at hk
  rw [Qfg hdl, if_neg (fun e => hk (by rw [e]; exact hd))]
  exact h.file k hk
 ·
  rw [Qfg hdl]
  split
  · exact hs
  · exact h.srt k
 ·
  rw [Qfg hdl] at he
  rw [setE_len]
  split at he
  · exact hr e he
  · exact h.rng k e he
theorem Wf.cut (h : Wf l) (hd : (nd l d).f0 = 2) (n : ByteArray) : Wf (cutT l d n) :=
 h.setE hd (cut_srt n (h.srt d)) (fun e he => h.rng d e (mem_cut.1 he).1)
theorem Wf.put (h : Wf l) (hd : (nd l d).f0 = 2) (n : ByteArray) {k : Nat} (h1 : 1 ≤ k) (hk : k < l.length) : Wf (putT l d n k) :=
 h.setE hd (put_srt n _ (h.srt d)) (fun e he => by
  rcases (mem_put (h.srt d)).1 he with rfl | he
  ·
   show 1 ≤ (k : Int) ∧ (k : Int) < l.length
   omega
  · exact h.rng d e he.1)
theorem cut_len (es : List S62) (n : ByteArray) : (cutL es n).length ≤ es.length := List.length_filter_le _ _
theorem Pr.cut (h : Pr l) (hd : (nd l d).f0 = 2) (n : ByteArray) : Pr (cutT l d n) := by
 have hdl := Pr.lt_of_dir hd
 refine ⟨h.wf.cut hd n, ?_, fun k hk => ?_, fun k e he => ?_, fun k => ?_, fun k => ?_, fun k hk => ?_, fun k hk => ?_, fun k hk => ?_⟩ <;> unfold cutT at *
 · rw [setE_len]; exact h.le
 · rw [setE_len] at hk; rw [Qcr]; exact h.kind k hk
 ·
  rw [Qfg hdl] at he
  split at he
  · exact h.names d e (mem_cut.1 he).1
  · exact h.names k e he
 ·
  rw [Qfg hdl]
  split
  · exact Nat.le_trans (cut_len _ _) (h.ents d)
  · exact h.ents k
 · rw [setE_f2]; exact h.size k
 · rw [Qcr] at hk; rw [setE_f2]; exact h.ddata k hk
 · rw [Qcr] at hk; exact Nat.le_trans (ups_cut_le hdl n k) (h.links k hk)
 · rw [Qcr] at hk; exact Nat.le_trans (ups_cut_le hdl n k) (h.up k hk)
theorem Pr.put (h : Pr l) (hd : (nd l d).f0 = 2) {n : ByteArray} (hn : nameB n = true) {k : Nat} (h1 : 1 ≤ k) (hk : k < l.length) (hle : (cutL (nd l d).f3 n).length < 64)
  (hf : (nd l k).f0 = 1 → ups (cutT l d n) k + 1 ≤ 200) (hu : (nd l k).f0 = 2 → ups (cutT l d n) k = 0) : Pr (putT l d n k) := by
 have hdl := Pr.lt_of_dir hd
 have hc := h.cut hd n
 refine ⟨h.wf.put hd n h1 hk, ?_, fun j hj => ?_, fun j e he => ?_, fun j => ?_, fun j => ?_, fun j hj => ?_, fun j hj => ?_, fun j hj => ?_⟩
 · unfold putT; rw [setE_len]; exact h.le
 · unfold putT at hj ⊢; rw [setE_len] at hj; rw [Qcr]; exact h.kind j hj
 ·
  unfold putT at he
  rw [Qfg hdl] at he
  split at he
  ·
   rcases (mem_put (h.wf.srt d)).1 he with rfl | he
   · exact hn
   · exact h.names d e he.1
  · exact h.names j e he
 ·
  unfold putT
  rw [Qfg hdl]
  split
  · rw [(put_cut n (k : Int) (h.wf.srt d)).length_eq, List.length_cons]; omega
  · exact h.ents j
 · unfold putT; rw [setE_f2]; exact h.size j
 · unfold putT at hj ⊢; rw [Qcr] at hj; rw [setE_f2]; exact h.ddata j hj
 ·
  rw [ups_put (h.wf.srt d) hdl]
  unfold putT at hj; rw [Qcr] at hj
  have h2 := hc.links j (by unfold cutT; rw [Qcr]; exact hj)
  split
  · rename_i e; subst e; exact hf hj
  · exact h2
 ·
  rw [ups_put (h.wf.srt d) hdl]
  unfold putT at hj; rw [Qcr] at hj
  have h2 := hc.up j (by unfold cutT; rw [Qcr]; exact hj)
  split
  · rename_i e; subst e; rw [hu hj]; omega
  · exact h2
end
section
variable {l : List S52}
theorem Qep (l : List S52) (x : S52) (k : Nat) : nd (l ++ [x]) k = if k = l.length then x else nd l k := by
 rcases Nat.lt_trichotomy k l.length with h | h | h
 · rw [if_neg zq3, Qbm h, Qbm (by rw [List.length_append]; omega), List.getElem_append_left h]
 · subst h; rw [if_pos rfl, Qbm zq14]; simp
 · rw [if_neg zq3, Qbr (l := l ++ [x]) zq30, Qbr zq3]
theorem ups_app (l : List S52) (kd : Int) (k : Nat) : ups (l ++ [⟨kd, 0, [], []⟩]) k = ups l k := by
 unfold ups
 rw [List.map_append, List.sum_append]
 simp
theorem Wf.app (h : Wf l) (kd : Int) : Wf (l ++ [⟨kd, 0, [], []⟩]) := by
 refine ⟨by simp, ?_, fun k hk => ?_, fun k => ?_, fun k e he => ?_⟩
 · rw [Qep, if_neg (by have := h.pos; omega)]; exact h.root
 ·
  rw [Qep] at hk ⊢
  split
  · rfl
  · rename_i hne; rw [if_neg hne] at hk; exact h.file k hk
 ·
  rw [Qep]
  split
  · exact List.Pairwise.nil
  · exact h.srt k
 ·
  rw [Qep] at he
  split at he
  · cases he
  ·
   have := h.rng k e he
   rw [List.length_append]
   simp
   omega
theorem Pr.app (h : Pr l) {kd : Int} (hk : kd = 1 ∨ kd = 2) (hl : l.length < 56) : Pr (l ++ [⟨kd, 0, [], []⟩]) := by
 have hu0 : ups l l.length = 0 := by
  rw [Qdj]
  rcases Nat.eq_zero_or_pos ((List.range l.length).map (fun x => cnt l x l.length)).sum with h1 | h1
  · exact h1
  ·
   exfalso
   have h2 : ∀ m : List Nat, (∀ x ∈ m, cnt l x l.length = 0) → (m.map (fun x => cnt l x l.length)).sum = 0 := by
    intro m
    induction m with
    | nil => intro _; rfl
    | cons x m ih =>
     intro hm
     rw [List.map_cons, List.sum_cons, hm x List.mem_cons_self, ih (fun y hy => hm y (List.mem_cons_of_mem _ hy))]
   have h3 := h2 (List.range l.length) (fun x _ => by
    unfold cnt
    rw [List.countP_eq_zero]
    intro e he
    have := (h.wf.ino_lt he).1
    simp
    omega)
   omega
 refine ⟨h.wf.app kd, by simp; omega, fun k hk' => ?_, fun k e he => ?_, fun k => ?_, fun k => ?_, fun k hk' => ?_, fun k hk' => ?_, fun k hk' => ?_⟩
 ·
  rw [Qep]
  split
  · exact hk
  · exact h.kind k (by simp at hk'; omega)
 ·
  rw [Qep] at he
  split at he
  · cases he
  · exact h.names k e he
 ·
  rw [Qep]
  split
  · simp
  · exact h.ents k
 ·
  rw [Qep]
  split
  · simp
  · exact h.size k
 ·
  rw [Qep] at hk' ⊢
  split
  · rfl
  · rename_i hne; rw [if_neg hne] at hk'; exact h.ddata k hk'
 ·
  rw [ups_app]
  rw [Qep] at hk'
  split at hk'
  · rename_i e; rw [e, hu0]; omega
  · exact h.links k hk'
 ·
  rw [ups_app]
  rw [Qep] at hk'
  split at hk'
  · rename_i e; rw [e, hu0]; omega
  · exact h.up k hk'
end
def setD (l : List S52) (k : Nat) (b : List Int) : List S52 := l.set k ⟨(nd l k).f0, (nd l k).f1, b, (nd l k).f3⟩
section
variable {l : List S52} {d : Nat} {b : List Int}
theorem setD_len : (setD l d b).length = l.length := by simp [setD]
theorem Qgb (h : d < l.length) : nd (setD l d b) d = ⟨(nd l d).f0, (nd l d).f1, b, (nd l d).f3⟩ := by
 rw [Qbm (by rw [setD_len]; exact h)]
 simp [setD]
theorem Qgj {k : Nat} (h : k ≠ d) : nd (setD l d b) k = nd l k := by
 rcases Nat.lt_or_ge k l.length with hk | hk
 ·
  rw [Qbm (by rw [setD_len]; exact hk), Qbm hk]
  simp [setD, Ne.symm h]
 · rw [Qbr hk, Qbr (by rw [setD_len]; exact hk)]
theorem setD_keep (hd : d < l.length) (k : Nat) : (nd (setD l d b) k).f0 = (nd l k).f0 ∧ (nd (setD l d b) k).f1 = (nd l k).f1 ∧ (nd (setD l d b) k).f3 = (nd l k).f3 := by
 by_cases h : k = d
 · subst h; rw [Qgb hd]; exact ⟨rfl, rfl, rfl⟩
 · rw [Qgj h]; exact ⟨rfl, rfl, rfl⟩
theorem setD_self (hd : d < l.length) (h : b = (nd l d).f2) : setD l d b = l :=
 nd_ext setD_len fun k _ => by
  by_cases e : k = d
  · subst e; rw [Qgb hd, h]
  · rw [Qgj e]
theorem Rt.setD (h : Rt l) (hd : d < l.length) (hk2 : (nd l d).f0 ≠ 2) (hb : b.length ≤ 46368) : Rt (Go.Proofs.YtbhjggbijkjmnaaGreatDoor.PZ.setD l d b) := by
 have hkp := fun k => setD_keep (l := l) (d := d) (b := b) hd k
 have hch : chl (Go.Proofs.YtbhjggbijkjmnaaGreatDoor.PZ.setD l d b) = chl l := by funext k; unfold chl; rw [(hkp k).2.2]
 have hu : ∀ k, ups (Go.Proofs.YtbhjggbijkjmnaaGreatDoor.PZ.setD l d b) k = ups l k := fun k => by
  rw [Qdj, Qdj, setD_len]
  exact sum_congr fun x _ => by unfold cnt; rw [(hkp x).2.2]
 have hw := h.pr.wf
 refine ⟨⟨⟨by rw [setD_len]; exact hw.pos, by rw [(hkp 0).1]; exact hw.root, fun k hk => ?_, fun k => by rw [(hkp k).2.2]; exact hw.srt k, fun k e he => ?_⟩, by rw [setD_len]; exact h.pr.le, fun k hk => ?_, fun k e he => ?_, fun k => by rw [(hkp k).2.2]; exact h.pr.ents k, fun k => ?_, fun k hk => ?_, fun k hk => ?_, fun k hk => ?_⟩, ?_, fun k hk => ?_⟩
 · rw [(hkp k).1] at hk; rw [(hkp k).2.2]; exact hw.file k hk
 · rw [(hkp k).2.2] at he; rw [setD_len]; exact hw.rng k e he
 · rw [setD_len] at hk; rw [(hkp k).1]; exact h.pr.kind k hk
 · rw [(hkp k).2.2] at he; exact h.pr.names k e he
 ·
  by_cases e : k = d
  · subst e; rw [Qgb hd]; exact hb
  · rw [Qgj e]; exact h.pr.size k
 ·
  rw [(hkp k).1] at hk
  by_cases e : k = d
  · subst e; exact absurd hk hk2
  · rw [Qgj e]; exact h.pr.ddata k hk
 · rw [(hkp k).1] at hk; rw [hu]; exact h.pr.links k hk
 · rw [(hkp k).1] at hk; rw [hu]; exact h.pr.up k hk
 · unfold mt; rw [setD_len, hch]; exact h.ord
 ·
  rw [setD_len] at hk
  rw [(hkp k).2.1, h.own k hk]
  exact (own_congr setD_len (fun j => (hkp j).1) (fun j => (hkp j).2.2) k).symm
end
section
variable {l : List S52}
theorem nil_or_snoc {α : Type} (p : List α) : p = [] ∨ ∃ q n, p = q ++ [n] := by
 rcases List.eq_nil_or_concat p with h | ⟨q, n, h⟩
 · exact .inl h
 · exact .inr ⟨q, n, by rw [h, List.concat_eq_append]⟩
theorem wk_snoc {p : List ByteArray} {n : ByteArray} {x at_ : Nat} (h : wk l (p ++ [n]) at_ = .inl x) : ∃ y e, wk l p at_ = .inl y ∧ (nd l y).f0 = 2 ∧ look (nd l y).f3 n = some e ∧ ino e = x := by
 rw [wk_append] at h
 cases hy : wk l p at_ with
 | inr e => rw [hy] at h; cases h
 | inl y =>
  rw [hy] at h
  simp only [wk] at h
  split at h
  ·
   split at h
   ·
    rename_i hd _ e he
    cases h
    exact ⟨y, e, rfl, hd, he, rfl⟩
   · cases h
  · cases h
end
section
variable {l l' : List S52} {d : Nat} {n : ByteArray}
structure But (l l' : List S52) (d : Nat) (n : ByteArray) : Prop where
 kind : ∀ k, (nd l' k).f0 = (nd l k).f0
 look : ∀ k m, k ≠ d ∨ m ≠ n → Go.Proofs.YtbhjggbijkjmnaaGreatDoor.PZ.look (nd l' k).f3 m = Go.Proofs.YtbhjggbijkjmnaaGreatDoor.PZ.look (nd l k).f3 m
theorem but_cut (hs : Srt (nd l d).f3) (hd : d < l.length) (n : ByteArray) : But l (cutT l d n) d n :=
 ⟨fun k => Qcr k, fun k m h => by
  unfold cutT
  rw [Qfg hd]
  split
  ·
   rename_i e; subst e
   exact look_cut_ne hs (h.resolve_left (fun h => h rfl))
  · rfl⟩
end
section
variable {f : Nat → Nat} {l l' : List S52}
theorem cutT_none {d : Nat} (hd : d < l.length) {n : ByteArray} (hn : look (nd l d).f3 n = none) : cutT l d n = l := setE_self hd (cut_none hn)
end
structure Mv (l : List S52) (fp tp : List ByteArray) (fn tn : ByteArray) (ad bd k : Nat) : Prop where
 rt : Rt l
 hf : wk l fp 0 = .inl ad
 ha : (nd l ad).f0 = 2
 hk : ∃ e, look (nd l ad).f3 fn = some e ∧ ino e = k
 ht : wk l tp 0 = .inl bd
 hb : (nd l bd).f0 = 2
 nm : nameB tn = true
 old : ∀ e, look (nd l bd).f3 tn = some e → ino e ≠ k ∧ ((nd l k).f0 = 2 ↔ (nd l (ino e)).f0 = 2) ∧ (nd l (ino e)).f3 = []
 room : look (nd l bd).f3 tn = none → ad = bd ∨ (nd l bd).f3.length < 64
 notin : (nd l k).f0 = 2 → ¬ (fp ++ [fn]) <+: (tp ++ [tn])
def mvT (l : List S52) (fn tn : ByteArray) (ad bd k : Nat) : List S52 := putT (cutT l ad fn) bd tn k
section
variable {l : List S52} {fp tp : List ByteArray} {fn tn : ByteArray} {ad bd k : Nat}
theorem Mv.adl (h : Mv l fp tp fn tn ad bd k) : ad < l.length := Pr.lt_of_dir h.ha
theorem Mv.kl (h : Mv l fp tp fn tn ad bd k) : k < l.length ∧ 1 ≤ k := by
 obtain ⟨e, he, rfl⟩ := h.hk
 have := h.rt.pr.wf.ino_lt (Qdg he).1
 exact ⟨this.1, this.2.1⟩
theorem Mv.apart (h : Mv l fp tp fn tn ad bd k) : ad ≠ bd ∨ fn ≠ tn := by
 by_cases e : ad = bd
 ·
  refine .inr fun e2 => ?_
  obtain ⟨x, hx, hi⟩ := h.hk
  rw [e, e2] at hx
  exact (h.old x hx).1 hi
 · exact .inl e
theorem Mv.pr0 (h : Mv l fp tp fn tn ad bd k) : Pr (cutT l ad fn) := h.rt.pr.cut h.ha fn
theorem Mv.hb0 (h : Mv l fp tp fn tn ad bd k) : (nd (cutT l ad fn) bd).f0 = 2 := by unfold cutT; rw [Qcr]; exact h.hb
theorem Mv.look0 (h : Mv l fp tp fn tn ad bd k) : look (nd (cutT l ad fn) bd).f3 tn = look (nd l bd).f3 tn :=
 (but_cut (h.rt.pr.wf.srt ad) h.adl fn).look bd tn (h.apart.elim (fun e => .inl (Ne.symm e)) (fun e => .inr (Ne.symm e)))
theorem Mv.ups (h : Mv l fp tp fn tn ad bd k) (j : Nat) : Go.Proofs.YtbhjggbijkjmnaaGreatDoor.PZ.ups (mvT l fn tn ad bd k) j + (match look (nd l bd).f3 tn with | some e => (if ino e = j then 1 else 0) | none => 0) = Go.Proofs.YtbhjggbijkjmnaaGreatDoor.PZ.ups l j := by
 obtain ⟨e, he, hi⟩ := h.hk
 have h1 := ups_cut (h.rt.pr.wf.srt ad) h.adl he j
 have h2 := ups_put (h.pr0.wf.srt bd) (Pr.lt_of_dir h.hb0) tn k j
 rw [hi] at h1
 unfold mvT
 have hbl0 := Pr.lt_of_dir h.hb0
 cases hl : look (nd l bd).f3 tn with
 | none =>
  have h3 : cutT (cutT l ad fn) bd tn = cutT l ad fn := cutT_none hbl0 (h.look0.trans hl)
  rw [h3] at h2
  simp only
  omega
 | some x =>
  have h3 := ups_cut (h.pr0.wf.srt bd) hbl0 (h.look0.trans hl) j
  simp only
  omega
theorem Mv.pr (h : Mv l fp tp fn tn ad bd k) : Pr (mvT l fn tn ad bd k) := by
 obtain ⟨e, he, hi⟩ := h.hk
 obtain ⟨hkl, hk1⟩ := h.kl
 have hbl0 := Pr.lt_of_dir h.hb0
 have hu := h.ups k
 have h2 := ups_put (h.pr0.wf.srt bd) hbl0 tn k k
 rw [if_pos rfl] at h2
 have hle : Go.Proofs.YtbhjggbijkjmnaaGreatDoor.PZ.ups (mvT l fn tn ad bd k) k ≤ Go.Proofs.YtbhjggbijkjmnaaGreatDoor.PZ.ups l k := by omega
 unfold mvT at hle ⊢
 refine h.pr0.put h.hb0 h.nm hk1 (by unfold cutT; rw [setE_len]; exact hkl) ?_ (fun hf => ?_) (fun hd => ?_)
 ·
  cases hl : look (nd l bd).f3 tn with
  | some x =>
   have h3 := (cut_split (h.pr0.wf.srt bd) (h.look0.trans hl)).length_eq
   have h4 := h.pr0.ents bd
   rw [List.length_cons] at h3
   omega
  | none =>
   rw [cut_none (h.look0.trans hl)]
   by_cases e2 : ad = bd
   ·
    subst e2
    unfold cutT
    rw [Qbf h.adl]
    have h3 := (cut_split (h.rt.pr.wf.srt ad) he).length_eq
    have h4 := h.rt.pr.ents ad
    rw [List.length_cons] at h3
    show (cutL (nd l ad).f3 fn).length < 64
    omega
   ·
    have h3 := (h.room hl).resolve_left e2
    unfold cutT
    rw [Qbo (Ne.symm e2)]
    exact h3
 ·
  unfold cutT at hf; rw [Qcr] at hf
  have := h.rt.pr.links k hf
  omega
 ·
  unfold cutT at hd; rw [Qcr] at hd
  have := h.rt.pr.up k hd
  omega
end
def wrong (e : Int) : List PanicEntry := [{ v := .iface 34 (.int .i64 e), recovered := false }]
theorem Qau (e : Int) (w : World) : Calls Tryz.prog 64 #[.bool true, .int .i64 e] w fun en w' => en = .returned (.tuple #[]) ∧ w' = w := by
 go_enter Tryz.func64, Tryz.ntmps64
 go_wp2
 go_end0
 exact ⟨rfl, rfl⟩
theorem Qaw (e : Int) (w : World) : Calls Tryz.prog 64 #[.bool false, .int .i64 e] w fun en w' => en = .panicked (wrong e) ∧ w' = w := by
 go_enter Tryz.func64, Tryz.ntmps64
 go_wp2
 exact ⟨rfl, rfl, rfl⟩
def Wk (w : World) (b : Nat) (nodes : Value) (rest : List Value) : Prop := w.heap[b]? = some (.cells (nodes :: rest).toArray 57 (0, 0))
theorem Qei (b : Nat) (A : Option Addr) (cap : Nat) (l : List S52) (rest : List Value) (k : Nat) (w : World) (hk : k < l.length) (hw : Wk w b (.slice A l.length cap) rest) (hc : Kd.C k52 w A l.length l) :
  Calls Tryz.prog 65 #[.pointer (some ⟨b, 0, none⟩), .int .i64 k] w fun en w' => en = .returned (.bool ((rd_T52 l (k : Int)).f0 == 2)) ∧ w' = w := by
 have h0 : w.cell? ⟨b, 0, none⟩ = some (.slice A l.length cap) := (Qab hw 0).trans rfl
 obtain ⟨ad, A2, c2, A3, c3, rfl, hx0, hx1, hx2, hx3, -, -, -, -⟩ := Qaz hc (k : Int) zq3 zq3
 rw [Int.toNat_natCast] at hx0 hx1 hx2 hx3
 clear hx1 hx2 hx3
 have hkl : decide ((k : Int) < (l.length : Int)) = true := decide_eq_true zq3
 have HC := am hc
 have HW := am hw
 clear hc hw
 go_enter Tryz.func65, Tryz.ntmps65
 go_wp2
 go_ret
 exact ⟨rfl, rfl⟩
def walkF (l : List S52) : List ByteArray → Nat → Option (Nat ⊕ Int)
 | [], a => some (.inl a)
 | n :: r, a => if a < l.length then
   (if (rd_T52 l (a : Int)).f0 = 2 then (dirent_Find.f (rd_T52 l (a : Int)).f3 n).bind fun q =>
    if q.2 = true then (if 0 ≤ q.1 ∧ q.1 < ((rd_T52 l (a : Int)).f3.length : Int) ∧ 0 ≤ (rd_T62 (rd_T52 l (a : Int)).f3 q.1).f1 then walkF l r (rd_T62 (rd_T52 l (a : Int)).f3 q.1).f1.toNat else none) else some (.inr 21)
   else some (.inr 22)) else none
def Goes (res : Nat ⊕ Int) (en : Ending) : Prop := match res with
 | .inl k => en = .returned (.int .i64 k)
 | .inr e => en = .panicked (wrong e)
set_option maxHeartbeats 4000000 in
theorem walk_walk (b : Nat) (A : Option Addr) (cap : Nat) (l : List S52) (rest : List Value) (An : Option Addr) (cn : Nat) (ns : List ByteArray) (res : Nat ⊕ Int) (w : World) (hw : Wk w b (.slice A l.length cap) rest) (hc : Kd.C k52 w A l.length l) (hn : Kd.C Kd.string w An ns.length ns) (hcn : ns.length ≤ cn) (hlen : ns.length < 1000000000) (h : walkF l ns 0 = some res) :
  Calls Tryz.prog 33 #[.pointer (some ⟨b, 0, none⟩), .slice An ns.length cn] w fun en w' => Goes res en ∧ Below w.heap.size w w' := by
 have HC := am hc
 have HW := am hw
 have HN := am hn
 have HE0 := am h
 clear hc hw hn h
 go_enter Tryz.func33, Tryz.ntmps33
 go_wp2
 go_loopw [5, 7, 8, 9, 12] (fun v5 v7 v8 v9 v12 wr => ∃ i a : Nat, v5 = .int .i64 a ∧ v12 = .int .i64 i ∧ i ≤ ns.length ∧ Aside0 (walkF l (ns.drop i) a = some res) ∧ Aside0 (Below w.heap.size w wr)) (fun v5 v7 v8 v9 v12 _ => ns.length - (intOf v12).toNat)
 case atStart => exact ⟨0, 0, rfl, rfl, Nat.zero_le _, ⟨HE0.out⟩, ⟨Below.refl _ _⟩⟩
 case round =>
  obtain ⟨i, a, rfl, rfl, hi, HE, HB⟩ := hrel
  by_cases hlt : i < ns.length
  ·
   obtain ⟨ad, e, hx0⟩ := Kd.at_string HN.out (i : Int) zq3 zq3
   cases e
   rw [Int.toNat_natCast] at hx0
   have e2 : ns.drop i = rdOf ByteArray.empty ns (i : Int) :: ns.drop (i + 1) := by
    rw [List.drop_eq_getElem_cons hlt]
    congr 1
    unfold rdOf
    simp [List.getD_eq_getElem?_getD, List.getElem?_eq_getElem hlt]
   have hE := HE.out
   rw [e2, walkF] at hE
   clear e2
   generalize hX : rdOf ByteArray.empty ns (i : Int) = nm at hx0 hE
   clear hX
   replace hx0 := (HB.out.cell (World.block_lt_of_cell? w _ hx0)).trans hx0
   have hwr : Wk wr b (.slice A l.length cap) rest := (HB.out.block b (Qai HW.out)).trans HW.out
   have hcr := Kd.C_below HC.out HB.out
   have HWr := am hwr
   have HCr := am hcr
   clear hwr hcr
   by_cases ha : a < l.length
   ·
    rw [if_pos ha] at hE
    by_cases hk : (rd_T52 l (a : Int)).f0 = 2
    ·
     rw [if_pos hk] at hE
     obtain ⟨⟨q1, q2⟩, hq, hE2⟩ := Option.bind_eq_some_iff.mp hE
     have hdb : ((rd_T52 l (a : Int)).f0 == 2) = true := beq_iff_eq.2 hk
     obtain ⟨ad2, A2, c2, A3, c3, e3, -, -, -, hy3, -, -, hl3, hC3⟩ := Qaz HCr.out (a : Int) zq3 zq3
     subst e3
     rw [Int.toNat_natCast] at hy3
     have hal : decide ((a : Int) < (l.length : Int)) = true := decide_eq_true zq3
     have H0 : wr.cell? ⟨b, 0, none⟩ = some (.slice (some ad2) l.length cap) := (Qab HWr.out 0).trans rfl
     have hbl : b < w.heap.size := Qai HW.out
     by_cases hq2 : q2 = true
     ·
      subst hq2
      rw [if_pos rfl] at hE2
      by_cases hr : 0 ≤ q1 ∧ q1 < ((rd_T52 l (a : Int)).f3.length : Int) ∧ 0 ≤ (rd_T62 (rd_T52 l (a : Int)).f3 q1).f1
      ·
       rw [if_pos hr] at hE2
       obtain ⟨hr0, hr1, hr2⟩ := hr
       have HE2 := am hE2
       clear hE2 hE
       obtain ⟨qn, rfl⟩ : ∃ qn : Nat, q1 = qn := ⟨q1.toNat, by omega⟩
       obtain ⟨ad4, e4, hz0, hz1⟩ := Qbg hC3 (qn : Int) zq3 zq3
       subst e4
       rw [Int.toNat_natCast] at hz0 hz1
       clear hz0
       obtain ⟨ino, hino⟩ : ∃ ino : Nat, (rd_T62 (rd_T52 l (a : Int)).f3 (qn : Int)).f1 = ino := ⟨(rd_T62 (rd_T52 l (a : Int)).f3 (qn : Int)).f1.toNat, by omega⟩
       rw [hino] at hz1
       have HE3 : Aside0 (walkF l (ns.drop (i + 1)) ino = some res) := ⟨by have := HE2.out; rw [hino, Int.toNat_natCast] at this; exact this⟩
       have hql : decide ((qn : Int) < ((rd_T52 l (a : Int)).f3.length : Int)) = true := decide_eq_true hr1
       have HQ := am hq
       have HC3 := am hC3
       have HL3 := am hl3
       clear hq hC3 hl3 HE2 hino hr2
       go_wp2_with (first | (go_at_call 65; refine (Qei b _ cap l rest a _ ha HWr.out HCr.out).mono ?_; rintro e w1 ⟨rfl, rfl⟩) | (go_at_call 66; refine (dirent_Find.calls _ c3 _ nm qn true _ HC3.out HL3.out HQ.out).mono ?_; rintro e w1 ⟨rfl, hb⟩; have HB2 := am hb; clear hb; have H1 := (HB2.out.cell (World.block_lt_of_cell? _ _ H0)).trans H0; have hy4 := (HB2.out.cell (World.block_lt_of_cell? _ _ hy3)).trans hy3; have hz4 := (HB2.out.cell (World.block_lt_of_cell? _ _ hz1)).trans hz1) | (go_at_call 64; refine (Qau 22 _).mono ?_; rintro e w2 ⟨rfl, rfl⟩) | (go_at_call 64; refine (Qau 21 _).mono ?_; rintro e w2 ⟨rfl, rfl⟩))
       go_roundw
       case rel => exact ⟨i + 1, ino, rfl, by simp, by omega, HE3, ⟨Qa HB.out HB2.out⟩⟩
       case measure => simp [intOf]; omega
      ·
       rw [if_neg hr] at hE2
       cases hE2
     ·
      rw [if_neg hq2] at hE2
      obtain rfl := Option.some.inj hE2
      replace hq2 : q2 = false := by simpa using hq2
      subst hq2
      clear hE hE2
      have HQ := am hq
      have HC3 := am hC3
      have HL3 := am hl3
      clear hq hC3 hl3
      go_wp2_with (first | (go_at_call 65; refine (Qei b _ cap l rest a _ ha HWr.out HCr.out).mono ?_; rintro e w1 ⟨rfl, rfl⟩) | (go_at_call 66; refine (dirent_Find.calls A3 c3 _ nm q1 false _ HC3.out HL3.out HQ.out).mono ?_; rintro e w1 ⟨rfl, hb⟩; have HB2 := am hb; clear hb) | (go_at_call 64; refine (Qau 22 _).mono ?_; rintro e w2 ⟨rfl, rfl⟩) | (go_at_call 64; refine (Qaw 21 _).mono ?_; rintro e w2 ⟨rfl, rfl⟩))
      exact ⟨rfl, rfl, Qa HB.out HB2.out⟩
    ·
     rw [if_neg hk] at hE
     obtain rfl := Option.some.inj hE
     clear hE
     have hdb : ((rd_T52 l (a : Int)).f0 == 2) = false := beq_eq_false_iff_ne.2 hk
     go_wp2_with (first | (go_at_call 65; refine (Qei b A cap l rest a _ ha HWr.out HCr.out).mono ?_; rintro e w1 ⟨rfl, rfl⟩) | (go_at_call 64; refine (Qaw 22 _).mono ?_; rintro e w1 ⟨rfl, rfl⟩))
     exact ⟨rfl, rfl, HB.out⟩
   ·
    rw [if_neg ha] at hE
    cases hE
  ·
   have hil : i = ns.length := by omega
   subst hil
   have hE := HE.out
   rw [List.drop_length, walkF] at hE
   obtain rfl := Option.some.inj hE
   clear hE
   go_wp2
   go_ret
   exact ⟨rfl, HB.out⟩
end Go.Proofs.YtbhjggbijkjmnaaGreatDoor.PZ
end
