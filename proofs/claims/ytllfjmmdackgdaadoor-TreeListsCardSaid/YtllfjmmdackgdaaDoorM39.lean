import Derived.Test.YtllfjmmdackgdaaDoorM38
import Derived.Test.YtllfjmmdackgdaaDoorM34
import Derived.Test.YtllfjmmdackgdaaDoorM33
set_option linter.unusedVariables false
set_option linter.unusedSimpArgs false
/-! GAlive -/
section
namespace Go.Proofs.YtllfjmmdackgdaaDoor.PZ
open Go.RowKit Go.Proofs.YtllfjmmdackgdaaDoorW.PrintWords Go.Proofs.YtllfjmmdackgdaaDoorW.PrintLast Go.Proofs.YtllfjmmdackgdaaDoorW.PrintMore Go.Proofs.YtllfjmmdackgdaaDoor.B Go.Proofs.YtllfjmmdackgdaaDoor.Ord TD
set_option maxRecDepth 100000
set_option linter.unusedVariables false
set_option linter.unusedSimpArgs false
theorem blk_new3 (w : World) (p : Addr) (v : Value) (o : Obj) : ((w.setCell p v).alloc o).heap[w.heap.size]? = some o := by
  have h := blk_new (w.setCell p v) o
  rwa [World.size_setCell] at h
theorem one_string (w : World) (x : ByteArray) : Kd.C Kd.string (w.alloc (.cells #[.string x] 9)) (some ⟨w.heap.size, 0, none⟩) 1 [x] :=
  ⟨rfl, by decide, fun _ => ⟨_, rfl, fun j p hj => by
    cases j with
    | zero =>
      obtain rfl := Option.some.inj hj
      refine ⟨[.string x], rfl, rfl, fun i u hu => ?_⟩
      cases i with
      | zero =>
        obtain rfl := Option.some.inj hu
        exact (blk_cell (blk_new w (.cells #[.string x] 9)) 0).trans rfl
      | succ i => simp at hu
    | succ j => simp at hj⟩⟩
theorem sametexts_lit (A0 : Option Addr) (c0 : Nat) (A1 : Option Addr) (c1 : Nat) (x : ByteArray) (w : World) (h0 : Kd.C Kd.string w A0 1 [x]) (hc0 : 1 ≤ c0) (h1 : Kd.C Kd.string w A1 1 [x]) (hc1 : 1 ≤ c1) :
    Calls Tryd.prog 20 #[.slice A0 1 c0, .slice A1 1 c1] w fun e w' => e = .returned (.bool true) ∧ Below w.heap.size w w' :=
  (sametexts_walk A0 c0 [x] A1 c1 [x] w h0 hc0 h1 hc1 (by show 1 < 1000000000000; decide)).mono (by
    rintro e w' ⟨⟨r, rfl, hr⟩, hb⟩
    exact ⟨by rw [hr.2 rfl], hb⟩)
set_option maxHeartbeats 8000000 in
theorem alive_walk (w : World) :
    Calls Tryd.prog 26 #[] w fun e w' => e = .returned (.bool true) ∧ Below w.heap.size w w' := by
  go_enter Tryd.func26, Tryd.ntmps26
  go_wp2_with (first
    | (go_at_call 42; (with_reducible refine (new_walk _).mono ?_); rintro e w1 ⟨v, rfl, hs, hb⟩; obtain ⟨An, cn, hv, hcn, hC⟩ := Kd.S_reads hs; subst hv; have HN := Aside0.mk (show al0.length ≤ cn ∧ Kd.C k58 w1 An al0.length al0 from ⟨hcn, hC⟩); have HB1 := Aside0.mk hb; clear hs hb hC hcn)
    | (go_at_call 29; (with_reducible refine (do_call0 An 1 cn al0 rfl 2 ⟨#[47, 97]⟩ ⟨#[]⟩ 0 0 _ HN.out.2 HN.out.1 rt_root (by decide) (by decide)).mono ?_); rintro e w2 h; rw [al_mk'] at h; obtain ⟨A1, c1, A2, c2, A3, c3, rfl, hh, hb⟩ := h; have HH1 := Aside0.mk hh; have HB2 := Aside0.mk (below_step HB1.out hb); clear hh hb)
    | (go_at_call 29; (with_reducible refine (do_call0 A1 al1.length c1 al1 rfl 1 ⟨#[47, 97, 47, 98]⟩ ⟨#[]⟩ 0 0 _ (Kd.C_below HH1.out.rows (by repeat (first | exact Below.refl _ _ | with_reducible apply pw_below_drewN | with_reducible apply below_drew1 | with_reducible apply below_alloc))) HH1.out.cap rt_al1 (by decide) (by decide)).mono ?_); rintro e w3 h; rw [al_cr'] at h; obtain ⟨A4, c4, A5, c5, A6, c6, rfl, hh, hb⟩ := h; have HH2 := Aside0.mk hh; have HV1 := Aside0.mk (HH1.out.laid hb); have HB3 := Aside0.mk (below_step (w := w) (by repeat (first | exact HB2.out | with_reducible apply pw_below_drewN | with_reducible apply below_drew1 | with_reducible apply below_alloc)) hb); have HS := Aside0.mk (show Hold w2.heap.size al2 A4 c4 (w3.setCell ⟨w2.heap.size, 0, none⟩ (.slice A4 al2.length c4)) from ⟨blk_put (cs := #[.slice A1 al1.length c1]) HV1.out.1.blk 0 _ rfl, HH2.out.cap, hold_store HV1.out.1.blk HH2.out.rows _⟩); have HSa := Aside0.mk (blk_far (p := ⟨w2.heap.size, 0, none⟩) HV1.out.2.blk (by show w2.heap.size + 1 ≠ w2.heap.size; omega) (.slice A4 al2.length c4)); have HSb := Aside0.mk (blk_new3 w3 ⟨w2.heap.size, 0, none⟩ (.slice A4 al2.length c4) (resO ⟨0, [], [], 0, 0, 0⟩ A5 c5 A6 c6)); have HB3 := Aside0.mk ((below_step (w := w) (by repeat (first | exact HB2.out | with_reducible apply pw_below_drewN | with_reducible apply below_drew1 | with_reducible apply below_alloc)) hb).setCell (p := ⟨w2.heap.size, 0, none⟩) HB2.out.size (.slice A4 al2.length c4)); have hv1 := HV1.out.1.cells; have hv1f := blk_frozen HV1.out.1.blk 0; clear hh hb; obtain ⟨hv1, hv1l⟩ := hv1)
    | (go_at_call 29; (with_reducible refine (do_call0 A4 al2.length c4 al2 rfl 11 ⟨#[47, 97]⟩ ⟨#[]⟩ 0 0 _ (Kd.C_alloc HS.out.rows _) HS.out.cap rt_al2 (by decide) (by decide)).mono ?_); rintro e w4 h; obtain ⟨l3, h3⟩ := al_ls'; rw [h3] at h; clear h3; obtain ⟨A7, c7, A8, c8, A9, c9, rfl, hh, hb⟩ := h; have HH3 := Aside0.mk hh; have K1 := Aside0.mk (HS.out.below (below_step (by repeat (first | exact Below.refl _ _ | with_reducible apply pw_below_drewN | with_reducible apply below_drew1 | with_reducible apply below_alloc)) hb)); have K2 := Aside0.mk (blk_below (blk_alloc HSa.out _) hb); have K3 := Aside0.mk (blk_below HSb.out hb); have HB4 := Aside0.mk (below_step (w := w) (by repeat (first | exact HB3.out | with_reducible apply pw_below_drewN | with_reducible apply below_drew1 | with_reducible apply below_alloc)) hb); clear hv1 hv1f hv1l; obtain ⟨hv1, hv1l⟩ := K1.out.cells; have hv2 := (blk_cell K2.out 0).trans (show _ = some (Value.int .i64 0) from rfl); have hv2l := blk_lt K2.out; have hv3 := (blk_cell K3.out 0).trans (show _ = some (Value.int .i64 0) from rfl); have hv3l := blk_lt K3.out; clear hh hb)
    | (go_at_call 29; (with_reducible refine (do_call0 A4 al2.length c4 al2 rfl 5 ⟨#[47, 97]⟩ ⟨#[]⟩ 0 0 _ (Kd.C_below K1.out.rows (by repeat (first | exact Below.refl _ _ | with_reducible apply pw_below_drewN | with_reducible apply below_drew1 | with_reducible apply below_alloc))) K1.out.cap rt_al2 (by decide) (by decide)).mono ?_); rintro e w5 h; obtain ⟨l4, h4⟩ := al_rd'; rw [h4] at h; clear h4; obtain ⟨Aa, ca, Ab, cb, Ac, cc, rfl, hh, hb⟩ := h; have HH4 := Aside0.mk hh; have L1 := Aside0.mk (K1.out.below (below_step (by repeat (first | exact Below.refl _ _ | with_reducible apply pw_below_drewN | with_reducible apply below_drew1 | with_reducible apply below_alloc)) hb)); have L2 := Aside0.mk (blk_below (blk_alloc (blk_alloc K2.out _) _) hb); have L3 := Aside0.mk (blk_below (blk_alloc (blk_alloc K3.out _) _) hb); have L5 := Aside0.mk (HH3.out.laid hb).2; have HB5 := Aside0.mk (below_step (w := w) (by repeat (first | exact HB4.out | with_reducible apply pw_below_drewN | with_reducible apply below_drew1 | with_reducible apply below_alloc)) hb); clear hv1 hv1l hv2 hv2l hv3 hv3l; obtain ⟨hv1, hv1l⟩ := L1.out.cells; have hv2 := (blk_cell L2.out 0).trans (show _ = some (Value.int .i64 0) from rfl); have hv2l := blk_lt L2.out; have hv3 := (blk_cell L3.out 0).trans (show _ = some (Value.int .i64 0) from rfl); have hv3l := blk_lt L3.out; have hv5 := (blk_cell L5.out.blk 2).trans (show _ = some (Value.slice A9 1 c9) from rfl); have hv5l := blk_lt L5.out.blk; clear hh hb)
    | (go_at_call 32; (with_reducible refine (find_ok A4 c4 al2 ⟨#[47, 97, 47, 98]⟩ _ (Kd.C_below L1.out.rows (by repeat (first | exact Below.refl _ _ | with_reducible apply pw_below_drewN | with_reducible apply below_drew1 | with_reducible apply below_alloc))) L1.out.cap rt_al2 (by decide)).mono ?_); rintro e w6 ⟨rfl, hb⟩; rw [al_find]; have M1 := Aside0.mk (L1.out.below (below_step (by repeat (first | exact Below.refl _ _ | with_reducible apply pw_below_drewN | with_reducible apply below_drew1 | with_reducible apply below_alloc)) hb)); have M2 := Aside0.mk (blk_below (blk_alloc (blk_alloc L2.out _) _) hb); have M3 := Aside0.mk (blk_below (blk_alloc (blk_alloc L3.out _) _) hb); have M5 := Aside0.mk (L5.out.below (below_step (by repeat (first | exact Below.refl _ _ | with_reducible apply pw_below_drewN | with_reducible apply below_drew1 | with_reducible apply below_alloc)) hb)); have M7 := Aside0.mk (HH4.out.laid hb).2; have HB6 := Aside0.mk (below_step (w := w) (by repeat (first | exact HB5.out | with_reducible apply pw_below_drewN | with_reducible apply below_drew1 | with_reducible apply below_alloc)) hb); clear hv1 hv1l hv2 hv2l hv3 hv3l hv5 hv5l; obtain ⟨hv1, hv1l⟩ := M1.out.cells; have hv2 := (blk_cell M2.out 0).trans (show _ = some (Value.int .i64 0) from rfl); have hv2l := blk_lt M2.out; have hv3 := (blk_cell M3.out 0).trans (show _ = some (Value.int .i64 0) from rfl); have hv3l := blk_lt M3.out; have hv5 := (blk_cell M5.out.blk 2).trans (show _ = some (Value.slice A9 1 c9) from rfl); have hv5l := blk_lt M5.out.blk; have hv7 := (blk_cell M7.out.blk 0).trans (show _ = some (Value.int .i64 25) from rfl); have hv7l := blk_lt M7.out.blk; clear hb)
    | (go_at_call 20; have M5r := Aside0.mk (show Kd.C Kd.string w6 A9 1 [⟨#[98]⟩] from M5.out.rows2); have M5c := Aside0.mk (show 1 ≤ c9 from M5.out.cap2); (with_reducible refine (sametexts_lit A9 c9 _ 1 ⟨#[98]⟩ _ (Kd.C_below M5r.out (by repeat (first | exact Below.refl _ _ | with_reducible apply pw_below_drewN | with_reducible apply below_drew1 | with_reducible apply below_alloc))) M5c.out (one_string w6 ⟨#[98]⟩) (Nat.le_refl _)).mono ?_); rintro e w7 ⟨rfl, hb⟩; have N1 := Aside0.mk (M1.out.below (below_step (by repeat (first | exact Below.refl _ _ | with_reducible apply pw_below_drewN | with_reducible apply below_drew1 | with_reducible apply below_alloc)) hb)); have N7 := Aside0.mk (M7.out.below (below_step (by repeat (first | exact Below.refl _ _ | with_reducible apply pw_below_drewN | with_reducible apply below_drew1 | with_reducible apply below_alloc)) hb)); have HB7 := Aside0.mk (below_step (w := w) (by repeat (first | exact HB6.out | with_reducible apply pw_below_drewN | with_reducible apply below_drew1 | with_reducible apply below_alloc)) hb); clear hv1 hv1l hv2 hv2l hv3 hv3l hv5 hv5l hv7 hv7l; obtain ⟨hv1, hv1l⟩ := N1.out.cells; have hv7 := (blk_cell N7.out.blk 0).trans (show _ = some (Value.int .i64 25) from rfl); have hv7l := blk_lt N7.out.blk; clear hb)
    | (go_at_call 30; (with_reducible refine (right_walk A4 c4 al2 _ N1.out.cap (Kd.C_below N1.out.rows (by repeat (first | exact Below.refl _ _ | with_reducible apply pw_below_drewN | with_reducible apply below_drew1 | with_reducible apply below_alloc))) (rt_small rt_al2).1 (fun k => ((rt_small rt_al2).2 k).2)).mono ?_); rintro e w8 ⟨rfl, hb⟩; rw [(right_iff al2).2 rt_al2]; have HB8 := Aside0.mk (below_step (w := w) (by repeat (first | exact HB7.out | with_reducible apply pw_below_drewN | with_reducible apply below_drew1 | with_reducible apply below_alloc)) hb); clear hb))
  go_ret
  exact ⟨rfl, HB8.out⟩
end Go.Proofs.YtllfjmmdackgdaaDoor.PZ
end
/-! TLawA -/
section
namespace Go.Proofs.YtllfjmmdackgdaaDoor.PZ
open Go.RowKit Go.Proofs.YtllfjmmdackgdaaDoorW.PrintWords Go.Proofs.YtllfjmmdackgdaaDoorW.PrintLast Go.Proofs.YtllfjmmdackgdaaDoorW.PrintMore TD
set_option maxRecDepth 100000
theorem plain_f0 {X : List S58 ⊕ Int} {l' : List S58} {r : S47} (h : plain X = .inl (l', r)) : r.f0 = 0 := by
  cases X with
  | inl l => injection h with h; injection h with _ h; rw [← h]; rfl
  | inr m => cases h
theorem workF_f0 {l l' : List S58} {o : S39} {r : S47} (h : workF l o = .inl (l', r)) : r.f0 = 0 := by
  unfold workF at h
  by_cases e1 : o.f0 = 1
  · rw [if_pos e1] at h
    exact plain_f0 h
  rw [if_neg e1] at h
  by_cases e2 : o.f0 = 2
  · rw [if_pos e2] at h
    exact plain_f0 h
  rw [if_neg e2] at h
  by_cases e3 : o.f0 = 3
  · rw [if_pos e3] at h
    exact plain_f0 h
  rw [if_neg e3] at h
  by_cases e4 : o.f0 = 4
  · rw [if_pos e4] at h
    exact plain_f0 h
  rw [if_neg e4] at h
  by_cases e5 : o.f0 = 5
  · rw [if_pos e5] at h
    exact plain_f0 h
  rw [if_neg e5] at h
  by_cases e6 : o.f0 = 6
  · rw [if_pos e6] at h
    exact plain_f0 h
  rw [if_neg e6] at h
  by_cases e7 : o.f0 = 7
  · rw [if_pos e7] at h
    split at h
    · injection h with h; injection h with _ h; rw [← h]; rfl
    · cases h
  rw [if_neg e7] at h
  by_cases e8 : o.f0 = 8
  · rw [if_pos e8] at h
    split at h
    · injection h with h; injection h with _ h; rw [← h]; rfl
    · cases h
  rw [if_neg e8] at h
  by_cases e9 : o.f0 = 9
  · rw [if_pos e9] at h
    exact plain_f0 h
  rw [if_neg e9] at h
  by_cases e10 : o.f0 = 10
  · rw [if_pos e10] at h
    split at h
    · injection h with h; injection h with _ h; rw [← h]; rfl
    · cases h
  rw [if_neg e10] at h
  by_cases e11 : o.f0 = 11
  · rw [if_pos e11] at h
    split at h
    · injection h with h; injection h with _ h; rw [← h]; rfl
    · cases h
  rw [if_neg e11] at h
  by_cases e12 : o.f0 = 12
  · rw [if_pos e12] at h
    injection h with h; injection h with _ h; rw [← h]; rfl
  rw [if_neg e12] at h
  by_cases e13 : o.f0 = 13
  · rw [if_pos e13] at h
    split at h
    · injection h with h; injection h with _ h; rw [← h]; rfl
    · cases h
  rw [if_neg e13] at h
  cases h
theorem do_in {l l' : List S58} {o : S39} {r : S47} (h : workF l o = .inl (l', r)) : doF l o = (num l', r) := by unfold doF; rw [h]
/-- With an error nothing is changed. -/
theorem err_same {l : List S58} {o : S39} (h : (doF l o).2.f0 ≠ 0) : (doF l o).1 = l ∧ (doF l o).2 = { res0 with f0 := (doF l o).2.f0 } := by
  unfold doF at h ⊢
  cases hw : workF l o with
  | inr e => exact ⟨rfl, rfl⟩
  | inl s =>
    obtain ⟨l', r⟩ := s
    rw [hw] at h
    exact absurd (workF_f0 hw) h
theorem ok_work {l : List S58} {o : S39} (h : (doF l o).2.f0 = 0) : ∃ l' r, workF l o = .inl (l', r) ∧ doF l o = (num l', r) := by
  cases hw : workF l o with
  | inr e =>
    unfold doF at h
    rw [hw] at h
    exact absurd h (workF_err hw)
  | inl s =>
    obtain ⟨l', r⟩ := s
    exact ⟨l', r, rfl, do_in hw⟩
theorem write_file {l l' : List S58} {p : ByteArray} {a : Int} {x : List Int} {k : Nat} (hk : fileF l p = .inl k) (hkl : k < l.length) (hc : writeF l p a x = .inl l') (q : ByteArray) : fileF l' q = fileF l q := by
  unfold writeF at hc
  rw [hk] at hc
  dsimp only at hc
  split at hc
  · injection hc with hc
    subst hc
    split
    · rfl
    · exact setD_file hkl _ _
  · cases hc
theorem take_is {f d : List Int} {n : Nat} (hn : n = d.length) (hl : n ≤ f.length) (h : ∀ i, i < n → f.getD i 0 = d.getD i 0) : f.take n = d := by
  apply List.ext_getElem
  · rw [List.length_take, Nat.min_eq_left hl, hn]
  · intro i h1 h2
    have := h i (by omega)
    rw [List.getD_eq_getElem?_getD, List.getD_eq_getElem?_getD, List.getElem?_eq_getElem (by omega), List.getElem?_eq_getElem h2] at this
    rw [List.getElem_take]
    exact this
/-- Stat's answer. -/
theorem do_stat {l : List S58} {p : ByteArray} {k : Nat} (h : placeF l p = .inl k) : (doF l ⟨10, p, ⟨#[]⟩, 0, 0, []⟩).2 = { res0 with f3 := (nd l k).f0, f4 := (nd l k).f1, f5 := ((nd l k).f2.length + (nd l k).f3.length : Nat) } := by
  have hw : workF l ⟨10, p, ⟨#[]⟩, 0, 0, []⟩ = .inl (l, { res0 with f3 := (nd l k).f0, f4 := (nd l k).f1, f5 := ((nd l k).f2.length + (nd l k).f3.length : Nat) }) := by
    show (match placeF l p with | .inl k => _ | .inr e => _) = _
    rw [h]
  rw [do_in hw]
/-- What is written under a further name of a file is read under the first one. -/
theorem links_law {l : List S58} (h : Rt l) {p q : ByteArray} {d : List Int} (hd : d.length ≤ 1000) (hr : (doF l ⟨3, p, q, 0, 0, []⟩).2.f0 = 0) :
    (0 ≤ (doF l ⟨10, p, ⟨#[]⟩, 0, 0, []⟩).2.f4 ∧ (doF l ⟨10, p, ⟨#[]⟩, 0, 0, []⟩).2.f4 ≤ 200) ∧
    (doF (doF l ⟨3, p, q, 0, 0, []⟩).1 ⟨10, q, ⟨#[]⟩, 0, 0, []⟩).2.f4 = (doF l ⟨10, p, ⟨#[]⟩, 0, 0, []⟩).2.f4 + 1 ∧
    (doF (doF l ⟨3, p, q, 0, 0, []⟩).1 ⟨8, q, ⟨#[]⟩, 0, 0, d⟩).2.f0 = 0 ∧
    (doF (doF (doF l ⟨3, p, q, 0, 0, []⟩).1 ⟨8, q, ⟨#[]⟩, 0, 0, d⟩).1 ⟨7, p, ⟨#[]⟩, 0, d.length, []⟩).2.f1 = d := by
  obtain ⟨l', r, hw, he⟩ := ok_work hr
  have hc : linkF l p q = .inl l' := by
    have h2 : workF l ⟨3, p, q, 0, 0, []⟩ = plain (linkF l p q) := rfl
    rw [h2] at hw
    cases hx : linkF l p q with
    | inl m =>
      rw [hx] at hw
      injection hw with hw
      injection hw with hw
      rw [hw]
    | inr e =>
      rw [hx] at hw
      cases hw
  have hpr := link_pr h hc
  obtain ⟨k, dd, nm, hpl, hkl, hk1, hpp, hpq, hkk, hkeep, hsp, hd2, hnum, hold, hlk⟩ := linked h hc
  have hm : k ∈ mt l' := wk_met hpr.wf hpr.wf.zero (fileplace hpq)
  have hru : Rt (num l') := num_rt hpr
  have huq : placeF (num l') q = .inl (pl l' k) := by rw [num_place hpr.wf, hpq]
  have hup : placeF (num l') p = .inl (pl l' k) := by rw [num_place hpr.wf, hpp]
  have hkd : (nd (num l') (pl l' k)).f0 = 1 := by rw [(iso_num hpr.wf).kind k hm, hkk]
  have hfq : fileF (num l') q = .inl (pl l' k) := by unfold fileF; rw [huq]; dsimp only; rw [if_neg (by rw [hkd]; decide)]
  have hfp : fileF (num l') p = .inl (pl l' k) := by unfold fileF; rw [hup]; dsimp only; rw [if_neg (by rw [hkd]; decide)]
  rw [he]
  dsimp only
  have hu200 : (nd l k).f1 = (ups l k : Int) := by
    rw [h.own k hkl]
    unfold own
    rw [if_neg (by rw [hk1]; decide)]
  have hups := h.pr.links k hk1
  refine ⟨by rw [do_stat hpl]; show 0 ≤ (nd l k).f1 ∧ (nd l k).f1 ≤ 200; rw [hu200]; omega, by rw [do_stat huq, do_stat hpl]; exact hlk, ?_⟩
  have hbd : (0 : Int) ≤ 0 ∧ (0 : Int) ≤ 46368 ∧ (d.length : Int) ≤ 46368 - 0 := ⟨by omega, by omega, by omega⟩
  obtain ⟨l2, hl2⟩ : ∃ l2, writeF (num l') q 0 d = .inl l2 := by
    unfold writeF
    rw [hfq]
    dsimp only
    rw [if_pos hbd]
    exact ⟨_, rfl⟩
  have hw2 : workF (num l') ⟨8, q, ⟨#[]⟩, 0, 0, d⟩ = .inl (l2, { res0 with f5 := (d.length : Int) }) := by
    show (match writeF (num l') q 0 d with | .inl l' => _ | .inr e => _) = _
    rw [hl2]
  obtain ⟨-, hr2, hlen, k2, hk2, hk2l, -, hrd, hln, hget, -⟩ := written hru hl2
  have hke : k2 = pl l' k := by
    rw [huq] at hk2
    exact (Sum.inl.inj hk2).symm
  subst hke
  have hf2 : fileF l2 p = .inl (pl l' k) := by rw [write_file hfq hk2l hl2, hfp]
  rw [do_in hw2]
  dsimp only
  refine ⟨rfl, ?_⟩
  rw [hr2.num]
  have hw3 : workF l2 ⟨7, p, ⟨#[]⟩, 0, d.length, []⟩ = .inl (l2, { res0 with f1 := partF (nd l2 (pl l' k)).f2 0 d.length }) := by
    have hrf : readF l2 p 0 d.length = .inl (partF (nd l2 (pl l' k)).f2 0 d.length) := by
      unfold readF
      rw [hf2]
      dsimp only
      rw [if_pos ⟨by omega, by omega⟩]
    show (match readF l2 p 0 d.length with | .inl d => _ | .inr e => _) = _
    rw [hrf]
  rw [do_in hw3]
  show partF (nd l2 (pl l' k)).f2 0 d.length = d
  unfold partF
  rw [show (0 : Int).toNat = 0 from rfl, List.drop_zero, Int.toNat_natCast]
  refine take_is rfl ?_ (fun i hi => ?_)
  · rw [hln]
    split
    · omega
    · rw [show (0 : Int).toNat = 0 from rfl]; omega
  · rw [hget, if_pos ⟨by simp, by simpa using hi⟩]
    simp
end Go.Proofs.YtllfjmmdackgdaaDoor.PZ
end
/-! TLawB -/
section
namespace Go.Proofs.YtllfjmmdackgdaaDoor.PZ
open Go.RowKit Go.Proofs.YtllfjmmdackgdaaDoorW.PrintWords Go.Proofs.YtllfjmmdackgdaaDoorW.PrintLast Go.Proofs.YtllfjmmdackgdaaDoorW.PrintMore TD
set_option maxRecDepth 100000
theorem do_out {l : List S58} {o : S39} {e : Int} (h : workF l o = .inr e) : doF l o = (l, { res0 with f0 := e }) := by unfold doF; rw [h]
theorem do_read {l : List S58} (h : Rt l) (p : ByteArray) (a n : Int) : doF l ⟨7, p, ⟨#[]⟩, a, n, []⟩ = (match readF l p a n with | .inl d => (l, { res0 with f1 := d }) | .inr e => (l, { res0 with f0 := e })) := by
  cases hr : readF l p a n with
  | inl d =>
    rw [do_in (l' := l) (r := { res0 with f1 := d }) (by show (match readF l p a n with | .inl d => _ | .inr e => _) = _; rw [hr]), h.num]
  | inr e => rw [do_out (e := e) (by show (match readF l p a n with | .inl d => _ | .inr e => _) = _; rw [hr])]
theorem read_none {l : List S58} {p : ByteArray} {a n : Int} {e : Int} (hk : fileF l p = .inr e) : readF l p a n = .inr e := by
  unfold readF
  rw [hk]
theorem part_le (b : List Int) (a n : Int) : (partF b a n).length ≤ b.length := by
  unfold partF
  rw [List.length_take, List.length_drop]
  omega
theorem do_trunc {l : List S58} (h : Rt l) (p : ByteArray) {n : Int} (hn : 0 ≤ n) (hn2 : n ≤ 46368) : doF l ⟨9, p, ⟨#[]⟩, 0, n, []⟩ = (match fileF l p with | .inl k => (setD l k (sizedF (nd l k).f2 n.toNat), res0) | .inr e => (l, { res0 with f0 := e })) := by
  cases hk : fileF l p with
  | inr e =>
    rw [do_out (e := e) (by show plain (truncF l p n) = _; unfold truncF; rw [hk]; rfl)]
  | inl k =>
    have hc : truncF l p n = .inl (setD l k (sizedF (nd l k).f2 n.toNat)) := by unfold truncF; rw [hk]; dsimp only; rw [if_pos ⟨hn, hn2⟩]
    rw [do_in (l' := setD l k (sizedF (nd l k).f2 n.toNat)) (r := res0) (by show plain (truncF l p n) = _; rw [hc]; rfl), (trunc_rt h hc).num]
/-- A file that is cut, and made longer again. -/
theorem truncs_law {l : List S58} (h : Rt l) (p : ByteArray) {n m : Int} (hn : 0 ≤ n) (hnm : n ≤ m) (hm : m ≤ 3000) :
    ((doF l ⟨9, p, ⟨#[]⟩, 0, n, []⟩).2.f0 ≠ 0 → (doF l ⟨9, p, ⟨#[]⟩, 0, n, []⟩).2.f0 = (doF l ⟨7, p, ⟨#[]⟩, 0, 100000, []⟩).2.f0 ∧
      (doF (doF l ⟨9, p, ⟨#[]⟩, 0, n, []⟩).1 ⟨9, p, ⟨#[]⟩, 0, m, []⟩).2.f0 = (doF l ⟨9, p, ⟨#[]⟩, 0, n, []⟩).2.f0) ∧
    ((doF l ⟨9, p, ⟨#[]⟩, 0, n, []⟩).2.f0 = 0 → (doF (doF l ⟨9, p, ⟨#[]⟩, 0, n, []⟩).1 ⟨9, p, ⟨#[]⟩, 0, m, []⟩).2.f0 = 0 ∧
      (doF (doF (doF l ⟨9, p, ⟨#[]⟩, 0, n, []⟩).1 ⟨9, p, ⟨#[]⟩, 0, m, []⟩).1 ⟨7, p, ⟨#[]⟩, 0, 100000, []⟩).2.f0 = 0 ∧
      ((doF (doF (doF l ⟨9, p, ⟨#[]⟩, 0, n, []⟩).1 ⟨9, p, ⟨#[]⟩, 0, m, []⟩).1 ⟨7, p, ⟨#[]⟩, 0, 100000, []⟩).2.f1.length : Int) = m ∧
      ∀ i : Nat, (i : Int) < m → (doF (doF (doF l ⟨9, p, ⟨#[]⟩, 0, n, []⟩).1 ⟨9, p, ⟨#[]⟩, 0, m, []⟩).1 ⟨7, p, ⟨#[]⟩, 0, 100000, []⟩).2.f1.getD i 0 = if (i : Int) < n then (doF l ⟨7, p, ⟨#[]⟩, 0, 100000, []⟩).2.f1.getD i 0 else 0) := by
  rw [do_read h, do_trunc h p hn (by omega)]
  cases hk : fileF l p with
  | inr e =>
    dsimp only
    rw [read_none hk, do_trunc h p (by omega) (by omega), hk]
    exact ⟨fun _ => ⟨rfl, rfl⟩, fun h0 => absurd h0 (file_err hk)⟩
  | inl k =>
    dsimp only
    have hc : truncF l p n = .inl (setD l k (sizedF (nd l k).f2 n.toNat)) := by unfold truncF; rw [hk]; dsimp only; rw [if_pos ⟨hn, by omega⟩]
    obtain ⟨hkl, -, -, -⟩ := fileF_lt0 h.ok hk
    have hr := trunc_rt h hc
    have hk2 : fileF (setD l k (sizedF (nd l k).f2 n.toNat)) p = .inl k := by rw [setD_file hkl]; exact hk
    rw [do_trunc hr p (by omega) (by omega), hk2]
    dsimp only
    have hc2 : truncF (setD l k (sizedF (nd l k).f2 n.toNat)) p m = .inl (setD (setD l k (sizedF (nd l k).f2 n.toNat)) k (sizedF (nd (setD l k (sizedF (nd l k).f2 n.toNat)) k).f2 m.toNat)) := by unfold truncF; rw [hk2]; dsimp only; rw [if_pos ⟨by omega, by omega⟩]
    have hr2 := trunc_rt hr hc2
    have hkl2 : k < (setD l k (sizedF (nd l k).f2 n.toNat)).length := by rw [setD_len]; exact hkl
    have hk3 : fileF (setD (setD l k (sizedF (nd l k).f2 n.toNat)) k (sizedF (nd (setD l k (sizedF (nd l k).f2 n.toNat)) k).f2 m.toNat)) p = .inl k := by rw [setD_file hkl2]; exact hk2
    rw [do_read hr2, read_all hr2 hk3, read_all h hk, nd_setD_same hkl2, nd_setD_same hkl]
    dsimp only
    refine ⟨fun h0 => absurd rfl h0, fun _ => ⟨rfl, rfl, by rw [sizedF_len]; omega, fun i hi => ?_⟩⟩
    rw [sizedF_get, if_pos (by omega), sizedF_get]
    by_cases h1 : (i : Int) < n
    · rw [if_pos h1, if_pos (by omega)]
    · rw [if_neg h1, if_neg (by omega)]
theorem find_k {l : List S58} {p : ByteArray} {k : Nat} (h : placeF l p = .inl k) : findF l p = ((k : Int), 0) := by unfold findF; rw [h]
theorem find_e {l : List S58} {p : ByteArray} {e : Int} (h : placeF l p = .inr e) : findF l p = (0, e) := by unfold findF; rw [h]
theorem plain_in {X : List S58 ⊕ Int} {l' : List S58} {r : S47} (h : plain X = .inl (l', r)) : X = .inl l' ∧ r = res0 := by
  cases X with
  | inl l => injection h with h; injection h with h h2; subst h; exact ⟨rfl, h2.symm⟩
  | inr m => cases h
/-- What was at a path is at the other one behind a rename. -/
theorem renames_law {l : List S58} (h : Rt l) {p q : ByteArray} (hr : (doF l ⟨6, p, q, 0, 0, []⟩).2.f0 = 0) :
    (doF l ⟨10, p, ⟨#[]⟩, 0, 0, []⟩).2.f0 = 0 ∧ (doF l ⟨10, p, ⟨#[]⟩, 0, 0, []⟩).2 = (doF (doF l ⟨6, p, q, 0, 0, []⟩).1 ⟨10, q, ⟨#[]⟩, 0, 0, []⟩).2 ∧
    (doF l ⟨7, p, ⟨#[]⟩, 0, 100000, []⟩).2 = (doF (doF l ⟨6, p, q, 0, 0, []⟩).1 ⟨7, q, ⟨#[]⟩, 0, 100000, []⟩).2 ∧
    ((findF l q).2 = 0 ∧ (findF l p).1 = (findF l q).1 → (findF (doF l ⟨6, p, q, 0, 0, []⟩).1 p).2 = 0 ∧ l = (doF l ⟨6, p, q, 0, 0, []⟩).1) ∧
    (¬ ((findF l q).2 = 0 ∧ (findF l p).1 = (findF l q).1) → (findF (doF l ⟨6, p, q, 0, 0, []⟩).1 p).2 = 21) := by
  obtain ⟨l', r, hw, he⟩ := ok_work hr
  obtain ⟨hc, rfl⟩ := plain_in (show plain (renameF l p q) = .inl (l', r) from hw)
  have hpr := rename_pr h hc
  have hu : Rt (num l') := num_rt hpr
  obtain ⟨k, hk, hkl, hx⟩ := renamed h hc
  rw [he]
  dsimp only
  rw [do_stat hk, find_k hk, do_read h, do_read hu]
  rcases hx with ⟨hq, rfl⟩ | ⟨hq, hp, k2, hq2, h0, h1, h2, h3⟩
  · rw [h.num, do_stat hq, find_k hq, find_k hk]
    have hff : fileF l' p = fileF l' q := by unfold fileF; rw [hk, hq]
    have hrr : readF l' p 0 100000 = readF l' q 0 100000 := by unfold readF; rw [hff]
    rw [hrr]
    exact ⟨rfl, rfl, rfl, fun _ => ⟨rfl, rfl⟩, fun hn => absurd ⟨rfl, rfl⟩ hn⟩
  · rw [do_stat hq2, find_e hp, h0, h1, h2, h3]
    refine ⟨rfl, rfl, ?_, fun hs => ?_, fun _ => rfl⟩
    · by_cases hd : (nd l k).f0 = 2
      · have e1 : fileF l p = .inr 23 := by unfold fileF; rw [hk]; dsimp only; rw [if_pos hd]
        have e2 : fileF (num l') q = .inr 23 := by unfold fileF; rw [hq2]; dsimp only; rw [if_pos (by rw [h0]; exact hd)]
        rw [read_none e1, read_none e2]
      · have e1 : fileF l p = .inl k := by unfold fileF; rw [hk]; dsimp only; rw [if_neg hd]
        have e2 : fileF (num l') q = .inl k2 := by unfold fileF; rw [hq2]; dsimp only; rw [if_neg (by rw [h0]; exact hd)]
        rw [read_all h e1, read_all hu e2, h2]
    · exfalso
      cases hqq : placeF l q with
      | inr e => rw [find_e hqq] at hs; exact place_err hqq hs.1
      | inl j =>
        rw [find_k hqq] at hs
        have hj : k = j := Int.ofNat.inj hs.2
        exact hq (by rw [hqq, hj])
end Go.Proofs.YtllfjmmdackgdaaDoor.PZ
end
/-! GLawB -/
section
namespace Go.Proofs.YtllfjmmdackgdaaDoor.PZ
open Go.RowKit Go.Proofs.YtllfjmmdackgdaaDoorW.PrintWords Go.Proofs.YtllfjmmdackgdaaDoorW.PrintLast Go.Proofs.YtllfjmmdackgdaaDoorW.PrintMore Go.Proofs.YtllfjmmdackgdaaDoor.B Go.Proofs.YtllfjmmdackgdaaDoor.Ord TD
set_option maxRecDepth 100000
set_option linter.unusedVariables false
set_option linter.unusedSimpArgs false
/-- An operation in a variable. -/
structure HoldO (g : Nat) (a b c d e f : Value) (w : World) : Prop where
  blk : w.heap[g]? = some (.cells #[a, b, c, d, e, f] 39 (0, 0))
section
variable {g : Nat} {a b c d e f : Value} {w W : World}
theorem HoldO.below (h : HoldO g a b c d e f w) (hb : Below w.heap.size w W) : HoldO g a b c d e f W := ⟨blk_below h.blk hb⟩
theorem HoldO.cells (h : HoldO g a b c d e f w) : w.cell? ⟨g, 0, none⟩ = some a ∧ w.cell? ⟨g, 1, none⟩ = some b ∧ w.cell? ⟨g, 2, none⟩ = some c ∧ w.cell? ⟨g, 3, none⟩ = some d ∧ w.cell? ⟨g, 4, none⟩ = some e ∧ w.cell? ⟨g, 5, none⟩ = some f ∧ g < w.heap.size :=
  ⟨(blk_cell h.blk 0).trans rfl, (blk_cell h.blk 1).trans rfl, (blk_cell h.blk 2).trans rfl, (blk_cell h.blk 3).trans rfl, (blk_cell h.blk 4).trans rfl, (blk_cell h.blk 5).trans rfl, blk_lt h.blk⟩
end
theorem long_call (f0 : Int) (p q : ByteArray) (a n : Int) (A : Option Addr) (dn c : Nat) (d : List Int) (hdn : dn = d.length) (w : World) :
    Calls Tryd.prog 28 #[.agg #[.int .i64 f0, .string p, .string q, .int .i64 a, .int .i64 n, .slice A dn c]] w fun e w' => (∃ r, e = .returned (.bool r) ∧ (r = false → p.size ≤ 1000 ∧ q.size ≤ 1000 ∧ d.length ≤ 3000)) ∧ Below w.heap.size w w' := by
  subst hdn
  exact long_walk ⟨f0, p, q, a, n, d⟩ A c w
theorem do_small {l : List S58} (h : Rt l) (o : S39) : (doF l o).2.f1.length ≤ 46368 ∧ (doF l o).2.f2.length ≤ 64 := by
  have h0 : (res0.f1.length ≤ 46368) ∧ (res0.f2.length ≤ 64) := ⟨Nat.zero_le _, Nat.zero_le _⟩
  unfold doF
  cases hw : workF l o with
  | inr e => exact h0
  | inl s =>
    obtain ⟨l', r⟩ := s
    show r.f1.length ≤ 46368 ∧ r.f2.length ≤ 64
    have hp : ∀ {X : List S58 ⊕ Int}, plain X = .inl (l', r) → r.f1.length ≤ 46368 ∧ r.f2.length ≤ 64 := fun h => by rw [(plain_in h).2]; exact h0
    unfold workF at hw
    by_cases e1 : o.f0 = 1
    · rw [if_pos e1] at hw; exact hp hw
    rw [if_neg e1] at hw
    by_cases e2 : o.f0 = 2
    · rw [if_pos e2] at hw; exact hp hw
    rw [if_neg e2] at hw
    by_cases e3 : o.f0 = 3
    · rw [if_pos e3] at hw; exact hp hw
    rw [if_neg e3] at hw
    by_cases e4 : o.f0 = 4
    · rw [if_pos e4] at hw; exact hp hw
    rw [if_neg e4] at hw
    by_cases e5 : o.f0 = 5
    · rw [if_pos e5] at hw; exact hp hw
    rw [if_neg e5] at hw
    by_cases e6 : o.f0 = 6
    · rw [if_pos e6] at hw; exact hp hw
    rw [if_neg e6] at hw
    by_cases e7 : o.f0 = 7
    · rw [if_pos e7] at hw
      split at hw
      · rename_i d hd
        injection hw with hw; injection hw with _ hw; rw [← hw]
        refine ⟨?_, Nat.zero_le _⟩
        show d.length ≤ 46368
        unfold readF at hd
        split at hd
        · cases hd
        · split at hd
          · injection hd with hd
            rw [← hd]
            exact Nat.le_trans (part_le _ _ _) (h.pr.size _)
          · cases hd
      · cases hw
    rw [if_neg e7] at hw
    by_cases e8 : o.f0 = 8
    · rw [if_pos e8] at hw
      split at hw
      · injection hw with hw; injection hw with _ hw; rw [← hw]; exact ⟨Nat.zero_le _, Nat.zero_le _⟩
      · cases hw
    rw [if_neg e8] at hw
    by_cases e9 : o.f0 = 9
    · rw [if_pos e9] at hw; exact hp hw
    rw [if_neg e9] at hw
    by_cases e10 : o.f0 = 10
    · rw [if_pos e10] at hw
      split at hw
      · injection hw with hw; injection hw with _ hw; rw [← hw]; exact ⟨Nat.zero_le _, Nat.zero_le _⟩
      · cases hw
    rw [if_neg e10] at hw
    by_cases e11 : o.f0 = 11
    · rw [if_pos e11] at hw
      split at hw
      · rename_i ns hn
        injection hw with hw; injection hw with _ hw; rw [← hw]
        refine ⟨Nat.zero_le _, ?_⟩
        show ns.length ≤ 64
        unfold listF at hn
        split at hn
        · cases hn
        · split at hn
          · injection hn with hn
            rw [← hn, List.length_map]
            exact h.pr.ents _
          · cases hn
      · cases hw
    rw [if_neg e11] at hw
    by_cases e12 : o.f0 = 12
    · rw [if_pos e12] at hw
      injection hw with hw; injection hw with _ hw; rw [← hw]; exact h0
    rw [if_neg e12] at hw
    by_cases e13 : o.f0 = 13
    · rw [if_pos e13] at hw
      split at hw
      · injection hw with hw; injection hw with _ hw; rw [← hw]; exact h0
      · cases hw
    rw [if_neg e13] at hw
    cases hw
end Go.Proofs.YtllfjmmdackgdaaDoor.PZ
end
