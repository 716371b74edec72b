import Derived.Test.YtllfjmmdackgdaaDoorM15
import Derived.StillTailTactics
set_option linter.unusedVariables false
set_option linter.unusedSimpArgs false
/-! GStill -/
section
namespace Go.Proofs.YtllfjmmdackgdaaDoor.PZ
open Go.RowKit Go.Proofs.YtllfjmmdackgdaaDoorW.PrintWords Go.Proofs.YtllfjmmdackgdaaDoorW.PrintLast Go.Proofs.YtllfjmmdackgdaaDoorW.PrintMore TD
theorem wp_still_drew {P : Program} {w : World} {id : Nat} {Q : Exit → Act → World → Prop} {a : Act} {l : List Oper} (n : Nat) (hm : P.follows .mixedOrders = true) (hB : Region.lexTailB .any l.toArray n = true)
    (h : wpStill P l.toArray w.drew (fun a' => wpList P l.toArray Q (l.drop n) a' w.drew) (l.take n) a) : (Code.region id l.toArray true).wp P Q a w := wp_region_still_tail n hm hB h
theorem Wk.put {w : World} {b : Nat} {v : Value} {rest : List Value} (h : Wk w b v rest) (u : Value) : Wk (w.setCell ⟨b, 0, none⟩ u) b u rest := by
  have h1 := blk_put h 0 u rfl
  unfold Wk
  rw [h1]
  simp
theorem Wk.set {w : World} {b : Nat} {v : Value} {rest : List Value} (h : Wk w b v rest) (i : Nat) (u : Value) : Wk (w.setCell ⟨b, i + 1, none⟩ u) b v (rest.set i u) := by
  have h1 := blk_put h (i + 1) u rfl
  unfold Wk
  rw [h1]
  simp
theorem kcell {w W : World} {p : Addr} {v : Value} (hb : Below w.heap.size w W) (hp : p.block < w.heap.size) (h : w.cell? p = some v) : W.cell? p = some v := by
  rw [← h]
  exact hb.cell hp
theorem S_any {α : Type} {d : Kd α} {e : Nat} {w : World} {base : Nat} {ok : Nat → Prop} {v : Value} {xs : List α} (h : Kd.S d e w base ok v xs) : ∃ A n c, v = .slice A n c := by
  obtain ⟨A, c, h⟩ := Kd.S_slice h
  exact ⟨A, _, c, h⟩
theorem R_any {α : Type} {d : Kd α} {e : Nat} {w : World} {base : Nat} {ok : Nat → Prop} {v : Value} {xs : List α} (h : d.R e w base ok v xs) : ∃ A n c, v = .slice A n c := by
  obtain ⟨A, c, h⟩ := Kd.R_slice h
  exact ⟨A, _, c, h⟩
theorem mdir_walk (B b : Nat) (l : List S58) (rest : List Value) (k : Nat) (w : World) {bv : Bool} (hk : k < l.length) (hst : St B b l rest w) (hd : ((nd l k).f0 == 2) = bv) :
    Calls Tryd.prog 82 #[.pointer (some ⟨b, 0, none⟩), .int .i64 k] w fun en w' => en = .returned (.bool bv) ∧ w' = w := by
  obtain ⟨_, v, hw, hS⟩ := hst
  obtain ⟨A, cap, rfl, hcap, hC⟩ := Kd.S_reads hS
  subst hd
  exact dir_walk b A cap l rest k w hk hw hC
theorem mfull_walk (B b : Nat) (l : List S58) (rest : List Value) (k : Nat) (w : World) {bv : Bool} (hk : k < l.length) (hst : St B b l rest w) (hd : fullB l k = bv) :
    Calls Tryd.prog 93 #[.pointer (some ⟨b, 0, none⟩), .int .i64 k] w fun en w' => en = .returned (.bool bv) ∧ w' = w := by
  obtain ⟨_, v, hw, hS⟩ := hst
  obtain ⟨A, cap, rfl, hcap, hC⟩ := Kd.S_reads hS
  refine (full_walk b A cap l rest k w hk hw hC).mono ?_
  rintro e w1 ⟨rfl, rfl⟩
  refine ⟨?_, rfl⟩
  cases bv with
  | true => rw [fullB_t hd]
  | false => rw [fullB_f hd]
theorem root_eq : (rootP.toList == [47]) = true := by simp [rootP]
theorem within_walk (a c : ByteArray) (w : World) {bv : Bool} (ha : a.size < 10000000) (hc : c.size < 10000000) (h : withinA a c = bv) :
    Calls Tryd.prog 24 #[.string a, .string c] w fun en w' => en = .returned (.bool bv) ∧ Below w.heap.size w w' := by
  obtain ⟨k, hk⟩ := (path_within_ev a c ha hc).rounds
  rw [h] at hk
  exact path_Within.calls k a c bv w hk
/-- A callee that panics, in a region whose walk wants one goal behind each call: a goal behind a return that never comes. -/
theorem calls_dead {P : Program} {f : FuncId} {args : Array Value} {w : World} {Post : Ending → World → Prop} {v : Value} (h : Calls P f args w Post) (_hd : False → Post (.returned v) w) : Calls P f args w Post := h
/-- What a method that changes the nodes alone leaves. -/
abbrev OpPost (B b : Nat) (rest : List Value) (w : World) (X : List S58 ⊕ Int) (en : Ending) (w' : World) : Prop :=
  (match X with | .inl l' => en = .returned (.tuple #[]) ∧ St B b l' rest w' | .inr n => en = .panicked (wrong n)) ∧ BW B w w'
end Go.Proofs.YtllfjmmdackgdaaDoor.PZ
end
/-! GCreate -/
section
namespace Go.Proofs.YtllfjmmdackgdaaDoor.PZ
open Go.RowKit Go.Proofs.YtllfjmmdackgdaaDoorW.PrintWords Go.Proofs.YtllfjmmdackgdaaDoorW.PrintLast Go.Proofs.YtllfjmmdackgdaaDoorW.PrintMore Go.Proofs.YtllfjmmdackgdaaDoor.Ord TD
attribute [local go_sem ↓] Go.wp_at_zero Go.wp_at_succ
set_option maxRecDepth 100000
set_option linter.unusedVariables false
set_option linter.unusedSimpArgs false
set_option maxHeartbeats 4000000 in
theorem create_walk (B b : Nat) (l : List S58) (x : Value) (p : ByteArray) (rs : List Value) (kd : Int) (w : World) (hst : St B b l (x :: .string p :: rs) w) (ho : Ok l) (hp : p.size < 10000000) :
    Calls Tryd.prog 69 #[.pointer (some ⟨b, 0, none⟩), .int .i64 kd] w fun en w' => (match createF l p kd with | .inl l' => en = .returned (.tuple #[]) ∧ St B b l' (x :: .string p :: rs) w' | .inr n => en = .panicked (wrong n)) ∧ BW B w w' := by
  have hbl : b < w.heap.size := by obtain ⟨_, v, h, _⟩ := hst; exact blk_lt h
  have hBw : B ≤ w.heap.size := by have := hst.1; omega
  have hk2 : w.cell? ⟨b, 2, none⟩ = some (.string p) := by obtain ⟨_, v, h, _⟩ := hst; exact (blk_cell h 2).trans rfl
  have HST := Aside0.mk hst
  have HO := Aside0.mk ho
  clear hst ho
  unfold createF
  by_cases hr : p = rootP
  · rw [if_pos hr]
    have hpr : (p.toList == [47]) = true := by rw [hr]; exact root_eq
    clear hr
    go_enter Tryd.func69, Tryd.ntmps69
    go_wp2_with (first | (go_at_call 81; (with_reducible refine (need_bad 24 _).mono ?_); rintro e w1 ⟨rfl, rfl⟩; exact ⟨rfl, rfl, BW.refl _ _⟩))
  · rw [if_neg hr]
    have hpr : (p.toList == [47]) = false := beq_eq_false_iff_ne.2 fun h => hr (bytes_ext (h.trans (beq_iff_eq.1 root_eq).symm))
    cases hs : spotF l p with
    | inr n =>
      dsimp only
      have HS := Aside0.mk hs
      clear hs
      go_enter Tryd.func69, Tryd.ntmps69
      go_wp2_with (first | (go_at_call 81; (with_reducible refine (need_ok 24 _).mono ?_); rintro e w1 ⟨rfl, h1⟩; subst w1) | (go_at_call 92; refine (to_walk B b l _ p _ HST.out HO.out hp hr).mono ?_; rintro e w1 ⟨h1, hb⟩; rw [HS.out] at h1; subst h1; exact ⟨rfl, rfl, BW.mono hb hBw⟩))
    | inl s =>
      obtain ⟨d, nm, o⟩ := s
      have HS := Aside0.mk hs
      clear hs
      cases o with
      | some j =>
        dsimp only
        have hj : decide ((j : Int) < 0) = false := decide_eq_false (by omega)
        go_enter Tryd.func69, Tryd.ntmps69
        go_wp2_with (first | (go_at_call 81; (with_reducible refine (need_ok 24 _).mono ?_); rintro e w1 ⟨rfl, h1⟩; subst w1) | (go_at_call 81; (with_reducible refine (need_bad 24 _).mono ?_); rintro e w2 ⟨rfl, h2⟩; subst w2; exact ⟨rfl, rfl, BW.mono (below_alloc HB.out _) hBw⟩) | (go_at_call 92; refine (to_walk B b l _ p _ HST.out HO.out hp hr).mono ?_; rintro e w1 ⟨h1, hb⟩; rw [HS.out] at h1; subst h1; have HB := Aside0.mk hb; clear hb; unfold spotV nodeV))
      | none =>
        dsimp only
        have hdl : d < l.length := (spotF_inl HS.out).choose_spec.2.2.2.2.1
        cases hf : fullB l d with
        | true =>
          rw [if_pos rfl]
          have hfe := fullB_t hf
          go_enter Tryd.func69, Tryd.ntmps69
          go_wp2_with (first
              | (go_at_call 92; refine (to_walk B b l _ p _ HST.out HO.out hp hr).mono ?_; rintro e w1 ⟨h1, hb⟩; rw [HS.out] at h1; subst h1; have HB := Aside0.mk hb; have hk3 := St.below HST.out (below_alloc hb (.cells #[.int .i64 (d : Int), .string nm, .int .i64 (-1)] 121)); obtain ⟨hBb, v1, hw1, hS1⟩ := hk3; obtain ⟨A1, c1, rfl, hc1, hC1⟩ := Kd.S_reads hS1; have hkn := (blk_cell hw1 0).trans rfl; have HW1 := Aside0.mk hw1; have HS1 := Aside0.mk hS1; have HC1 := Aside0.mk hC1; clear hb hw1 hS1 hC1; unfold spotV nodeV)
              | (go_at_call 93; refine (full_walk b A1 c1 l _ d _ hdl HW1.out HC1.out).mono ?_; rintro e w9 ⟨rfl, h9⟩; subst w9; simp only [hfe])
              | (go_at_call 81; (with_reducible refine (need_ok _ _).mono ?_); rintro e w9 ⟨rfl, h9⟩; subst w9)
              | (go_at_call 81; (with_reducible refine (need_bad 27 _).mono ?_); rintro e w9 ⟨rfl, h9⟩; subst w9; exact ⟨rfl, rfl, BW.mono (below_alloc HB.out _) hBw⟩))
        | false =>
          rw [if_neg (by decide)]
          by_cases hl : l.length < 56
          · rw [if_pos hl]
            have hl' : decide ((l.length : Int) < 56) = true := decide_eq_true (by omega)
            have hfe := fullB_f hf
            go_enter Tryd.func69, Tryd.ntmps69
            go_wp2_with (first
              | (go_at_call 81; (with_reducible refine (need_ok _ _).mono ?_); rintro e w9 ⟨rfl, h9⟩; subst w9)
              | (go_at_call 92; refine (to_walk B b l _ p _ HST.out HO.out hp hr).mono ?_; rintro e w1 ⟨h1, hb⟩; rw [HS.out] at h1; subst h1; have HB := Aside0.mk hb; have hk3 := St.below HST.out (below_alloc hb (.cells #[.int .i64 (d : Int), .string nm, .int .i64 (-1)] 121)); obtain ⟨hBb, v1, hw1, hS1⟩ := hk3; obtain ⟨A1, c1, rfl, hc1, hC1⟩ := Kd.S_reads hS1; have hkn := (blk_cell hw1 0).trans rfl; have HW1 := Aside0.mk hw1; have HS1 := Aside0.mk hS1; have HC1 := Aside0.mk hC1; clear hb hw1 hS1 hC1; unfold spotV nodeV)
              | (go_at_call 93; refine (full_walk b A1 c1 l _ d _ hdl HW1.out HC1.out).mono ?_; rintro e w9 ⟨rfl, h9⟩; subst w9; simp only [hfe]))
            refine wp_still_drew 8 (by kernel_rfl) (by kernel_rfl) ?_
            simp only [List.take_succ_cons, List.take_zero, List.drop_succ_cons, List.drop_zero]
            repeat still_step
            refine wpStill_nil ?_
            go_wp2_with (first
              | (go_at_call 94; refine (mput_walk B b l _ d nm (-1) l.length _ hdl ⟨hBb, _, blk_drew HW1.out, Kd.S_drew HS1.out⟩ HO.out (by omega)).mono ?_; (rintro e w2 ⟨rfl, ⟨-, v2, hw2, hS2⟩, hb2⟩; obtain ⟨A2, c2, rfl, hc2, -⟩ := Kd.S_reads hS2; have hkm := (blk_cell hw2 0).trans rfl; have hbw2 := blk_lt hw2; have hBW2 : B ≤ w2.heap.size := (by omega); have hNB : ∀ k, w2.heap.size ≤ k → k ≠ b := (fun k hk => by omega); have hLen : ((putT l d nm l.length).length + 1) * 64 ≤ 140737488355328 := (by rw [putT, setE_len]; omega); have hNB2 : (Value.slice A2 (putT l d nm l.length).length c2).ownBlock ≠ some b := (fun h => (Kd.S_R hS2).1 b h rfl); have HW2 := Aside0.mk hw2; have HS2 := Aside0.mk hS2; have HB2 := Aside0.mk hb2; clear hw2 hS2 hb2))
              | (at_builtin; (with_reducible refine gate_builtin (b := .append) (xs := #[.tmp 52, .tmp 55]) rfl ?_); (refine Kd.S_append k58 (w0 := w2) B rfl (.tmp 52) (.tmp 55) 40 58 _ 64 rfl Tryd.underlying40 info58 rfl (by decide) (by omega) _ (putT l d nm l.length) ⟨kd, 0, [], []⟩ _ (fun k => k ≠ b) (fun _ => False) rfl rfl ?aP (fun _ h => h.elim) ?aF ?aO ?aB ?aS ?aL ?_); (case aP => exact k58_mkM _ _ _ ⟨kd, 0, [], []⟩ (Kd.R_nil _ _ _ _ _) (Kd.R_nil _ _ _ _ _)); (case aF => exact fun k hk => hNB k hk); (case aO => exact Kd.S_mono HS2.out (fun k hk => ⟨hk, fun h => h⟩)); (case aB => exact Below.refl _ _); (case aS => exact hBW2); (case aL => exact hLen); (intro v4 w4 ho hbb hg hat); (have HO4 := Aside0.mk ho; have HB4 := Aside0.mk hbb; have HG4 := Aside0.mk hg; have HW4 := Aside0.mk (blk_grown HW2.out hg (Ne.symm hNB2))); obtain ⟨A4, n4, c4, rfl⟩ := S_any ho; have hk4 := (blk_cell HW4.out 0).trans rfl; have hz4 := blk_frozen HW4.out 0; clear ho hbb hg hat))
            go_end0
            refine ⟨⟨rfl, hBb, _, Wk.put HW4.out _, Kd.S_far (p := ⟨b, 0, none⟩) HO4.out (fun k hk => hk) _⟩, ?_⟩
            exact (BW.trans (BW.mono (below_drew1 (below_alloc HB.out _)) hBw) ((HB2.out).grownN HB4.out HS2.out HG4.out)).setW hBb HW4.out 0 _
          · rw [if_neg hl]
            have hl' : decide ((l.length : Int) < 56) = false := decide_eq_false (by omega)
            have hfe := fullB_f hf
            go_enter Tryd.func69, Tryd.ntmps69
            go_wp2_with (first
              | (go_at_call 92; refine (to_walk B b l _ p _ HST.out HO.out hp hr).mono ?_; rintro e w1 ⟨h1, hb⟩; rw [HS.out] at h1; subst h1; have HB := Aside0.mk hb; have hk3 := St.below HST.out (below_alloc hb (.cells #[.int .i64 (d : Int), .string nm, .int .i64 (-1)] 121)); obtain ⟨hBb, v1, hw1, hS1⟩ := hk3; obtain ⟨A1, c1, rfl, hc1, hC1⟩ := Kd.S_reads hS1; have hkn := (blk_cell hw1 0).trans rfl; have HW1 := Aside0.mk hw1; have HS1 := Aside0.mk hS1; have HC1 := Aside0.mk hC1; clear hb hw1 hS1 hC1; unfold spotV nodeV)
              | (go_at_call 93; refine (full_walk b A1 c1 l _ d _ hdl HW1.out HC1.out).mono ?_; rintro e w9 ⟨rfl, h9⟩; subst w9; simp only [hfe])
              | (go_at_call 81; (with_reducible refine (need_ok _ _).mono ?_); rintro e w9 ⟨rfl, h9⟩; subst w9)
              | (go_at_call 81; (with_reducible refine (need_bad 27 _).mono ?_); rintro e w9 ⟨rfl, h9⟩; subst w9; exact ⟨rfl, rfl, BW.mono (below_alloc HB.out _) hBw⟩))
end Go.Proofs.YtllfjmmdackgdaaDoor.PZ
end
