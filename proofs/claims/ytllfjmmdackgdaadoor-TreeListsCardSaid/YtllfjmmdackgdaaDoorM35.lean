import Derived.Test.YtllfjmmdackgdaaDoorM26
import Derived.Test.YtllfjmmdackgdaaDoorM33
import Derived.Test.YtllfjmmdackgdaaDoorM34
import Derived.Test.YtllfjmmdackgdaaDoorM16
import Derived.Test.YtllfjmmdackgdaaDoorM31
import Derived.Test.YtllfjmmdackgdaaDoorM05
set_option linter.unusedVariables false
set_option linter.unusedSimpArgs false
/-! GDo -/
section
namespace Go.Proofs.YtllfjmmdackgdaaDoor.PZ
open Go.RowKit Go.Proofs.YtllfjmmdackgdaaDoorW.PrintWords Go.Proofs.YtllfjmmdackgdaaDoorW.PrintLast Go.Proofs.YtllfjmmdackgdaaDoorW.PrintMore TD
attribute [local go_sem ↓] Go.wp_at_zero Go.wp_at_succ
set_option maxRecDepth 100000
set_option linter.unusedVariables false
set_option linter.unusedSimpArgs false
/-- What Do hands back, read. -/
def Handed (w : World) (r : List S58 × S47) (e : Ending) (w' : World) : Prop :=
  ∃ A1 c1 A2 c2 A3 c3, e = .returned (.tuple #[.agg #[.slice A1 r.1.length c1], .agg #[.int .i64 r.2.f0, .slice A2 r.2.f1.length c2, .slice A3 r.2.f2.length c3, .int .i64 r.2.f3, .int .i64 r.2.f4, .int .i64 r.2.f5]]) ∧
    r.1.length ≤ c1 ∧ Kd.C k58 w' A1 r.1.length r.1 ∧ r.2.f1.length ≤ c2 ∧ Kd.C (Kd.int .u8) w' A2 r.2.f1.length r.2.f1 ∧ r.2.f2.length ≤ c3 ∧ Kd.C Kd.string w' A3 r.2.f2.length r.2.f2 ∧ Below w.heap.size w w'
theorem new4 (w : World) (a b c d : Obj) : ((((w.alloc a).alloc b).alloc c).alloc d).heap[w.heap.size]? = some a ∧ ((((w.alloc a).alloc b).alloc c).alloc d).heap[w.heap.size + 1]? = some b ∧ ((((w.alloc a).alloc b).alloc c).alloc d).heap[w.heap.size + 1 + 1]? = some c ∧ ((((w.alloc a).alloc b).alloc c).alloc d).heap[w.heap.size + 1 + 1 + 1]? = some d := by
  have h1 := blk_new w a
  have h2 := blk_new (w.alloc a) b
  have h3 := blk_new ((w.alloc a).alloc b) c
  have h4 := blk_new (((w.alloc a).alloc b).alloc c) d
  rw [World.size_alloc] at h2 h3 h4
  rw [World.size_alloc] at h3 h4
  rw [World.size_alloc] at h4
  exact ⟨blk_alloc (blk_alloc (blk_alloc h1 _) _) _, blk_alloc (blk_alloc h2 _) _, blk_alloc h3 _, h4⟩
/-- The two results, laid. -/
def laidR (w1 : World) (gT gR : Nat) (v r0 r1 r2 r3 r4 r5 : Value) : World := ((((((w1.setCell ⟨gT, 0, none⟩ v).setCell ⟨gR, 0, none⟩ r0).setCell ⟨gR, 1, none⟩ r1).setCell ⟨gR, 2, none⟩ r2).setCell ⟨gR, 3, none⟩ r3).setCell ⟨gR, 4, none⟩ r4).setCell ⟨gR, 5, none⟩ r5
section
variable {w w1 : World} {gT gR : Nat} {v r0 r1 r2 r3 r4 r5 u0 u1 u2 u3 u4 u5 u : Value}
theorem laidR_T (hT : w1.heap[gT]? = some (.cells #[u] 42 (0, 0))) (hne : gT ≠ gR) : (laidR w1 gT gR v r0 r1 r2 r3 r4 r5).heap[gT]? = some (.cells #[v] 42 (0, 0)) :=
  blk_far (p := ⟨gR, 5, none⟩) (blk_far (p := ⟨gR, 4, none⟩) (blk_far (p := ⟨gR, 3, none⟩) (blk_far (p := ⟨gR, 2, none⟩) (blk_far (p := ⟨gR, 1, none⟩) (blk_far (p := ⟨gR, 0, none⟩) (blk_put hT 0 v rfl) hne _) hne _) hne _) hne _) hne _) hne _
theorem laidR_R (hR : w1.heap[gR]? = some (.cells #[u0, u1, u2, u3, u4, u5] 47 (0, 0))) (hne : gT ≠ gR) : (laidR w1 gT gR v r0 r1 r2 r3 r4 r5).heap[gR]? = some (.cells #[r0, r1, r2, r3, r4, r5] 47 (0, 0)) :=
  blk_put (blk_put (blk_put (blk_put (blk_put (blk_put (blk_far (p := ⟨gT, 0, none⟩) hR (Ne.symm hne) v) 0 r0 rfl) 1 r1 rfl) 2 r2 rfl) 3 r3 rfl) 4 r4 rfl) 5 r5 rfl
theorem laidR_below {B : Nat} (h : Below B w w1) (hT : B ≤ gT) (hR : B ≤ gR) : Below B w (laidR w1 gT gR v r0 r1 r2 r3 r4 r5) :=
  ((((((h.setCell (p := ⟨gT, 0, none⟩) hT _).setCell (p := ⟨gR, 0, none⟩) hR _).setCell (p := ⟨gR, 1, none⟩) hR _).setCell (p := ⟨gR, 2, none⟩) hR _).setCell (p := ⟨gR, 3, none⟩) hR _).setCell (p := ⟨gR, 4, none⟩) hR _).setCell (p := ⟨gR, 5, none⟩) hR _
theorem laidR_keep {i : Nat} (h1 : i ≠ gT) (h2 : i ≠ gR) : (laidR w1 gT gR v r0 r1 r2 r3 r4 r5).heap[i]? = w1.heap[i]? := by
  unfold laidR
  rw [Below.heap_setCell _ ⟨gR, 5, none⟩ _ i h2, Below.heap_setCell _ ⟨gR, 4, none⟩ _ i h2, Below.heap_setCell _ ⟨gR, 3, none⟩ _ i h2, Below.heap_setCell _ ⟨gR, 2, none⟩ _ i h2, Below.heap_setCell _ ⟨gR, 1, none⟩ _ i h2, Below.heap_setCell _ ⟨gR, 0, none⟩ _ i h2, Below.heap_setCell _ ⟨gT, 0, none⟩ _ i h1]
end
/-- The worker's cells. -/
def workO (g n cap : Nat) (o : S39) (Ad : Option Addr) (cd : Nat) : Obj := .cells #[.slice (some ⟨g, 0, none⟩) n cap, .int .i64 o.f0, .string o.f1, .string o.f2, .int .i64 o.f3, .int .i64 o.f4, .slice Ad o.f5.length cd, .int .i64 0, .slice none 0 0, .slice none 0 0, .int .i64 0, .int .i64 0, .int .i64 0] 78
/-- What the worker's run finds. -/
structure DoS (B b : Nat) (l : List S58) (o : S39) (Ad : Option Addr) (cd : Nat) (w W : World) : Prop where
  st : St B b l (opV o Ad cd zeroR) W
  dat : ∀ w', Below B W w' → Kd.C (Kd.int .u8) w' Ad o.f5.length o.f5
  size : w.heap.size ≤ B
  bel : Below w.heap.size w W
  err : W.heap[b + 1]? = some (.cells #[.int .i64 0] 24 (0, 0))
theorem do_start (ad : Addr) (c : Nat) (l : List S58) (o : S39) (Ad : Option Addr) (cd : Nat) (w w1 w2 : World) (g cap : Nat) (hd : Kd.C (Kd.int .u8) w Ad o.f5.length o.f5) (h1 : Below w.heap.size w w1) (h2 : Below w1.heap.size w1 w2) (hs : Kd.S k58 58 w2 w1.heap.size (fun _ => True) (.slice (some ⟨g, 0, none⟩) l.length cap) l) :
    DoS w1.heap.size w2.heap.size l o Ad cd w (inner0 (w2.alloc (workO g l.length cap o Ad cd))) := by
  have hb : Below w.heap.size w (inner0 (w2.alloc (workO g l.length cap o Ad cd))) := below_alloc (below_alloc (below_step h1 h2) _) _
  refine ⟨⟨h2.size, .slice (some ⟨g, 0, none⟩) l.length cap, blk_alloc (blk_new w2 (workO g l.length cap o Ad cd)) _, Kd.S_alloc (Kd.S_alloc (Kd.S_mono (Kd.S_elderB hs w2.heap.size (Nat.le_refl _)) (fun k hk => hk.2)) _) _⟩, fun w' hw' => Kd.C_below hd (hb.trans (Below.mono hw' h1.size)), h1.size, hb, ?_⟩
  have h := blk_new (w2.alloc (workO g l.length cap o Ad cd)) (.cells #[.int .i64 0] 24)
  rw [World.size_alloc] at h
  exact h
/-- What it leaves. -/
def DoQ (B b : Nat) (l' : List S58) (r : S47) (o : S39) (Ad : Option Addr) (cd : Nat) (W w' : World) : Prop :=
  r.f0 = 0 ∧ (∃ vd vn, St B b l' (opV o Ad cd [.int .i64 0, vd, vn, .int .i64 r.f3, .int .i64 r.f4, .int .i64 r.f5]) w' ∧ Kd.R (Kd.int .u8) 5 w' B (fun k => k ≠ b) vd r.f1 ∧ Kd.R Kd.string 9 w' B (fun k => k ≠ b) vn r.f2) ∧ BW B W w'
theorem do_run_ok {B b : Nat} {l l' : List S58} {r : S47} {o : S39} {Ad : Option Addr} {cd : Nat} {w W : World} (h : DoS B b l o Ad cd w (inner0 W)) (hW : W.heap.size = b + 1) (ht : Rt l) (hp : o.f1.size < 10000000) (hq : o.f2.size < 10000000) (hd : ∀ k, (nd l k).f2.length < 1000000000) (hcd : o.f5.length ≤ cd) (hwf : workF l o = .inl (l', r)) :
    Calls Tryd.prog 46 #[.pointer (some ⟨b, 0, none⟩)] (inner0 W) fun en w' => en = .returned (.tuple #[]) ∧ w'.cell? ⟨W.heap.size, 0, none⟩ = some (.int .i64 0) ∧ w'.frozen? ⟨W.heap.size, 0, none⟩ = false ∧ DoQ B b l' r o Ad cd (inner0 W) w' := by
  refine (run_walk B b l o Ad cd _ h.st ht.ok hp hq hd hcd h.dat).mono fun en w' hr => ?_
  rw [hwf] at hr
  obtain ⟨⟨he, h0, vd, vn, hs, h1, h2⟩, hb⟩ := hr
  have hk := hb.keep _ _ _ h.err (by decide) (by decide)
  rw [hW]
  exact ⟨he, blk_cell hk 0, blk_frozen hk 0, h0, ⟨vd, vn, hs, h1, h2⟩, hb⟩
theorem do_run_bad {B b : Nat} {l : List S58} {n : Int} {o : S39} {Ad : Option Addr} {cd : Nat} {w W : World} (h : DoS B b l o Ad cd w (inner0 W)) (hW : W.heap.size = b + 1) (ht : Rt l) (hp : o.f1.size < 10000000) (hq : o.f2.size < 10000000) (hd : ∀ k, (nd l k).f2.length < 1000000000) (hcd : o.f5.length ≤ cd) (hwf : workF l o = .inr n) :
    Calls Tryd.prog 46 #[.pointer (some ⟨b, 0, none⟩)] (inner0 W) fun en w' => en = .panicked (wrong n) ∧ w'.cell? ⟨W.heap.size, 0, none⟩ = some (.int .i64 0) ∧ w'.frozen? ⟨W.heap.size, 0, none⟩ = false ∧ BW B (inner0 W) w' := by
  refine (run_walk B b l o Ad cd _ h.st ht.ok hp hq hd hcd h.dat).mono fun en w' hr => ?_
  rw [hwf] at hr
  obtain ⟨he, hb⟩ := hr
  have hk := hb.keep _ _ _ h.err (by decide) (by decide)
  rw [hW]
  exact ⟨he, blk_cell hk 0, blk_frozen hk 0, hb⟩
theorem R_laid {α : Type} {d : Kd α} {e base : Nat} {ok : Nat → Prop} {w1 : World} {gT gR : Nat} {cT cR : Array Value} {x v r0 r1 r2 r3 r4 r5 : Value} {xs : List α} (h : d.R e w1 base ok v xs) (hT : w1.heap[gT]? = some (.cells cT 42 (0, 0))) (hR : w1.heap[gR]? = some (.cells cR 47 (0, 0))) (ht : ∀ q, q ∈ e :: d.E → q ≠ 42) (hr : ∀ q, q ∈ e :: d.E → q ≠ 47) :
    d.R e (laidR w1 gT gR x r0 r1 r2 r3 r4 r5) base ok v xs :=
  Kd.R_mono (Kd.R_move (Kd.R_types (Kd.R_types h hT ht) hR hr) (fun k hk => laidR_keep hk.1.2 hk.2)) (fun k hk => hk.1.1)
theorem R_keepT {α : Type} {d : Kd α} {e base : Nat} {ok : Nat → Prop} {W W' : World} {v : Value} {xs : List α} (h : d.R e W base ok v xs) (hE : 102 ∉ e :: d.E) (hk : KeepT W W') : d.R e W' base ok v xs :=
  Kd.R_mono (Kd.R_move (Kd.R_bound h) (fun k hk2 => by
    obtain ⟨-, -, -, q, hq, cells, hc⟩ := hk2
    rw [hk k cells q hc (fun e => hE (e ▸ hq)), hc])) (fun _ hk => hk.1)
/-- What stands there behind caught. -/
structure DoA (B b g cap : Nat) (l' : List S58) (r : S47) (o : S39) (Ad : Option Addr) (cd : Nat) (vd vn : Value) (W w4 : World) : Prop where
  wk : Wk w4 b (.slice (some ⟨g, 0, none⟩) l'.length cap) (opV o Ad cd [.int .i64 0, vd, vn, .int .i64 r.f3, .int .i64 r.f4, .int .i64 r.f5])
  nodes : Kd.S k58 58 w4 B (fun k => k ≠ b) (.slice (some ⟨g, 0, none⟩) l'.length cap) l'
  dat : Kd.R (Kd.int .u8) 5 w4 B (fun k => k ≠ b) vd r.f1
  nam : Kd.R Kd.string 9 w4 B (fun k => k ≠ b) vn r.f2
  bel : Below B W w4
theorem do_after {B b : Nat} {l' : List S58} {r : S47} {o : S39} {Ad : Option Addr} {cd : Nat} {w W w3 w4 : World} {l : List S58} (hs : DoS B b l o Ad cd w W) (h : DoQ B b l' r o Ad cd W w3) (h4 : w4 = w3.setCell ⟨b + 1, 0, none⟩ (.int .i64 0)) (hl : 0 < l'.length) :
    ∃ vd vn g cap, DoA B b g cap l' r o Ad cd vd vn W w4 := by
  obtain ⟨h0, ⟨vd, vn, ⟨hBb, v, hw, hS⟩, h1, h2⟩, hb⟩ := h
  obtain ⟨g, cap, rfl, -, -, -⟩ := Kd.S_form hS hl
  have he := hb.keep _ _ _ hs.err (by decide) (by decide)
  subst h4
  refine ⟨vd, vn, g, cap, ⟨blk_far (p := ⟨b + 1, 0, none⟩) hw (Nat.ne_of_lt (Nat.lt_succ_self b)) _, Kd.S_set hS he (by decide) 0 _, Kd.R_set h1 he (by decide) 0 _, Kd.R_set h2 he (by decide) 0 _, hb.bel.setCell (p := ⟨b + 1, 0, none⟩) (Nat.le_succ_of_le hBb) _⟩⟩
set_option maxHeartbeats 8000000 in
theorem do_ok (A : Option Addr) (c : Nat) (l : List S58) (o : S39) (Ad : Option Addr) (cd : Nat) (w : World) (hr : Kd.C k58 w A l.length l) (hc : l.length ≤ c) (hrd : Kd.C (Kd.int .u8) w Ad o.f5.length o.f5) (hcd : o.f5.length ≤ cd) (ht : Rt l) (hp : o.f1.size < 10000000) (hq : o.f2.size < 10000000) :
    Calls Tryd.prog 29 #[.agg #[.slice A l.length c], .agg #[.int .i64 o.f0, .string o.f1, .string o.f2, .int .i64 o.f3, .int .i64 o.f4, .slice Ad o.f5.length cd]] w fun e w' => Handed w (doF l o) e w' := by
  have HC := Aside0.mk hr
  have HCD := Aside0.mk hrd
  have HT := Aside0.mk ht
  have hb := (right_iff l).2 ht
  have hlp : 0 < l.length := ht.pr.wf.pos
  have hl56 : l.length ≤ 56 := ht.pr.le
  have h64 : ∀ k, (nd l k).f3.length ≤ 64 := ht.pr.ents
  have HM : Aside0 (∀ k, (nd l k).f3.length < 1000000000000) := ⟨fun k => by have := h64 k; omega⟩
  have hsz : ∀ k, (nd l k).f2.length ≤ 46368 := ht.pr.size
  have HDX : Aside0 (∀ x ∈ l, x.f2.length < 1000000000 ∧ x.f3.length < 1000000000) := ⟨fun x hx => by
    obtain ⟨k, hk, rfl⟩ := List.getElem_of_mem hx
    have h1 := h64 k
    have h2 := hsz k
    rw [nd_get hk] at h1 h2
    exact ⟨by omega, by omega⟩⟩
  have HD2 : Aside0 (∀ k, (nd l k).f2.length < 1000000000) := ⟨fun k => by have := hsz k; omega⟩
  obtain ⟨ad, hA⟩ : ∃ ad, A = some ad := by
    obtain ⟨ad, h, _⟩ := hr.2.2 hlp
    exact ⟨ad, h⟩
  subst hA
  have HN4 := Aside0.mk (new4 w (.cells #[.slice (some ad) l.length c] 42) (.cells #[.int .i64 o.f0, .string o.f1, .string o.f2, .int .i64 o.f3, .int .i64 o.f4, .slice Ad o.f5.length cd] 39) (.cells #[.slice none 0 0] 42) (.cells #[.int .i64 0, .slice none 0 0, .slice none 0 0, .int .i64 0, .int .i64 0, .int .i64 0] 47))
  clear hr hrd ht h64 hsz
  cases hwf : workF l o with
  | inr n =>
    have hdf : doF l o = (l, { res0 with f0 := n }) := by unfold doF; rw [hwf]
    rw [hdf]
    have HWF := Aside0.mk hwf
    have hnz : (n != 0) = true := bne_iff_ne.2 (workF_err hwf)
    clear hdf hwf
    go_enter Tryd.func29, Tryd.ntmps29
    go_wp2_with (go_at_call 30; (with_reducible refine (right_walk (some ad) c l _ hc (Kd.C_below HC.out (by repeat (first | with_reducible exact Below.refl _ _ | with_reducible apply below_drew1 | with_reducible apply below_alloc))) (by omega) HM.out).mono ?_); rintro e w1 ⟨rfl, hb1⟩; rw [hb]; have HBW := Aside0.mk (below_step (below_alloc (below_alloc (below_alloc (below_alloc (Below.refl w.heap.size w) _) _) _) _) hb1); have HX0 := Aside0.mk (blk_below HN4.out.1 hb1); have HX1 := Aside0.mk (blk_below HN4.out.2.1 hb1); have HX2 := Aside0.mk (blk_below HN4.out.2.2.1 hb1); have HX3 := Aside0.mk (blk_below HN4.out.2.2.2 hb1); clear hb1)
    have hy0 := (blk_cell HX0.out 0).trans (show _ = some (Value.slice (some ad) l.length c) from rfl)
    have hq0 := (blk_cell HX1.out 0).trans (show _ = some (Value.int .i64 o.f0) from rfl)
    have hq1 := (blk_cell HX1.out 1).trans (show _ = some (Value.string o.f1) from rfl)
    have hq2 := (blk_cell HX1.out 2).trans (show _ = some (Value.string o.f2) from rfl)
    have hq3 := (blk_cell HX1.out 3).trans (show _ = some (Value.int .i64 o.f3) from rfl)
    have hq4 := (blk_cell HX1.out 4).trans (show _ = some (Value.int .i64 o.f4) from rfl)
    have hq5 := (blk_cell HX1.out 5).trans (show _ = some (Value.slice Ad o.f5.length cd) from rfl)
    have hlt1 := blk_lt HX1.out
    go_region_with (go_at_call 44; (with_reducible refine (tclone_walk ad c l _ (Kd.C_below HC.out (below_drew1 HBW.out)) hc (by omega) hlp HDX.out).mono ?_); rintro e w2 ⟨v, rfl, hs, hb⟩; obtain ⟨g, cap, rfl, hbg, hgl, -⟩ := Kd.S_form hs hlp; have HS := Aside0.mk (Kd.S_lower hs (show w1.heap.size ≤ w1.drew.heap.size from Nat.le_refl _)); have HB2 := Aside0.mk (below_step (below_drew1 (Below.refl w1.heap.size w1)) hb); obtain ⟨hbc, hbf⟩ := bcell HB2.out; clear hs hb)
    all_goals simp only [Act.put]
    all_goals
      have HST := Aside0.mk (do_start ad c l o Ad cd w w1 w2 g cap HCD.out HBW.out HB2.out HS.out)
      go_wp2_with (first
        | (go_at_call 45; (with_reducible refine (caught_bad _ n _ (fun w' => BW w1.heap.size (inner0 (w2.alloc (workO g l.length cap o Ad cd))) w') ?hrun).mono ?_); (case hrun => exact do_run_bad HST.out (World.size_alloc _ _) HT.out hp hq HD2.out hcd HWF.out); rintro e w4 ⟨rfl, w3, hq3, h4⟩; have HB4 := Aside0.mk (show Below w1.heap.size (inner0 (w2.alloc (workO g l.length cap o Ad cd))) w4 from h4 ▸ hq3.bel.setCell (p := ⟨(w2.alloc (workO g l.length cap o Ad cd)).heap.size, 0, none⟩) (by show w1.heap.size ≤ (w2.alloc (workO g l.length cap o Ad cd)).heap.size; rw [World.size_alloc]; exact Nat.le_succ_of_le HB2.out.size) _); have HBA := Aside0.mk (HST.out.bel.trans (Below.mono HB4.out HST.out.size)); have HY0 := Aside0.mk ((HB4.out.block _ (blk_lt HX0.out)).trans (blk_alloc (blk_alloc (blk_below HX0.out HB2.out) _) _)); have HY2 := Aside0.mk ((HB4.out.block _ (blk_lt HX2.out)).trans (blk_alloc (blk_alloc (blk_below HX2.out HB2.out) _) _)); have HY3 := Aside0.mk ((HB4.out.block _ (blk_lt HX3.out)).trans (blk_alloc (blk_alloc (blk_below HX3.out HB2.out) _) _)); have hu0 := (blk_cell HY0.out 0).trans (show _ = some (Value.slice (some ad) l.length c) from rfl); clear hq3 h4)
        | (go_at_call 44; (with_reducible refine (tclone_walk ad c l _ (Kd.C_below HC.out HBA.out) hc (by omega) hlp HDX.out).mono ?_); rintro e w6 ⟨v6, rfl, hs6, hb6⟩; obtain ⟨g6, cap6, rfl, -, -, -⟩ := Kd.S_form hs6 hlp; have HS6 := Aside0.mk hs6; have HB6 := Aside0.mk hb6; have HZ2 := Aside0.mk (blk_below HY2.out hb6); have HZ3 := Aside0.mk (blk_below HY3.out hb6); have hT0 := (blk_cell HZ2.out 0).trans (show _ = some (Value.slice none 0 0) from rfl); have hTf := blk_frozen HZ2.out 0; have hR0 := (blk_cell HZ3.out 0).trans (show _ = some (Value.int .i64 0) from rfl); have hR1 := (blk_cell HZ3.out 1).trans (show _ = some (Value.slice none 0 0) from rfl); have hR2 := (blk_cell HZ3.out 2).trans (show _ = some (Value.slice none 0 0) from rfl); have hR3 := (blk_cell HZ3.out 3).trans (show _ = some (Value.int .i64 0) from rfl); have hR4 := (blk_cell HZ3.out 4).trans (show _ = some (Value.int .i64 0) from rfl); have hR5 := (blk_cell HZ3.out 5).trans (show _ = some (Value.int .i64 0) from rfl); have hRf0 := blk_frozen HZ3.out 0; have hRf1 := blk_frozen HZ3.out 1; have hRf2 := blk_frozen HZ3.out 2; have hRf3 := blk_frozen HZ3.out 3; have hRf4 := blk_frozen HZ3.out 4; have hRf5 := blk_frozen HZ3.out 5; clear hs6 hb6))
      have hTR : w.heap.size + 1 + 1 ≠ w.heap.size + 1 + 1 + 1 := by omega
      have hD0 := (Kd.R_reads' (R_laid (x := .slice (some ⟨g6, 0, none⟩) l.length cap6) (r0 := .int .i64 n) (r1 := .slice none 0 0) (r2 := .slice none 0 0) (r3 := .int .i64 0) (r4 := .int .i64 0) (r5 := .int .i64 0) (Kd.S_R HS6.out) HZ2.out HZ3.out (by decide) (by decide))).2
      refine bodyPost_ret (results_cc rfl _ _ (w.heap.size + 1 + 1) (w.heap.size + 1 + 1 + 1) 42 47 _ _ (0, 0) (0, 0) _ _ rfl (laidR_T HZ2.out hTR) Tryd.underlying42 rfl (by kernel_rfl) rfl (laidR_R HZ3.out hTR) Tryd.underlying47 rfl (by kernel_rfl)) rfl ⟨_, _, none, 0, none, 0, rfl, hD0.1, hD0.2, Nat.le_refl _, Kd.C_nil _ _, Nat.le_refl _, Kd.C_nil _ _, ?_⟩
      exact laidR_below (below_step HBA.out HB6.out) (by omega) (by omega)
  | inl lr =>
    obtain ⟨l', r⟩ := lr
    have hdf : doF l o = (num l', r) := by unfold doF; rw [hwf]
    rw [hdf]
    have HWF := Aside0.mk hwf
    clear hdf hwf
    go_enter Tryd.func29, Tryd.ntmps29
    go_wp2_with (go_at_call 30; (with_reducible refine (right_walk (some ad) c l _ hc (Kd.C_below HC.out (by repeat (first | with_reducible exact Below.refl _ _ | with_reducible apply below_drew1 | with_reducible apply below_alloc))) (by omega) HM.out).mono ?_); rintro e w1 ⟨rfl, hb1⟩; rw [hb]; have HBW := Aside0.mk (below_step (below_alloc (below_alloc (below_alloc (below_alloc (Below.refl w.heap.size w) _) _) _) _) hb1); have HX0 := Aside0.mk (blk_below HN4.out.1 hb1); have HX1 := Aside0.mk (blk_below HN4.out.2.1 hb1); have HX2 := Aside0.mk (blk_below HN4.out.2.2.1 hb1); have HX3 := Aside0.mk (blk_below HN4.out.2.2.2 hb1); clear hb1)
    have hy0 := (blk_cell HX0.out 0).trans (show _ = some (Value.slice (some ad) l.length c) from rfl)
    have hq0 := (blk_cell HX1.out 0).trans (show _ = some (Value.int .i64 o.f0) from rfl)
    have hq1 := (blk_cell HX1.out 1).trans (show _ = some (Value.string o.f1) from rfl)
    have hq2 := (blk_cell HX1.out 2).trans (show _ = some (Value.string o.f2) from rfl)
    have hq3 := (blk_cell HX1.out 3).trans (show _ = some (Value.int .i64 o.f3) from rfl)
    have hq4 := (blk_cell HX1.out 4).trans (show _ = some (Value.int .i64 o.f4) from rfl)
    have hq5 := (blk_cell HX1.out 5).trans (show _ = some (Value.slice Ad o.f5.length cd) from rfl)
    have hlt1 := blk_lt HX1.out
    go_region_with (go_at_call 44; (with_reducible refine (tclone_walk ad c l _ (Kd.C_below HC.out (below_drew1 HBW.out)) hc (by omega) hlp HDX.out).mono ?_); rintro e w2 ⟨v, rfl, hs, hb⟩; obtain ⟨g, cap, rfl, hbg, hgl, -⟩ := Kd.S_form hs hlp; have HS := Aside0.mk (Kd.S_lower hs (show w1.heap.size ≤ w1.drew.heap.size from Nat.le_refl _)); have HB2 := Aside0.mk (below_step (below_drew1 (Below.refl w1.heap.size w1)) hb); obtain ⟨hbc, hbf⟩ := bcell HB2.out; clear hs hb)
    all_goals simp only [Act.put]
    all_goals
      have HST := Aside0.mk (do_start ad c l o Ad cd w w1 w2 g cap HCD.out HBW.out HB2.out HS.out)
      go_wp2_with (go_at_call 45; (with_reducible refine (caught_ok _ _ (DoQ w1.heap.size w2.heap.size l' r o Ad cd (inner0 (w2.alloc (workO g l.length cap o Ad cd)))) ?hrun).mono ?_); (case hrun => exact do_run_ok HST.out (World.size_alloc _ _) HT.out hp hq HD2.out hcd HWF.out); rintro e w4 ⟨rfl, w3, hq3, h4⟩; have HQ := Aside0.mk hq3; have H4 := Aside0.mk h4; clear hq3 h4)
      have hpr := work_pr HT.out HWF.out
      obtain ⟨vd, vn, g', cap', hA⟩ := do_after (w4 := w4) HST.out HQ.out (H4.out.trans (by rw [World.size_alloc])) hpr.wf.pos
      have h0 := HQ.out.1
      have HPR := Aside0.mk hpr
      have HA := Aside0.mk hA
      obtain ⟨Ad', cd', rfl⟩ := Kd.R_slice hA.dat
      obtain ⟨An', cn', rfl⟩ := Kd.R_slice hA.nam
      have hsz2 := HB2.out.size
      have hsz1 := HBW.out.size
      have HY2 := Aside0.mk ((hA.bel.block _ (blk_lt HX2.out)).trans (blk_alloc (blk_alloc (blk_below HX2.out HB2.out) _) _))
      have HY3 := Aside0.mk ((hA.bel.block _ (blk_lt HX3.out)).trans (blk_alloc (blk_alloc (blk_below HX3.out HB2.out) _) _))
      have hz0 := (blk_cell hA.wk 0).trans (show _ = some (Value.slice (some ⟨g', 0, none⟩) l'.length cap') from rfl)
      have hz7 := (blk_cell hA.wk 7).trans (show _ = some (Value.int .i64 0) from rfl)
      have hz8 := (blk_cell hA.wk 8).trans (show _ = some (Value.slice Ad' r.f1.length cd') from rfl)
      have hz9 := (blk_cell hA.wk 9).trans (show _ = some (Value.slice An' r.f2.length cn') from rfl)
      have hz10 := (blk_cell hA.wk 10).trans (show _ = some (Value.int .i64 r.f3) from rfl)
      have hz11 := (blk_cell hA.wk 11).trans (show _ = some (Value.int .i64 r.f4) from rfl)
      have hz12 := (blk_cell hA.wk 12).trans (show _ = some (Value.int .i64 r.f5) from rfl)
      have hBle : w1.heap.size ≤ w4.heap.size := Nat.le_trans (Nat.le_trans hsz2 (Nat.le_trans (Nat.le_succ _) (by simp [inner0]))) hA.bel.size
      have HBD : Aside0 (w1.heap.size ≤ w4.drew.heap.size) := ⟨hBle⟩
      clear hA hpr hbc hbf
      have hlt4 : w2.heap.size < w4.heap.size := blk_lt HA.out.wk
      have hlt5 : w.heap.size + 1 + 1 < w4.heap.size := blk_lt HY2.out
      have hlt6 : w.heap.size + 1 + 1 + 1 < w4.heap.size := blk_lt HY3.out
      have hne2 : w2.heap.size ≠ w.heap.size + 1 + 1 := by have := blk_lt HX2.out; omega
      have hne3 : w2.heap.size ≠ w.heap.size + 1 + 1 + 1 := by have := blk_lt HX3.out; omega
      go_region_with (go_at_call 47; (with_reducible refine (number_walk w1.heap.size g' cap' (fun k => k ≠ w2.heap.size) l' _ (Kd.S_drew HA.out.nodes) HPR.out.wf HPR.out.le HPR.out.ents HBD.out).mono ?_); rintro e w5 ⟨v5, rfl, hs5, hb5, hk5⟩; obtain ⟨g5, c5, rfl, -, -, -⟩ := Kd.S_form hs5 (num_wf HPR.out.wf).pos; have HS5 := Aside0.mk hs5; have HB5 := Aside0.mk hb5; have HK5 := Aside0.mk (show KeepT w4 w5 from hk5); have HW5 := Aside0.mk (HK5.out _ _ _ HA.out.wk (by decide)); have HZ2 := Aside0.mk (HK5.out _ _ _ HY2.out (by decide)); have HZ3 := Aside0.mk (HK5.out _ _ _ HY3.out (by decide)); have hv7 := (blk_cell HW5.out 7).trans (show _ = some (Value.int .i64 0) from rfl); have hv8 := (blk_cell HW5.out 8).trans (show _ = some (Value.slice Ad' r.f1.length cd') from rfl); have hv9 := (blk_cell HW5.out 9).trans (show _ = some (Value.slice An' r.f2.length cn') from rfl); have hv10 := (blk_cell HW5.out 10).trans (show _ = some (Value.int .i64 r.f3) from rfl); have hv11 := (blk_cell HW5.out 11).trans (show _ = some (Value.int .i64 r.f4) from rfl); have hv12 := (blk_cell HW5.out 12).trans (show _ = some (Value.int .i64 r.f5) from rfl); have hT0 := (blk_cell HZ2.out 0).trans (show _ = some (Value.slice none 0 0) from rfl); have hTf := blk_frozen HZ2.out 0; have hR0 := (blk_cell HZ3.out 0).trans (show _ = some (Value.int .i64 0) from rfl); have hR1 := (blk_cell HZ3.out 1).trans (show _ = some (Value.slice none 0 0) from rfl); have hR2 := (blk_cell HZ3.out 2).trans (show _ = some (Value.slice none 0 0) from rfl); have hR3 := (blk_cell HZ3.out 3).trans (show _ = some (Value.int .i64 0) from rfl); have hR4 := (blk_cell HZ3.out 4).trans (show _ = some (Value.int .i64 0) from rfl); have hR5 := (blk_cell HZ3.out 5).trans (show _ = some (Value.int .i64 0) from rfl); have hRf0 := blk_frozen HZ3.out 0; have hRf1 := blk_frozen HZ3.out 1; have hRf2 := blk_frozen HZ3.out 2; have hRf3 := blk_frozen HZ3.out 3; have hRf4 := blk_frozen HZ3.out 4; have hRf5 := blk_frozen HZ3.out 5; clear hs5 hb5 hk5)
      all_goals go_wp2
      all_goals
        have hTR : w.heap.size + 1 + 1 ≠ w.heap.size + 1 + 1 + 1 := by omega
        have hD1 := (Kd.R_reads' (R_laid (x := .slice (some ⟨g5, 0, none⟩) (num l').length c5) (r0 := .int .i64 0) (r1 := .slice Ad' r.f1.length cd') (r2 := .slice An' r.f2.length cn') (r3 := .int .i64 r.f3) (r4 := .int .i64 r.f4) (r5 := .int .i64 r.f5) (R_keepT HA.out.dat (by decide) HK5.out) HZ2.out HZ3.out (by decide) (by decide))).2
        have hD2 := (Kd.R_reads' (R_laid (x := .slice (some ⟨g5, 0, none⟩) (num l').length c5) (r0 := .int .i64 0) (r1 := .slice Ad' r.f1.length cd') (r2 := .slice An' r.f2.length cn') (r3 := .int .i64 r.f3) (r4 := .int .i64 r.f4) (r5 := .int .i64 r.f5) (R_keepT HA.out.nam (by decide) HK5.out) HZ2.out HZ3.out (by decide) (by decide))).2
        have hD0 := (Kd.R_reads' (R_laid (x := .slice (some ⟨g5, 0, none⟩) (num l').length c5) (r0 := .int .i64 0) (r1 := .slice Ad' r.f1.length cd') (r2 := .slice An' r.f2.length cn') (r3 := .int .i64 r.f3) (r4 := .int .i64 r.f4) (r5 := .int .i64 r.f5) (Kd.S_R HS5.out) HZ2.out HZ3.out (by decide) (by decide))).2
        refine bodyPost_ret (results_cc rfl _ _ (w.heap.size + 1 + 1) (w.heap.size + 1 + 1 + 1) 42 47 _ _ (0, 0) (0, 0) _ _ rfl (laidR_T HZ2.out hTR) Tryd.underlying42 rfl (by kernel_rfl) rfl (laidR_R HZ3.out hTR) Tryd.underlying47 rfl (by kernel_rfl)) rfl ⟨_, _, _, _, _, _, ?_, hD0.1, hD0.2, hD1.1, hD1.2, hD2.1, hD2.2, ?_⟩
        · rw [h0]
        · exact laidR_below ((below_drew1 (HST.out.bel.trans (Below.mono HA.out.bel HST.out.size))).trans (Below.mono HB5.out HST.out.size)) (by omega) (by omega)
end Go.Proofs.YtllfjmmdackgdaaDoor.PZ
end
/-! GBox -/
section
namespace Go.Proofs.YtllfjmmdackgdaaDoor.PZ
open Go.RowKit Go.Proofs.YtllfjmmdackgdaaDoorW.PrintWords Go.Proofs.YtllfjmmdackgdaaDoorW.PrintLast Go.Proofs.YtllfjmmdackgdaaDoorW.PrintMore Go.Proofs.YtllfjmmdackgdaaDoor.B TD
set_option linter.unusedVariables false
theorem add_block (a : Addr) (n : Nat) : (a.add n).block = a.block := by
  unfold Addr.add
  split <;> rfl
theorem not_box {w : World} {ad : Addr} {g T : Nat} {u : Value} {A : Option Addr} {n c : Nat} {f : Nat × Nat} (hg : w.heap[g]? = some (.cells #[.slice A n c] T f)) (h : w.cell? ad = some u) (hu : ∀ A n c, u ≠ .slice A n c) : ad.block ≠ g := by
  intro e
  unfold World.cell? at h
  rw [e, hg] at h
  dsimp only at h
  split at h
  · cases h
  · rcases Nat.eq_zero_or_pos ad.off with h0 | h0
    · rw [h0] at h
      exact hu _ _ _ (Option.some.inj h).symm
    · rw [Array.getElem?_eq_none (by simp; omega)] at h
      cases h
theorem cell_apart {w W : World} {g : Nat} (hk : ∀ k, k ≠ g → W.heap[k]? = w.heap[k]?) {ad : Addr} (h : ad.block ≠ g) : W.cell? ad = w.cell? ad := by
  unfold World.cell?
  rw [hk _ h]
section
variable {w W : World} {g T : Nat} {Ag : Option Addr} {ng cg : Nat} {f : Nat × Nat} {A : Option Addr} {n : Nat}
theorem C_flat {α : Type} {d : Kd α} {xs : List α} (hf : ∀ x cs, d.K w x cs → ∀ u ∈ cs, ∀ A n c, u ≠ .slice A n c) (hK : ∀ x cs, d.K w x cs → d.K W x cs) (hg : w.heap[g]? = some (.cells #[.slice Ag ng cg] T f)) (hk : ∀ k, k ≠ g → W.heap[k]? = w.heap[k]?) (h : d.C w A n xs) : d.C W A n xs :=
  ⟨h.1, h.2.1, fun hn => by
    obtain ⟨ad, e, hc⟩ := h.2.2 hn
    refine ⟨ad, e, fun j p hj => ?_⟩
    obtain ⟨c, hs, hr, hcell⟩ := hc j p hj
    exact ⟨c, hs, hK _ _ hr, fun i u hu => (cell_apart hk (not_box hg (hcell i u hu) (hf _ _ hr u (List.mem_of_getElem? hu)))).trans (hcell i u hu)⟩⟩
theorem C_int_box {k : IntKind} {xs : List Int} (hg : w.heap[g]? = some (.cells #[.slice Ag ng cg] T f)) (hk : ∀ k, k ≠ g → W.heap[k]? = w.heap[k]?) (h : (Kd.int k).C w A n xs) : (Kd.int k).C W A n xs :=
  C_flat (w := w) (W := W) (d := Kd.int k) (fun x cs h u hu A n c e => by subst h; rw [List.mem_singleton.1 hu] at e; cases e) (fun _ _ h => h) hg hk h
theorem C_E_box {xs : List S102} (hg : w.heap[g]? = some (.cells #[.slice Ag ng cg] T f)) (hk : ∀ k, k ≠ g → W.heap[k]? = w.heap[k]?) (h : k102.C w A n xs) : k102.C W A n xs :=
  C_flat (w := w) (W := W) (fun x cs h u hu A n c e => by rw [k102_open h] at hu; subst e; simp at hu) (fun x cs h => by rw [k102_open h]; exact k102_mk W x) hg hk h
theorem C_box {xs : List S58} (hg : w.heap[g]? = some (.cells #[.slice Ag ng cg] T f)) (hk : ∀ k, k ≠ g → W.heap[k]? = w.heap[k]?) (h : k58.C w A n xs) : k58.C W A n xs :=
  ⟨h.1, h.2.1, fun hn => by
    obtain ⟨ad, e, hc⟩ := h.2.2 hn
    refine ⟨ad, e, fun j p hj => ?_⟩
    obtain ⟨c, hs, hr, hcell⟩ := hc j p hj
    obtain ⟨A2, c2, A3, c3, rfl, l2, g2, l3, g3⟩ := k58_open hr
    have hb : ad.block ≠ g := by
      have := not_box hg (hcell 0 _ rfl) (by intro A n c h; cases h)
      rwa [add_block] at this
    exact ⟨_, hs, k58_mk W p l2 (C_int_box hg hk g2) l3 (C_E_box hg hk g3), fun i u hu => (cell_apart hk (by rw [add_block]; exact hb)).trans (hcell i u hu)⟩⟩
end
end Go.Proofs.YtllfjmmdackgdaaDoor.PZ
end
/-! TAlive -/
section
namespace Go.Proofs.YtllfjmmdackgdaaDoor.PZ
open Go.RowKit Go.Proofs.YtllfjmmdackgdaaDoorW.PrintWords Go.Proofs.YtllfjmmdackgdaaDoorW.PrintLast Go.Proofs.YtllfjmmdackgdaaDoorW.PrintMore TD
set_option maxRecDepth 100000
/-- The walk over the nodes, by rounds. -/
def goF (n : Nat) (ch : Nat → List Nat) : Nat → List Nat → List Nat → Option (List Nat)
  | _, [], out => some out
  | 0, _ :: _, _ => none
  | f + 1, k :: row, out => if k ∈ out ∨ n ≤ k then goF n ch f row out else goF n ch f (ch k ++ row) (out ++ [k])
theorem goF_go (n : Nat) (ch : Nat → List Nat) : ∀ (f : Nat) (row out r : List Nat), goF n ch f row out = some r → go n ch row out = r
  | f, [], out, r, h => by
    rw [go_nil]
    cases f <;> exact Option.some.inj h
  | 0, k :: row, out, r, h => nomatch h
  | f + 1, k :: row, out, r, h => by
    rw [go]
    unfold goF at h
    split at h
    · rename_i hk
      rw [dif_pos hk]
      exact goF_go n ch f row out r h
    · rename_i hk
      rw [dif_neg hk]
      exact goF_go n ch f _ _ r h
theorem mt_of {l : List S58} {r : List Nat} (f : Nat) (h : goF l.length (chl l) f [0] [] = some r) : mt l = r := goF_go _ _ f _ _ _ h
def numF (r : List Nat) (l : List S58) : List S58 := relink (r.map (fun k => ⟨(nd l k).f0, 0, (nd l k).f2, (nd l k).f3.map (ren (fun k => r.idxOf k))⟩))
theorem num_of {l : List S58} {r : List Nat} (h : mt l = r) : num l = numF r l := by subst h; rfl
def okAtF (r : List Nat) (l : List S58) (k : Nat) : Bool :=
  decide (r.length = l.length) && decide (r.getD k 0 = k) && decide (own l k = (nd l k).f1) && !(decide (0 < k) && decide ((nd l k).f0 = 2) && !decide (ups l k = 1))
def rightF (r : List Nat) (l : List S58) : Bool :=
  decide (1 ≤ l.length) && decide (l.length ≤ 56) && decide ((nd l 0).f0 = 2) && l.all (fun x => saneN x l.length) && (List.range l.length).all (okAtF r l)
theorem right_of {l : List S58} {r : List Nat} (h : mt l = r) : rightB l = rightF r l := by subst h; rfl
theorem do_of {l l' : List S58} {o : S39} {r : S47} (h : workF l o = .inl (l', r)) : doF l o = (num l', r) := by unfold doF; rw [h]
def al0 : List S58 := [⟨2, 2, [], []⟩]
def alMk : S39 := ⟨2, ⟨#[47, 97]⟩, ByteArray.empty, 0, 0, []⟩
def alCr : S39 := ⟨1, ⟨#[47, 97, 47, 98]⟩, ByteArray.empty, 0, 0, []⟩
def alLs : S39 := ⟨11, ⟨#[47, 97]⟩, ByteArray.empty, 0, 0, []⟩
def alRd : S39 := ⟨5, ⟨#[47, 97]⟩, ByteArray.empty, 0, 0, []⟩
def al1' : List S58 := [⟨2, 2, [], [⟨⟨#[97]⟩, 1⟩]⟩, ⟨2, 0, [], []⟩]
def al1 : List S58 := [⟨2, 3, [], [⟨⟨#[97]⟩, 1⟩]⟩, ⟨2, 2, [], []⟩]
def al2' : List S58 := [⟨2, 3, [], [⟨⟨#[97]⟩, 1⟩]⟩, ⟨2, 2, [], [⟨⟨#[98]⟩, 2⟩]⟩, ⟨1, 0, [], []⟩]
def al2 : List S58 := [⟨2, 3, [], [⟨⟨#[97]⟩, 1⟩]⟩, ⟨2, 2, [], [⟨⟨#[98]⟩, 2⟩]⟩, ⟨1, 1, [], []⟩]
theorem rt_root : Rt al0 := (right_iff al0).1 ((right_of (mt_of 9 (by decide +kernel : goF _ _ 9 [0] [] = some [0]))).trans (by decide +kernel))
theorem al_mk : doF al0 alMk = (al1, res0) := by
  rw [do_of (l' := al1') (r := res0) (by kernel_rfl), num_of (mt_of 9 (by decide +kernel : goF _ _ 9 [0] [] = some [0, 1]))]
  kernel_rfl
theorem al_cr : doF al1 alCr = (al2, res0) := by
  rw [do_of (l' := al2') (r := res0) (by kernel_rfl), num_of (mt_of 9 (by decide +kernel : goF _ _ 9 [0] [] = some [0, 1, 2]))]
  kernel_rfl
theorem al_ls : (doF al2 alLs).2 = { res0 with f2 := [⟨#[98]⟩] } := by
  rw [do_of (l' := al2) (r := { res0 with f2 := [⟨#[98]⟩] }) (by kernel_rfl)]
theorem al_rd : (doF al2 alRd).2 = { res0 with f0 := 25 } := by
  have h : workF al2 alRd = .inr 25 := by kernel_rfl
  unfold doF
  rw [h]
theorem al_find : findF al2 ⟨#[47, 97, 47, 98]⟩ = (2, 0) := by kernel_rfl
theorem rt_al1 : Rt al1 := by
  have h := do_rt (l := al0) rt_root alMk
  rwa [al_mk] at h
theorem rt_al2 : Rt al2 := by
  have h := do_rt (l := al1) rt_al1 alCr
  rwa [al_cr] at h
theorem al_mk' : doF al0 ⟨2, ⟨#[47, 97]⟩, ⟨#[]⟩, 0, 0, []⟩ = (al1, ⟨0, [], [], 0, 0, 0⟩) := al_mk
theorem al_cr' : doF al1 ⟨1, ⟨#[47, 97, 47, 98]⟩, ⟨#[]⟩, 0, 0, []⟩ = (al2, ⟨0, [], [], 0, 0, 0⟩) := al_cr
theorem al_ls' : ∃ l, doF al2 ⟨11, ⟨#[47, 97]⟩, ⟨#[]⟩, 0, 0, []⟩ = (l, ⟨0, [], [⟨#[98]⟩], 0, 0, 0⟩) := ⟨_, Prod.ext rfl al_ls⟩
theorem al_rd' : ∃ l, doF al2 ⟨5, ⟨#[47, 97]⟩, ⟨#[]⟩, 0, 0, []⟩ = (l, ⟨25, [], [], 0, 0, 0⟩) := ⟨_, Prod.ext rfl al_rd⟩
end Go.Proofs.YtllfjmmdackgdaaDoor.PZ
end
/-! PZx1 -/
section
namespace Go.Proofs.YtllfjmmdackgdaaDoor.PZ
open Go.RowKit Go.Proofs.YtllfjmmdackgdaaDoorW.PrintWords Go.Proofs.YtllfjmmdackgdaaDoorW.PrintLast Go.Proofs.YtllfjmmdackgdaaDoorW.PrintMore
attribute [local go_sem] max2_int min2_int max_two min_two max_three min_three max_four min_four   -- for this text's walks alone
set_option linter.unusedVariables false
set_option linter.unusedSimpArgs false
theorem eqA102 (d : Nat) (w : World) (x0 y0 : ByteArray) (x1 y1 : Int) :
    (Op.equalIn (d + 2) 102 (.agg #[.string x0, .int .i64 x1]) (.agg #[.string y0, .int .i64 y1])).run Tryd.prog w = .ok (x0.toList == y0.toList && (x1 == y1)) w := by
  refine eqA_of Tryd.underlying102 (by kernel_rfl) ?_
  refine eqf_cons (by rfl) (by go_simp; rfl) (by go_simp; rfl) (by go_simp) ?_
  exact eqf_last (by rfl) (by go_simp; rfl) (by go_simp; rfl) (by go_simp)
end Go.Proofs.YtllfjmmdackgdaaDoor.PZ
end
