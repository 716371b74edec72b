import Derived.Test.YtbhjggbijkjmnaaGreatDoorM14
import Derived.Test.YtbhjggbijkjmnaaGreatDoorM05
import Derived.Outline
import Derived.Maps.Views
import Derived.Maps.AppendAt
import Derived.Test.YtbhjggbijkjmnaaGreatDoorM13
set_option linter.unusedVariables false
set_option linter.unusedSimpArgs false
section
namespace Go.Proofs.YtbhjggbijkjmnaaGreatDoor.PZ
open Go.RowKit Go.Proofs.YtbhjggbijkjmnaaGreatDoorW.PrintWords Go.Proofs.YtbhjggbijkjmnaaGreatDoorW.PrintLast Go.Proofs.YtbhjggbijkjmnaaGreatDoorW.PrintMore Go.Proofs.YtbhjggbijkjmnaaGreatDoor.B Go.Proofs.YtbhjggbijkjmnaaGreatDoor.Ord TD
set_option maxRecDepth 100000
section
attribute [local go_sem] Oper.semAt_some
open Go.RowKit Go.Shelf Go.Proofs.YtbhjggbijkjmnaaGreatDoorW.PrintWords Go.Proofs.YtbhjggbijkjmnaaGreatDoorW.PrintLast Go.Proofs.YtbhjggbijkjmnaaGreatDoorW.PrintMore TD
theorem Qhb {H : Type} {P : Program} {e : TypeId} (he : P.underlying e = some .bool) {v : Value} {z : DataW H × List MemPlace} (h : plainElem P e v = some z) : ∃ b, v = .bool b ∧ z = (.lit (.bool b), []) := by
 unfold plainElem at h
 rw [he] at h
 cases v <;> simp at h
 obtain ⟨rfl⟩ := h
 exact ⟨_, rfl, rfl⟩
theorem Qcy {H : Type} {P : Program} {F : Fence} {nF : Nat} (w : World) {ops : Array Oper} {rest : List Oper} {o : Oper} {a : Act} {Q : Exit → Act → World → Prop}
  (hg : o.guard = none) (m x : Operand) (t : TypeId) (hop : o.op = Op.lookup t m x false)
  (k e : TypeId) (K : Go.Maps.Keyed P k) (ht : P.underlying t = some (.map k e)) (he : P.underlying e = some .bool) (hz : (zeroValue e).run P w = .ok (.bool false) w) (b n : Nat) (D : DataW H)
  (hm : a.eval m = .map (some b)) (hown : w.ownsMap P k (plainElem P e) b n D) (key : Value) (kl : Lit) (hx : a.eval x = key) (hkey : keyOf P k key = some kl) (r : Bool) (hr : D.atKey kl (.lit (.bool false)) = .lit (.bool r))
  (hK : wpListIn F nF P ops Q rest (a.put o.dst (.bool r)) w) :
  wpListIn F nF P ops Q (o :: rest) a w := by
 refine wpListIn_plain hg fun K' hK' => ?_
 obtain ⟨v, ps, hrun, hv⟩ := hown.lookup K ht hz (plainElem_bool he false) hkey
 obtain ⟨c, rfl, hc⟩ := Qhb he hv
 simp only [Prod.mk.injEq] at hc
 have e2 := hr.symm.trans hc.1
 have hcr : c = r := by injection e2 with e2; injection e2 with e2; exact e2.symm
 subst hcr
 unfold Oper.wpIn
 refine ⟨by simp [Oper.about, hop], ?_⟩
 rw [Oper.semAt_plain F _ _ (by rw [hop]; intro c hc'; cases hc')]
 simp [execOp, hop, hm, hx, hrun, Result.andThen]
 exact hK' _ _ hK
theorem i64_wf (k : Nat) (h : k < 1000000000000) : (Lit.int .i64 (k : Int)).wf = true := by
 have h1 : IntKind.i64.min = -9223372036854775808 := by decide
 have h2 : IntKind.i64.max = 9223372036854775807 := by decide
 simp only [Lit.wf, h1, h2, Bool.and_eq_true, decide_eq_true_eq]
 omega
def seenD {H : Type} (xs : List Nat) : DataW H := xs.foldl (fun D (x : Nat) => D.put (.int .i64 (x : Int)) (.lit (.bool true))) (.map [])
theorem seenD_snoc {H : Type} (xs : List Nat) (x : Nat) : seenD (H := H) (xs ++ [x]) = (seenD xs).put (.int .i64 (x : Int)) (.lit (.bool true)) := by simp [seenD]
theorem seenD_isMap {H : Type} (xs : List Nat) : Go.Maps.IsMap (seenD (H := H) xs) := by
 have key : ∀ (xs : List Nat) (D : DataW H), Go.Maps.IsMap D → Go.Maps.IsMap (xs.foldl (fun D (x : Nat) => D.put (.int .i64 (x : Int)) (.lit (.bool true))) D) := by
  intro xs
  induction xs with
  | nil => intro D h; exact h
  | cons x r ih => intro D h; exact ih _ (h.put _ _)
 exact key xs _ Go.Maps.isMap_empty
theorem seenD_at {H : Type} (xs : List Nat) (k : Nat) : (seenD (H := H) xs).atKey (.int .i64 (k : Int)) (.lit (.bool false)) = .lit (.bool (decide (k ∈ xs))) := by
 have key : ∀ (m : Nat) (xs : List Nat), xs.length = m → (seenD (H := H) xs).atKey (.int .i64 (k : Int)) (.lit (.bool false)) = .lit (.bool (decide (k ∈ xs))) := by
  intro m
  induction m with
  | zero =>
   intro xs hm
   obtain rfl := List.eq_nil_of_length_eq_zero hm
   simp [seenD]
   rfl
  | succ m ih =>
   intro xs hm
   rcases List.eq_nil_or_concat xs with h | ⟨r, x, h⟩
   · subst h; simp at hm
   ·
    rw [List.concat_eq_append] at h
    subst h
    have hr := ih r (by simp at hm; exact hm)
    rw [seenD_snoc]
    by_cases e : x = k
    ·
     subst e
     rw [Go.Maps.atKey_put_same (seenD_isMap r) (by trivial)]
     simp
    ·
     rw [Go.Maps.atKey_put_other (by intro h2; injection h2 with _ h2; exact e zq3), hr]
     have e2 : ¬ k = x := fun h => e h.symm
     simp [e2]
 exact key _ xs rfl
def mark (D : Nat) : Deferred := { target := .collected D, args := #[] }
theorem leaves_marks {F : Fence} {n : Nat} {P : Program} {fn : Func} {tmps : Array Value} {R : Ending → World → Prop} {base : Nat} (Inv : World → Prop)
  (hput : ∀ W D, Inv W → base ≤ D → W.heap[D]? = some (.deferred (some [])) → Inv (W.putObj D (.deferred none)))
  (hend : ∀ W, Inv W → LeavesInM F n P fn tmps R [] .returning W) :
  ∀ (Ds : List Nat) (W : World), Ds.Nodup → (∀ D ∈ Ds, base ≤ D ∧ W.heap[D]? = some (.deferred (some []))) → Inv W → LeavesInM F n P fn tmps R (Ds.map mark) .returning W := by
 intro Ds
 induction Ds with
 | nil => intro W _ _ h; exact hend W h
 | cons D Ds ih =>
  intro W hn hD hI
  obtain ⟨h1, h2⟩ := List.nodup_cons.1 hn
  obtain ⟨h3, h4⟩ := hD D List.mem_cons_self
  refine ⟨by simp, .inl ⟨D, _, rfl, run_takeDeferred h4, ih _ h2 (fun D' hD' => ?_) (hput W D hI h3 h4)⟩⟩
  obtain ⟨h5, h6⟩ := hD D' (List.mem_cons_of_mem _ hD')
  exact ⟨h5, (World.putObj_heap_other (fun e => h1 (by rw [← e]; exact hD'))).trans h6⟩
structure Keep2 (w W : World) (R : Nat) (row : Option Nat) : Prop where
 os : W.os = w.os
 tape : W.tape = w.tape
 output : W.output = w.output
 size : w.heap.size ≤ W.heap.size
 block : ∀ i, i < w.heap.size → i ≠ R → some i ≠ row → W.heap[i]? = w.heap[i]?
theorem Keep2.refl (w : World) (R : Nat) (row : Option Nat) : Keep2 w w R row := ⟨rfl, rfl, rfl, Nat.le_refl _, fun _ _ _ _ => rfl⟩
theorem Keep2.alloc {w W : World} {R : Nat} {row : Option Nat} (h : Keep2 w W R row) (o : Obj) : Keep2 w (W.alloc o) R row :=
 ⟨h.os, h.tape, h.output, by have := h.size; simp; omega, fun i hi h1 h2 => (Below.heap_alloc W o i (Nat.lt_of_lt_of_le hi h.size)).trans (h.block i hi h1 h2)⟩
theorem Keep2.own {w : World} {R : Nat} {row : Option Nat} {β : Type} : OwnFrom w.heap.size (fun (_ : β) W => Keep2 w W R row) := by
 intro _ X Y r hs hg hr
 refine ⟨hg.os.trans hs.os, hg.tape.trans hs.tape, hg.output.trans hs.output, Nat.le_trans hs.size hg.size, fun i hi h1 h2 => (hg.block i (Nat.lt_of_lt_of_le hi hs.size) (fun e => ?_)).trans (hs.block i hi h1 h2)⟩
 have := (hr i e.symm).1
 omega
theorem Keep2.below {w0 w W : World} {R : Nat} {row : Option Nat} (h : Keep2 w W R row) (hb : Below w0.heap.size w0 w) (hR : w0.heap.size ≤ R) (hrow : ∀ k, row = some k → w0.heap.size ≤ k) : Below w0.heap.size w0 W :=
 hb.trans ⟨h.os, h.tape, h.output, h.size, fun i hi => h.block i (Nat.lt_of_lt_of_le hi hb.size) zq3 (fun e => by have := hrow i e.symm; omega)⟩
theorem box_ne {W : World} {R D : Nat} {t : TypeId} {v : Value} (h : Boxed W R t v) {d : Option (List Deferred)} (hD : W.heap[D]? = some (.deferred d)) : D ≠ R := by
 rintro rfl
 rw [show W.heap[D]? = _ from h] at hD
 cases hD
theorem Qe {H : Type} {W : World} {base size n m b : Nat} {e k : TypeId} {v : Value} {xs : List Value} {P : Program} {R : Value → Option (DataW H × List MemPlace)} {D : DataW H} (h : W.ownsRow base e size v n xs) (hM : W.ownsMap P k R b m D) : v.ownBlock ≠ some b := by
 obtain ⟨es, ck, hh, _⟩ := hM
 intro hv
 obtain ⟨cells, hc⟩ := Qcj h b hv
 rw [hh] at hc
 cases hc
def lenV : Value → Nat
 | .slice _ n _ => n
 | _ => 0
def vals (l : List Nat) : List Value := l.map (fun (k : Nat) => .int .i64 (k : Int))
def MetI (w : World) (A : Option Addr) (cap : Nat) (l : List S52) (a : Act) (W : World) : Prop :=
 ∃ (row out Ds : List Nat) (vr vo : Value), Aside0 (go l.length (chl l) row.reverse out = mt l) ∧ (∀ k ∈ row, k < l.length) ∧ out.Nodup ∧ (∀ k ∈ out, k < l.length) ∧ row.length ≤ 1 + 64 * out.length ∧
  Boxed W (w.heap.size + 1 + 1 + 1) 68 vr ∧ W.ownsRow w.heap.size 3 1 vr row.length (vals row) ∧ W.ownsRow w.heap.size 3 1 vo out.length (vals out) ∧ (∀ k, vr.ownBlock = some k → vo.ownBlock ≠ some k) ∧
  W.ownsMap Tryz.prog 3 (plainElem (H := Unit) Tryz.prog 4) (w.heap.size + 1) out.length (seenD out) ∧ Boxed W w.heap.size 26 (.slice A l.length cap) ∧
  Ds.Nodup ∧ (∀ D ∈ Ds, w.heap.size ≤ D ∧ W.heap[D]? = some (.deferred (some []))) ∧ Below w.heap.size w W ∧
  ∃ u6 u8 u11 u12 u13 u14 u15 u16 u17 u18 u19 u20 u21 u22 u23 u24 u25 u26 u27 u28 u29 u30 u31 u32 u33 u34 u35 u36 u37 u38 u39 u40 u41 u42 u43 u44 u45 u46 u47 : Value, a = { tmps := #[.agg #[.slice A l.length cap], .pointer (some ⟨w.heap.size, 0, none⟩), .slice none 0 0, vo, .map (some (w.heap.size + 1)), .pointer (some ⟨w.heap.size + 1 + 1 + 1, 0, none⟩), u6, undef, u8, .map (some (w.heap.size + 1)), .slice (some ⟨w.heap.size + 1 + 1, 0, none⟩) 1 1, u11, u12, u13, u14, u15, u16, u17, u18, u19, u20, u21, u22, u23, u24, u25, u26, u27, u28, u29, u30, u31, u32, u33, u34, u35, u36, u37, u38, u39, u40, u41, u42, u43, u44, u45, u46, u47, undef], defers := Ds.map mark }
def MetM (w : World) (n : Nat) (a : Act) (W : World) : Nat := (n - lenV (a.tmps.getD 3 undef)) * 65 + (match W.cell? ⟨w.heap.size + 1 + 1 + 1, 0, none⟩ with | some v => lenV v | none => 0)
def MetJ (w W3 : World) (row0 : List Nat) (g : Nat) (ps : List (Nat × S62)) (W : World) : Prop :=
 ∃ v, Boxed W (w.heap.size + 1 + 1 + 1) 68 v ∧ W.ownsRow w.heap.size 3 1 v (row0.length + ps.length) (vals row0 ++ ps.map (fun x => Value.int .i64 x.2.f1)) ∧ (v.ownBlock = some g ∨ ∃ b, v.ownBlock = some b ∧ W3.heap.size ≤ b) ∧
  Keep2 W3 W (w.heap.size + 1 + 1 + 1) (some g)
theorem metJ_own (w W3 : World) (row0 : List Nat) (g : Nat) (hR : w.heap.size + 1 + 1 + 1 < W3.heap.size) : OwnFrom W3.heap.size (MetJ w W3 row0 g) := by
 rintro ps X Y r ⟨v, hv, ho, hb, hk⟩ hg hr
 refine ⟨v, hv.kept hg (fun e => ?_), ho.kept hg ?_, hb, Keep2.own () X Y r hk hg hr⟩
 ·
  have := (hr _ e.symm).1
  omega
 ·
  refine .inr (fun e => ?_)
  cases hvb : v.ownBlock with
  | none =>
   rcases hb with h | ⟨b, h, _⟩ <;> rw [hvb] at h <;> cases h
  | some j =>
   obtain ⟨cells, hc⟩ := Qcj ho j hvb
   obtain ⟨_, o, hoj, hcell⟩ := hr j (e ▸ hvb)
   rw [hc] at hoj
   cases hoj
   cases hcell
theorem bk_vals {l : List S52} {k : Nat} {es : List S62} (he : (nd l k).f3 = es) (hw : Wf l) : (bk es es.length).map (fun x => Value.int .i64 x.2.f1) = vals (chl l k).reverse := by
 unfold chl vals
 rw [he]
 apply List.ext_getElem
 · simp [bk]
 ·
  intro i h1 h2
  have hi : i < es.length := by simpa [bk] using h1
  have hj : es.length - 1 - i < es.length := by omega
  simp only [bk, List.getElem_map, List.getElem_range, List.getElem_reverse, List.length_map]
  have hm : es[es.length - 1 - i] ∈ (nd l k).f3 := by rw [he]; exact List.getElem_mem hj
  have h3 := (hw.ino_lt hm).2.2
  have h4 : rd_T62 es ((es.length - 1 - i : Nat) : Int) = es[es.length - 1 - i] := by simp [rd_T62, List.getD_eq_getElem?_getD, List.getElem?_eq_getElem hj]
  rw [h4, h3]
set_option maxHeartbeats 4000000 in
theorem met_in (F : Fence) (n : Nat) (hM : F.fn 39) (hB : F.fn 72) (hC : F.fn 93) (hro : F.round = none) (hn : 3 ≤ n) (A : Option Addr) (cap : Nat) (l : List S52) (w : World)
  (hcap : l.length ≤ cap) (hc : Kd.C k52 w A l.length l) (hw : Wf l) (h56 : l.length ≤ 56) (h64 : ∀ k, (nd l k).f3.length ≤ 64) :
  CallsIn F n Tryz.prog 39 #[.agg #[.slice A l.length cap]] w fun e W' => ∃ v, e = .returned v ∧ W'.ownsRow w.heap.size 3 1 v (mt l).length (vals (mt l)) ∧ Below w.heap.size w W' := by
 have h1 : 1 ≤ n := by omega
 have hmm := @run_makeMap Tryz.prog
 have HC := am hc
 have HW := am hw
 have H64 := am h64
 clear hc hw h64
 refine callsIn_of_wp_marks Tryz.func39 rfl hM ?_ hro
 simp only [Tryz.ntmps39, List.size_toArray, List.length_cons, List.length_nil, Nat.reduceAdd, Nat.reduceSub, Array.replicate_succ, Array.replicate_zero, List.push_toArray, List.append_toArray, List.nil_append, List.cons_append]
 gi_wp2
 refine wpIn_loop (MetI w A cap l) (MetM w l.length) ?start ?round
 case start =>
  have b0 := Boxed.new w 26 (.slice A l.length cap)
  have m0 := World.ownsMap_made (w.alloc (.cells #[.slice A l.length cap] 26)) Tryz.prog 3 (plainElem (H := Unit) Tryz.prog 4)
  have r0 := World.ownsRow_lit (base := w.heap.size) (e := 3) (size := 1) ((w.alloc (.cells #[.slice A l.length cap] 26)).alloc (.map #[] 0)) #[.int .i64 0] 1 zq20 (by simp [maxLen]) zq14
  have b1 := Boxed.new (((w.alloc (.cells #[.slice A l.length cap] 26)).alloc (.map #[] 0)).alloc (.cells #[.int .i64 0] 3)) 68 (.slice (some ⟨w.heap.size + 1 + 1, 0, none⟩) 1 1)
  simp only [World.size_alloc] at m0 r0 b1
  refine ⟨[0], [], [], _, _, ⟨rfl⟩, ?_, List.nodup_nil, ?_, ?_, b1, ?_, World.ownsRow_nil _ _ _ _, ?_, ?_, ?_, List.nodup_nil, ?_, ?_, _, _, _, _, _, _, _, _, _, _, _, _, _, _, _, _, _, _, _, _, _, _, _, _, _, _, _, _, _, _, _, _, _, _, _, _, _, _, _, rfl⟩
  · intro k hk; simp at hk; subst hk; exact HW.out.pos
  · intro k hk; simp at hk
  · simp
  · exact r0.alloc _
  · intro k _; simp [Value.ownBlock]
  · exact (m0.alloc _).alloc _
  · exact ((b0.alloc _).alloc _).alloc _
  · intro D hD; simp at hD
  · exact ((((Below.refl _ _).alloc (Nat.le_refl _) _).alloc zq14 _).alloc zq20 _).alloc zq20 _
 case round =>
  rintro a W ⟨row, out, Ds, vr, vo, HG, hrow, hnd, hout, hlen, hbr, hrr, hoo, hne, hmap, hbt, hDn, hD, hbel, u6, u8, u11, u12, u13, u14, u15, u16, u17, u18, u19, u20, u21, u22, u23, u24, u25, u26, u27, u28, u29, u30, u31, u32, u33, u34, u35, u36, u37, u38, u39, u40, u41, u42, u43, u44, u45, u46, u47, rfl⟩
  rcases List.eq_nil_or_concat row with hr0 | ⟨pre, k, hr0⟩
  ·
   subst hr0
   obtain ⟨A1, c1, rfl⟩ := Qcm hrr
   have hcb := hbr.cell
   have HBR := am hbr
   clear hbr
   gi_wp2
   have e : out = mt l := by have := HG.out; rwa [List.reverse_nil, Qga] at this
   subst e
   refine leaves_marks (base := w.heap.size) (fun W => W.ownsRow w.heap.size 3 1 vo (mt l).length (vals (mt l)) ∧ Below w.heap.size w W) ?_ ?_ Ds W hDn hD ⟨hoo, hbel⟩
   ·
    rintro W D ⟨h2, h3⟩ h4 h5
    exact ⟨ownsRow_putObj h2 _ h5 rfl, h3.grown (grownBy_putObj' W D _) h3.size (fun j e => by cases e; exact h4)⟩
   ·
    rintro W ⟨h2, h3⟩
    exact ⟨_, results_tmp rfl _ _ _, vo, rfl, h2, h3⟩
  ·
   rw [List.concat_eq_append] at hr0
   subst hr0
   have hrr2 : W.ownsRow w.heap.size 3 1 vr (pre.length + 1) (vals (pre ++ [k])) := by simpa using hrr
   obtain ⟨g, cp, rfl⟩ := ownsRow_succ hrr2
   have hk : k < l.length := hrow k zq14
   have hx : W.cell? ⟨g, pre.length, none⟩ = some (.int .i64 (k : Int)) := by
    have h2 := hrr2.cells (g := g) rfl pre.length (.int .i64 (k : Int)) (by simp [vals])
    rwa [Qbl] at h2
   have hle : pre.length < 100000 := by
    have h2 : out.length ≤ 56 := by
     have := Qfw (g := fun _ => 1) hnd (r := List.range l.length) (fun x hx => List.mem_range.2 (hout x hx))
     rw [Qcv, Qcv, List.length_range] at this
     omega
    simp at hlen
    omega
   have hpc : pre.length ≤ cp := by have := own_le hrr2; omega
   have hkw : (Lit.int .i64 (k : Int)).wf = true := i64_wf k zq3
   have hM1 := hmap.kept (grownBy_setCell' W (w.heap.size + 1 + 1 + 1) (.slice (some ⟨g, 0, none⟩) pre.length cp)) zq14
   have hT1 : (W.setCell ⟨w.heap.size + 1 + 1 + 1, 0, none⟩ (.slice (some ⟨g, 0, none⟩) pre.length cp)).ownsRow w.heap.size 3 1 (.slice (some ⟨g, 0, none⟩) pre.length cp) pre.length (vals pre) := by
    have h2 := own_take hrr2 (m := pre.length) zq3
    have h3 : (vals (pre ++ [k])).take (pre.length * 1) = vals pre := by simp [vals]
    rw [h3] at h2
    exact h2.kept (grownBy_setCell' _ _ _) (.inr (hbr.not_row zq9 h2).symm)
   have HKW := am hkw
   clear hkw
   have hcb := hbr.cell
   have hfb := hbr.frozen
   have HBR := am hbr
   have HD := am hD
   have HROW := am hrow
   have HOUT := am hout
   have HNE := am hne
   clear hbr hD hrow hout hne hrr
   by_cases hko : k ∈ out
   ·
    have HAT := am ((seenD_at (H := Unit) out k).trans (by rw [decide_eq_true hko]))
    gi_wp2_with (gi_at_lookup; refine Qcy _ rfl _ _ 87 rfl 3 4 (Go.Maps.int_keyed Tryz.underlying3) Tryz.underlying87 Tryz.underlying4 (Tryz.zeroValue4 _) (w.heap.size + 1) out.length _ rfl hM1 _ (.int .i64 (k : Int)) rfl (Go.Maps.keyOf_int_mk Tryz.underlying3 HKW.out) true HAT.out ?_)
    refine ⟨⟨pre, out, Ds, .slice (some ⟨g, 0, none⟩) pre.length cp, vo, ⟨?_⟩, fun j hj => HROW.out j (List.mem_append_left _ hj), hnd, HOUT.out, by simp at hlen; omega, HBR.out.set _, ?_, ?_, HNE.out, hM1, ?_, hDn, ?_, ?_, _, _, _, _, _, _, _, _, _, _, _, _, _, _, _, _, _, _, _, _, _, _, _, _, _, _, _, _, _, _, _, _, _, _, _, _, _, _, _, rfl⟩, ?_⟩
    ·
     have h2 := HG.out
     rwa [List.reverse_append, List.reverse_cons, List.reverse_nil, List.nil_append, List.cons_append, List.nil_append, Qfs hko] at h2
    · exact hT1
    · exact hoo.kept (grownBy_setCell' _ _ _) (.inr (HBR.out.not_row zq9 hoo).symm)
    · exact hbt.kept (grownBy_setCell' _ _ _) zq20
    ·
     intro D hD
     obtain ⟨h2, h3⟩ := HD.out D hD
     exact ⟨h2, (Below.heap_setCell _ _ _ _ (box_ne HBR.out h3)).trans h3⟩
    · exact hbel.setCell (p := ⟨w.heap.size + 1 + 1 + 1, 0, none⟩) zq20 _
    ·
     unfold MetM
     rw [World.cell?_setCell_same' _ _ _ (by rw [hcb]; rfl), hcb]
     show (l.length - lenV vo) * 65 + pre.length < (l.length - lenV vo) * 65 + (pre.length + 1)
     omega
   ·
    have HAT := am ((seenD_at (H := Unit) out k).trans (by rw [decide_eq_false hko]))
    have hol : out.length ≤ 56 := by
     have := Qfw (g := fun _ => 1) hnd (r := List.range l.length) (fun x hx => List.mem_range.2 (HOUT.out x hx))
     rw [Qcv, Qcv, List.length_range] at this
     omega
    have hov : out.length < maxLen := by unfold maxLen; omega
    have hov1 : out.length + 1 ≤ maxLen := hov
    have hov2 : (out.length + 1) * 8 ≤ 140737488355328 := by omega
    obtain ⟨i0, hi, hz0, hz1, hz2⟩ := info_parts info3
    have hoo1 := hoo.kept (grownBy_setCell' W (w.heap.size + 1 + 1 + 1) (.slice (some ⟨g, 0, none⟩) pre.length cp)) (.inr (HBR.out.not_row zq9 hoo).symm)
    have hbt1 := hbt.kept (grownBy_setCell' W (w.heap.size + 1 + 1 + 1) (.slice (some ⟨g, 0, none⟩) pre.length cp)) zq20
    have hbr1 := HBR.out.set (.slice (some ⟨g, 0, none⟩) pre.length cp)
    have hb1 := hbel.setCell (p := ⟨w.heap.size + 1 + 1 + 1, 0, none⟩) zq20 (.slice (some ⟨g, 0, none⟩) pre.length cp)
    have hDs1 : ∀ D ∈ Ds, w.heap.size ≤ D ∧ (W.setCell ⟨w.heap.size + 1 + 1 + 1, 0, none⟩ (.slice (some ⟨g, 0, none⟩) pre.length cp)).heap[D]? = some (.deferred (some [])) := fun D hD => by
     obtain ⟨h2, h3⟩ := HD.out D hD
     exact ⟨h2, (Below.heap_setCell _ _ _ _ (box_ne HBR.out h3)).trans h3⟩
    obtain ⟨W1, hW1⟩ : ∃ W1, W.setCell ⟨w.heap.size + 1 + 1 + 1, 0, none⟩ (.slice (some ⟨g, 0, none⟩) pre.length cp) = W1 := ⟨_, rfl⟩
    rw [hW1] at hoo1 hbt1 hbr1 hb1 hM1 hT1 hDs1
    have HDS := am hDs1
    have HB1 := am hb1
    have HBT := am hbt1
    have HBR1 := am hbr1
    obtain ⟨ad, A2, c2, A3, c3, e, -, -, -, hx3, -, -, hl3, hC3⟩ := Qaz HC.out (k : Int) zq3 zq3
    rw [Int.toNat_natCast] at hx3
    have hkb : decide ((k : Int) < (l.length : Int)) = true := decide_eq_true zq3
    have hlt3 := World.block_lt_of_cell? w _ hx3
    have HL3 := am hl3
    have HC3 := am hC3
    clear hDs1 hb1 hbt1 hbr1 hl3 hC3 hbt hbel
    subst e
    gi_wp2_with (first
     | (gi_at_lookup; refine Qcy _ rfl _ _ 87 rfl 3 4 (Go.Maps.int_keyed Tryz.underlying3) Tryz.underlying87 Tryz.underlying4 (Tryz.zeroValue4 _) (w.heap.size + 1) out.length _ rfl hM1 _ (.int .i64 (k : Int)) rfl (Go.Maps.keyOf_int_mk Tryz.underlying3 HKW.out) false HAT.out ?_)
     | (gi_at_mapUpdate; refine wpListIn_mapUpdate_own _ rfl _ _ _ 87 rfl 3 4 (Go.Maps.int_keyed Tryz.underlying3) Tryz.underlying87 _ (w.heap.size + 1) out.length _ rfl hM1 hov _ _ (.int .i64 (k : Int)) rfl rfl (Go.Maps.keyOf_int_mk Tryz.underlying3 HKW.out) _ [] (plainElem_bool Tryz.underlying4 true) ?_; intro w1 hM2 hg1; have hoo2 := hoo1.kept hg1 (.inr (Qe hoo1 hM1)); have hT2 := hT1.kept hg1 (.inr (Qe hT1 hM1)); have HBT2 := am (HBT.out.kept hg1 zq14); have HBR2 := am (HBR1.out.kept hg1 zq20); have HB2 := am (HB1.out.grown hg1 HB1.out.size (fun j ej => by cases ej; omega)); have hbs := HB2.out.size)
     | (gi_at_builtin; refine wpListIn_append_own_at _ rfl _ _ 68 rfl w.heap.size 3 i0 (.int .i64 0) 1 8 Tryz.underlying68 hi hz0 hz1 hz2 rfl zq9 _ _ _ rfl (hoo2.alloc _) ⟨w1.heap.size, 0, none⟩ 1 1 [.int .i64 (k : Int)] rfl rfl (cell_one_new _ _ _) (by simp [Value.oneCell']) hov1 hov2 zq20 ?_; intro v2 w2 hoo3 hg2 _ hat2; have HBT3 := am ((HBT2.out.alloc _).kept hg2 (HBT2.out.not_row zq9 hoo2)); have HB3 := am ((HB2.out.alloc hbs _).grown hg2 zq20 (Qdp (hoo2))); have hx3' := (HB3.out.cell hlt3).trans hx3; have hbt3 := HBT3.out.cell)
     | (gi_at_call 72; refine (back_in F (n - 1) hB hro _ _ _ _).mono ?_; rintro e w' ⟨rfl, rfl⟩))
    have hat3 : v2.ownBlock = vo.ownBlock ∨ v2.ownBlock = some (w1.alloc (.cells #[.int .i64 (k : Int)] 3)).heap.size := hat2
    have hoo4 : w2.ownsRow w.heap.size 3 1 v2 (out.length + 1) (vals (out ++ [k])) := by
     have e : vals (out ++ [k]) = vals out ++ [.int .i64 (k : Int)] := by simp [vals]
     rw [e]; exact hoo3
    have hg3 : (w1.alloc (.cells #[.int .i64 (k : Int)] 3)).grownBy w2 vo.ownBlock := hg2
    clear hat2 hoo3 hg2
    have hgo : ∀ j, vo.ownBlock = some j → j ≠ g := fun j hj e => HNE.out g zq24 (by rw [hj, e])
    have hT3 := (hT2.alloc (.cells #[.int .i64 (k : Int)] 3)).kept hg3 (.inr (fun e => HNE.out g zq24 (by rw [← e]; simp [Value.ownBlock])))
    have hbr3 := (HBR2.out.alloc (.cells #[.int .i64 (k : Int)] 3)).kept hg3 (HBR2.out.not_row zq9 hoo2)
    have hM3 := (hM2.alloc (.cells #[.int .i64 (k : Int)] 3)).kept hg3 (fun e => Qe hoo2 hM2 e.symm)
    have hDs3 : ∀ D ∈ Ds, w.heap.size ≤ D ∧ w2.heap[D]? = some (.deferred (some [])) := fun D hD => by
     obtain ⟨h2, h3⟩ := HDS.out D hD
     have hM1' : ∃ es ck, W1.heap[w.heap.size + 1]? = some (.map es ck) := by obtain ⟨es, ck, hh, _⟩ := hM1; exact ⟨es, ck, hh⟩
     have h4 : w1.heap[D]? = some (.deferred (some [])) := (hg1.block D (Qai h3) (fun e => by
      injection e with e
      obtain ⟨es, ck, hh⟩ := hM1'
      rw [e, hh] at h3
      cases h3)).trans h3
     refine ⟨h2, Qba (Qaj h4 _) hg3 (fun e => ?_)⟩
     obtain ⟨cells, hc⟩ := Qcj hoo2 D e.symm
     rw [hc] at h4
     cases h4
    have hgl : g < w1.heap.size := Qgl hT2 g zq24
    have hne3 : ∀ j, (Value.slice (some ⟨g, 0, none⟩) pre.length cp).ownBlock = some j → v2.ownBlock ≠ some j := by
     intro j hj hj2
     obtain rfl : g = j := by simpa [Value.ownBlock] using hj
     rcases hat3 with h2 | h2
     · exact hgo g (h2 ▸ hj2) rfl
     ·
      rw [h2] at hj2
      simp at hj2
      omega
    obtain ⟨es, hes⟩ : ∃ es, (rd_T52 l (k : Int)).f3 = es := ⟨_, rfl⟩
    have hes2 : (nd l k).f3 = es := hes
    have hel : es.length ≤ 64 := by rw [← hes2]; exact H64.out k
    rw [hes] at HC3 HL3 ⊢
    have hCes := Kd.C_below HC3.out (Qaa HB3.out (.cells #[.slice A3 es.length c3] 50))
    have hbe := Boxed.new w2 50 (.slice A3 es.length c3)
    have hlow : ∀ ad, A3 = some ad → 0 < es.length → ad.block < w.heap.size := fun ad e h0 => by
     obtain ⟨ad2, e2, hz, _⟩ := Qbg HC3.out 0 zq3 zq3
     rw [e] at e2
     cases e2
     have := World.block_lt_of_cell? w _ hz
     simpa [Qc] using this
    obtain ⟨W3, hW3⟩ : ∃ W3, w2.alloc (.cells #[.slice A3 es.length c3] 50) = W3 := ⟨_, rfl⟩
    have hs3 : W3.heap.size = w2.heap.size + 1 := by rw [← hW3]; simp
    have hoo5 := hoo4.alloc (.cells #[.slice A3 es.length c3] 50)
    have hT4 := hT3.alloc (.cells #[.slice A3 es.length c3] 50)
    have hbr4 := hbr3.alloc (.cells #[.slice A3 es.length c3] 50)
    have hM4 := hM3.alloc (.cells #[.slice A3 es.length c3] 50)
    have hbt4 := HBT3.out.alloc (.cells #[.slice A3 es.length c3] 50)
    have hB4 := HB3.out.alloc HB3.out.size (.cells #[.slice A3 es.length c3] 50)
    have hDs4 : ∀ D ∈ Ds, w.heap.size ≤ D ∧ W3.heap[D]? = some (.deferred (some [])) := fun D hD => ⟨(hDs3 D hD).1, by rw [← hW3]; exact Qaj (hDs3 D hD).2 _⟩
    rw [hW3] at hCes hbe hoo5 hT4 hbr4 hM4 hbt4 hB4 ⊢
    have hws := HB3.out.size
    have hR3 : w.heap.size + 1 + 1 + 1 < w2.heap.size := hbr3.lt
    have hgb : w.heap.size ≤ g := Qdp hT3 g zq24
    have hg3l : g < w2.heap.size := Qgl hT3 g zq24
    have HCB := am hcb
    have HLO : Aside0 (lenV vo = out.length) := ⟨by obtain ⟨A', c', h2⟩ := Qcm hoo; rw [h2]; rfl⟩
    clear HBT2 HBR2 HB2 HB1 HBT HBR1 HDS hoo1 hoo2 hT1 hT2 hM1 hM2 hoo hmap hrr2 hx hcb hfb HBR HD hg1 hg3 hoo4 hT3 hbr3 hM3 hDs3 hx3 hx3' hbt3 HBT3 HB3
    refine wpIn_rangeFunc_ownH hro h1 (gf := 93) (lb := #[.pointer (some ⟨w2.heap.size, 0, none⟩)]) rfl hC (enters_of Tryz.func93 zq15 rfl)
     (back_stops F (n - 1) hC hro zq3 w2.heap.size (fun b => b = w2.heap.size ∨ b < w.heap.size) A3 c3 es zq3 (.inl rfl) W3
      (fun ad e h0 => .inr (hlow ad e h0)) zq3 hbe.cell hCes)
     (fun h k => h.trans k) ?hKb (Below.refl _ _) (fun _ => rfl) (MetJ w W3 pre g) (fun _ _ _ => False) (metJ_own w W3 pre g zq3) (fun _ _ _ _ _ hs _ _ => hs) ?h0
     (fun x a' W => ∃ Bx, W3.heap.size ≤ Bx ∧ W.heap[Bx]? = some (.cells #[.string x.2.f0, .int .i64 x.2.f1] 62 (0, 0)) ∧ a' = { tmps := #[.agg #[.slice (some ad) l.length cap], .pointer (some ⟨w.heap.size, 0, none⟩), .slice none 0 0, v2, .map (some (w.heap.size + 1)), .pointer (some ⟨w.heap.size + 1 + 1 + 1, 0, none⟩), .int .i64 (k : Int), undef, .pointer (some ⟨Bx, 0, none⟩), .map (some (w.heap.size + 1)), .slice (some ⟨w.heap.size + 1 + 1, 0, none⟩) 1 1, .slice (some ⟨g, 0, none⟩) (pre.length + 1) cp, .int .i64 ((pre.length : Int) + 1), .bool true, .slice (some ⟨g, 0, none⟩) (pre.length + 1) cp, .slice (some ⟨g, 0, none⟩) (pre.length + 1) cp, .int .i64 ((pre.length : Int) + 1), .int .i64 (pre.length : Int), .pointer (some ⟨g, pre.length, none⟩), .int .i64 (k : Int), .slice (some ⟨g, 0, none⟩) (pre.length + 1) cp, .slice (some ⟨g, 0, none⟩) (pre.length + 1) cp, .int .i64 ((pre.length : Int) + 1), .int .i64 (pre.length : Int), .slice (some ⟨g, 0, none⟩) pre.length cp, .map (some (w.heap.size + 1)), .int .i64 (k : Int), .bool false, .map (some (w.heap.size + 1)), .int .i64 (k : Int), vo, .int .i64 (k : Int), .slice (some ⟨w1.heap.size, 0, none⟩) 1 1, v2, .pointer (some ⟨w.heap.size, 0, none⟩), .slice (some ad) l.length cap, .int .i64 (k : Int), .pointer (some (ad.add (k * 4))), .pointer (some ⟨(ad.add (k * 4)).block, (ad.add (k * 4)).off + 3, none⟩), .slice A3 es.length c3, .func (.func 93) #[] #[.pointer (some ⟨w2.heap.size, 0, none⟩)], .int .i64 (x.1 : Int), .agg #[.string x.2.f0, .int .i64 x.2.f1], u43, u44, u45, u46, u47, undef], defers := [] }) ?hAx ?assign ?body ?done ?stop
    case hKb =>
     intro W l o o' hl _ _ _ b hb
     exact World.putObj_heap_other zq3
    case h0 => exact ⟨_, hbr4, by simpa using hT4, .inl zq24, Keep2.refl _ _ _⟩
    case hAx =>
     rintro x a' _ X Y r ⟨Bx, h2, h3, h4⟩ hg' hr'
     refine ⟨Bx, h2, Qba h3 hg' (fun e => ?_), h4⟩
     obtain ⟨_, o, ho, hc⟩ := hr' Bx e.symm
     rw [h3] at ho
     cases ho
     cases hc
    case assign =>
     rintro lp ps x W K ⟨v, hv, ho, hb, hk⟩ hK
     have HV := am hv
     clear hv
     simp only [encB]
     gi_wp2
     refine hK _ _ ((KeepsOthers.alloc _ _).from _) (fun b hb2 => ?_) ⟨v, HV.out.alloc _, ho.alloc _, hb, hk.alloc _⟩ ⟨W.heap.size, hk.size, by exact World.alloc_heap_new W _, rfl⟩
     exact Below.heap_alloc W _ b (by have := hk.size; omega)
    case body =>
     rintro lp ps x a' W hl ⟨r, hr⟩ ⟨v, hv, ho, hb, hk⟩ ⟨Bx, hBx, hbx, rfl⟩ hlt
     have hc := hv.cell
     have hcx : W.cell? ⟨Bx, 1, none⟩ = some (.int .i64 x.2.f1) := (Qab hbx 1).trans rfl
     have HV := am hv
     have HBX := am hbx
     have hb1 : pre.length + ps.length + 1 ≤ maxLen := by unfold maxLen; omega
     have hb2 : (pre.length + ps.length + 1) * 8 ≤ 140737488355328 := by omega
     have hsz := hk.size
     clear hv hbx hr
     gi_wp2_with (gi_at_builtin; refine wpListIn_append_own_at _ rfl _ _ 68 rfl w.heap.size 3 i0 (.int .i64 0) 1 8 Tryz.underlying68 hi hz0 hz1 hz2 rfl zq9 _ _ _ rfl (ho.alloc _) ⟨W.heap.size, 0, none⟩ 1 1 [.int .i64 x.2.f1] rfl rfl (cell_one_new _ _ _) (by simp [Value.oneCell']) hb1 hb2 zq20 ?_; intro v' w4 hown' hgrow _ hat'; obtain ⟨g', cap', rfl⟩ := ownsRow_succ hown'; obtain ⟨hv1, hv2, hr2, hk2, hbl2⟩ := HV.out.appended zq9 ho zq3 zq3 hown' hgrow; have hc1 := hv1.cell; have hf1 := hv1.frozen)
     have hgw : (W.alloc (.cells #[.int .i64 x.2.f1] 3)).grownBy w4 v.ownBlock := hgrow
     have haw : (Value.slice (some ⟨g', 0, none⟩) (pre.length + ps.length + 1) cap').ownBlock = v.ownBlock ∨ (Value.slice (some ⟨g', 0, none⟩) (pre.length + ps.length + 1) cap').ownBlock = some (W.alloc (.cells #[.int .i64 x.2.f1] 3)).heap.size := hat'
     clear hgrow hat' hown'
     have hkeep : ∀ i, i < W.heap.size → i ≠ w.heap.size + 1 + 1 + 1 → some i ≠ v.ownBlock → (w4.setCell ⟨w.heap.size + 1 + 1 + 1, 0, none⟩ (.slice (some ⟨g', 0, none⟩) (pre.length + ps.length + 1) cap')).heap[i]? = W.heap[i]? := fun i hi h2 h3 =>
      (Below.heap_setCell _ _ _ i h2).trans ((hgw.block i zq20 h3).trans (Below.heap_alloc W _ i hi))
     refine ⟨hk2.from _, fun b hb2 => hkeep b zq3 zq3 (fun e => ?_), ⟨_, hv2, ?_, ?_, ⟨hbl2.os.trans hk.os, hbl2.tape.trans hk.tape, hbl2.output.trans hk.output, Nat.le_trans hk.size hbl2.size, fun i hi h2 h3 => (hkeep i zq3 h2 (fun e => ?_)).trans (hk.block i hi h2 h3)⟩⟩⟩
     · rcases hb with h | ⟨b', h, h2⟩ <;> (rw [h] at e; injection e with e; omega)
     ·
      have e1 : pre.length + (ps ++ [x]).length = pre.length + ps.length + 1 := by rw [List.length_append, List.length_singleton]; omega
      have e2 : vals pre ++ (ps ++ [x]).map (fun x => Value.int .i64 x.2.f1) = (vals pre ++ ps.map (fun x => Value.int .i64 x.2.f1)) ++ [.int .i64 x.2.f1] := by rw [List.map_append, List.append_assoc]; rfl
      rw [e1, e2]
      exact hr2
     ·
      rcases haw with h | h
      · rw [h]; exact hb
      · exact .inr ⟨_, h, by simp; omega⟩
     ·
      rcases hb with h | ⟨b', h, h2⟩
      · rw [h] at e; exact h3 e
      · rw [h] at e; injection e with e; omega
    case done =>
     rintro D ys Wd hD rfl ⟨v, hv, ho, hb, hkq⟩ hK
     have HV := am hv
     have HKD := am hK
     clear hv hK
     gi_wp2
     have hR3' : w.heap.size + 1 + 1 + 1 < W3.heap.size := by omega
     have hmv : ∀ j, j < W3.heap.size → j ≠ w.heap.size + 1 + 1 + 1 → j ≠ g → Wd.heap[j]? = W3.heap[j]? := fun j h2 h3 h4 => hkq.block j h2 h3 (fun e => h4 (by injection e))
     have hrow' : vals pre ++ (bk es es.length).map (fun x => Value.int .i64 x.2.f1) = vals (pre ++ (chl l k).reverse) := by
      have h2 : (bk es es.length).map (fun x => Value.int .i64 x.2.f1) = vals (chl l k).reverse := bk_vals hes2 HW.out
      rw [h2]; simp [vals]
     have hlenr : pre.length + (bk es es.length).length = (pre ++ (chl l k).reverse).length := by
      rw [bk_length, List.length_append, List.length_reverse]; unfold chl; rw [List.length_map, hes2]
     rw [hrow', hlenr] at ho
     obtain ⟨Av, cv, rfl⟩ := Qcm ho
     have hol2 : lenV v2 = out.length + 1 := by obtain ⟨A', c', h2⟩ := Qcm hoo5; rw [h2]; rfl
     have hol3 : lenV vo = out.length := HLO.out
     have hchl : (chl l k).length ≤ 64 := by unfold chl; rw [List.length_map, hes2]; exact hel
     have hon : out.length + 1 ≤ l.length := by
      have := Qfw (g := fun _ => 1) (m := out ++ [k]) (List.nodup_append.2 ⟨hnd, by simp, fun a ha b hb e => by simp at hb; subst hb; subst e; exact hko ha⟩) (r := List.range l.length)
       (fun x hx => by
        rcases List.mem_append.1 hx with hx | hx
        · exact List.mem_range.2 (HOUT.out x hx)
        · simp at hx; subst hx; exact List.mem_range.2 hk)
      rw [Qcv, Qcv, List.length_range, List.length_append, List.length_singleton] at this
      omega
     refine ⟨⟨pre ++ (chl l k).reverse, out ++ [k], D :: Ds, .slice Av _ cv, v2, ⟨?_⟩, ?_, ?_, ?_, ?_, HV.out, ho, ?_, ?_, ?_, ?_, ?_, ?_, ?_, _, _, _, _, _, _, _, _, _, _, _, _, _, _, _, _, _, _, _, _, _, _, _, _, _, _, _, _, _, _, _, _, _, _, _, _, _, _, _, rfl⟩, ?_⟩
     ·
      have h2 := HG.out
      rw [List.reverse_append, List.reverse_cons, List.reverse_nil, List.nil_append, List.cons_append, List.nil_append, Qfm hko hk] at h2
      rw [List.reverse_append, List.reverse_reverse]
      exact h2
     ·
      intro j hj
      rcases List.mem_append.1 hj with hj | hj
      · exact HROW.out j (List.mem_append_left _ hj)
      · exact (HW.out.ch_lt (List.mem_reverse.1 hj)).1
     · exact List.nodup_append.2 ⟨hnd, by simp, fun a ha b hb e => by simp at hb; subst hb; subst e; exact hko ha⟩
     ·
      intro j hj
      rcases List.mem_append.1 hj with hj | hj
      · exact HOUT.out j hj
      · simp at hj; subst hj; exact hk
     ·
      rw [List.length_append, List.length_reverse, List.length_append, List.length_singleton]
      simp at hlen
      omega
     ·
      have h2 := own_move hoo5 (w1 := Wd) (fun j hj => hmv j (Qgl hoo5 j hj) (fun e => hbr4.not_row zq9 hoo5 (by rw [hj, e])) (fun e => hne3 j (by rw [e]; simp [Value.ownBlock]) hj))
      rw [List.length_append, List.length_singleton]
      exact h2
     ·
      intro j hj hj2
      rcases hb with h | ⟨b', h, h2⟩
      ·
       rw [h] at hj
       exact hne3 j (by simpa [Value.ownBlock] using hj) hj2
      ·
       rw [h] at hj
       injection hj with hj
       have := Qgl hoo5 j hj2
       omega
     ·
      have hgM : g ≠ w.heap.size + 1 := fun e => Qe hT4 hM4 (by rw [← e]; simp [Value.ownBlock])
      obtain ⟨es', ck, hh, F', hs', hD'⟩ := hM4
      rw [List.length_append, List.length_singleton, seenD_snoc]
      exact ⟨es', ck, (hmv _ (Qai hh) zq3 (Ne.symm hgM)).trans hh, F', hs', hD'⟩
     ·
      have hgT : some w.heap.size ≠ (Value.slice (some ⟨g, 0, none⟩) pre.length cp).ownBlock := hbt4.not_row zq9 hT4
      exact (hmv _ hbt4.lt zq3 (fun e => hgT (by rw [e]; simp [Value.ownBlock]))).trans hbt4
     ·
      refine List.nodup_cons.2 ⟨fun hm => ?_, hDn⟩
      have := Qai (hDs4 D hm).2
      omega
     ·
      intro D' hD'
      rcases List.mem_cons.1 hD' with rfl | hD'
      · exact ⟨by omega, HKD.out⟩
      ·
       obtain ⟨h2, h3⟩ := hDs4 D' hD'
       refine ⟨h2, (hmv D' (Qai h3) (box_ne hbr4 h3) (fun e => ?_)).trans h3⟩
       obtain ⟨cells, hc⟩ := Qcj hT4 D' (by rw [e]; simp [Value.ownBlock])
       rw [hc] at h3
       cases h3
     · exact hkq.below hB4 zq3 (fun j e => by injection e with e; omega)
     ·
      unfold MetM
      rw [HV.out.cell, HCB.out]
      show (l.length - lenV v2) * 65 + (pre ++ (chl l k).reverse).length < (l.length - lenV vo) * 65 + (pre.length + 1)
      rw [hol2, hol3, List.length_append, List.length_reverse]
      omega
    case stop =>
     rintro D c ps W _ _ h _
     exact h.elim
end
def rnL (l : List S52) (i : Nat) : List S52 := (List.range l.length).map fun k => if k ∈ (mt l).take i then ⟨(nd l k).f0, (nd l k).f1, (nd l k).f2, (nd l k).f3.map (ren (pl l))⟩ else nd l k
theorem Qee (l : List S52) (i : Nat) : (rnL l i).length = l.length := by simp [rnL]
theorem nd_rnL {l : List S52} {i k : Nat} (hk : k < l.length) : nd (rnL l i) k = if k ∈ (mt l).take i then ⟨(nd l k).f0, (nd l k).f1, (nd l k).f2, (nd l k).f3.map (ren (pl l))⟩ else nd l k := by
 rw [Qbm (by rw [Qee]; exact hk)]
 simp only [rnL, List.getElem_map, List.getElem_range]
theorem Qgv {a b : List S52} (hl : a.length = b.length) (h : ∀ k, k < a.length → nd a k = nd b k) : a = b := by
 refine List.ext_getElem hl fun k h1 h2 => ?_
 rw [← Qbm h1, ← Qbm h2]
 exact h k h1
theorem rnL_zero (l : List S52) : rnL l 0 = l :=
 Qgv (Qee l 0) fun k hk => by rw [nd_rnL (by rw [Qee] at hk; exact hk)]; simp
theorem rnL_at {l : List S52} {i : Nat} (h : i < (mt l).length) : nd (rnL l i) (mt l)[i] = nd l (mt l)[i] := by
 have hm : (mt l)[i] ∈ mt l := List.getElem_mem h
 rw [nd_rnL (mt_lt hm), if_neg]
 intro h2
 obtain ⟨j, hj, e⟩ := List.getElem_of_mem h2
 rw [List.length_take] at hj
 rw [List.getElem_take] at e
 have := (List.getElem_inj (Qfd l)).1 e
 omega
theorem rnL_succ {l : List S52} {i : Nat} (h : i < (mt l).length) : setE (rnL l i) (mt l)[i] ((nd l (mt l)[i]).f3.map (ren (pl l))) = rnL l (i + 1) := by
 have hm : (mt l)[i] ∈ mt l := List.getElem_mem h
 have hml := mt_lt hm
 refine Qgv (by rw [setE_len, Qee, Qee]) fun k hk => ?_
 rw [setE_len, Qee] at hk
 rw [nd_rnL hk, List.take_succ_eq_append_getElem h]
 by_cases e : k = (mt l)[i]
 ·
  subst e
  rw [Qbf (by rw [Qee]; exact hml), rnL_at h, if_pos (List.mem_append_right _ (List.mem_singleton.2 rfl))]
 ·
  rw [Qbo e, nd_rnL hk]
  have : (k ∈ (mt l).take i ++ [(mt l)[i]]) ↔ k ∈ (mt l).take i := ⟨fun h => (List.mem_append.1 h).elim id (fun h => absurd (List.mem_singleton.1 h) e), List.mem_append_left _⟩
  simp only [this]
def esL (l : List S52) (k j : Nat) : List S62 := ((nd l k).f3.take j).map (ren (pl l)) ++ (nd l k).f3.drop j
theorem esL_len (l : List S52) (k j : Nat) : (esL l k j).length = (nd l k).f3.length := by
 unfold esL
 rw [List.length_append, List.length_map, List.length_take, List.length_drop]
 omega
theorem esL_zero (l : List S52) (k : Nat) : esL l k 0 = (nd l k).f3 := by simp [esL]
theorem esL_end (l : List S52) (k : Nat) : esL l k (nd l k).f3.length = (nd l k).f3.map (ren (pl l)) := by simp [esL]
theorem esL_at {l : List S52} {k j : Nat} (h : j < (nd l k).f3.length) : (esL l k j)[j]'(by rw [esL_len]; exact h) = (nd l k).f3[j] := by
 unfold esL
 have h1 : (((nd l k).f3.take j).map (ren (pl l))).length = j := by rw [List.length_map, List.length_take]; omega
 rw [List.getElem_append_right (by rw [h1]; exact Nat.le_refl _)]
 simp only [h1, Nat.sub_self, List.getElem_drop, Nat.add_zero]
theorem esL_set {l : List S52} {k j : Nat} (h : j < (nd l k).f3.length) : (esL l k j).set j ⟨(nd l k).f3[j].f0, (pl l (ino (nd l k).f3[j]) : Int)⟩ = esL l k (j + 1) := by
 unfold esL
 have h1 : (((nd l k).f3.take j).map (ren (pl l))).length = j := by rw [List.length_map, List.length_take]; omega
 rw [List.set_append_right _ _ (by rw [h1]; exact Nat.le_refl _), h1, Nat.sub_self, List.drop_eq_getElem_cons h, List.set_cons_zero, List.take_succ_eq_append_getElem h, List.map_append, List.append_assoc]
 rfl
def outR (l : List S52) : List S52 := (mt l).map (nd (rnL l (mt l).length))
theorem Qby (l : List S52) : (outR l).length = (mt l).length := by simp [outR]
theorem nd_outR {l : List S52} {i : Nat} (h : i < (mt l).length) : nd (outR l) i = ⟨(nd l (mt l)[i]).f0, (nd l (mt l)[i]).f1, (nd l (mt l)[i]).f2, (nd l (mt l)[i]).f3.map (ren (pl l))⟩ := by
 have hm : (mt l)[i] ∈ mt l := List.getElem_mem h
 rw [Qbm (by rw [Qby]; exact h)]
 simp only [outR, List.getElem_map]
 rw [nd_rnL (mt_lt hm), List.take_length, if_pos hm]
theorem Qdz (l : List S52) (k : Nat) : (nd (outR l) k).f0 = (nd (renum l) k).f0 ∧ (nd (outR l) k).f2 = (nd (renum l) k).f2 ∧ (nd (outR l) k).f3 = (nd (renum l) k).f3 := by
 rcases Nat.lt_or_ge k (mt l).length with h | h
 ·
  have hn : nd (renum l) k = ⟨(nd l (mt l)[k]).f0, 0, (nd l (mt l)[k]).f2, (nd l (mt l)[k]).f3.map (ren (pl l))⟩ := by
   rw [Qbm (l := renum l) (k := k) (by rw [Qdq]; exact h)]
   simp [renum]
  rw [nd_outR h, hn]
  exact ⟨rfl, rfl, rfl⟩
 ·
  rw [Qbr (by rw [Qby]; exact h), Qbr (by rw [Qdq]; exact h)]
  exact ⟨rfl, rfl, rfl⟩
theorem own_congr2 {a b : List S52} (hl : a.length = b.length) (h : ∀ k, (nd a k).f0 = (nd b k).f0 ∧ (nd a k).f3 = (nd b k).f3) (k : Nat) : own a k = own b k := by
 have hd : dirs a (nd a k).f3 = dirs b (nd b k).f3 := by
  unfold dirs
  rw [(h k).2]
  congr 1
  funext e
  rw [(h _).1]
 have hu : ups a k = ups b k := by
  unfold ups
  congr 1
  refine List.ext_getElem (by simp [hl]) fun i h1 h2 => ?_
  rw [List.length_map] at h1 h2
  rw [List.getElem_map, List.getElem_map, ← Qbm h1, ← Qbm h2, (h i).2]
 unfold own
 rw [(h k).1, hd, hu]
def lkL (o : List S52) (f : Nat → Int) (i : Nat) : List S52 := o.mapIdx fun k n => if k < i then ⟨n.f0, f k, n.f2, n.f3⟩ else n
theorem Qel (o : List S52) (f : Nat → Int) (i : Nat) : (lkL o f i).length = o.length := by simp [lkL]
theorem lkL_zero (o : List S52) (f : Nat → Int) : lkL o f 0 = o := by
 refine List.ext_getElem (Qel _ _ _) fun k h1 h2 => ?_
 simp [lkL]
theorem nd_lkL {o : List S52} {f : Nat → Int} {i k : Nat} (h : k < o.length) : nd (lkL o f i) k = if k < i then ⟨(nd o k).f0, f k, (nd o k).f2, (nd o k).f3⟩ else nd o k := by
 rw [Qbm (by rw [Qel]; exact h), Qbm h]
 simp [lkL]
theorem lkL_set {o : List S52} {f : Nat → Int} {i : Nat} (h : i < o.length) : (lkL o f i).set i ⟨(nd (lkL o f i) i).f0, f i, (nd (lkL o f i) i).f2, (nd (lkL o f i) i).f3⟩ = lkL o f (i + 1) := by
 rw [nd_lkL h, if_neg (Nat.lt_irrefl i)]
 refine List.ext_getElem (by simp [lkL]) fun k h1 h2 => ?_
 rw [List.getElem_set]
 have hko : k < o.length := by rw [Qel] at h2; exact h2
 by_cases e : i = k
 ·
  subst e
  rw [if_pos rfl]
  simp only [lkL, List.getElem_mapIdx]
  rw [if_pos (Nat.lt_succ_self i), Qbm h]
 ·
  rw [if_neg e]
  simp only [lkL, List.getElem_mapIdx]
  by_cases h3 : k < i
  · rw [if_pos h3, if_pos zq3]
  · rw [if_neg h3, if_neg zq3]
theorem lkL_num (l : List S52) : lkL (outR l) (own (outR l)) (outR l).length = num l := by
 refine Qgv (by rw [Qel, Qby, Qfl]) fun k hk => ?_
 rw [Qel] at hk
 have hk2 : k < (renum l).length := by rw [Qdq, ← Qby]; exact hk
 have ho : own (outR l) k = own (renum l) k := own_congr2 (by rw [Qby, Qdq]) (fun k => ⟨(Qdz l k).1, (Qdz l k).2.2⟩) k
 rw [nd_lkL hk, if_pos hk, (Qdz l k).1, (Qdz l k).2.1, (Qdz l k).2.2, ho, num]
 have h1 := Qcl (renum l) k
 have h2 : nd (Qcz (renum l)) k = ⟨(nd (Qcz (renum l)) k).f0, (nd (Qcz (renum l)) k).f1, (nd (Qcz (renum l)) k).f2, (nd (Qcz (renum l)) k).f3⟩ := rfl
 rw [h2, h1.1, h1.2.1, h1.2.2.1, h1.2.2.2 hk2]
theorem wf_congr {a b : List S52} (hl : a.length = b.length) (h : ∀ k, (nd a k).f0 = (nd b k).f0 ∧ (nd a k).f3 = (nd b k).f3) (hw : Wf a) : Wf b := by
 refine ⟨by rw [← hl]; exact hw.pos, by rw [← (h 0).1]; exact hw.root, fun k hk => by rw [← (h k).2]; exact hw.file k (by rw [(h k).1]; exact hk), fun k => by rw [← (h k).2]; exact hw.srt k, fun k e he => ?_⟩
 rw [← (h k).2] at he
 rw [← hl]
 exact hw.rng k e he
theorem outR_wf {l : List S52} (h : Wf l) : Wf (outR l) := by
 refine wf_congr (a := num l) (by rw [Qfl, Qby]) (fun k => ?_) (num_wf h)
 have h1 := Qcl (renum l) k
 have h2 := Qdz l k
 exact ⟨h1.1.trans h2.1.symm, h1.2.2.1.trans h2.2.2.symm⟩
theorem mt_len_le (l : List S52) : (mt l).length ≤ l.length := by
 have := Qfw (g := fun _ => 1) (Qfd l) (r := List.range l.length) (fun x hx => List.mem_range.2 (mt_lt hx))
 rw [Qcv, Qcv, List.length_range] at this
 exact this
end Go.Proofs.YtbhjggbijkjmnaaGreatDoor.PZ
end
