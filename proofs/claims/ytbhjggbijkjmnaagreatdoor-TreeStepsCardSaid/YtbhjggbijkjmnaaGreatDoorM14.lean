import Derived.RangeFuncNested
import Derived.RangeFuncBound
import Derived.RangeFuncCalls
import Derived.RangeFuncLeaves
import Derived.Shelf.Abstract
import Derived.WalkKit
import Derived.OwnWalkIn
import Derived.TacticsInMore
import Derived.LoopNIn
import Derived.LoopIn
import Derived.Maps.OwnIn
import Derived.Test.YtbhjggbijkjmnaaGreatDoorM02
import Derived.Test.YtbhjggbijkjmnaaGreatDoorM05
import Derived.Test.YtbhjggbijkjmnaaGreatDoorM13
import Derived.StillTailTactics
import Derived.Test.YtbhjggbijkjmnaaGreatDoorM12
import Derived.Test.YtbhjggbijkjmnaaGreatDoorM10
import Derived.Deep.RegionHeld3
set_option linter.unusedVariables false
set_option linter.unusedSimpArgs false
section
namespace Go.Proofs.YtbhjggbijkjmnaaGreatDoor.PZ
open Go.RowKit Go.Proofs.YtbhjggbijkjmnaaGreatDoorW.PrintWords Go.Proofs.YtbhjggbijkjmnaaGreatDoorW.PrintLast Go.Proofs.YtbhjggbijkjmnaaGreatDoorW.PrintMore Go.Proofs.YtbhjggbijkjmnaaGreatDoor.B Go.Proofs.YtbhjggbijkjmnaaGreatDoor.Ord TD
set_option maxRecDepth 100000
section
attribute [local go_sem] Oper.semAt_some
open Go.RowKit Go.Shelf Go.Proofs.YtbhjggbijkjmnaaGreatDoorW.PrintWords Go.Proofs.YtbhjggbijkjmnaaGreatDoorW.PrintLast Go.Proofs.YtbhjggbijkjmnaaGreatDoorW.PrintMore
def KeepL (KS : Nat → Prop) (W W' : World) : Prop := ∀ b, KS b → W'.heap[b]? = W.heap[b]?
theorem KeepL.refl (KS : Nat → Prop) (W : World) : KeepL KS W W := fun _ _ => rfl
theorem KeepL.trans {KS : Nat → Prop} {A B C : World} (h : KeepL KS A B) (k : KeepL KS B C) : KeepL KS A C := fun b hb => (k b hb).trans (h b hb)
theorem KeepL.cell {KS : Nat → Prop} {W W' : World} (h : KeepL KS W W') {p : Addr} (hp : KS p.block) : W'.cell? p = W.cell? p := World.cell?_of_block (h p.block hp)
def bk (es : List S62) (j : Nat) : List (Nat × S62) := (List.range j).map (fun r => (es.length - 1 - r, rd_T62 es ((es.length - 1 - r : Nat) : Int)))
theorem bk_succ (es : List S62) (j : Nat) : bk es (j + 1) = bk es j ++ [(es.length - 1 - j, rd_T62 es ((es.length - 1 - j : Nat) : Int))] := by simp [bk, List.range_succ]
theorem bk_length (es : List S62) (j : Nat) : (bk es j).length = j := by simp [bk]
def encB (x : Nat × S62) : Array Value := #[.int .i64 (x.1 : Int), .agg #[.string x.2.f0, .int .i64 x.2.f1]]
theorem back_in (F : Fence) (n : Nat) (h0 : F.fn 72) (hro : F.round = none) (A : Option Addr) (len cap : Nat) (w : World) :
  CallsIn F n Tryz.prog 72 #[.slice A len cap] w fun e w' => e = .returned (.func (.func 93) #[] #[.pointer (some ⟨w.heap.size, 0, none⟩)]) ∧ w' = w.alloc (.cells #[.slice A len cap] 50) := by
 refine callsIn_of_wp Tryz.func72 rfl h0 ?_ hro
 simp only [Tryz.ntmps72, List.size_toArray, List.length_cons, List.length_nil, Nat.reduceAdd, Nat.reduceSub, Array.replicate_succ, Array.replicate_zero, List.push_toArray, List.append_toArray, List.nil_append, List.cons_append]
 gi_wp2
 go_ret
 exact ⟨rfl, rfl⟩
set_option maxHeartbeats 2000000 in
theorem back1_in (F : Fence) (n : Nat) (h1 : F.fn 93) (hro : F.round = none) (hn : 1 ≤ n) (l Bs : Nat) (KS : Nat → Prop) (A : Option Addr) (cap : Nat) (es : List S62) (hbig : es.length < 1000000000000)
  (hKB : KS Bs) (J Jx : List (Nat × S62) → World → Prop)
  (hY : ∀ pre x W, J pre W → pre.length < es.length → YieldAt F (n - 1) Tryz.prog l (encB x) W fun e W' =>
   (e = .returned (.bool true) ∧ J (pre ++ [x]) W' ∧ KeepL KS W W') ∨ (e = .returned (.bool false) ∧ Jx (pre ++ [x]) W'))
  (W : World) (hKA : ∀ ad, A = some ad → 0 < es.length → KS ad.block) (hBs : W.cell? ⟨Bs, 0, none⟩ = some (.slice A es.length cap)) (hC : Kd.C k62 W A es.length es) (hJ0 : J [] W) :
  CallsIn F n Tryz.prog 93 #[.func (.yield l) #[] #[], .pointer (some ⟨Bs, 0, none⟩)] W fun e W' => (∃ v, e = .returned v) ∧
   ((∃ ys, ys = bk es es.length ∧ J ys W') ∨ (∃ pre, (∃ k, k ≤ es.length ∧ pre = bk es k) ∧ Jx pre W')) := by
 have HC := am hC
 clear hC
 refine callsIn_of_wp Tryz.func93 rfl h1 ?_ hro
 simp only [Tryz.ntmps93, List.size_toArray, List.length_cons, List.length_nil, Nat.reduceAdd, Nat.reduceSub, Array.replicate_succ, Array.replicate_zero, List.push_toArray, List.append_toArray, List.nil_append, List.cons_append]
 gi_wp2
 gi_loopw [3] (fun i wr => ∃ k : Nat, k ≤ es.length ∧ i = .int .i64 ((es.length : Int) - 1 - k) ∧ J (bk es k) wr ∧ Aside0 (KeepL KS W wr))
  (fun i _ => (intOf i + 1).toNat)
 case atStart => exact ⟨0, Nat.zero_le _, by simp, hJ0, ⟨KeepL.refl _ _⟩⟩
 case round =>
  obtain ⟨k, hk, rfl, hJs, hnx⟩ := hrel
  by_cases hlt : k < es.length
  ·
   obtain ⟨m, hm⟩ : ∃ m : Nat, (es.length : Int) - 1 - k = m := ⟨es.length - 1 - k, by omega⟩
   have hm2 : es.length - 1 - k = m := by omega
   have hml : m < es.length := by omega
   have hmb : decide ((m : Int) < (es.length : Int)) = true := decide_eq_true zq3
   rw [hm]
   obtain ⟨ad, e, hx0, hx1⟩ := Qbg HC.out (m : Int) zq3 zq3
   subst e
   rw [Int.toNat_natCast] at hx0 hx1
   replace hx0 := (hnx.out.cell (p := ad.add (m * 2)) (by rw [Qc]; exact hKA ad rfl zq3)).trans hx0
   replace hx1 := (hnx.out.cell (p := ⟨(ad.add (m * 2)).block, (ad.add (m * 2)).off + 1, none⟩) (by show KS (ad.add (m * 2)).block; rw [Qc]; exact hKA ad rfl zq3)).trans hx1
   obtain ⟨fn, tmps, assign, body, hy, hR⟩ := hY _ (m, rd_T62 es (m : Int)) wr hJs (by rw [bk_length]; exact hlt)
   simp only [encB] at hy
   have hBr := (hnx.out.cell (p := ⟨Bs, 0, none⟩) hKB).trans hBs
   have hcast : (m : Int) - 1 = (es.length : Int) - 1 - ((k + 1 : Nat) : Int) := by omega
   have HCast := am hcast
   have HM2 := am hm2
   clear hcast hm2 hm
   gi_wp2
   refine hR.mono ?_
   rintro e W3 (⟨rfl, hJ3, hk3⟩ | ⟨rfl, hJx3⟩)
   ·
    have HK3 := am hk3
    clear hk3
    gi_wp2
    go_roundw
    case rel => exact ⟨k + 1, by omega, by rw [← HCast.out], by rw [bk_succ, HM2.out]; exact hJ3, ⟨hnx.out.trans HK3.out⟩⟩
    case measure => simp [intOf]
   ·
    gi_wp2
    refine bodyPost_ret (results_none rfl _ _ _) rfl ?_
    exact ⟨⟨_, rfl⟩, .inr ⟨_, ⟨k + 1, by omega, by rw [bk_succ, HM2.out]⟩, hJx3⟩⟩
  ·
   obtain rfl : k = es.length := by omega
   have hneg : (es.length : Int) - 1 - (es.length : Int) = -1 := by omega
   rw [hneg]
   gi_wp2
   go_end0
   exact ⟨⟨_, rfl⟩, .inl ⟨_, rfl, hJs⟩⟩
theorem back_stops (F : Fence) (n : Nat) (h1 : F.fn 93) (hro : F.round = none) (hn : 1 ≤ n) (Bs : Nat) (KS : Nat → Prop) (A : Option Addr) (cap : Nat) (es : List S62) (hbig : es.length < 1000000000000)
  (hKB : KS Bs) (w : World) (hKA : ∀ ad, A = some ad → 0 < es.length → KS ad.block) (hlow : Bs < w.heap.size) (hBs : w.cell? ⟨Bs, 0, none⟩ = some (.slice A es.length cap)) (hC : Kd.C k62 w A es.length es) :
  SeqStopsK F n Tryz.prog 93 #[.pointer (some ⟨Bs, 0, none⟩)] encB (KeepL KS) (fun ys => ys = bk es es.length) (fun pre => ∃ k, k ≤ es.length ∧ pre = bk es k) es.length w := fun l J Jx W hW _ _ hY h0 =>
 back1_in F n h1 hro hn l Bs KS A cap es hbig hKB J Jx hY W hKA ((hW.cell (p := ⟨Bs, 0, none⟩) hlow).trans hBs) (Kd.C_below hC hW) h0
end
theorem Qgw (b : Nat) (A : Option Addr) (cap : Nat) (l : List S52) (rest : List Value) (k : Nat) (w : World) (hk : k < l.length) (hw : Wk w b (.slice A l.length cap) rest) (hc : Kd.C k52 w A l.length l) :
  Calls Tryz.prog 75 #[.pointer (some ⟨b, 0, none⟩), .int .i64 k] w fun en w' => en = .returned (.bool (decide (((rd_T52 l (k : Int)).f3.length : Int) ≥ 64))) ∧ w' = w := by
 have h0 : w.cell? ⟨b, 0, none⟩ = some (.slice A l.length cap) := (Qab hw 0).trans rfl
 obtain ⟨ad, A2, c2, A3, c3, rfl, -, -, -, hx3, -, -, -, -⟩ := Qaz hc (k : Int) zq3 zq3
 rw [Int.toNat_natCast] at hx3
 have hkl : decide ((k : Int) < (l.length : Int)) = true := decide_eq_true zq3
 have HC := am hc
 have HW := am hw
 clear hc hw
 go_enter Tryz.func75, Tryz.ntmps75
 go_wp2
 go_ret
 exact ⟨rfl, rfl⟩
theorem wp_still_drew {P : Program} {w : World} {id : Nat} {Q : Exit → Act → World → Prop} {a : Act} {l : List Oper} (n : Nat) (hm : P.follows .mixedOrders = true) (hB : Region.lexTailB .any l.toArray n = true)
  (h : wpStill P l.toArray w.drew (fun a' => wpList P l.toArray Q (l.drop n) a' w.drew) (l.take n) a) : (Code.region id l.toArray true).wp P Q a w := wp_region_still_tail n hm hB h
theorem Wk.put {w : World} {b : Nat} {v : Value} {rest : List Value} (h : Wk w b v rest) (u : Value) : Wk (w.setCell ⟨b, 0, none⟩ u) b u rest := by
 have h1 := Qap h 0 u rfl
 unfold Wk
 rw [h1]
 simp
theorem Wk.set {w : World} {b : Nat} {v : Value} {rest : List Value} (h : Wk w b v rest) (i : Nat) (u : Value) : Wk (w.setCell ⟨b, i + 1, none⟩ u) b v (rest.set i u) := by
 have h1 := Qap h (i + 1) u rfl
 unfold Wk
 rw [h1]
 simp
theorem kcell {w W : World} {p : Addr} {v : Value} (hb : Below w.heap.size w W) (hp : p.block < w.heap.size) (h : w.cell? p = some v) : W.cell? p = some v := by
 rw [← h]
 exact hb.cell hp
theorem S_any {α : Type} {d : Kd α} {e : Nat} {w : World} {base : Nat} {ok : Nat → Prop} {v : Value} {xs : List α} (h : Kd.S d e w base ok v xs) : ∃ A n c, v = .slice A n c := by
 obtain ⟨A, c, h⟩ := Kd.S_slice h
 exact ⟨A, _, c, h⟩
theorem R_any {α : Type} {d : Kd α} {e : Nat} {w : World} {base : Nat} {ok : Nat → Prop} {v : Value} {xs : List α} (h : d.R e w base ok v xs) : ∃ A n c, v = .slice A n c := by
 obtain ⟨A, c, h⟩ := Kd.R_slice h
 exact ⟨A, _, c, h⟩
theorem Qan (B b : Nat) (l : List S52) (rest : List Value) (k : Nat) (w : World) {bv : Bool} (hk : k < l.length) (hst : St B b l rest w) (hd : ((nd l k).f0 == 2) = bv) :
  Calls Tryz.prog 65 #[.pointer (some ⟨b, 0, none⟩), .int .i64 k] w fun en w' => en = .returned (.bool bv) ∧ w' = w := by
 obtain ⟨_, v, hw, hS⟩ := hst
 obtain ⟨A, cap, rfl, hcap, hC⟩ := Kd.S_reads hS
 subst hd
 exact Qei b A cap l rest k w hk hw hC
theorem Qgi (B b : Nat) (l : List S52) (rest : List Value) (k : Nat) (w : World) {bv : Bool} (hk : k < l.length) (hst : St B b l rest w) (hd : fullB l k = bv) :
  Calls Tryz.prog 75 #[.pointer (some ⟨b, 0, none⟩), .int .i64 k] w fun en w' => en = .returned (.bool bv) ∧ w' = w := by
 obtain ⟨_, v, hw, hS⟩ := hst
 obtain ⟨A, cap, rfl, hcap, hC⟩ := Kd.S_reads hS
 refine (Qgw b A cap l rest k w hk hw hC).mono ?_
 rintro e w1 ⟨rfl, rfl⟩
 refine ⟨?_, rfl⟩
 cases bv with
 | true => rw [fullB_t hd]
 | false => rw [fullB_f hd]
theorem root_eq : (rootP.toList == [47]) = true := by simp [rootP]
theorem Qfj (a c : ByteArray) (w : World) {bv : Bool} (ha : a.size < 10000000) (hc : c.size < 10000000) (h : Qbt a c = bv) :
  Calls Tryz.prog 78 #[.string a, .string c] w fun en w' => en = .returned (.bool bv) ∧ Below w.heap.size w w' := by
 obtain ⟨k, hk⟩ := (path_within_ev a c ha hc).rounds
 rw [h] at hk
 exact path_Within.calls k a c bv w hk
theorem Qbn {P : Program} {f : FuncId} {args : Array Value} {w : World} {Post : Ending → World → Prop} {v : Value} (h : Calls P f args w Post) (_hd : False → Post (.returned v) w) : Calls P f args w Post := h
abbrev OpPost (B b : Nat) (rest : List Value) (w : World) (X : List S52 ⊕ Int) (en : Ending) (w' : World) : Prop :=
 (match X with | .inl l' => en = .returned (.tuple #[]) ∧ St B b l' rest w' | .inr n => en = .panicked (wrong n)) ∧ BW B w w'
theorem rcopy_e (l : List S62) (hl : l.length < 100000000000) : moraineref00_CopyEntries.f l = some l := by
 unfold moraineref00_CopyEntries.f
 simp only [Option.bind_some]
 rw [if_pos zq20]
 rfl
theorem rcopy_b (l : List Int) (hl : l.length < 100000000000) : moraineref00_CopyBytes.f l = some l := by
 unfold moraineref00_CopyBytes.f
 simp only [Option.bind_some]
 rw [if_pos zq20]
 rfl
structure CF (w : World) (vt : Value) (go : Nat) (vo : Value) (xs : List S52) (ok : Nat → Prop) (W : World) : Prop where
 t : W.heap[w.heap.size]? = some (.cells #[vt] 26 (0, 0))
 r : W.heap[w.heap.size + 1]? = some (.cells #[.slice none 0 0] 26 (0, 0))
 o : W.heap[go]? = some (.cells #[vo] 26 (0, 0))
 s : Kd.S k52 52 W w.heap.size ok vo xs
 bel : Below w.heap.size w W
section
variable {w W W' : World} {vt vo : Value} {xs : List S52} {go : Nat} {ok : Nat → Prop}
theorem CF.below (h : CF w vt go vo xs ok W) (hb : Below W.heap.size W W') : CF w vt go vo xs ok W' := ⟨Qaf h.t hb, Qaf h.r hb, Qaf h.o hb, Kd.S_below h.s hb, Qa h.bel hb⟩
theorem CF.bound (h : CF w vt go vo xs ok W) : CF w vt go vo xs (fun k => k < W.heap.size) W := ⟨h.t, h.r, h.o, Kd.S_mono (Kd.S_bound h.s) (fun k hk => hk.2.2.1), h.bel⟩
theorem CF.set (h : CF w vt go vo xs ok W) {g : Nat} {T : TypeId} {cs : Array Value} (hg : W.heap[g]? = some (.cells cs T (0, 0))) (hT : T ≠ 26) (hok : ∀ k, ok k → k ≠ g) (hB : w.heap.size ≤ g) (j : Nat) (u : Value) : CF w vt go vo xs ok (W.setCell ⟨g, j, none⟩ u) :=
 ⟨Qam (p := ⟨g, j, none⟩) h.t (Qce h.t hg hT.symm) u, Qam (p := ⟨g, j, none⟩) h.r (Qce h.r hg hT.symm) u, Qam (p := ⟨g, j, none⟩) h.o (Qce h.o hg hT.symm) u, Kd.S_far (p := ⟨g, j, none⟩) h.s hok u, h.bel.setCell (p := ⟨g, j, none⟩) hB u⟩
theorem CF.kept (h : CF w vt go vo xs ok W) {b : Nat} {cs : Array Value} {T : TypeId} (hb : W.heap[b]? = some (.cells cs T (0, 0))) (hT : T ≠ 52) (hg : W.grownBy W' vo.ownBlock) : W'.heap[b]? = some (.cells cs T (0, 0)) :=
 Qba hb hg (fun e => by
  obtain ⟨cells, hc⟩ := Kd.S_typed h.s b e.symm
  exact Qce hb hc hT rfl)
theorem CF.next (h : CF w vt go vo xs ok W) {v5 : Value} {ys : List S52} (hgo : w.heap.size + 1 < go) (hg : W.grownBy W' vo.ownBlock) (hs : Kd.S k52 52 W' w.heap.size (fun _ => True) v5 ys) (hb : Below w.heap.size w W') : CF w vt go v5 ys (fun _ => True) (W'.setCell ⟨go, 0, none⟩ v5) :=
 have ho := h.kept h.o zq9 hg
 ⟨Qam (p := ⟨go, 0, none⟩) (h.kept h.t zq9 hg) (by show w.heap.size ≠ go; omega) v5, Qam (p := ⟨go, 0, none⟩) (h.kept h.r zq9 hg) (Nat.ne_of_lt hgo) v5, Qap ho 0 v5 rfl, Kd.S_set hs ho zq9 0 v5, hb.setCell (p := ⟨go, 0, none⟩) (by show w.heap.size ≤ go; omega) v5⟩
end
set_option maxHeartbeats 8000000 in
theorem Qdi (A : Option Addr) (c : Nat) (l : List S52) (w : World) (hC : Kd.C k52 w A l.length l) (hc : l.length ≤ c) (hl : l.length < 1000000) (hm : ∀ k, (nd l k).f2.length < 1000000000 ∧ (nd l k).f3.length < 1000000000) :
  Calls Tryz.prog 10 #[.agg #[.slice A l.length c]] w fun e w' => ∃ u, e = .returned (.agg #[u]) ∧ Kd.S k52 52 w' w.heap.size (fun _ => True) u l ∧ Below w.heap.size w w' := by
 have HC := am hC
 have HM := am hm
 clear hC hm
 go_enter Tryz.func10, Tryz.ntmps10
 go_upto_region 2 with (fail)
 have HN0 := am (show CF w (.slice A l.length c) (w.heap.size + 1 + 1) (.slice none 0 0) (l.take 0) (fun _ => True) (((w.alloc (.cells #[.slice A l.length c] 26)).alloc (.cells #[.slice none 0 0] 26)).alloc (.cells #[.slice none 0 0] 26)) from ⟨Qaj (Qaj (Qal w _) _) _, Qaj (by have h := Qal (w.alloc (.cells #[.slice A l.length c] 26)) (.cells #[.slice none 0 0] 26); rwa [World.size_alloc] at h) _, by have h := Qal ((w.alloc (.cells #[.slice A l.length c] 26)).alloc (.cells #[.slice none 0 0] 26)) (.cells #[.slice none 0 0] 26); rwa [World.size_alloc, World.size_alloc] at h, Kd.S_nil _ _ _ _ _, Qaa (Qaa (Qaa (Below.refl _ _) _) _) _⟩)
 obtain ⟨gp, hgp⟩ : ∃ g, w.heap.size + 1 + 1 = g := ⟨_, rfl⟩
 have hgo : w.heap.size + 1 < gp := by omega
 rw [hgp] at HN0
 try rw [hgp]
 generalize ((w.alloc (.cells #[.slice A l.length c] 26)).alloc (.cells #[.slice none 0 0] 26)).alloc (.cells #[.slice none 0 0] 26) = w0 at *
 go_wp2
 go_loopw [4] (fun v4 wr => ∃ (k : Nat) (vo : Value), v4 = .int .i64 k ∧ k ≤ l.length ∧ Aside0 (CF w (.slice A l.length c) gp vo (l.take k) (fun _ => True) wr)) (fun v4 _ => l.length - (intOf v4).toNat)
 case atStart => exact ⟨0, _, rfl, Nat.zero_le _, HN0⟩
 case round =>
  obtain ⟨k, vo, rfl, hk, HN⟩ := hrel
  have htc := (Qab HN.out.t 0).trans (show _ = some (Value.slice A l.length c) from rfl)
  have htl := Qai HN.out.t
  by_cases hlt : k < l.length
  ·
   obtain ⟨ad, A2, c2, A3, c3, e3, hy0, hy1, hy2, hy3, hl2, hC2, hl3, hC3⟩ := Qaz (Kd.C_below HC.out HN.out.bel) (k : Int) zq3 zq3
   cases e3
   rw [Int.toNat_natCast] at hy0 hy1 hy2 hy3
   rw [show rd_T52 l (k : Int) = nd l k from rfl] at hy0 hy1 hy2 hy3 hl2 hC2 hl3 hC3
   have hkk : (k : Int) < (l.length : Int) := by omega
   have HND := am (show l.take (k + 1) = l.take k ++ [⟨(nd l k).f0, (nd l k).f1, (nd l k).f2, (nd l k).f3⟩] by rw [List.take_add_one, List.getElem?_eq_getElem hlt, Qbm hlt]; rfl)
   have hm2 := HM.out k
   go_upto_region 6 with (fail)
   have hbb : Below wr.heap.size wr (wr.alloc (.cells #[.int .i64 (nd l k).f0, .int .i64 (nd l k).f1, .slice A2 (nd l k).f2.length c2, .slice A3 (nd l k).f3.length c3] 52)) := Qaa (Below.refl _ _) _
   have HNB1 := am (Qal wr (.cells #[.int .i64 (nd l k).f0, .int .i64 (nd l k).f1, .slice A2 (nd l k).f2.length c2, .slice A3 (nd l k).f3.length c3] 52))
   have HN1 := am (HN.out.bound.below hbb)
   have HB1 := am hbb
   have HC2 := am hC2
   have HC3 := am hC3
   have HL2 := am hl2
   have HL3 := am hl3
   have hgn : w.heap.size ≤ wr.heap.size := HN.out.bel.size
   have HVO := am (fun j (e : vo.ownBlock = some j) => Qai ((Kd.S_typed HN.out.s j e).choose_spec))
   clear hbb hC2 hC3 hl2 hl3 hy0 hy1 hy2 hy3 htc htl HN
   generalize wr.alloc (.cells #[.int .i64 (nd l k).f0, .int .i64 (nd l k).f1, .slice A2 (nd l k).f2.length c2, .slice A3 (nd l k).f3.length c3] 52) = w1 at *
   have hn2 := (Qab HNB1.out 2).trans (show _ = some (Value.slice A2 (nd l k).f2.length c2) from rfl)
   have hn3 := (Qab HNB1.out 3).trans (show _ = some (Value.slice A3 (nd l k).f3.length c3) from rfl)
   have hnl := Qai HNB1.out
   go_upto_region 8 with (first
    | (go_at_call 22; (with_reducible refine (moraineref00_CopyBytes.calls A2 c2 (nd l k).f2 _ _ (Kd.C_below HC2.out HB1.out) HL2.out (rcopy_b _ zq3)).mono ?_); rintro e w2 ⟨v2, rfl, hr, hb⟩; obtain ⟨A4, c4, hv, hc4, -⟩ := Kd.R_reads hr; subst hv; have HR2 := am (Kd.R_lower (Kd.R_mono (Kd.R_bound hr) (fun k hk => show wr.heap.size < k from Nat.lt_of_lt_of_le hnl hk.2.1)) (Nat.le_trans hgn (Nat.le_of_lt hnl))); have HB2 := am (Qa HB1.out hb); have HN2 := am (HN1.out.below hb); have HNB2 := am (Qaf HNB1.out hb); clear hn2 hn3 hnl; have hn2 := (Qab HNB2.out 2).trans (show _ = some (Value.slice A2 (nd l k).f2.length c2) from rfl); have hn3 := (Qab HNB2.out 3).trans (show _ = some (Value.slice A3 (nd l k).f3.length c3) from rfl); have hnl := Qai HNB2.out; have hf2 := Qag HNB2.out 2; clear hr hb)
    | (go_at_call 23; (with_reducible refine (moraineref00_CopyEntries.calls A3 c3 (nd l k).f3 _ _ (Kd.C_below HC3.out (HB2.out.setCell (p := ⟨wr.heap.size, 2, none⟩) (Nat.le_refl _) _)) HL3.out (rcopy_e _ zq3)).mono ?_); rintro e w3 ⟨v3, rfl, hr, hb⟩; obtain ⟨A5, c5, hv, hc5, -⟩ := Kd.R_reads hr; subst hv; have HNB3 := am (show w3.heap[wr.heap.size]? = some (.cells #[.int .i64 (nd l k).f0, .int .i64 (nd l k).f1, .slice A4 (nd l k).f2.length c4, .slice A3 (nd l k).f3.length c3] 52 (0, 0)) from Qaf (Qap HNB2.out 2 _ rfl) hb); have HN3 := am ((HN2.out.set HNB2.out zq9 (fun k hk => Nat.ne_of_lt hk) hgn 2 (.slice A4 (nd l k).f2.length c4)).below hb); have HR23 := am (Kd.R_below (Kd.R_set HR2.out HNB2.out zq9 2 (.slice A4 (nd l k).f2.length c4)) hb); have hs3 := World.size_setCell w2 ⟨wr.heap.size, 2, none⟩ (.slice A4 (nd l k).f2.length c4); rw [hs3] at hr; have HR3 := am (Kd.R_lower (Kd.R_mono (Kd.R_bound hr) (fun k hk => show wr.heap.size < k from Nat.lt_of_lt_of_le hnl hk.2.1)) (Nat.le_trans hgn (Nat.le_of_lt hnl))); clear hn2 hn3 hnl hf2 hs3; have hn3 := (Qab HNB3.out 3).trans (show _ = some (Value.slice A3 (nd l k).f3.length c3) from rfl); have hnl := Qai HNB3.out; have hf3 := Qag HNB3.out 3; clear hr hb))
   have HNB4 := am (show (w3.setCell ⟨wr.heap.size, 3, none⟩ (.slice A5 (nd l k).f3.length c5)).heap[wr.heap.size]? = some (.cells #[.int .i64 (nd l k).f0, .int .i64 (nd l k).f1, .slice A4 (nd l k).f2.length c4, .slice A5 (nd l k).f3.length c5] 52 (0, 0)) from Qap HNB3.out 3 _ rfl)
   have HN4 := am (HN3.out.set HNB3.out zq9 (fun k hk => Nat.ne_of_lt hk) hgn 3 (.slice A5 (nd l k).f3.length c5))
   have HR24 := am (Kd.R_set HR23.out HNB3.out zq9 3 (.slice A5 (nd l k).f3.length c5))
   have HR34 := am (Kd.R_set HR3.out HNB3.out zq9 3 (.slice A5 (nd l k).f3.length c5))
   clear hn3 hnl hf3 HNB1 HNB2 HNB3 HN1 HN2 HN3 HR2 HR23 HR3 HB1 HB2
   generalize w3.setCell ⟨wr.heap.size, 3, none⟩ (.slice A5 (nd l k).f3.length c5) = w4 at *
   generalize wr.heap.size = gn at *
   have hn0 := (Qab HNB4.out 0).trans (show _ = some (Value.int .i64 (nd l k).f0) from rfl)
   have hn1 := (Qab HNB4.out 1).trans (show _ = some (Value.int .i64 (nd l k).f1) from rfl)
   have hn2 := (Qab HNB4.out 2).trans (show _ = some (Value.slice A4 (nd l k).f2.length c4) from rfl)
   have hn3 := (Qab HNB4.out 3).trans (show _ = some (Value.slice A5 (nd l k).f3.length c5) from rfl)
   have hnl := Qai HNB4.out
   obtain ⟨Ao, co, evo⟩ := Kd.S_slice HN4.out.s
   rw [List.length_take, Nat.min_eq_left hk] at evo
   subst evo
   have ho0 := (Qab HN4.out.o 0).trans (show _ = some (Value.slice Ao k co) from rfl)
   have hof := Qag HN4.out.o 0
   have hol := Qai HN4.out.o
   have HLN := am (show ((l.take k).length + 1) * 64 ≤ 140737488355328 by rw [List.length_take, Nat.min_eq_left hk]; omega)
   have HS := am (Kd.S_mono HN4.out.s (fun k (hk : k < gn) => show True ∧ ¬ gn < k from ⟨trivial, by omega⟩))
   have HOK := am (show ∀ k', gn < k' → True ∧ some k' ≠ (Value.slice Ao k co).ownBlock from fun k' hk => ⟨trivial, fun e => by have := HVO.out k' e.symm; omega⟩)
   have HMK := am (Qdu w4 w.heap.size (fun k => gn < k) ⟨(nd l k).f0, (nd l k).f1, (nd l k).f2, (nd l k).f3⟩ HR24.out HR34.out)
   go_wp2_with ((with_reducible refine Qas (b := .append) (xs := #[.tmp 28, .tmp 30]) rfl ?_); at_builtin; (refine Kd.S_append k52 (w0 := w) w.heap.size rfl (.tmp 28) (.tmp 30) 24 52 (.agg #[.int .i64 0, .int .i64 0, .slice none 0 0, .slice none 0 0]) 64 rfl Tryz.underlying24 info52 rfl zq9 zq3 (.slice Ao k co) (l.take k) ⟨(nd l k).f0, (nd l k).f1, (nd l k).f2, (nd l k).f3⟩ _ (fun _ => True) (fun k => gn < k) rfl rfl HMK.out HOK.out (fun _ _ => trivial) HS.out HN4.out.bel HN4.out.bel.size HLN.out ?_); intro v5 w5 ho hbb hg hat; obtain ⟨A6, n6, c6, rfl⟩ := S_any ho; have HN5 := am (HN4.out.next hgo hg ho hbb); have HO5 := am (HN4.out.kept HN4.out.o zq9 hg); have ho5 := (Qab HO5.out 0).trans (show _ = some (Value.slice Ao k co) from rfl); have hof5 := Qag HO5.out 0; have hol5 := Qai HO5.out; clear ho hbb hg hat)
   go_roundw
   case rel => exact ⟨k + 1, _, rfl, by omega, ⟨by rw [HND.out]; exact HN5.out⟩⟩
   case measure => simp [intOf]; omega
  ·
   have hke : k = l.length := by omega
   have HS0 := HN.out.s
   rw [hke, List.take_of_length_le (Nat.le_refl _)] at HS0
   subst hke
   obtain ⟨Ao, co, evo⟩ := Kd.S_slice HS0
   subst evo
   have HS := am HS0
   have ho0 := (Qab HN.out.o 0).trans (show _ = some (Value.slice Ao l.length co) from rfl)
   have hol := Qai HN.out.o
   have hyr := (Qab HN.out.r 0).trans (show _ = some (Value.slice none 0 0) from rfl)
   have hyf := Qag HN.out.r 0
   have hyl := Qai HN.out.r
   clear HS0
   go_wp2
   have HRP := am (Qap HN.out.r 0 (.slice Ao l.length co) rfl)
   refine bodyPost_ret (Qds rfl _ _ (w.heap.size + 1) 26 _ (0, 0) _ rfl HRP.out Tryz.underlying26 rfl zq15) rfl ⟨_, rfl, ?_, ?_⟩
   · exact Kd.S_set HS.out HN.out.r zq9 0 _
   · exact HN.out.bel.setCell (p := ⟨w.heap.size + 1, 0, none⟩) (Nat.le_succ _) _
theorem holdme {P : Prop} (h : Aside0 P) : P := h.out
set_option maxHeartbeats 4000000 in
theorem rput_call (A : Option Addr) (c : Nat) (es : List S62) (n : ByteArray) (v : Int) (w : World) (hr : Kd.C k62 w A es.length es) (hc : es.length ≤ c) (hl : es.length < 100000000000) :
  Calls Tryz.prog 97 #[.slice A es.length c, .agg #[.string n, .int .i64 v]] w fun e w' => ∃ u : Value, e = .returned u ∧ Kd.R k62 62 w' w.heap.size (fun _ => True) u (putL es n v) ∧ Below w.heap.size w w' := by
 have hb0 := Qaa (Below.refl w.heap.size w) (.cells #[.string n, .int .i64 v] 62)
 have hx0 := Qal w (.cells #[.string n, .int .i64 v] 62)
 have HBW := am hb0
 have HC := am (Kd.C_below hr hb0)
 have hfi := fI_le es n
 have HP := am (show putL es n v = es.take (fI es n) ++ [⟨n, v⟩] ++ es.drop (fI es n + if fB es n = true then 1 else 0) by unfold putL; split <;> simp_all)
 have HFB := am (fun h : fB es n = true => (fB_lt h).1)
 go_enter Tryz.func97, Tryz.ntmps97
 go_upto_region 1 with (fail)
 have HX := am hx0
 have HWX := am (show (w.alloc (.cells #[.string n, .int .i64 v] 62)).heap.size = w.heap.size + 1 from World.size_alloc _ _)
 clear hr hb0 hx0
 generalize w.alloc (.cells #[.string n, .int .i64 v] 62) = wx at *
 have hxl := Qai HX.out
 obtain ⟨k, hk⟩ : ∃ k, fI es n = k := ⟨_, rfl⟩
 obtain ⟨b, hb⟩ : ∃ b, fB es n = b := ⟨_, rfl⟩
 have HK := am (And.intro hk hb)
 rw [hk, hb] at HP
 rw [hb, hk] at HFB
 rw [hk] at hfi
 clear hk hb
 have hkc : (k : Int) ≤ (c : Int) := by omega
 have hkl : (k : Int) ≤ (es.length : Int) := by omega
 have y0 := (Qab HX.out 0).trans (show _ = some (Value.string n) from rfl)
 have y1 := (Qab HX.out 1).trans (show _ = some (Value.int .i64 v) from rfl)
 cases b
 all_goals go_upto_region 7 with (first
  | (go_at_call 91; ((with_reducible refine (Qgc A c es n _ HC.out hc hl).mono ?_); rintro e w1 ⟨rfl, m, hm⟩; rw [HK.out.1, HK.out.2]; have HB := am (show Below wx.heap.size wx w1 by rw [hm]; with_reducible apply Qac; exact Below.refl _ _); clear hm y0 y1; have hxl := Qai (Qaf HX.out HB.out); have y0 := (Qab (Qaf HX.out HB.out) 0).trans (show _ = some (Value.string n) from rfl); have y1 := (Qab (Qaf HX.out HB.out) 1).trans (show _ = some (Value.int .i64 v) from rfl)))
  | ((with_reducible refine Qbx (N := 15) rfl ?_); refine Kd.R_lit k62 _ 62 ?hg (N := 15) ?hd (xs := ([] : List S62)) (inner := []) (ok := fun _ => True) (okp := fun _ => True) ?hr ?hp (fun _ hk => hk) trivial (Below.refl _ _) (Nat.le_refl _) zq14 ?_; (case hd => rfl); (case hg => rfl); (case hr => first | (go_simp; done) | (go_simp; rfl)); (case hp => exact (Reps.none _ _)); intro v1 w2 ho hb hg_ hnew_; clear hg_ hnew_; have HO := am (Kd.R_lower ho (HB.out.size)); have n0_ := am (Qa HB.out hb); clear HB ho hb y0 y1; have HB := n0_; clear n0_; have hxl := Qai (Qaf HX.out HB.out); have y0 := (Qab (Qaf HX.out HB.out) 0).trans (show _ = some (Value.string n) from rfl); have y1 := (Qab (Qaf HX.out HB.out) 1).trans (show _ = some (Value.int .i64 v) from rfl))
  | ((with_reducible refine Qas (b := .append) (xs := #[.tmp 16, .tmp 19]) rfl ?_); at_builtin; refine Kd.R_append_rows k62 (w0 := wx) wx.heap.size rfl (.tmp 16) (.tmp 19) 50 62 (.agg #[(.string ⟨#[]⟩), (.int .i64 0)]) 24 rfl Tryz.underlying50 infoE rfl zq9 zq3 _ [] (es.take k) _ _ _ (fun _ => True) (fun _ => False) rfl rfl HO.out ?aR (fun _ _ h => h) (fun _ h => h.elim) (fun _ _ => trivial) HB.out HB.out.size ?aL ?_; (case aR => have h := Kd.C_take (m := k) (Kd.C_below HC.out HB.out) hfi; rw [List.length_take, Nat.min_eq_left hfi] at h; exact h); (case aL => simp; omega); intro v2 w3 ho hb hg hat; rw [List.nil_append] at ho; replace HO := am ho; replace HB := am hb; clear ho hb hg hat; clear y0 y1 hxl; have hxl := Qai (Qaf HX.out HB.out); have y0 := (Qab (Qaf HX.out HB.out) 0).trans (show _ = some (Value.string n) from rfl); have y1 := (Qab (Qaf HX.out HB.out) 1).trans (show _ = some (Value.int .i64 v) from rfl))
  | ((with_reducible refine Qas (b := .append) (xs := #[.tmp 21, .tmp 23]) rfl ?_); at_builtin; refine Kd.R_append k62 (w0 := wx) wx.heap.size rfl (.tmp 21) (.tmp 23) 50 62 (.agg #[(.string ⟨#[]⟩), (.int .i64 0)]) 24 rfl Tryz.underlying50 infoE rfl zq9 zq3 _ (es.take k) (⟨n, v⟩ : S62) [.string n, .int .i64 v] (fun _ => True) (fun _ => False) rfl rfl (k62_mkM _ _ _ (⟨n, v⟩ : S62)) (fun _ h => h.elim) (fun _ _ => trivial) HO.out HB.out HB.out.size ?aL ?_; (case aL => rw [List.length_take, Nat.min_eq_left hfi]; omega); intro v3 w4 ho hb hg hat; replace HO := am ho; replace HB := am hb; clear ho hb hg hat; clear y0 y1 hxl; have hxl := Qai (Qaf HX.out HB.out); have y0 := (Qab (Qaf HX.out HB.out) 0).trans (show _ = some (Value.string n) from rfl); have y1 := (Qab (Qaf HX.out HB.out) 1).trans (show _ = some (Value.int .i64 v) from rfl)))
 ·
  go_wp2_with ((with_reducible refine Qas (b := .append) (xs := #[.tmp 28, .tmp 31]) rfl ?_); refine holdme ?_)
  all_goals
   refine ⟨?_⟩
   refine Kd.R_append_rows k62 (w0 := wx) wx.heap.size rfl (.tmp 28) (.tmp 31) 50 62 (.agg #[(.string ⟨#[]⟩), (.int .i64 0)]) 24 rfl Tryz.underlying50 infoE rfl zq9 zq3 v3 (es.take k ++ ([⟨n, v⟩] : List S62)) (es.drop k) _ _ _ (fun _ => True) (fun _ => False) rfl rfl HO.out ?aR (fun _ _ h => h) (fun _ h => h.elim) (fun _ _ => trivial) HB.out HB.out.size ?aL ?_
   case aR =>
    have h := Kd.C_drop (m := k) (Kd.C_below HC.out HB.out) zq3 hc
    rw [List.length_drop] at h
    first | exact h | (rw [if_pos zq3] at h; exact h) | (rw [if_neg zq3] at h; exact h)
   case aL => simp only [List.length_append, List.length_take, List.length_cons, List.length_nil]; omega
   intro v4 w5 ho hb hg hat
   clear hg hat
   go_wp2
   go_ret
   exact ⟨_, rfl, by rw [HP.out]; exact Kd.R_lower ho (by rw [HWX.out]; exact Nat.le_succ _), Qa HBW.out hb⟩
 ·
  have hk1 := HFB.out (by trivial)
  have hk2 : (k : Int) + 1 ≤ (es.length : Int) := by omega
  have hk3 : (k : Int) + 1 ≤ (c : Int) := by omega
  go_wp2_with ((with_reducible refine Qas (b := .append) (xs := #[.tmp 28, .tmp 31]) rfl ?_); refine holdme ?_)
  all_goals
   refine ⟨?_⟩
   refine Kd.R_append_rows k62 (w0 := wx) wx.heap.size rfl (.tmp 28) (.tmp 31) 50 62 (.agg #[(.string ⟨#[]⟩), (.int .i64 0)]) 24 rfl Tryz.underlying50 infoE rfl zq9 zq3 v3 (es.take k ++ ([⟨n, v⟩] : List S62)) (es.drop (k + 1)) _ _ _ (fun _ => True) (fun _ => False) rfl rfl HO.out ?aR (fun _ _ h => h) (fun _ h => h.elim) (fun _ _ => trivial) HB.out HB.out.size ?aL ?_
   case aR =>
    have h := Kd.C_drop (m := (k + 1)) (Kd.C_below HC.out HB.out) zq3 hc
    rw [List.length_drop] at h
    first | exact h | (rw [if_pos zq3] at h; exact h) | (rw [if_neg zq3] at h; exact h)
   case aL => simp only [List.length_append, List.length_take, List.length_cons, List.length_nil]; omega
   intro v4 w5 ho hb hg hat
   clear hg hat
   go_wp2
   go_ret
   exact ⟨_, rfl, by rw [HP.out]; exact Kd.R_lower ho (by rw [HWX.out]; exact Nat.le_succ _), Qa HBW.out hb⟩
section
attribute [local go_sem ↓] Go.wp_at_zero Go.wp_at_succ
theorem rbox2 (w : World) (a b : Obj) : ((w.alloc a).alloc b).heap[w.heap.size + 1]? = some b := by
 have h := Qal (w.alloc a) b
 rwa [World.size_alloc] at h
set_option maxHeartbeats 4000000 in
theorem rput (A : Option Addr) (c : Nat) (l : List S52) (d : Nat) (nm : ByteArray) (k : Nat) (w : World) (hC : Kd.C k52 w A l.length l) (hc : l.length ≤ c) (hl : l.length < 1000000) (hm : ∀ k, (nd l k).f2.length < 1000000000 ∧ (nd l k).f3.length < 1000000000) (hd : d < l.length) :
  Calls Tryz.prog 82 #[.agg #[.slice A l.length c], .int .i64 d, .string nm, .int .i64 k] w fun e w' => ∃ u, e = .returned (.agg #[u]) ∧ Kd.S k52 52 w' w.heap.size (fun _ => True) u (putT l d nm k) ∧ Below w.heap.size w w' := by
 have HC := am hC
 have HM := am hm
 have hsm := (hm d).2
 clear hC hm
 go_enter Tryz.func82, Tryz.ntmps82
 go_wp2_with (go_at_call 10; (with_reducible refine (Qdi A c l _ (Kd.C_below HC.out zq27) hc hl HM.out).mono ?_); rintro e w1 ⟨v, rfl, hs, hb⟩; obtain ⟨g, cap, hv, hBg, hgl1, -⟩ := Kd.S_form hs zq3; subst hv; have HS0 := am hs; have HB1 := am (Qa (w := w) zq27 hb); have HR1 := am (Qaf (rbox2 w (.cells #[.slice A l.length c] 26) (.cells #[.slice none 0 0] 26)) hb); clear hs hb)
 have HS1 := am (Kd.S_lower (base' := w.heap.size) HS0.out (by simp; try omega))
 clear HS0
 have hr1l := Qai HR1.out
 have hBg0 : w.heap.size ≤ g := by have := hBg; simp at this; omega
 clear hBg
 have HB2 := am (show Below w.heap.size w (w1.alloc (.cells #[.slice (some ⟨g, 0, none⟩) l.length cap] 26)) from Qaa HB1.out _)
 have HS2 := am (show Kd.S k52 52 (w1.alloc (.cells #[.slice (some ⟨g, 0, none⟩) l.length cap] 26)) w.heap.size (fun k => k ≠ w1.heap.size) (.slice (some ⟨g, 0, none⟩) l.length cap) l from Kd.S_below (Kd.S_mono (Kd.S_elderB HS1.out w1.heap.size (Nat.le_refl _)) (fun _ hk => hk.2)) (Qaa (Below.refl _ _) _))
 have HW2 := am (Qal w1 (.cells #[.slice (some ⟨g, 0, none⟩) l.length cap] 26))
 have HR2 := am (Qaj HR1.out (.cells #[.slice (some ⟨g, 0, none⟩) l.length cap] 26))
 have hgne : g ≠ w.heap.size + 1 := fun e => by
  obtain ⟨_, _, _, _, _, cells, hcl⟩ := Kd.S_form HS1.out (show 0 < l.length by omega)
  have := (Kd.S_typed HS1.out) g zq24
  obtain ⟨cs, hcs⟩ := this
  rw [e, HR1.out] at hcs
  injection hcs with hcs
  injection hcs with _ hcs
  exact absurd hcs zq9
 generalize hW2 : w1.alloc (.cells #[.slice (some ⟨g, 0, none⟩) l.length cap] 26) = w2 at *
 have hbl : w1.heap.size < w2.heap.size := Qai HW2.out
 generalize w1.heap.size = b at *
 obtain ⟨v2, v3, h0, h1, h2, h3, hd2, hd3, hfr, hgb, -, hput, -⟩ := Qdf hbl HS2.out d hd HB2.out.size
 obtain ⟨A3, c3, rfl, hl3, hC3⟩ := Kd.R_reads hd3
 have hk0 : w2.cell? ⟨b, 0, none⟩ = some (.slice (some ⟨g, 0, none⟩) l.length cap) := (Qab HW2.out 0).trans rfl
 have hgl2 : g < w2.heap.size := World.block_lt_of_cell? w2 _ h0
 have HCE := am hC3
 have HP := am hput
 have hf3 := hfr 3
 have hz0 : (0 : Int) ≤ (d : Int) := by omega
 have hz1 : (d : Int) < (l.length : Int) := by omega
 clear hd2 hd3 hC3 hput h0 h1 h2
 (try go_wp2)
 go_region_with (first | (go_at_call 97; (with_reducible refine (rput_call A3 c3 (nd l d).f3 nm (k : Int) _ (Kd.C_below HCE.out zq21) hl3 zq3).mono ?_); rintro e w3 ⟨u, rfl, hr, hb⟩; obtain ⟨A4, c4, hu, hl4, -⟩ := Kd.R_reads hr; subst hu; have HR3 := am (Kd.R_lower hr (show w2.heap.size ≤ _ by simp)); have HB3 := am (show Below w2.heap.size w2 w3 from Qa zq21 hb); have hk3 := (HB3.out.cell hbl).trans hk0; have h33 := (HB3.out.cell (p := ⟨g, d * 4 + 3, none⟩) hgl2).trans h3; have hf33 : w3.frozen? ⟨g, d * 4 + 3, none⟩ = false := (HB3.out.frozen (p := ⟨g, d * 4 + 3, none⟩) hgl2).trans hf3; have HRV3 := am (Qaf HR2.out HB3.out); clear hr hb))
 all_goals (
  have k4 := (cell_far (W := w3) (p := ⟨g, d * 4 + 3, none⟩) (a := ⟨b, 0, none⟩) (Ne.symm hgb) (.slice A4 (putL (nd l d).f3 nm (k : Int)).length c4)).trans hk3
  have R4 := am (Qam (p := ⟨g, d * 4 + 3, none⟩) HRV3.out (Ne.symm hgne) (.slice A4 (putL (nd l d).f3 nm (k : Int)).length c4))
  have S4 := am (HP.out w3 _ _ HB3.out HR3.out)
  have B4 := am ((Qa HB2.out HB3.out).setCell (p := ⟨g, d * 4 + 3, none⟩) hBg0 (.slice A4 (putL (nd l d).f3 nm (k : Int)).length c4))
  clear hk3 h33 hf33
  generalize w3.setCell ⟨g, d * 4 + 3, none⟩ (.slice A4 (putL (nd l d).f3 nm (k : Int)).length c4) = W4 at k4 R4 S4 B4 ⊢
  have hr4 := (Qab R4.out 0).trans (show _ = some (Value.slice none 0 0) from rfl)
  have hr4l := Qai R4.out
  have hr4f := Qag R4.out 0
  clear hk0 h3 hf3 hfr hr1l hgl1
  go_wp2
  refine bodyPost_ret (results_cell_row rfl _ _ (w.heap.size + 1) 26 #[.slice (some ⟨g, 0, none⟩) l.length cap] (0, 0) _ rfl (Qap (cs := #[.slice none 0 0]) R4.out 0 _ rfl) Tryz.underlying26 rfl zq15) rfl ?_
  exact ⟨_, rfl, Kd.S_mono (Kd.S_set S4.out R4.out zq9 0 _) (fun _ _ => trivial), B4.out.setCell (p := ⟨w.heap.size + 1, 0, none⟩) (Nat.le_succ _) _⟩)
set_option maxHeartbeats 4000000 in
theorem rcut (A : Option Addr) (c : Nat) (l : List S52) (d : Nat) (nm : ByteArray) (w : World) (hC : Kd.C k52 w A l.length l) (hc : l.length ≤ c) (hl : l.length < 1000000) (hm : ∀ k, (nd l k).f2.length < 1000000000 ∧ (nd l k).f3.length < 1000000000) (hd : d < l.length) :
  Calls Tryz.prog 83 #[.agg #[.slice A l.length c], .int .i64 d, .string nm] w fun e w' => ∃ u, e = .returned (.agg #[u]) ∧ Kd.S k52 52 w' w.heap.size (fun _ => True) u (cutT l d nm) ∧ Below w.heap.size w w' := by
 have HC := am hC
 have HM := am hm
 have hsm := (hm d).2
 clear hC hm
 go_enter Tryz.func83, Tryz.ntmps83
 go_wp2_with (go_at_call 10; (with_reducible refine (Qdi A c l _ (Kd.C_below HC.out zq27) hc hl HM.out).mono ?_); rintro e w1 ⟨v, rfl, hs, hb⟩; obtain ⟨g, cap, hv, hBg, hgl1, -⟩ := Kd.S_form hs zq3; subst hv; have HS0 := am hs; have HB1 := am (Qa (w := w) zq27 hb); have HR1 := am (Qaf (rbox2 w (.cells #[.slice A l.length c] 26) (.cells #[.slice none 0 0] 26)) hb); clear hs hb)
 have HS1 := am (Kd.S_lower (base' := w.heap.size) HS0.out (by simp; try omega))
 clear HS0
 have hr1l := Qai HR1.out
 have hBg0 : w.heap.size ≤ g := by have := hBg; simp at this; omega
 clear hBg
 have HB2 := am (show Below w.heap.size w (w1.alloc (.cells #[.slice (some ⟨g, 0, none⟩) l.length cap] 26)) from Qaa HB1.out _)
 have HS2 := am (show Kd.S k52 52 (w1.alloc (.cells #[.slice (some ⟨g, 0, none⟩) l.length cap] 26)) w.heap.size (fun k => k ≠ w1.heap.size) (.slice (some ⟨g, 0, none⟩) l.length cap) l from Kd.S_below (Kd.S_mono (Kd.S_elderB HS1.out w1.heap.size (Nat.le_refl _)) (fun _ hk => hk.2)) (Qaa (Below.refl _ _) _))
 have HW2 := am (Qal w1 (.cells #[.slice (some ⟨g, 0, none⟩) l.length cap] 26))
 have HR2 := am (Qaj HR1.out (.cells #[.slice (some ⟨g, 0, none⟩) l.length cap] 26))
 have hgne : g ≠ w.heap.size + 1 := fun e => by
  obtain ⟨_, _, _, _, _, cells, hcl⟩ := Kd.S_form HS1.out (show 0 < l.length by omega)
  have := (Kd.S_typed HS1.out) g zq24
  obtain ⟨cs, hcs⟩ := this
  rw [e, HR1.out] at hcs
  injection hcs with hcs
  injection hcs with _ hcs
  exact absurd hcs zq9
 generalize hW2 : w1.alloc (.cells #[.slice (some ⟨g, 0, none⟩) l.length cap] 26) = w2 at *
 have hbl : w1.heap.size < w2.heap.size := Qai HW2.out
 generalize w1.heap.size = b at *
 obtain ⟨v2, v3, h0, h1, h2, h3, hd2, hd3, hfr, hgb, -, hput, -⟩ := Qdf hbl HS2.out d hd HB2.out.size
 obtain ⟨A3, c3, rfl, hl3, hC3⟩ := Kd.R_reads hd3
 have hk0 : w2.cell? ⟨b, 0, none⟩ = some (.slice (some ⟨g, 0, none⟩) l.length cap) := (Qab HW2.out 0).trans rfl
 have hgl2 : g < w2.heap.size := World.block_lt_of_cell? w2 _ h0
 have HCE := am hC3
 have HP := am hput
 have hf3 := hfr 3
 have hz0 : (0 : Int) ≤ (d : Int) := by omega
 have hz1 : (d : Int) < (l.length : Int) := by omega
 clear hd2 hd3 hC3 hput h0 h1 h2
 (try go_wp2)
 go_region_with (first | (go_at_call 98; (with_reducible refine (rcut_call A3 c3 (nd l d).f3 nm _ (Kd.C_below HCE.out zq21) hl3 zq3).mono ?_); rintro e w3 ⟨u, rfl, hr, hb⟩; obtain ⟨A4, c4, hu, hl4, -⟩ := Kd.R_reads hr; subst hu; have HR3 := am (Kd.R_lower hr (show w2.heap.size ≤ _ by simp)); have HB3 := am (show Below w2.heap.size w2 w3 from Qa zq21 hb); have hk3 := (HB3.out.cell hbl).trans hk0; have h33 := (HB3.out.cell (p := ⟨g, d * 4 + 3, none⟩) hgl2).trans h3; have hf33 : w3.frozen? ⟨g, d * 4 + 3, none⟩ = false := (HB3.out.frozen (p := ⟨g, d * 4 + 3, none⟩) hgl2).trans hf3; have HRV3 := am (Qaf HR2.out HB3.out); clear hr hb))
 all_goals (
  have k4 := (cell_far (W := w3) (p := ⟨g, d * 4 + 3, none⟩) (a := ⟨b, 0, none⟩) (Ne.symm hgb) (.slice A4 (cutL (nd l d).f3 nm).length c4)).trans hk3
  have R4 := am (Qam (p := ⟨g, d * 4 + 3, none⟩) HRV3.out (Ne.symm hgne) (.slice A4 (cutL (nd l d).f3 nm).length c4))
  have S4 := am (HP.out w3 _ _ HB3.out HR3.out)
  have B4 := am ((Qa HB2.out HB3.out).setCell (p := ⟨g, d * 4 + 3, none⟩) hBg0 (.slice A4 (cutL (nd l d).f3 nm).length c4))
  clear hk3 h33 hf33
  generalize w3.setCell ⟨g, d * 4 + 3, none⟩ (.slice A4 (cutL (nd l d).f3 nm).length c4) = W4 at k4 R4 S4 B4 ⊢
  have hr4 := (Qab R4.out 0).trans (show _ = some (Value.slice none 0 0) from rfl)
  have hr4l := Qai R4.out
  have hr4f := Qag R4.out 0
  clear hk0 h3 hf3 hfr hr1l hgl1
  go_wp2
  refine bodyPost_ret (results_cell_row rfl _ _ (w.heap.size + 1) 26 #[.slice (some ⟨g, 0, none⟩) l.length cap] (0, 0) _ rfl (Qap (cs := #[.slice none 0 0]) R4.out 0 _ rfl) Tryz.underlying26 rfl zq15) rfl ?_
  exact ⟨_, rfl, Kd.S_mono (Kd.S_set S4.out R4.out zq9 0 _) (fun _ _ => trivial), B4.out.setCell (p := ⟨w.heap.size + 1, 0, none⟩) (Nat.le_succ _) _⟩)
end
theorem Qc (a : Addr) (n : Nat) : (a.add n).block = a.block := by
 unfold Addr.add
 split <;> rfl
theorem not_box {w : World} {ad : Addr} {g T : Nat} {u : Value} {A : Option Addr} {n c : Nat} {f : Nat × Nat} (hg : w.heap[g]? = some (.cells #[.slice A n c] T f)) (h : w.cell? ad = some u) (hu : ∀ A n c, u ≠ .slice A n c) : ad.block ≠ g := by
 intro e
 unfold World.cell? at h
 rw [e, hg] at h
 dsimp only at h
 split at h
 · cases h
 ·
  rcases Nat.eq_zero_or_pos ad.off with h0 | h0
  ·
   rw [h0] at h
   exact hu _ _ _ (Option.some.inj h).symm
  ·
   rw [Array.getElem?_eq_none zq20] at h
   cases h
theorem Qge {w W : World} {g : Nat} (hk : ∀ k, k ≠ g → W.heap[k]? = w.heap[k]?) {ad : Addr} (h : ad.block ≠ g) : W.cell? ad = w.cell? ad := by
 unfold World.cell?
 rw [hk _ h]
section
variable {w W : World} {g T : Nat} {Ag : Option Addr} {ng cg : Nat} {f : Nat × Nat} {A : Option Addr} {n : Nat}
theorem C_flat {α : Type} {d : Kd α} {xs : List α} (hf : ∀ x cs, d.K w x cs → ∀ u ∈ cs, ∀ A n c, u ≠ .slice A n c) (hK : ∀ x cs, d.K w x cs → d.K W x cs) (hg : w.heap[g]? = some (.cells #[.slice Ag ng cg] T f)) (hk : ∀ k, k ≠ g → W.heap[k]? = w.heap[k]?) (h : d.C w A n xs) : d.C W A n xs :=
 ⟨h.1, h.2.1, fun hn => by
  obtain ⟨ad, e, hc⟩ := h.2.2 hn
  refine ⟨ad, e, fun j p hj => ?_⟩
  obtain ⟨c, hs, hr, hcell⟩ := hc j p hj
  exact ⟨c, hs, hK _ _ hr, fun i u hu => (Qge hk (not_box hg (hcell i u hu) (hf _ _ hr u (List.mem_of_getElem? hu)))).trans (hcell i u hu)⟩⟩
theorem Qgx {k : IntKind} {xs : List Int} (hg : w.heap[g]? = some (.cells #[.slice Ag ng cg] T f)) (hk : ∀ k, k ≠ g → W.heap[k]? = w.heap[k]?) (h : (Kd.int k).C w A n xs) : (Kd.int k).C W A n xs :=
 C_flat (w := w) (W := W) (d := Kd.int k) (fun x cs h u hu A n c e => by subst h; rw [List.mem_singleton.1 hu] at e; cases e) (fun _ _ h => h) hg hk h
theorem C_E_box {xs : List S62} (hg : w.heap[g]? = some (.cells #[.slice Ag ng cg] T f)) (hk : ∀ k, k ≠ g → W.heap[k]? = w.heap[k]?) (h : k62.C w A n xs) : k62.C W A n xs :=
 C_flat (w := w) (W := W) (fun x cs h u hu A n c e => by rw [Qgy h] at hu; subst e; simp at hu) (fun x cs h => by rw [Qgy h]; exact k62_mk W x) hg hk h
theorem C_box {xs : List S52} (hg : w.heap[g]? = some (.cells #[.slice Ag ng cg] T f)) (hk : ∀ k, k ≠ g → W.heap[k]? = w.heap[k]?) (h : k52.C w A n xs) : k52.C W A n xs :=
 ⟨h.1, h.2.1, fun hn => by
  obtain ⟨ad, e, hc⟩ := h.2.2 hn
  refine ⟨ad, e, fun j p hj => ?_⟩
  obtain ⟨c, hs, hr, hcell⟩ := hc j p hj
  obtain ⟨A2, c2, A3, c3, rfl, l2, g2, l3, g3⟩ := k52_open hr
  have hb : ad.block ≠ g := by
   have := not_box hg (hcell 0 _ rfl) (by intro A n c h; cases h)
   rwa [Qc] at this
  exact ⟨_, hs, k52_mk W p l2 (Qgx hg hk g2) l3 (C_E_box hg hk g3), fun i u hu => (Qge hk (by rw [Qc]; exact hb)).trans (hcell i u hu)⟩⟩
end
end Go.Proofs.YtbhjggbijkjmnaaGreatDoor.PZ
end
