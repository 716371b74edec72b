import Derived.Test.YtbhjggbijkjmnaaGreatDoorM22
import Derived.Deep.RegionLaw
import Derived.Deep.AppendLies
import Derived.Test.YtbhjggbijkjmnaaGreatDoorM18
import Derived.Test.YtbhjggbijkjmnaaGreatDoorM21
import Derived.Test.YtbhjggbijkjmnaaGreatDoorM20
import Derived.Test.YtbhjggbijkjmnaaGreatDoorM15
import Derived.Maps.OwnOps
set_option linter.unusedVariables false
set_option linter.unusedSimpArgs false
section
namespace Go.Proofs.YtbhjggbijkjmnaaGreatDoor.PZ
open Go.RowKit Go.Proofs.YtbhjggbijkjmnaaGreatDoorW.PrintWords Go.Proofs.YtbhjggbijkjmnaaGreatDoorW.PrintLast Go.Proofs.YtbhjggbijkjmnaaGreatDoorW.PrintMore Go.Proofs.YtbhjggbijkjmnaaGreatDoor.B Go.Proofs.YtbhjggbijkjmnaaGreatDoor.Ord TD
set_option maxRecDepth 100000
section
attribute [local go_sem ↓] Go.wp_at_zero Go.wp_at_succ
section
variable {P : Program} {ops : Array Oper} {o : Oper} {a : Act} {Q : Exit → Act → World → Prop} {Kc : Act → World → Prop} {α : Type}
theorem Qgm (d : Kd α) {w0 W V : World} (base : Nat) (hw : Region.wanted o (yielded ops a.tmps) = true) (s x : Operand) (t e : TypeId) (z : Value) (bytes : Nat)
  (ho : o.op = .call { callee := .builtin .append, args := #[s, x], argTypes := #[t, t] })
  (ht : P.underlying t = some (.slice e)) (hinfo : (P.info? e).map (fun i => (i.zero, i.size, i.bytes)) = some (some z, d.sz, bytes)) (hz : z.cells.size = d.sz) (hs0 : 0 < d.sz) (hb0 : 0 < bytes)
  (v : Value) (xs : List α) (p : α) (cs : List Value) (ok okp : Nat → Prop) (g : Nat) (hg : W.heap.size = g) (hV : V = W.alloc (.cells cs.toArray e)) (hs : a.eval s = v) (hx : a.eval x = .slice (some ⟨g, 0, none⟩) 1 1) (hp : d.M W base okp p cs) (hokp : ∀ k, okp k → ok k ∧ some k ≠ v.ownBlock) (hfresh : ∀ k, W.heap.size ≤ k → ok k)
  (HO : d.R e W base ok v xs) (HB : Below base w0 W) (hbase : base ≤ W.heap.size) (hl : (xs.length + 1) * bytes ≤ 140737488355328)
  (h : ∀ v1 w1, d.R e w1 base ok v1 (xs ++ [p]) → Below base w0 w1 → W.grownBy w1 v.ownBlock → (v1.ownBlock = v.ownBlock ∨ ∃ b, v1.ownBlock = some b ∧ W.heap.size ≤ b) → Kc (a.put o.dst v1) w1) :
  if Region.wanted o (yielded ops a.tmps) = true then Oper.wp P o a V Kc Q else Kc (a.put o.dst undef) V := by
 subst hV hg
 exact Kd.R_append_step d base hw s x t e z bytes ho ht hinfo hz hs0 hb0 v xs p cs ok okp hs hx hp hokp hfresh HO HB hbase hl h
end
set_option maxHeartbeats 4000000 in
theorem list_walk (B b : Nat) (l : List S52) (x y z0 z1 z2 z3 z4 : Value) (p : ByteArray) (rs : List Value) (w : World) (hst : St B b l (x :: .string p :: y :: z0 :: z1 :: z2 :: z3 :: z4 :: .slice none 0 0 :: rs) w) (ho : Ok l) (hp : p.size < 10000000) :
  Calls Tryz.prog 57 #[.pointer (some ⟨b, 0, none⟩)] w fun en w' => (match listF l p with
   | .inl ns => en = .returned (.tuple #[]) ∧ ∃ vn, St B b l (x :: .string p :: y :: z0 :: z1 :: z2 :: z3 :: z4 :: vn :: rs) w' ∧ Kd.R Kd.string 9 w' B (fun k => k ≠ b) vn ns
   | .inr e => en = .panicked (wrong e)) ∧ BW B w w' := by
 have hbl : b < w.heap.size := by obtain ⟨_, v, h, _⟩ := hst; exact Qai h
 have hBb : B ≤ b := hst.1
 have hBw : B ≤ w.heap.size := by omega
 have hk2 : w.cell? ⟨b, 2, none⟩ = some (.string p) := by obtain ⟨_, v, h, _⟩ := hst; exact (Qab h 2).trans rfl
 have HST := am hst
 have HO := am ho
 have HB := am (Below.refl w.heap.size w)
 obtain ⟨hBb', v, hw, hS⟩ := hst
 obtain ⟨g, cap, rfl, hBg, hgl, -⟩ := Kd.S_form hS ho.wf.pos
 have HW := am hw
 have HS := am hS
 clear hw hS ho
 unfold listF Qav
 by_cases h0 : (Qah p).2 = 0
 ·
  rw [if_pos h0]
  cases hk : wk l (Qah p).1 0 with
  | inr n =>
   dsimp only
   have HK := am hk
   clear hk
   go_enter Tryz.func57, Tryz.ntmps57
   go_wp2_with (first
    | (go_at_call 34; (with_reducible refine (Qak p _ hp).mono ?_); rintro e w1 ⟨h1, hb⟩; rw [if_pos h0] at h1; obtain ⟨An, cn, rfl, hcn, hCn⟩ := h1; have HCN := am hCn; clear hCn; have n0_ := am (Qa zq0 hb); clear HB hb; have HB := n0_; clear n0_; have hk2_ := (HB.out.cell (p := ⟨b, 2, none⟩) hbl).trans hk2)
    | (go_at_call 33; (with_reducible refine (Qaq B b l _ An cn p _ (St.below HST.out zq0) HO.out HCN.out hcn).mono ?_); rintro e w2 ⟨h1, hb⟩; rw [HK.out] at h1; subst h1; have n0_ := am (Qa zq0 hb); clear HB hb; have HB := n0_; clear n0_; have hk2_ := (HB.out.cell (p := ⟨b, 2, none⟩) hbl).trans hk2; exact ⟨rfl, rfl, BW.mono zq0 hBw⟩))
  | inl k =>
   dsimp only
   have hkl : k < l.length := wk_lt HO.out.wf HO.out.wf.pos hk
   have HK := am hk
   clear hk
   cases hd : ((nd l k).f0 == 2) with
   | false =>
    rw [if_neg (beq_eq_false_iff_ne.1 hd)]
    dsimp only
    go_enter Tryz.func57, Tryz.ntmps57
    go_wp2_with (first
     | (go_at_call 34; (with_reducible refine (Qak p _ hp).mono ?_); rintro e w1 ⟨h1, hb⟩; rw [if_pos h0] at h1; obtain ⟨An, cn, rfl, hcn, hCn⟩ := h1; have HCN := am hCn; clear hCn; have n0_ := am (Qa zq0 hb); clear HB hb; have HB := n0_; clear n0_; have hk2_ := (HB.out.cell (p := ⟨b, 2, none⟩) hbl).trans hk2)
     | (go_at_call 33; (with_reducible refine (Qaq B b l _ An cn p _ (St.below HST.out zq0) HO.out HCN.out hcn).mono ?_); rintro e w2 ⟨h1, hb⟩; rw [HK.out] at h1; subst h1; have n0_ := am (Qa zq0 hb); clear HB hb; have HB := n0_; clear n0_; have hk2_ := (HB.out.cell (p := ⟨b, 2, none⟩) hbl).trans hk2)
     | (go_at_call 65; (with_reducible refine (Qan B b l _ k _ hkl (St.below HST.out zq0) hd).mono ?_); rintro e w9 ⟨rfl, h9⟩; subst w9)
     | (go_at_call 64; (with_reducible refine (Qaw 22 _).mono ?_); rintro e w9 ⟨rfl, h9⟩; subst w9; exact ⟨rfl, rfl, BW.mono zq0 hBw⟩))
   | true =>
    rw [if_pos (beq_iff_eq.1 hd)]
    dsimp only
    have hz0 : (0 : Int) ≤ (k : Int) := by omega
    have hz1 : (k : Int) < (l.length : Int) := by omega
    have hsm := HO.out.small k
    go_enter Tryz.func57, Tryz.ntmps57
    go_wp2_with (first
     | (go_at_call 34; (with_reducible refine (Qak p _ hp).mono ?_); rintro e w1 ⟨h1, hb⟩; rw [if_pos h0] at h1; obtain ⟨An, cn, rfl, hcn, hCn⟩ := h1; have HCN := am hCn; clear hCn; have n0_ := am (Qa zq0 hb); clear HB hb; have HB := n0_; clear n0_; have hk2_ := (HB.out.cell (p := ⟨b, 2, none⟩) hbl).trans hk2)
     | (go_at_call 33; (with_reducible refine (Qaq B b l _ An cn p _ (St.below HST.out zq0) HO.out HCN.out hcn).mono ?_); rintro e w2 ⟨h1, hb⟩; rw [HK.out] at h1; subst h1; have n0_ := am (Qa zq0 hb); clear HB hb; have HB := n0_; clear n0_; have hk2_ := (HB.out.cell (p := ⟨b, 2, none⟩) hbl).trans hk2; have HW1 := am (Qaf HW.out HB.out); have HS1 := am (Kd.S_below HS.out HB.out); have hbl1 := Qai HW1.out; have hB1 : B ≤ w2.heap.size := zq3; obtain ⟨v2, v3, -, -, -, hx3, -, hR3, -, hgb, -, -, -⟩ := Qdf hbl1 HS1.out k hkl hB1; obtain ⟨A3, c3, rfl, hl3, -⟩ := Kd.R_reads hR3; have HR3 := am hR3; have hy0 : w2.cell? ⟨b, 0, none⟩ = some (.slice (some ⟨g, 0, none⟩) l.length cap) := (Qab HW1.out 0).trans rfl; clear hR3)
     | (go_at_call 65; (with_reducible refine (Qan B b l _ k _ hkl (St.below HST.out zq0) hd).mono ?_); rintro e w9 ⟨rfl, h9⟩; subst w9)
     | (go_at_call 64; (with_reducible refine (Qau _ _).mono ?_); rintro e w9 ⟨rfl, h9⟩; subst w9))
    go_loopw [4, 27] (fun v4 v27 wr => ∃ (j : Nat) (vn : Value), v27 = .int .i64 j ∧ j ≤ (nd l k).f3.length ∧ Aside0 (Wk wr b (.slice (some ⟨g, 0, none⟩) l.length cap) (x :: .string p :: y :: z0 :: z1 :: z2 :: z3 :: z4 :: vn :: rs)) ∧ Aside0 (Kd.R Kd.string 9 wr w.heap.size (fun k => k ≠ b) vn (((nd l k).f3.take j).map (·.f0))) ∧ Aside0 (Kd.S k52 52 wr B (fun k => k ≠ b) (.slice (some ⟨g, 0, none⟩) l.length cap) l) ∧ Aside0 (Kd.R k62 62 wr B (fun k => k ≠ b) (.slice A3 (nd l k).f3.length c3) (nd l k).f3) ∧ Aside0 (BW B w wr)) (fun v4 v27 _ => (nd l k).f3.length - (intOf v27).toNat)
    case atStart => exact ⟨0, _, rfl, Nat.zero_le _, ⟨HW1.out⟩, ⟨Kd.R_nil _ _ _ _ _⟩, ⟨HS1.out⟩, ⟨HR3.out⟩, ⟨BW.mono HB.out hBw⟩⟩
    case round =>
     obtain ⟨j, vn, rfl, hj, HWr, HRn, HSr, HEr, HBr⟩ := hrel
     by_cases hlt : j < (nd l k).f3.length
     ·
      obtain ⟨An', nn, cn', rfl⟩ := R_any HRn.out
      obtain ⟨a3, e, hx0, hx1⟩ := Qbg (Kd.R_reads' HEr.out).2.2 (j : Int) zq3 zq3
      subst e
      rw [Qft _ j hlt, Int.toNat_natCast] at hx0 hx1
      have hy9 : wr.cell? ⟨b, 9, none⟩ = some (.slice An' nn cn') := (Qab HWr.out 9).trans rfl
      have hf9 : wr.frozen? ⟨b, 9, none⟩ = false := Qag HWr.out 9
      have hj0 : (0 : Int) ≤ (j : Int) := by omega
      have hj1 : (j : Int) < ((nd l k).f3.length : Int) := by omega
      have hbr := Qai HWr.out
      have hlen0 : ((nd l k).f3.take j).length ≤ 100000 := by rw [List.length_take]; omega
      have hrd : ((nd l k).f3.take (j + 1)).map (·.f0) = ((nd l k).f3.take j).map (·.f0) ++ [(nd l k).f3[j].f0] := by rw [List.take_succ_eq_append_getElem hlt, List.map_append]; rfl
      have HRD := am hrd
      clear hrd
      generalize hE : (nd l k).f3[j] = en at hx0 hx1 HRD
      have HRW := am (Kd.R_drew (Kd.R_alloc HRn.out (.cells #[.string en.f0, .int .i64 en.f1] 62)))
      have HWW := am (Qat (Qaj HWr.out (.cells #[.string en.f0, .int .i64 en.f1] 62)))
      have HSW := am (Kd.S_drew (Kd.S_alloc HSr.out (.cells #[.string en.f0, .int .i64 en.f1] 62)))
      have HEW := am (Kd.R_drew (Kd.R_alloc HEr.out (.cells #[.string en.f0, .int .i64 en.f1] 62)))
      have HBW := am (Qad (Qaa (Below.refl wr.heap.size wr) (.cells #[.string en.f0, .int .i64 en.f1] 62)))
      have hNB : ∀ i, (wr.alloc (.cells #[.string en.f0, .int .i64 en.f1] 62)).drew.heap.size ≤ i → i ≠ b := fun i hi => by have := HBW.out.size; omega
      have hBS : w.heap.size ≤ (wr.alloc (.cells #[.string en.f0, .int .i64 en.f1] 62)).drew.heap.size := by have := HBW.out.size; have := HBr.out.bel.size; omega
      have hLen : ((((nd l k).f3.take j).map (·.f0)).length + 1) * 16 ≤ 140737488355328 := by rw [List.length_map]; omega
      have HSZ : Aside0 ((wr.alloc (.cells #[.string en.f0, .int .i64 en.f1] 62)).drew.heap.size = wr.heap.size + 1) := ⟨by simp⟩
      have HNN := am hNB
      have HBS := am hBS
      have HLL := am hLen
      have hnn : nn = (((nd l k).f3.take j).map (·.f0)).length := (Kd.R_reads' HRn.out).1
      have HNL := am hnn
      clear hNB hBS hLen hnn hE
      have hkE : ∀ w4, (wr.alloc (.cells #[.string en.f0, .int .i64 en.f1] 62)).drew.grownBy w4 (Value.slice An' nn cn').ownBlock → w4.cell? ⟨wr.heap.size, 0, none⟩ = some (.string en.f0) := fun w4 hg => (hg.cell_far ⟨wr.heap.size, 0, none⟩ (by rw [HSZ.out]; exact Nat.lt_succ_self _) (fun he => Nat.lt_irrefl _ (Kd.R_lt HRn.out _ he.symm))).trans (by go_simp)
      have HKE := am hkE
      clear hkE
      have hbne : wr.heap.size ≠ b := by omega
      go_wp2
      go_region_law ((refine Qgm Kd.string (w0 := (wr.alloc (.cells #[.string en.f0, .int .i64 en.f1] 62)).drew) (W := (wr.alloc (.cells #[.string en.f0, .int .i64 en.f1] 62)).drew) w.heap.size zq25 (.tmp 36) (.tmp 39) 35 9 (.string ⟨#[]⟩) 16 zq25 Tryz.underlying35 info9 zq25 zq9 zq3 (.slice An' nn cn') (((nd l k).f3.take j).map (·.f0)) en.f0 [.string en.f0] (fun i => i ≠ b) (fun _ => False) (wr.heap.size + 1) HSZ.out zq25 zq25 zq25 zq25 (fun _ h => h.elim) HNN.out HRW.out (Below.refl _ _) HBS.out HLL.out ?_; intro v4 w4 ho hbb hg hat; obtain ⟨A4, n4, c4, rfl⟩ := R_any ho; have HO4 := am ho; have HB4 := am hbb; have HW4 := am (Qba HWW.out hg (fun h => HRW.out.1 b h.symm rfl)); have HS4 := am (Kd.S_over' HSW.out (Kd.R_typed HRW.out) zq9 hg); have HE4 := am (Kd.R_over' HEW.out (Kd.R_typed HRW.out) zq9 hg); have hk9 : w4.cell? ⟨b, 9, none⟩ = some (.slice An' nn cn') := (Qab HW4.out 9).trans rfl; have hz9 := Qag HW4.out 9; have hkE4 := HKE.out w4 hg; clear ho hbb hg hat))
      all_goals go_wp2
      all_goals
       go_roundw
       case rel => exact ⟨j + 1, _, by go_num, by omega, ⟨Wk.set HW4.out 8 _⟩, ⟨by rw [HRD.out]; exact Kd.R_far (p := ⟨b, 9, none⟩) HO4.out (fun k hk => hk) _⟩, ⟨Kd.S_far (p := ⟨b, 9, none⟩) HS4.out (fun k hk => hk) _⟩, ⟨Kd.R_far (p := ⟨b, 9, none⟩) HE4.out (fun k hk => hk) _⟩, ⟨((HBr.out.trans (BW.mono HBW.out zq3)).step HB4.out hBw).setW hBb HW4.out 9 _⟩⟩
       case measure => simp [intOf]; omega
     ·
      have hjl : j = (nd l k).f3.length := by omega
      subst hjl
      have hge : ¬ (((nd l k).f3.length : Int) < ((nd l k).f3.length : Int)) := Int.lt_irrefl _
      have HRN := HRn.out
      rw [List.take_length] at HRN
      have HRN2 := am HRN
      clear HRN
      go_wp2
      go_end0
      exact ⟨⟨rfl, _, ⟨hBb, _, HWr.out, HSr.out⟩, Kd.R_lower HRN2.out hBw⟩, HBr.out⟩
 ·
  rw [if_neg h0]
  dsimp only
  go_enter Tryz.func57, Tryz.ntmps57
  go_wp2_with (first
   | (go_at_call 34; (with_reducible refine (Qak p _ hp).mono ?_); rintro e w1 ⟨h1, hb⟩; rw [if_neg h0] at h1; subst h1; have n0_ := am (Qa zq0 hb); clear HB hb; have HB := n0_; clear n0_; have hk2_ := (HB.out.cell (p := ⟨b, 2, none⟩) hbl).trans hk2; exact ⟨rfl, rfl, BW.mono zq0 hBw⟩))
def KeepT (w w' : World) : Prop := ∀ (i : Nat) (cells : Array Value) (t : TypeId), w.heap[i]? = some (Obj.cells cells t (0, 0)) → t ≠ 62 → w'.heap[i]? = some (Obj.cells cells t (0, 0))
theorem KeepT.of {w W : World} (h : Below w.heap.size w W) : KeepT w W := fun i cells t hi _ => (h.block i (Qai hi)).trans hi
theorem KeepT.trans {w w1 w2 : World} (h : KeepT w w1) (h2 : KeepT w1 w2) : KeepT w w2 := fun i cells t hi ht => h2 i cells t (h i cells t hi ht) ht
theorem KeepT.set_new {w W : World} (h : KeepT w W) {p : Addr} (hp : w.heap.size ≤ p.block) (v : Value) : KeepT w (W.setCell p v) := fun i cells t hi ht => (Below.heap_setCell W p v i (by have := Qai hi; omega)).trans (h i cells t hi ht)
theorem KeepT.set_E {w W : World} (h : KeepT w W) {p : Addr} {ce : Array Value} (hp : W.heap[p.block]? = some (.cells ce 62 (0, 0))) (v : Value) : KeepT w (W.setCell p v) := fun i cells t hi ht => by
 have h1 := h i cells t hi ht
 refine (Below.heap_setCell W p v i (fun e => ?_)).trans h1
 rw [e, hp] at h1
 injection h1 with h1
 injection h1 with _ h1 _
 exact ht h1.symm
theorem grown_set (W : World) (p : Addr) (v : Value) : W.grownBy (W.setCell p v) (some p.block) :=
 ⟨rfl, rfl, rfl, by simp, fun k _ hk => Below.heap_setCell _ _ _ k (fun e => hk (by rw [e]))⟩
theorem grown_drew {w w1 : World} {row : Option Nat} (h : w.drew.grownBy w1 row) : w.grownBy w1 row := ⟨h.os, h.tape, h.output, h.size, h.block⟩
theorem order_row {w W : World} {m : List Nat} {v : Value} (h : W.ownsRow w.heap.size 3 1 v m.length (vals m)) (hp : 0 < m.length) :
  ∃ g c cur, v = .slice (some ⟨g, 0, none⟩) m.length c ∧ w.heap.size ≤ g ∧ W.heap[g]? = some (.cells cur 3 (0, 0)) ∧ m.length ≤ c ∧ ∀ i (hi : i < m.length), cur[i]? = some (.int .i64 (m[i] : Int)) := by
 rcases h.2 with ⟨_, h0⟩ | ⟨g, cap, cur, hv, hb, hh, hnc, hcm, hcs, ht⟩
 · omega
 ·
  refine ⟨g, cap, cur, hv, hb, hh, hnc, fun i hi => ?_⟩
  have h1 : (cur.toList.take (m.length * 1))[i]? = (vals m)[i]? := by rw [ht]
  rw [List.getElem?_take, if_pos zq3] at h1
  have h2 : (vals m)[i]? = some (.int .i64 (m[i] : Int)) := by simp [vals, hi]
  rw [← h2, ← h1]
  simp
structure NumI (w : World) (B g cap : Nat) (ok : Nat → Prop) (n : Nat) (m : List Nat) (M go co oB rB : Nat) (xs : List S52) (W : World) : Prop where
 map : W.ownsMap Tryz.prog 3 (plainElem (H := Unit) Tryz.prog 3) M m.length (placeD m)
 raw : Kd.R (Kd.raw 4) 52 W w.heap.size (fun _ => True) (.slice (some ⟨go, 0, none⟩) m.length co) (m.map (Qbu w g))
 out : W.heap[oB]? = some (.cells #[.slice (some ⟨go, 0, none⟩) m.length co] 26 (0, 0))
 res : W.heap[rB]? = some (.cells #[.slice none 0 0] 26 (0, 0))
 nodes : Kd.S k52 52 W B ok (.slice (some ⟨g, 0, none⟩) n cap) xs
 bel : Below B w W
 keep : KeepT w W
 size : w.heap.size ≤ W.heap.size
theorem grown_drewed (w : World) (row : Option Nat) : w.grownBy w.drew row := ⟨rfl, rfl, rfl, Nat.le_refl _, fun _ _ _ => rfl⟩
section
variable {w W : World} {B g cap n M go co oB rB : Nat} {ok : Nat → Prop} {m : List Nat} {xs ys : List S52}
theorem NumI.drew (h : NumI w B g cap ok n m M go co oB rB xs W) : NumI w B g cap ok n m M go co oB rB xs W.drew :=
 ⟨h.map.kept (grown_drewed W none) zq14, Kd.R_drew h.raw, Qat h.out, Qat h.res, Kd.S_drew h.nodes, Qeu h.bel, fun i c t h1 h2 => h.keep i c t h1 h2, h.size⟩
theorem NumI.alloc (h : NumI w B g cap ok n m M go co oB rB xs W) (hB : B ≤ w.heap.size) (o : Obj) : NumI w B g cap ok n m M go co oB rB xs (W.alloc o) :=
 ⟨h.map.alloc _, Kd.R_alloc h.raw o, Qaj h.out o, Qaj h.res o, Kd.S_alloc h.nodes o, h.bel.alloc (Nat.le_trans hB h.size) o, h.keep.trans (KeepT.of (Qaa (Below.refl _ _) o)), by have := h.size; simp; omega⟩
theorem NumI.set (h : NumI w B g cap ok n m M go co oB rB xs W) {ge o : Nat} {v : Value} (hg : B ≤ ge) (ht : ∃ cells, W.heap[ge]? = some (.cells cells 62 (0, 0))) (hS : Kd.S k52 52 (W.setCell ⟨ge, o, none⟩ v) B ok (.slice (some ⟨g, 0, none⟩) n cap) ys) : NumI w B g cap ok n m M go co oB rB ys (W.setCell ⟨ge, o, none⟩ v) := by
 obtain ⟨cells, hc⟩ := ht
 have hm := h.map
 obtain ⟨es, ck, hh, _⟩ := hm
 have hne : ∀ {q : Nat} {cs : Array Value} {t : TypeId}, W.heap[q]? = some (.cells cs t (0, 0)) → t ≠ 62 → q ≠ ge := fun h1 h2 e => by
  rw [e, hc] at h1
  injection h1 with h1
  injection h1 with _ h1 _
  exact h2 h1.symm
 exact ⟨h.map.kept (grown_set W ⟨ge, o, none⟩ v) (fun e => by injection e with e; rw [e] at hh; rw [hh] at hc; cases hc), Kd.R_set h.raw hc zq9 o v, Qam (p := ⟨ge, o, none⟩) h.out (hne h.out zq9) v, Qam (p := ⟨ge, o, none⟩) h.res (hne h.res zq9) v, hS, h.bel.setCell (p := ⟨ge, o, none⟩) hg v, h.keep.set_E (p := ⟨ge, o, none⟩) hc v, by have := h.size; simpa using this⟩
theorem NumI.look (h : NumI w B g cap ok n m M go co oB rB xs W) (hnd : m.Nodup) {k : Nat} (hk : k ∈ m) (hk2 : k < 1000000) : (Instr.lookup 76 (.map (some M)) (.int .i64 (k : Int)) false).run Tryz.prog W = .ok (.int .i64 (m.idxOf k : Int)) W :=
 lookup_run (Go.Maps.int_keyed Tryz.underlying3) Tryz.underlying76 Tryz.underlying3 (Tryz.zeroValue3 W) (i64_wf 0 zq3) h.map (.int .i64 (k : Int)) (.int .i64 (k : Int)) (Go.Maps.keyOf_int_mk Tryz.underlying3 (i64_wf k zq3)) _ (placeD_at k m.length m rfl hnd hk)
theorem NumI.cell (h : NumI w B g cap ok n m M go co oB rB xs W) {cs : Array Value} (hg : w.heap[g]? = some (.cells cs 52 (0, 0))) (o : Nat) : W.cell? ⟨g, o, none⟩ = w.cell? ⟨g, o, none⟩ := by
 rw [Qab hg, Qab (h.keep g cs 52 hg zq9)]
end
theorem num_step {w W : World} {B g cap M go co oB rB : Nat} {ok : Nat → Prop} {m : List Nat} {l : List S52} {j k q : Nat} (h : NumI w B g cap ok l.length m M go co oB rB (setE (rnL l j) k (esL l k q)) W) (hk : k < l.length) (hq : q < (nd l k).f3.length) :
  ∃ ge ce, W.cell? ⟨g, k * 4 + 3, none⟩ = some (.slice (some ⟨ge, 0, none⟩) (nd l k).f3.length ce) ∧ (nd l k).f3.length ≤ ce ∧ W.cell? ⟨ge, q * 2 + 1, none⟩ = some (.int .i64 (nd l k).f3[q].f1) ∧ W.frozen? ⟨ge, q * 2 + 1, none⟩ = false ∧ (∃ cells, W.heap[ge]? = some (.cells cells 62 (0, 0))) ∧
   NumI w B g cap ok l.length m M go co oB rB (setE (rnL l j) k (esL l k (q + 1))) (W.setCell ⟨ge, q * 2 + 1, none⟩ (.int .i64 (pl l (ino (nd l k).f3[q]) : Int))) := by
 have hkr : k < (rnL l j).length := by rw [Qee]; exact hk
 have hks : k < (setE (rnL l j) k (esL l k q)).length := by rw [setE_len]; exact hkr
 have hf : (nd (setE (rnL l j) k (esL l k q)) k).f3 = esL l k q := by rw [Qbf hkr]
 have hql : q < (nd (setE (rnL l j) k (esL l k q)) k).f3.length := by rw [hf, esL_len]; exact hq
 obtain ⟨ge, ce, h1, h2, h3, h4, h5, h6, h7, h8⟩ := S_entry h.nodes k hks q hql
 have he : (nd (setE (rnL l j) k (esL l k q)) k).f3[q] = (nd l k).f3[q] := by
  have e1 : (nd (setE (rnL l j) k (esL l k q)) k).f3[q] = (esL l k q)[q]'(by rw [esL_len]; exact hq) := by congr 1
  rw [e1, esL_at hq]
 have hl : (nd (setE (rnL l j) k (esL l k q)) k).f3.length = (nd l k).f3.length := by rw [hf, esL_len]
 rw [he] at h3 h8
 rw [hl] at h1 h2
 refine ⟨ge, ce, h1, h2, h3, h4, h7, h.set h5 h7 ?_⟩
 have h9 := h8 (pl l (ino (nd l k).f3[q]) : Int)
 rw [hf, esL_set hq, setE_setE hkr] at h9
 exact h9
theorem NumI.pick {w W : World} {B g cap M go co oB rB : Nat} {ok : Nat → Prop} {m : List Nat} {xs : List S52} (h : NumI w B g cap ok xs.length m M go co oB rB xs W) {cs : Array Value} (hg : w.heap[g]? = some (.cells cs 52 (0, 0))) (hm : m.Nodup) (hlt : ∀ k ∈ m, k < xs.length) (hB : B ≤ w.heap.size) :
  Kd.S k52 52 W B (fun k => ok k ∨ w.heap.size ≤ k) (.slice (some ⟨go, 0, none⟩) m.length co) (m.map (nd xs)) := by
 have hc : Qbu W g = Qbu w g := by
  funext k
  unfold Qbu
  rw [h.cell hg, h.cell hg, h.cell hg, h.cell hg]
 have hr := h.raw
 rw [← hc] at hr
 exact S_pick h.nodes hm hlt (Kd.R_mono (Kd.R_bound hr) (ok' := fun k => w.heap.size ≤ k) (fun k hk => hk.2.1)) hB
set_option maxHeartbeats 8000000 in
theorem number_walk (B g cap : Nat) (ok : Nat → Prop) (l : List S52) (w : World) (hS : Kd.S k52 52 w B ok (.slice (some ⟨g, 0, none⟩) l.length cap) l) (hw : Wf l) (h56 : l.length ≤ 56) (h64 : ∀ k, (nd l k).f3.length ≤ 64) (hBw : B ≤ w.heap.size) :
  Calls Tryz.prog 27 #[.agg #[.slice (some ⟨g, 0, none⟩) l.length cap]] w fun e w' => ∃ v, e = .returned (.agg #[v]) ∧ Kd.S k52 52 w' B (fun k => ok k ∨ w.heap.size ≤ k) v (num l) ∧ Below B w w' ∧ KeepT w w' := by
 have hmm := @run_makeMap Tryz.prog
 have hN := mt_len_le l
 have hNp : 0 < (mt l).length := by have := List.length_pos_of_mem hw.zero; exact this
 obtain ⟨A0, c0, he0, hc0, hC0⟩ := Kd.S_reads hS
 injection he0 with e1 e2 e3
 subst e1 e3
 have hgl : g < w.heap.size := Kd.S_lt hS g zq24
 have HS := am hS
 have HC := am hC0
 have HW := am hw
 have H64 := am h64
 clear hS hC0 hw h64
 obtain ⟨N, hNe⟩ : ∃ N, (mt l).length = N := ⟨_, rfl⟩
 rw [hNe] at hN hNp
 have HNE := am hNe
 clear hNe
 go_enter Tryz.func27, Tryz.ntmps27
 go_wp2_with (first | (go_at_call 39; (with_reducible refine (met_walk _ cap l _ hc0 (Kd.C_below HC.out zq8) HW.out h56 H64.out).mono ?_); rintro e w1 ⟨v3, rfl, hrow, hb⟩; obtain ⟨g3, c3, cur, rfl, hg3, hh3, hc3, hcur⟩ := order_row hrow (by rw [HNE.out]; exact hNp); rw [HNE.out] at hc3 ⊢; have HB1 := am (Qa (Qaa (Qaa (Below.refl w.heap.size w) _) _) hb); have HBX := am (Qaf (Qaj (Qal w _) _) hb); have HO3 := am hh3; have HCUR := am hcur; have hgw : w.heap.size + 2 ≤ g3 := (by simp at hg3; omega); have hgw1 := Qai hh3; have hb1 := hb.size; simp at hb1; have HRES := am (Qaf (Qgh w _ _) hb);  clear hrow hb hh3 hcur hg3))
 have m0 := World.ownsMap_made (w1) Tryz.prog 3 (plainElem (H := Unit) Tryz.prog 3)
 go_loopw [19] (fun v19 wr => ∃ (i : Nat) (vo : Value), v19 = .int .i64 i ∧ i ≤ N ∧ Aside0 (wr.ownsMap Tryz.prog 3 (plainElem (H := Unit) Tryz.prog 3) w1.heap.size i (placeD ((mt l).take i))) ∧ Aside0 (Kd.R (Kd.raw 4) 52 wr w.heap.size (fun _ => True) vo (((mt l).take i).map (Qbu w g))) ∧ Aside0 (wr.heap[w1.heap.size + 1]? = some (.cells #[vo] 26 (0, 0))) ∧ Aside0 (wr.heap[w.heap.size]? = some (.cells #[.slice (some ⟨g, 0, none⟩) l.length cap] 26 (0, 0))) ∧ Aside0 (wr.heap[w.heap.size + 1]? = some (.cells #[.slice none 0 0] 26 (0, 0))) ∧ Aside0 (wr.heap[g3]? = some (.cells cur 3 (0, 0))) ∧ Aside0 (Below w.heap.size w wr)) (fun v19 _ => N - (intOf v19).toNat)
 case atStart => exact ⟨0, _, rfl, Nat.zero_le _, ⟨m0.alloc _⟩, ⟨Kd.R_nil _ _ _ _ _⟩, ⟨by have h := Qgh w1 (.map #[] 0) (.cells #[.slice none 0 0] 26); exact h⟩, ⟨Qaj (Qaj HBX.out _) _⟩, ⟨Qaj (Qaj HRES.out _) _⟩, ⟨Qaj (Qaj HO3.out _) _⟩, ⟨Qaa (Qaa HB1.out _) _⟩⟩
 case round =>
  obtain ⟨i, vo, rfl, hi, HM, HR, HOUT, HBXr, HRESr, HOr, HBr⟩ := hrel
  by_cases hlt : i < N
  ·
   have hil : i < (mt l).length := by rw [HNE.out]; exact hlt
   have hkl : (mt l)[i] < l.length := mt_lt (List.getElem_mem hil)
   have hx3 := (Qab HOr.out i).trans (HCUR.out i hil)
   have htk : ((mt l).take (i + 1)) = (mt l).take i ++ [(mt l)[i]] := List.take_succ_eq_append_getElem hil
   have HTK := am htk
   have htl : ((mt l).take i).length = i := by rw [List.length_take]; omega
   have HTL := am htl
   clear htk htl
   generalize (mt l)[i] = k at *
   obtain ⟨hc0, hc1, ⟨A2, c2, hc2⟩, ⟨A3, c3', hc3'⟩⟩ := S_cells HS.out k hkl
   have hcs : Qbu w g k = [.int .i64 (nd l k).f0, .int .i64 (nd l k).f1, .slice A2 (nd l k).f2.length c2, .slice A3 (nd l k).f3.length c3'] := by unfold Qbu; rw [hc0, hc1, hc2, hc3']; rfl
   have HCS := am hcs
   obtain ⟨Ao, no, co, rfl⟩ := R_any HR.out
   have hkw : (Lit.int .i64 (k : Int)).wf = true := i64_wf k zq3
   have hiw : (Lit.int .i64 (i : Int)).wf = true := i64_wf i zq3
   have HKW := am hkw
   have HIW := am hiw
   have hi3 : (0 : Int) ≤ (i : Int) := by omega
   have hi4 : (i : Int) < (N : Int) := by omega
   have hk3 : (0 : Int) ≤ (k : Int) := by omega
   have hk4 : (k : Int) < (l.length : Int) := by omega
   clear hcs hkw hiw
   go_wp2_with (at_mapUpdate; refine wpList_mapUpdate_own _ rfl _ _ _ 76 rfl 3 3 (Go.Maps.int_keyed Tryz.underlying3) Tryz.underlying76 _ w1.heap.size i _ rfl HM.out (by unfold maxLen; omega) _ _ (.int .i64 (k : Int)) rfl rfl (Go.Maps.keyOf_int_mk Tryz.underlying3 HKW.out) _ [] (plainElem_int Tryz.underlying3 HIW.out) ?_; intro w3 hm3 hg3'; have HM3 := am hm3; have HG3 := am hg3'; clear hm3 hg3')
   have HB3 := am (Qcu HBr.out _ HBr.out.size HG3.out (fun q hq => by injection hq with hq; omega))
   have HOUT3 := am (Qba HOUT.out HG3.out zq14)
   have HBX3 := am (Qba HBXr.out HG3.out (fun h => by injection h with h; omega))
   have HRES3 := am (Qba HRESr.out HG3.out (fun h => by injection h with h; omega))
   have HO33 := am (Qba HOr.out HG3.out (fun h => by injection h with h; omega))
   have hmr := Qe (Kd.R_own HR.out).choose_spec HM.out
   have HR3 := am (Kd.R_mono (Kd.R_grown (Kd.R_tight rfl HR.out) HG3.out (fun q hq h => hmr (hq.symm.trans h))) (ok' := fun _ => True) (fun _ _ => trivial))
   have hyo := (Qab HOUT3.out 0).trans (show _ = some (Value.slice Ao no co) from rfl)
   have hyt := (Qab HBX3.out 0).trans (show _ = some (Value.slice (some ⟨g, 0, none⟩) l.length cap) from rfl)
   have hyf := Qag HOUT3.out 0
   have hlt3 := Qai HOUT3.out
   have hlt4 := Qai HBX3.out
   have hz0 := (HB3.out.cell (p := ⟨g, k * 4, none⟩) hgl).trans hc0
   have hz1 := (HB3.out.cell (p := ⟨g, k * 4 + 1, none⟩) hgl).trans hc1
   have hz2 := (HB3.out.cell (p := ⟨g, k * 4 + 2, none⟩) hgl).trans hc2
   have hz3 := (HB3.out.cell (p := ⟨g, k * 4 + 3, none⟩) hgl).trans hc3'
   have hno := (Kd.R_reads' HR.out).1
   rw [List.length_map, HTL.out] at hno
   obtain rfl : i = no := hno.symm
   clear hno
   have HPM : Aside0 ([Value.int .i64 (nd l k).f0, .int .i64 (nd l k).f1, .slice A2 (nd l k).f2.length c2, .slice A3 (nd l k).f3.length c3'] = Qbu w g k ∧ 4 = 4 ∧ ∀ u ∈ [Value.int .i64 (nd l k).f0, .int .i64 (nd l k).f1, .slice A2 (nd l k).f2.length c2, .slice A3 (nd l k).f3.length c3'], u.oneCell' = true) := ⟨HCS.out.symm, rfl, by intro u hu; simp at hu; rcases hu with rfl | rfl | rfl | rfl <;> rfl⟩
   have HLL : Aside0 (((((mt l).take i).map (Qbu w g)).length + 1) * 64 ≤ 140737488355328) := ⟨by rw [List.length_map, HTL.out]; omega⟩
   have HSZ3 := am HB3.out.size
   have Z04 : 0 < (Kd.raw 4).sz := Nat.succ_pos 3
   have Z064 : 0 < 64 := Nat.succ_pos 63
   have Z := info52
   have T1 := am (Kd.R_drew HR3.out)
   have T2 : Aside0 ((Kd.raw 4).M w3.drew w.heap.size (fun _ => False) (Qbu w g k) [Value.int .i64 (nd l k).f0, .int .i64 (nd l k).f1, .slice A2 (nd l k).f2.length c2, .slice A3 (nd l k).f3.length c3']) := ⟨HPM.out⟩
   have T3 : Aside0 (Below w.heap.size w3.drew w3.drew) := ⟨Below.refl _ _⟩
   have T4 : Aside0 (w.heap.size ≤ w3.drew.heap.size) := ⟨HSZ3.out⟩
   simp only [Act.put]
   go_region_law ((refine Qgm (Kd.raw 4) (w0 := w3.drew) (W := w3.drew) w.heap.size zq25 (.tmp 28) (.tmp 34) 24 52 (.agg #[.int .i64 0, .int .i64 0, .slice none 0 0, .slice none 0 0]) 64 zq25 Tryz.underlying24 Z zq25 Z04 Z064 (.slice Ao i co) (((mt l).take i).map (Qbu w g)) (Qbu w g k) [Value.int .i64 (nd l k).f0, .int .i64 (nd l k).f1, .slice A2 (nd l k).f2.length c2, .slice A3 (nd l k).f3.length c3'] (fun _ => True) (fun _ => False) w3.heap.size zq25 zq25 zq25 zq25 T2.out (fun _ h => h.elim) (fun _ _ => trivial) T1.out T3.out T4.out HLL.out ?_; intro v4 w4 ho hbb hg hat; obtain ⟨A4, n4, c4, rfl⟩ := R_any ho; have HO4 := am ho; have HG4 := am (grown_drew hg); have HOUT4 := am (Qba HOUT3.out HG4.out (Kd.R_ne HR3.out HOUT3.out zq9)); have hy4 := (Qab HOUT4.out 0).trans (show _ = some (Value.slice Ao i co) from rfl); have hyf4 := Qag HOUT4.out 0; clear ho hbb hg hat))
   all_goals go_wp2
   all_goals
    go_roundw
    case rel =>
     refine ⟨i + 1, _, by go_num, by omega, ⟨?_⟩, ⟨?_⟩, ⟨Qap HOUT4.out 0 _ rfl⟩, ⟨Qam (p := ⟨w1.heap.size + 1, 0, none⟩) (Qba HBX3.out HG4.out (Kd.R_ne HR3.out HBX3.out zq9)) (by show w.heap.size ≠ w1.heap.size + 1; omega) _⟩, ⟨Qam (p := ⟨w1.heap.size + 1, 0, none⟩) (Qba HRES3.out HG4.out (Kd.R_ne HR3.out HRES3.out zq9)) (by show w.heap.size + 1 ≠ w1.heap.size + 1; omega) _⟩, ⟨Qam (p := ⟨w1.heap.size + 1, 0, none⟩) (Qba HO33.out HG4.out (Kd.R_ne HR3.out HO33.out zq9)) (by show g3 ≠ w1.heap.size + 1; omega) _⟩, ⟨?_⟩⟩
     ·
      rw [HTK.out, placeD_snoc, HTL.out]
      exact (HM3.out.kept HG4.out (fun h => Qe (Kd.R_own HR3.out).choose_spec HM3.out h.symm)).kept (grown_set _ _ _) zq14
     ·
      rw [HTK.out, List.map_append]
      exact Kd.R_set HO4.out HOUT4.out zq9 0 _
     · exact (Qcu HB3.out _ HB3.out.size HG4.out (fun q hq => Kd.R_base HR3.out q hq)).setCell (p := ⟨w1.heap.size + 1, 0, none⟩) (by show w.heap.size ≤ w1.heap.size + 1; omega) _
    case measure => simp [intOf]; omega
  ·
   have hiN : i = N := by omega
   subst hiN
   have hge : ¬ ((i : Int) < (i : Int)) := Int.lt_irrefl _
   have htk : (mt l).take i = mt l := List.take_of_length_le (by rw [HNE.out]; exact Nat.le_refl _)
   rw [htk] at HM HR
   clear htk
   obtain ⟨go, co, hvo, hgo, hgol, -⟩ := Kd.R_form HR.out (by rw [List.length_map, HNE.out]; exact hNp)
   rw [List.length_map] at hvo
   subst hvo
   have HG := am (Kd.S_form HS.out zq3).choose_spec
   obtain ⟨csg, hcsg⟩ : ∃ cs, w.heap[g]? = some (.cells cs 52 (0, 0)) := by obtain ⟨cs, h⟩ := Kd.S_typed HS.out g zq24; exact ⟨cs, h⟩
   have HCG := am hcsg
   clear HG hcsg
   have hM0 := HM.out
   rw [← HNE.out] at hM0
   have HI0 : Aside0 (NumI w B g cap ok l.length (mt l) w1.heap.size go co (w1.heap.size + 1) (w.heap.size + 1) (rnL l 0) wr) := ⟨⟨hM0, HR.out, HOUT.out, HRESr.out, by rw [rnL_zero]; exact Kd.S_below HS.out HBr.out, Below.mono HBr.out hBw, KeepT.of HBr.out, HBr.out.size⟩⟩
   clear hM0 HM HR HOUT HRESr HOr HBXr
   have hyo := (Qab HI0.out.out 0).trans (show _ = some (Value.slice (some ⟨go, 0, none⟩) (mt l).length co) from rfl)
   rw [HNE.out] at hyo
   go_wp2
   clear hyo hge
   obtain ⟨wo, rfl⟩ : ∃ wo : World, wo = wr := ⟨_, rfl⟩
   go_loopw [41] (fun v41 wq => ∃ i2 : Nat, v41 = .int .i64 i2 ∧ i2 ≤ i ∧ Aside0 (NumI w B g cap ok l.length (mt l) w1.heap.size go co (w1.heap.size + 1) (w.heap.size + 1) (rnL l i2) wq)) (fun v41 _ => i - (intOf v41).toNat)
   case atStart => exact ⟨0, rfl, Nat.zero_le _, HI0⟩
   case round =>
    obtain ⟨j, rfl, hj, HI⟩ := hrel
    by_cases hlt2 : j < i
    ·
     have hil : j < (mt l).length := by rw [HNE.out]; exact hlt2
     have hkm : (mt l)[j] ∈ mt l := List.getElem_mem hil
     have hkl : (mt l)[j] < l.length := mt_lt hkm
     have HRN := am (rnL_succ hil)
     have HRA := am (rnL_at hil)
     have hmj : ((mt l).map (Qbu w g)).getD j [] = Qbu w g (mt l)[j] := by rw [List.getD_eq_getElem?_getD, List.getElem?_map, List.getElem?_eq_getElem hil]; rfl
     obtain ⟨c, hcl, hcM, hcc, -⟩ := Kd.R_elem HI.out.raw [] (j : Int) zq3 (by rw [HNE.out]; omega)
     rw [Int.toNat_natCast, hmj] at hcM
     rw [Int.toNat_natCast] at hcc
     have hcM1 : c = Qbu w g (mt l)[j] := hcM.1
     have HKM := am hkm
     clear hmj hcM hkm
     generalize (mt l)[j] = k at *
     obtain ⟨hc0, hc1, ⟨A2, c2, hc2⟩, ⟨A3, c3', hc3'⟩⟩ := S_cells HS.out k hkl
     have hcs : Qbu w g k = [.int .i64 (nd l k).f0, .int .i64 (nd l k).f1, .slice A2 (nd l k).f2.length c2, .slice A3 (nd l k).f3.length c3'] := by unfold Qbu; rw [hc0, hc1, hc2, hc3']; rfl
     rw [hcs] at hcM1
     subst hcM1
     have hz0 : wr.cell? ⟨go, j * 4, none⟩ = some (.int .i64 (nd l k).f0) := hcc 0 _ rfl
     have hz1 : wr.cell? ⟨go, j * 4 + 1, none⟩ = some (.int .i64 (nd l k).f1) := hcc 1 _ rfl
     have hz2 : wr.cell? ⟨go, j * 4 + 2, none⟩ = some (.slice A2 (nd l k).f2.length c2) := hcc 2 _ rfl
     have hz3 : wr.cell? ⟨go, j * 4 + 3, none⟩ = some (.slice A3 (nd l k).f3.length c3') := hcc 3 _ rfl
     have h64k := H64.out k
     have hj3 : (0 : Int) ≤ (j : Int) := by omega
     have hj4 : (j : Int) < (i : Int) := by omega
     clear hcc hcs hcl
     obtain ⟨wp, rfl⟩ : ∃ wp : World, wp = wr := ⟨_, rfl⟩
     go_wp2
     clear hz0 hz1 hz2 hz3
     go_loopw [48] (fun v48 wz => ∃ q : Nat, v48 = .int .i64 q ∧ q ≤ (nd l k).f3.length ∧ Aside0 (NumI w B g cap ok l.length (mt l) w1.heap.size go co (w1.heap.size + 1) (w.heap.size + 1) (setE (rnL l j) k (esL l k q)) wz) ∧ Aside0 (wz.heap[wp.heap.size]? = some (.cells #[.int .i64 (nd l k).f0, .int .i64 (nd l k).f1, .slice A2 (nd l k).f2.length c2, .slice A3 (nd l k).f3.length c3'] 52 (0, 0)))) (fun v48 _ => (nd l k).f3.length - (intOf v48).toNat)
     case atStart => exact ⟨0, rfl, Nat.zero_le _, ⟨by rw [esL_zero, setE_self (by rw [Qee]; exact hkl) (by rw [HRA.out])]; exact HI.out.alloc hBw _⟩, ⟨Qal _ _⟩⟩
     case round =>
      obtain ⟨q, rfl, hq, HQ, HNB⟩ := hrel
      by_cases hlq : q < (nd l k).f3.length
      ·
       obtain ⟨ge, ce, hx3, hce, hxq, hxf, ⟨cse, hcse⟩, hnext⟩ := num_step HQ.out hkl hlq
       have hsame := (HQ.out.cell HCG.out (k * 4 + 3)).symm.trans hx3
       rw [hc3'] at hsame
       injection hsame with hsame
       injection hsame with e1 e2 e3
       subst e1 e3
       clear e2
       have hmem : (nd l k).f3[q] ∈ (nd l k).f3 := List.getElem_mem hlq
       have hino := HW.out.ino_lt hmem
       have hlk := HQ.out.drew.look (Qfd l) (HW.out.mt_step HKM.out hmem) zq3
       rw [hino.2.2] at hlk
       have hpl : ((mt l).idxOf (ino (nd l k).f3[q]) : Int) = (pl l (ino (nd l k).f3[q]) : Int) := rfl
       rw [hpl] at hlk
       have HNX := am hnext
       have hnge := Qce HNB.out hcse zq9
       have hyn := (Qab HNB.out 3).trans (show _ = some (Value.slice (some ⟨ge, 0, none⟩) (nd l k).f3.length c3') from rfl)
       have hq3 : (0 : Int) ≤ (q : Int) := by omega
       have hq4 : (q : Int) < ((nd l k).f3.length : Int) := by omega
       clear hnext hx3 hmem hino hpl hcse
       generalize (nd l k).f3[q] = en at *
       go_wp2
       go_region_with (fail)
       all_goals go_wp2
       all_goals
        go_roundw
        case rel => exact ⟨q + 1, by go_num, by omega, ⟨HNX.out.drew⟩, ⟨Qat (Qam (p := ⟨ge, q * 2 + 1, none⟩) HNB.out hnge _)⟩⟩
        case measure => simp [intOf]; omega
      ·
       have hqe : q = (nd l k).f3.length := by omega
       subst hqe
       have hge : ¬ (((nd l k).f3.length : Int) < ((nd l k).f3.length : Int)) := Int.lt_irrefl _
       have hqn := HQ.out
       rw [esL_end, HRN.out] at hqn
       have HQN := am hqn
       clear hqn
       go_wp2
       go_roundw
       case rel => exact ⟨j + 1, by go_num, by omega, ⟨HQN.out⟩⟩
       case measure => simp [intOf]; omega
    ·
     have hje : j = i := by omega
     subst hje
     have hge : ¬ ((j : Int) < (j : Int)) := Int.lt_irrefl _
     have hi0 := HI.out
     rw [← HNE.out] at hi0
     have hso0 := NumI.pick (xs := rnL l (mt l).length) (by rw [Qee]; exact hi0) HCG.out (Qfd l) (fun k hk => by rw [Qee]; exact mt_lt hk) hBw
     have hso : Kd.S k52 52 wr B (fun k => ok k ∨ w.heap.size ≤ k) (.slice (some ⟨go, 0, none⟩) (mt l).length co) (outR l) := hso0
     have hsox := hso
     have hol : (outR l).length = j := by rw [Qby, HNE.out]
     obtain ⟨A9, c9, e9, hc9, hC9⟩ := Kd.S_reads hso
     injection e9 with e1 e2 e3
     subst e1 e3
     have HC9 := am hC9
     rw [e2] at hsox
     have HSO := am hsox
     clear hsox
     have ho64 : ∀ k, (nd (outR l) k).f3.length ≤ 64 := fun k => by
      rcases Nat.lt_or_ge k (mt l).length with h | h
      ·
       rw [nd_outR h]
       show (List.map _ _).length ≤ 64
       rw [List.length_map]
       exact H64.out _
      ·
       rw [Qbr (by rw [Qby]; exact h)]
       exact Nat.zero_le _
     have HO64 := am ho64
     have hyo := (Qab HI.out.out 0).trans (show _ = some (Value.slice (some ⟨go, 0, none⟩) (mt l).length co) from rfl)
     rw [e2] at hyo
     have HIJ := am HI.out
     clear hi0 hso0 hso hC9 ho64 HI
     have hnl : 0 < (outR l).length := by omega
     have hnl5 : (outR l).length ≤ 56 := by omega
     clear hol
     go_wp2_with (go_at_call 40; (with_reducible refine (tlinks _ co (outR l) _ HC9.out hc9 (outR_wf HW.out) zq3 HO64.out).mono ?_); rintro e w5 ⟨g0, g1, c0', c1', rfl, hr0, hr1, hb⟩; have HR0 := am hr0; have HB5 := am hb; have hyo5 := (Qab (Qaf HIJ.out.out hb) 0).trans (show _ = some (Value.slice (some ⟨go, 0, none⟩) (mt l).length co) from rfl); rw [e2] at hyo5; clear hr0 hr1 hb)
     obtain ⟨wo, rfl⟩ : ∃ wo : World, wo = wr := ⟨_, rfl⟩
     go_loopw [74] (fun v74 wq => ∃ q : Nat, v74 = .int .i64 q ∧ q ≤ (outR l).length ∧ Aside0 (Kd.S k52 52 wq B (fun k => ok k ∨ w.heap.size ≤ k) (.slice (some ⟨go, 0, none⟩) (outR l).length co) (lkL (outR l) (own (outR l)) q)) ∧ Aside0 (Tb w.heap.size g0 (outR l).length c0' (own (outR l)) wq) ∧ Aside0 (wq.heap[w1.heap.size + 1]? = some (.cells #[.slice (some ⟨go, 0, none⟩) (outR l).length co] 26 (0, 0))) ∧ Aside0 (wq.heap[w.heap.size + 1]? = some (.cells #[.slice none 0 0] 26 (0, 0))) ∧ Aside0 (Below B w wq) ∧ Aside0 (KeepT w wq)) (fun v74 _ => (outR l).length - (intOf v74).toNat)
     case atStart => exact ⟨0, rfl, Nat.zero_le _, ⟨by rw [lkL_zero]; exact Kd.S_below HSO.out HB5.out⟩, ⟨own_weaken HR0.out HIJ.out.size⟩, ⟨by have h := Qaf HIJ.out.out HB5.out; rw [e2] at h; exact h⟩, ⟨Qaf HIJ.out.res HB5.out⟩, ⟨Below.trans HIJ.out.bel (Below.mono HB5.out (Nat.le_trans hBw HIJ.out.size))⟩, ⟨HIJ.out.keep.trans (KeepT.of HB5.out)⟩⟩
     case round =>
      obtain ⟨q, rfl, hq, HS9, HR9, HO9, HRES9, HB9, HK9⟩ := hrel
      by_cases hlq : q < (outR l).length
      ·
       obtain ⟨hlf, hput⟩ := S_links HS9.out q (by rw [Qel]; exact hlq)
       obtain ⟨hcl, -, -, -⟩ := S_cells HS9.out q (by rw [Qel]; exact hlq)
       have hcl2 := (S_cells HS9.out q (by rw [Qel]; exact hlq)).2.1
       have h9 := hput (own (outR l) q)
       rw [lkL_set hlq] at h9
       have H9 := am h9
       have hx9 := (HR9.out.at hlq).1
       have hyq := (Qab HO9.out 0).trans (show _ = some (Value.slice (some ⟨go, 0, none⟩) (outR l).length co) from rfl)
       have hq3 : (0 : Int) ≤ (q : Int) := by omega
       have hq4 : (q : Int) < ((outR l).length : Int) := by omega
       obtain ⟨csq, hcsq⟩ := Kd.S_typed HS9.out go zq24
       have HCSQ := am hcsq
       have hne1 := Qce HO9.out hcsq zq9
       have hne2 := Qce HRES9.out hcsq zq9
       have hcl4 : q < co := by omega
       clear hput h9 hcsq
       generalize own (outR l) q = ow at *
       go_wp2
       go_region_with (fail)
       all_goals go_wp2
       all_goals
        go_roundw
        case rel => exact ⟨q + 1, by go_num, by omega, ⟨Kd.S_drew H9.out⟩, ⟨(HR9.out.far (p := ⟨go, q * 4 + 1, none⟩) (HR9.out.ne HCSQ.out zq9) _).below (Qad (Below.refl _ _))⟩, ⟨Qat (Qam (p := ⟨go, q * 4 + 1, none⟩) HO9.out hne1 _)⟩, ⟨Qat (Qam (p := ⟨go, q * 4 + 1, none⟩) HRES9.out hne2 _)⟩, ⟨Qad (HB9.out.setCell (p := ⟨go, q * 4 + 1, none⟩) (Nat.le_trans hBw hgo) _)⟩, ⟨fun i c t h1 h2 => (HK9.out.set_new (p := ⟨go, q * 4 + 1, none⟩) hgo _) i c t h1 h2⟩⟩
        case measure => simp [intOf]; omega
      ·
       have hqe : q = (outR l).length := by omega
       subst hqe
       have hge : ¬ (((outR l).length : Int) < ((outR l).length : Int)) := Int.lt_irrefl _
       have hyq := (Qab HO9.out 0).trans (show _ = some (Value.slice (some ⟨go, 0, none⟩) (outR l).length co) from rfl)
       have hyr := (Qab HRES9.out 0).trans (show _ = some (Value.slice none 0 0) from rfl)
       have hyf := Qag HRES9.out 0
       have hs9 := HS9.out
       rw [lkL_num] at hs9
       have HS10 := am hs9
       clear hs9
       go_wp2
       have HRP := am (Qap HRES9.out 0 (.slice (some ⟨go, 0, none⟩) (outR l).length co) rfl)
       refine bodyPost_ret (Qds rfl _ _ (w.heap.size + 1) 26 _ (0, 0) _ rfl HRP.out Tryz.underlying26 rfl zq15) rfl ⟨_, rfl, ?_, ?_, ?_⟩
       · exact Kd.S_set HS10.out HRES9.out zq9 0 _
       · exact HB9.out.setCell (p := ⟨w.heap.size + 1, 0, none⟩) (Nat.le_trans hBw (Nat.le_succ _)) _
       · exact HK9.out.set_new (p := ⟨w.heap.size + 1, 0, none⟩) (Nat.le_succ _) _
end
end Go.Proofs.YtbhjggbijkjmnaaGreatDoor.PZ
end
