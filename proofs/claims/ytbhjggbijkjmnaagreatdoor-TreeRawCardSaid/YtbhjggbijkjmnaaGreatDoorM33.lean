import Derived.Test.YtbhjggbijkjmnaaGreatDoorM21
import Derived.Test.YtbhjggbijkjmnaaGreatDoorM03
import Derived.Test.YtbhjggbijkjmnaaGreatDoorM22
import Derived.Test.YtbhjggbijkjmnaaGreatDoorM14
import Derived.Test.YtbhjggbijkjmnaaGreatDoorM05
import Derived.Tactics
import Derived.Tactics2
import Derived.Defers
import Derived.Recover
import Derived.Laws.Pointers
import Derived.Test.YtbhjggbijkjmnaaGreatDoorM32
import Derived.Test.YtbhjggbijkjmnaaGreatDoorM23
import Derived.Test.YtbhjggbijkjmnaaGreatDoorM13
import Derived.Test.YtbhjggbijkjmnaaGreatDoorM16
import Derived.Test.YtbhjggbijkjmnaaGreatDoorM02
set_option linter.unusedVariables false
set_option linter.unusedSimpArgs false
section
namespace Go.Proofs.YtbhjggbijkjmnaaGreatDoor.PZ
open Go.RowKit Go.Proofs.YtbhjggbijkjmnaaGreatDoorW.PrintWords Go.Proofs.YtbhjggbijkjmnaaGreatDoorW.PrintLast Go.Proofs.YtbhjggbijkjmnaaGreatDoorW.PrintMore Go.Proofs.YtbhjggbijkjmnaaGreatDoor.B Go.Proofs.YtbhjggbijkjmnaaGreatDoor.Ord TD
set_option maxRecDepth 100000
section
attribute [local go_sem ↓] Go.wp_at_zero Go.wp_at_succ
def halfL (l : List S52) (i : Nat) : List (S52 × Bool) := (l.take i).map (·, true) ++ (l.drop i).map (·, false)
theorem halfL_at (l : List S52) (i : Nat) (h : i < l.length) : (halfL l i)[i]? = some (l[i], false) := by
 unfold halfL
 rw [List.getElem?_append_right (by rw [List.length_map, List.length_take]; omega), List.length_map, List.length_take, Nat.min_eq_left zq3, Nat.sub_self, List.getElem?_map, List.getElem?_drop, Nat.add_zero, List.getElem?_eq_getElem h]
 rfl
theorem halfL_set (l : List S52) (i : Nat) (h : i < l.length) : (halfL l i).set i (l[i], true) = halfL l (i + 1) := by
 unfold halfL
 rw [List.set_append_right _ _ (by rw [List.length_map, List.length_take]; omega), List.length_map, List.length_take, Nat.min_eq_left zq3, Nat.sub_self, List.drop_eq_getElem_cons h, List.map_cons, List.set_cons_zero, List.take_succ_eq_append_getElem h, List.map_append, List.append_assoc]
 rfl
theorem halfL_end (l : List S52) : halfL l l.length = l.map (·, true) := by
 unfold halfL
 rw [List.take_length, List.drop_length, List.map_nil, List.append_nil]
set_option maxHeartbeats 4000000 in
theorem Qgs (ad : Addr) (c0 : Nat) (l : List S52) (w : World) (hr0 : Kd.C k52 w (some ad) l.length l) (hc0 : l.length ≤ c0) (hn : l.length < 1000000) (hp : 0 < l.length) (hd : ∀ x ∈ l, x.f2.length < 1000000000 ∧ x.f3.length < 1000000000) :
  Calls Tryz.prog 24 #[.agg #[.slice (some ad) l.length c0]] w fun e w' => ∃ v : Value, e = .returned (.agg #[v]) ∧ Kd.S k52 52 w' w.heap.size (fun _ => True) v l ∧ Below w.heap.size w w' := by
 have HC := am hr0
 have HD := am hd
 clear hr0 hd
 obtain ⟨W0, hW0⟩ : ∃ W0, (w.alloc (.cells #[.slice (some ad) l.length c0] 26)).alloc (.cells #[.slice none 0 0] 26) = W0 := ⟨_, rfl⟩
 have hsW : W0.heap.size = w.heap.size + 2 := by rw [← hW0]; simp
 have HW0 := am hW0
 have HB00 : Aside0 (Below w.heap.size w W0) := ⟨hW0 ▸ Qaa (Qaa (Below.refl _ _) _) _⟩
 have HRES : Aside0 (W0.heap[w.heap.size + 1]? = some (.cells #[.slice none 0 0] 26 (0, 0))) := ⟨by rw [← hW0]; have h := Qal (w.alloc (.cells #[.slice (some ad) l.length c0] 26)) (.cells #[.slice none 0 0] 26); simpa using h⟩
 clear hW0
 go_enter Tryz.func24, Tryz.ntmps24
 go_wp2_with (first | (go_at_call 44; (with_reducible refine (clonen_walk ad c0 l _ ?hC hc0 zq3).mono ?_); (case hC => exact Kd.C_below HC.out zq8); rintro e w1 ⟨v, rfl, hs, hb⟩; rw [HW0.out] at hs hb; obtain ⟨g, cap, rfl, hbg, hgl, -⟩ := Kd.S_form hs (by rw [List.length_map]; exact hp); rw [List.length_map] at hs ⊢; have HS := am hs; have HB := am hb; have hsz := hb.size; have hb1 : w.heap.size + 2 ≤ g := (by rw [← hsW]; exact hbg); have hb2 : w.heap.size + 2 ≤ w1.heap.size := (by rw [← hsW]; exact hsz); clear hs hb hbg hsz))
 have HOUT := am (Qal w1 (.cells #[.slice (some ⟨g, 0, none⟩) l.length cap] 26))
 go_loopw [13] (fun v13 wr => ∃ i : Nat, v13 = .int .i64 i ∧ i ≤ l.length ∧ Aside0 (wr.heap[w1.heap.size]? = some (.cells #[.slice (some ⟨g, 0, none⟩) l.length cap] 26 (0, 0))) ∧ Aside0 (wr.heap[w.heap.size + 1]? = some (.cells #[.slice none 0 0] 26 (0, 0))) ∧ Aside0 (Kd.S (kH W0) 52 wr W0.heap.size (fun _ => True) (.slice (some ⟨g, 0, none⟩) l.length cap) (halfL l i)) ∧ Aside0 (Below W0.heap.size W0 wr)) (fun v13 _ => l.length - (intOf v13).toNat)
 case atStart => exact ⟨0, rfl, Nat.zero_le _, HOUT, ⟨Qaj (Qaf HRES.out HB.out) _⟩, ⟨Kd.S_alloc HS.out _⟩, ⟨Qaa HB.out _⟩⟩
 case round =>
  obtain ⟨i, rfl, hi, HO, HR, HSr, HBr⟩ := hrel
  by_cases hlt : i < l.length
  ·
   obtain ⟨A2, c2, A3, c3, hy2, hy3, hl2, hC2, hl3, hC3, hfr, hgr, hput⟩ := half_node HSr.out i l[i] (halfL_at l i hlt) HBr.out.size
   have hdi := HD.out l[i] (List.getElem_mem hlt)
   have hyo := (Qab HO.out 0).trans (show _ = some (Value.slice (some ⟨g, 0, none⟩) l.length cap) from rfl)
   have hf2 := hfr 2
   have hf3 := hfr 3
   have HC2 := am hC2
   have HC3 := am hC3
   have HP := am hput
   have HSET := am (halfL_set l i hlt)
   have hi0 : (0 : Int) ≤ (i : Int) := by omega
   have hi1 : (i : Int) < (l.length : Int) := by omega
   clear hC2 hC3 hput hfr
   generalize l[i] = x at *
   go_wp2
   go_region_with (first
    | (go_at_call 45; (with_reducible refine (Qgr A2 c2 x.f2 _ ?hC hl2 ?hn).mono ?_); (case hC => exact Kd.C_below HC2.out (Qad HBr.out)); (case hn => omega); rintro e w2 ⟨u2, rfl, hr, hb⟩; obtain ⟨B2, n2, k2, rfl⟩ := R_any hr; have HB2 := am (Qa (Qad (Below.refl wr.heap.size wr)) hb); have HR2 := am (Kd.R_lower hr (show wr.heap.size ≤ wr.drew.heap.size from Nat.le_refl _)); have hz2 := (HB2.out.cell (p := ⟨g, i * 4 + 2, none⟩) hgr).trans hy2; have hz3 := (HB2.out.cell (p := ⟨g, i * 4 + 3, none⟩) hgr).trans hy3; have hzf2 := (HB2.out.frozen (p := ⟨g, i * 4 + 2, none⟩) hgr).trans hf2; have hzf3 := (HB2.out.frozen (p := ⟨g, i * 4 + 3, none⟩) hgr).trans hf3; clear hr hb)
    | (go_at_call 46; (with_reducible refine (clone_walk A3 c3 x.f3 _ ?hC hl3 ?hn).mono ?_); (case hC => exact Kd.C_below HC3.out (Qa HBr.out HB2.out)); (case hn => omega); rintro e w3 ⟨u3, rfl, hr, hb⟩; obtain ⟨B3, n3, k3, rfl⟩ := R_any hr; have HB3 := am (Qa HB2.out hb); have HR3 := am (Kd.R_lower hr HB2.out.size); have HR23 := am (Kd.R_below HR2.out hb); have hzz2 := (HB3.out.cell (p := ⟨g, i * 4 + 2, none⟩) hgr).trans hy2; have hzz3 := (HB3.out.cell (p := ⟨g, i * 4 + 3, none⟩) hgr).trans hy3; have hzzf2 := (HB3.out.frozen (p := ⟨g, i * 4 + 2, none⟩) hgr).trans hf2; have hzzf3 := (HB3.out.frozen (p := ⟨g, i * 4 + 3, none⟩) hgr).trans hf3; clear hr hb))
   all_goals go_wp2
   all_goals
    go_roundw
    case rel =>
     refine ⟨i + 1, by go_num, by omega, ⟨Qam (p := ⟨g, i * 4 + 3, none⟩) (Qam (p := ⟨g, i * 4 + 2, none⟩) (Qaf HO.out HB3.out) (Nat.ne_of_gt hgl) _) (Nat.ne_of_gt hgl) _⟩, ⟨Qam (p := ⟨g, i * 4 + 3, none⟩) (Qam (p := ⟨g, i * 4 + 2, none⟩) (Qaf HR.out HB3.out) (Nat.ne_of_lt hb1) _) (Nat.ne_of_lt hb1) _⟩, ⟨?_⟩, ⟨?_⟩⟩
     ·
      rw [← HSET.out]
      exact HP.out _ _ _ HB3.out HR23.out HR3.out
     · exact ((Qa HBr.out HB3.out).setCell (p := ⟨g, i * 4 + 2, none⟩) (by rw [hsW]; exact hb1) _).setCell (p := ⟨g, i * 4 + 3, none⟩) (by rw [hsW]; exact hb1) _
    case measure => simp [intOf]; omega
  ·
   have hil : i = l.length := by omega
   subst hil
   have hge : ¬ ((l.length : Int) < (l.length : Int)) := Int.lt_irrefl _
   have hyo := (Qab HO.out 0).trans (show _ = some (Value.slice (some ⟨g, 0, none⟩) l.length cap) from rfl)
   have hyr := (Qab HR.out 0).trans (show _ = some (Value.slice none 0 0) from rfl)
   have hfr := Qag HR.out 0
   have HSD := HSr.out
   rw [halfL_end] at HSD
   have HSE := am (half_done HSD)
   clear HSD
   go_wp2
   have HRP := am (Qap HR.out 0 (.slice (some ⟨g, 0, none⟩) l.length cap) rfl)
   refine bodyPost_ret (Qds rfl _ _ (w.heap.size + 1) 26 _ (0, 0) _ rfl HRP.out Tryz.underlying26 rfl zq15) rfl ⟨_, rfl, ?_, ?_⟩
   · exact Kd.S_lower (Kd.S_set HSE.out HR.out zq9 0 _) zq3
   · exact (Below.trans HB00.out (Below.mono HBr.out zq3)).setCell (p := ⟨w.heap.size + 1, 0, none⟩) (Nat.le_succ _) _
end
theorem catch_wrong (p : Addr) (x e : Int) (older : List PanicEntry) (w : World) (hc : w.cell? p = some (.int .i64 x)) (hz : w.frozen? p = false) :
  CallsD Tryz.prog 47 #[.pointer (some p)] (.panicking ({ v := .iface 34 (.int .i64 e), recovered := false } :: older)) w fun en u' w' =>
   en = .returned (.tuple #[]) ∧ u' = .panicking ({ v := .iface 34 (.int .i64 e), recovered := true } :: older) ∧ w' = w.setCell p (.int .i64 e) := by
 have hta : ∀ W, (Instr.typeAssert (.iface 34 (.int .i64 e)) 20 34 false).run Tryz.prog W = .ok (.int .i64 e) W := fun W => by rfl
 refine callsD_of_wpS Tryz.func47 rfl fun c₀ cs hu => ?_
 apply wpS_seq
 apply wpS_region
 simp [wpOpsS, go_sem, recoverD, hu, Tryz.ntmps47, Exit.thenS]
 apply wpS_seq
 apply wpS_region
 simp [wpOpsS, go_sem, Array.replicate, Exit.thenS]
 refine wpS_cond (t := true) (by simp [Act.eval, Array.replicate]) ?_
 simp only [if_true]
 apply wpS_region
 simp [wpOpsS, go_sem, hta, hc, hz, bodyPostS, results, Tryz.results47]
theorem catch_idle (p : Addr) (w : World) :
  CallsD Tryz.prog 47 #[.pointer (some p)] .returning w fun en u' w' => en = .returned (.tuple #[]) ∧ u' = .returning ∧ w' = w := by
 refine callsD_of_wpS Tryz.func47 rfl fun c₀ cs hu => ?_
 apply wpS_seq
 apply wpS_region
 simp [wpOpsS, go_sem, recoverD, hu, Tryz.ntmps47, Exit.thenS]
 apply wpS_seq
 apply wpS_region
 simp [wpOpsS, go_sem, Array.replicate, Exit.thenS]
 refine wpS_cond (t := false) (by simp [Act.eval, Array.replicate]) ?_
 simp only [Bool.false_eq_true, if_false]
 refine wpS_of_wp (wp_skip ?_)
 cases c₀
 simp_all [bodyPostS, results, Tryz.results47]
def Qca (w : World) : World := w.alloc (.cells #[.int .i64 0] 34)
theorem caught_ok (pw : Value) (w : World) (Q : World → Prop)
  (hrun : Calls Tryz.prog 26 #[pw] (Qca w) fun en w' => en = .returned (.tuple #[]) ∧ w'.cell? ⟨w.heap.size, 0, none⟩ = some (.int .i64 0) ∧ w'.frozen? ⟨w.heap.size, 0, none⟩ = false ∧ Q w') :
  Calls Tryz.prog 25 #[.func (.func 26) #[pw] #[]] w fun en w' => en = .returned (.int .i64 0) ∧ ∃ w1, Q w1 ∧ w' = w1.setCell ⟨w.heap.size, 0, none⟩ (.int .i64 0) := by
 have hmf : ∀ (fn : Fn) (first cap : Array Value) (w : World), (Instr.makeFunc fn first cap).run Tryz.prog w = .ok (.func fn first cap) w := fun _ _ _ _ => rfl
 unfold Qca at hrun
 go_enter_defers Tryz.func25, Tryz.ntmps25
 go_wp2_with (go_at_call 26; refine hrun.mono ?_; rintro e w1 ⟨rfl, hc, hz, hq⟩)
 refine leaves_cons (f := 47) (args := #[.pointer (some ⟨w.heap.size, 0, none⟩)]) zq14 (by simp [go_sem]) ?_
 refine (catch_idle ⟨w.heap.size, 0, none⟩ _).mono ?_
 rintro e u' w'' ⟨rfl, rfl, rfl⟩
 have hs : (w1.setCell ⟨w.heap.size, 0, none⟩ (.int .i64 0)).cell? ⟨w.heap.size, 0, none⟩ = some (.int .i64 0) := World.cell?_setCell_same _ _ _ hc
 simp [Leaves, settle, results, Tryz.results25, go_sem]
 rw [hs]
 exact ⟨_, rfl, rfl, w1, hq, rfl⟩
theorem caught_bad (pw : Value) (n : Int) (w : World) (Q : World → Prop)
  (hrun : Calls Tryz.prog 26 #[pw] (Qca w) fun en w' => en = .panicked (wrong n) ∧ w'.cell? ⟨w.heap.size, 0, none⟩ = some (.int .i64 0) ∧ w'.frozen? ⟨w.heap.size, 0, none⟩ = false ∧ Q w') :
  Calls Tryz.prog 25 #[.func (.func 26) #[pw] #[]] w fun en w' => en = .returned (.int .i64 n) ∧ ∃ w1, Q w1 ∧ w' = w1.setCell ⟨w.heap.size, 0, none⟩ (.int .i64 n) := by
 have hmf : ∀ (fn : Fn) (first cap : Array Value) (w : World), (Instr.makeFunc fn first cap).run Tryz.prog w = .ok (.func fn first cap) w := fun _ _ _ _ => rfl
 unfold Qca at hrun
 go_enter_defers Tryz.func25, Tryz.ntmps25
 go_wp2_with (go_at_call 26; refine hrun.mono ?_; rintro e w1 ⟨rfl, hc, hz, hq⟩)
 refine leaves_cons (f := 47) (args := #[.pointer (some ⟨w.heap.size, 0, none⟩)]) zq14 (by simp [go_sem]) ?_
 refine (catch_wrong ⟨w.heap.size, 0, none⟩ 0 n [] _ hc hz).mono ?_
 rintro e u' w'' ⟨rfl, rfl, rfl⟩
 have hs : (w1.setCell ⟨w.heap.size, 0, none⟩ (.int .i64 n)).cell? ⟨w.heap.size, 0, none⟩ = some (.int .i64 n) := World.cell?_setCell_same _ _ _ hc
 simp [Leaves, settle, results, Tryz.results25, go_sem]
 rw [hs]
 exact ⟨_, rfl, rfl, w1, hq, rfl⟩
section
attribute [local go_sem ↓] Go.wp_at_zero Go.wp_at_succ
def doG (l : List S52) (o : S31) : List S52 × S37 := if Qbd l = true then doF l o else ([], { res0 with f0 := 15 })
def Handed (w : World) (r : List S52 × S37) (e : Ending) (w' : World) : Prop :=
 ∃ A1 c1 A2 c2 A3 c3, e = .returned (.tuple #[.agg #[.slice A1 r.1.length c1], .agg #[.int .i64 r.2.f0, .slice A2 r.2.f1.length c2, .slice A3 r.2.f2.length c3, .int .i64 r.2.f3, .int .i64 r.2.f4, .int .i64 r.2.f5]]) ∧
  r.1.length ≤ c1 ∧ Kd.C k52 w' A1 r.1.length r.1 ∧ r.2.f1.length ≤ c2 ∧ Kd.C (Kd.int .u8) w' A2 r.2.f1.length r.2.f1 ∧ r.2.f2.length ≤ c3 ∧ Kd.C Kd.string w' A3 r.2.f2.length r.2.f2 ∧ Below w.heap.size w w'
theorem new4 (w : World) (a b c d : Obj) : ((((w.alloc a).alloc b).alloc c).alloc d).heap[w.heap.size]? = some a ∧ ((((w.alloc a).alloc b).alloc c).alloc d).heap[w.heap.size + 1]? = some b ∧ ((((w.alloc a).alloc b).alloc c).alloc d).heap[w.heap.size + 1 + 1]? = some c ∧ ((((w.alloc a).alloc b).alloc c).alloc d).heap[w.heap.size + 1 + 1 + 1]? = some d := by
 have h1 := Qal w a
 have h2 := Qal (w.alloc a) b
 have h3 := Qal ((w.alloc a).alloc b) c
 have h4 := Qal (((w.alloc a).alloc b).alloc c) d
 rw [World.size_alloc] at h2 h3 h4
 rw [World.size_alloc] at h3 h4
 rw [World.size_alloc] at h4
 exact ⟨Qaj (Qaj (Qaj h1 _) _) _, Qaj (Qaj h2 _) _, Qaj h3 _, h4⟩
def laidR (w1 : World) (gT gR : Nat) (v r0 r1 r2 r3 r4 r5 : Value) : World := ((((((w1.setCell ⟨gT, 0, none⟩ v).setCell ⟨gR, 0, none⟩ r0).setCell ⟨gR, 1, none⟩ r1).setCell ⟨gR, 2, none⟩ r2).setCell ⟨gR, 3, none⟩ r3).setCell ⟨gR, 4, none⟩ r4).setCell ⟨gR, 5, none⟩ r5
section
variable {w w1 : World} {gT gR : Nat} {v r0 r1 r2 r3 r4 r5 u0 u1 u2 u3 u4 u5 u : Value}
theorem laidR_T (hT : w1.heap[gT]? = some (.cells #[u] 26 (0, 0))) (hne : gT ≠ gR) : (laidR w1 gT gR v r0 r1 r2 r3 r4 r5).heap[gT]? = some (.cells #[v] 26 (0, 0)) :=
 Qam (p := ⟨gR, 5, none⟩) (Qam (p := ⟨gR, 4, none⟩) (Qam (p := ⟨gR, 3, none⟩) (Qam (p := ⟨gR, 2, none⟩) (Qam (p := ⟨gR, 1, none⟩) (Qam (p := ⟨gR, 0, none⟩) (Qap hT 0 v rfl) hne _) hne _) hne _) hne _) hne _) hne _
theorem laidR_R (hR : w1.heap[gR]? = some (.cells #[u0, u1, u2, u3, u4, u5] 37 (0, 0))) (hne : gT ≠ gR) : (laidR w1 gT gR v r0 r1 r2 r3 r4 r5).heap[gR]? = some (.cells #[r0, r1, r2, r3, r4, r5] 37 (0, 0)) :=
 Qap (Qap (Qap (Qap (Qap (Qap (Qam (p := ⟨gT, 0, none⟩) hR (Ne.symm hne) v) 0 r0 rfl) 1 r1 rfl) 2 r2 rfl) 3 r3 rfl) 4 r4 rfl) 5 r5 rfl
theorem Qgu {B : Nat} (h : Below B w w1) (hT : B ≤ gT) (hR : B ≤ gR) : Below B w (laidR w1 gT gR v r0 r1 r2 r3 r4 r5) :=
 ((((((h.setCell (p := ⟨gT, 0, none⟩) hT _).setCell (p := ⟨gR, 0, none⟩) hR _).setCell (p := ⟨gR, 1, none⟩) hR _).setCell (p := ⟨gR, 2, none⟩) hR _).setCell (p := ⟨gR, 3, none⟩) hR _).setCell (p := ⟨gR, 4, none⟩) hR _).setCell (p := ⟨gR, 5, none⟩) hR _
theorem laidR_keep {i : Nat} (h1 : i ≠ gT) (h2 : i ≠ gR) : (laidR w1 gT gR v r0 r1 r2 r3 r4 r5).heap[i]? = w1.heap[i]? := by
 unfold laidR
 rw [Below.heap_setCell _ ⟨gR, 5, none⟩ _ i h2, Below.heap_setCell _ ⟨gR, 4, none⟩ _ i h2, Below.heap_setCell _ ⟨gR, 3, none⟩ _ i h2, Below.heap_setCell _ ⟨gR, 2, none⟩ _ i h2, Below.heap_setCell _ ⟨gR, 1, none⟩ _ i h2, Below.heap_setCell _ ⟨gR, 0, none⟩ _ i h2, Below.heap_setCell _ ⟨gT, 0, none⟩ _ i h1]
end
set_option maxHeartbeats 8000000 in
theorem do_bad (A : Option Addr) (c : Nat) (l : List S52) (o : S31) (Ad : Option Addr) (cd : Nat) (w : World) (hr : Kd.C k52 w A l.length l) (hc : l.length ≤ c) (hn : l.length < 1000000000000) (hm : ∀ k, (nd l k).f3.length < 1000000000000) (hb : Qbd l = false) :
  Calls Tryz.prog 11 #[.agg #[.slice A l.length c], .agg #[.int .i64 o.f0, .string o.f1, .string o.f2, .int .i64 o.f3, .int .i64 o.f4, .slice Ad o.f5.length cd]] w fun e w' => Handed w ([], { res0 with f0 := 15 }) e w' := by
 have HC := am hr
 have HM := am hm
 have HN4 := am (new4 w (.cells #[.slice A l.length c] 26) (.cells #[.int .i64 o.f0, .string o.f1, .string o.f2, .int .i64 o.f3, .int .i64 o.f4, .slice Ad o.f5.length cd] 31) (.cells #[.slice none 0 0] 26) (.cells #[.int .i64 0, .slice none 0 0, .slice none 0 0, .int .i64 0, .int .i64 0, .int .i64 0] 37))
 clear hr hm
 go_enter Tryz.func11, Tryz.ntmps11
 go_wp2_with (go_at_call 19; (with_reducible refine (Qd A c l _ hc (Kd.C_below HC.out zq8) hn HM.out).mono ?_); rintro e w1 ⟨rfl, hb1⟩; rw [hb]; have HBW := am (Qa (Qaa (Qaa (Qaa (Qaa (Below.refl w.heap.size w) _) _) _) _) hb1); have HTR := am (And.intro (Qaf HN4.out.2.2.1 hb1) (Qaf HN4.out.2.2.2 hb1)); have HB1 := am hb1; obtain ⟨hbc, hbf⟩ := bcell hb1; have hsz := hb1.size; (try simp at hsz); clear hb1)
 obtain ⟨hT, hR⟩ := HTR.out
 have hne : w.heap.size + 1 + 1 ≠ w.heap.size + 1 + 1 + 1 := by omega
 refine bodyPost_ret (Qen rfl _ _ (w.heap.size + 1 + 1) (w.heap.size + 1 + 1 + 1) 26 37 _ _ (0, 0) (0, 0) _ _ rfl (laidR_T hT hne) Tryz.underlying26 rfl zq15 rfl (laidR_R hR hne) Tryz.underlying37 rfl zq15) rfl ⟨none, 0, none, 0, none, 0, rfl, Nat.le_refl _, Kd.C_nil _ _, Nat.le_refl _, Kd.C_nil _ _, Nat.le_refl _, Kd.C_nil _ _, ?_⟩
 exact Qgu HBW.out zq3 zq3
def workO (g n cap : Nat) (o : S31) (Ad : Option Addr) (cd : Nat) : Obj := .cells #[.slice (some ⟨g, 0, none⟩) n cap, .int .i64 o.f0, .string o.f1, .string o.f2, .int .i64 o.f3, .int .i64 o.f4, .slice Ad o.f5.length cd, .int .i64 0, .slice none 0 0, .slice none 0 0, .int .i64 0, .int .i64 0, .int .i64 0] 57
structure DoS (B b : Nat) (l : List S52) (o : S31) (Ad : Option Addr) (cd : Nat) (w W : World) : Prop where
 st : St B b l (opV o Ad cd zeroR) W
 dat : ∀ w', Below B W w' → Kd.C (Kd.int .u8) w' Ad o.f5.length o.f5
 size : w.heap.size ≤ B
 bel : Below w.heap.size w W
 err : W.heap[b + 1]? = some (.cells #[.int .i64 0] 34 (0, 0))
theorem do_start (ad : Addr) (c : Nat) (l : List S52) (o : S31) (Ad : Option Addr) (cd : Nat) (w w1 w2 : World) (g cap : Nat) (hd : Kd.C (Kd.int .u8) w Ad o.f5.length o.f5) (h1 : Below w.heap.size w w1) (h2 : Below w1.heap.size w1 w2) (hs : Kd.S k52 52 w2 w1.heap.size (fun _ => True) (.slice (some ⟨g, 0, none⟩) l.length cap) l) :
  DoS w1.heap.size w2.heap.size l o Ad cd w (Qca (w2.alloc (workO g l.length cap o Ad cd))) := by
 have hb : Below w.heap.size w (Qca (w2.alloc (workO g l.length cap o Ad cd))) := Qaa (Qaa (Qa h1 h2) _) _
 refine ⟨⟨h2.size, .slice (some ⟨g, 0, none⟩) l.length cap, Qaj (Qal w2 (workO g l.length cap o Ad cd)) _, Kd.S_alloc (Kd.S_alloc (Kd.S_mono (Kd.S_elderB hs w2.heap.size (Nat.le_refl _)) (fun k hk => hk.2)) _) _⟩, fun w' hw' => Kd.C_below hd (hb.trans (Below.mono hw' h1.size)), h1.size, hb, ?_⟩
 have h := Qal (w2.alloc (workO g l.length cap o Ad cd)) (.cells #[.int .i64 0] 34)
 rw [World.size_alloc] at h
 exact h
def DoQ (B b : Nat) (l' : List S52) (r : S37) (o : S31) (Ad : Option Addr) (cd : Nat) (W w' : World) : Prop :=
 r.f0 = 0 ∧ (∃ vd vn, St B b l' (opV o Ad cd [.int .i64 0, vd, vn, .int .i64 r.f3, .int .i64 r.f4, .int .i64 r.f5]) w' ∧ Kd.R (Kd.int .u8) 5 w' B (fun k => k ≠ b) vd r.f1 ∧ Kd.R Kd.string 9 w' B (fun k => k ≠ b) vn r.f2) ∧ BW B W w'
theorem do_run_ok {B b : Nat} {l l' : List S52} {r : S37} {o : S31} {Ad : Option Addr} {cd : Nat} {w W : World} (h : DoS B b l o Ad cd w (Qca W)) (hW : W.heap.size = b + 1) (ht : Rt l) (hp : o.f1.size < 10000000) (hq : o.f2.size < 10000000) (hd : ∀ k, (nd l k).f2.length < 1000000000) (hcd : o.f5.length ≤ cd) (hwf : workF l o = .inl (l', r)) :
  Calls Tryz.prog 26 #[.pointer (some ⟨b, 0, none⟩)] (Qca W) fun en w' => en = .returned (.tuple #[]) ∧ w'.cell? ⟨W.heap.size, 0, none⟩ = some (.int .i64 0) ∧ w'.frozen? ⟨W.heap.size, 0, none⟩ = false ∧ DoQ B b l' r o Ad cd (Qca W) w' := by
 refine (run_walk B b l o Ad cd _ h.st ht.ok hp hq hd hcd h.dat).mono fun en w' hr => ?_
 rw [hwf] at hr
 obtain ⟨⟨he, h0, vd, vn, hs, h1, h2⟩, hb⟩ := hr
 have hk := hb.keep _ _ _ h.err zq9 zq9
 rw [hW]
 exact ⟨he, Qab hk 0, Qag hk 0, h0, ⟨vd, vn, hs, h1, h2⟩, hb⟩
theorem do_run_bad {B b : Nat} {l : List S52} {n : Int} {o : S31} {Ad : Option Addr} {cd : Nat} {w W : World} (h : DoS B b l o Ad cd w (Qca W)) (hW : W.heap.size = b + 1) (ht : Rt l) (hp : o.f1.size < 10000000) (hq : o.f2.size < 10000000) (hd : ∀ k, (nd l k).f2.length < 1000000000) (hcd : o.f5.length ≤ cd) (hwf : workF l o = .inr n) :
  Calls Tryz.prog 26 #[.pointer (some ⟨b, 0, none⟩)] (Qca W) fun en w' => en = .panicked (wrong n) ∧ w'.cell? ⟨W.heap.size, 0, none⟩ = some (.int .i64 0) ∧ w'.frozen? ⟨W.heap.size, 0, none⟩ = false ∧ BW B (Qca W) w' := by
 refine (run_walk B b l o Ad cd _ h.st ht.ok hp hq hd hcd h.dat).mono fun en w' hr => ?_
 rw [hwf] at hr
 obtain ⟨he, hb⟩ := hr
 have hk := hb.keep _ _ _ h.err zq9 zq9
 rw [hW]
 exact ⟨he, Qab hk 0, Qag hk 0, hb⟩
theorem R_laid {α : Type} {d : Kd α} {e base : Nat} {ok : Nat → Prop} {w1 : World} {gT gR : Nat} {cT cR : Array Value} {x v r0 r1 r2 r3 r4 r5 : Value} {xs : List α} (h : d.R e w1 base ok v xs) (hT : w1.heap[gT]? = some (.cells cT 26 (0, 0))) (hR : w1.heap[gR]? = some (.cells cR 37 (0, 0))) (ht : ∀ q, q ∈ e :: d.E → q ≠ 26) (hr : ∀ q, q ∈ e :: d.E → q ≠ 37) :
  d.R e (laidR w1 gT gR x r0 r1 r2 r3 r4 r5) base ok v xs :=
 Kd.R_mono (Kd.R_move (Kd.R_types (Kd.R_types h hT ht) hR hr) (fun k hk => laidR_keep hk.1.2 hk.2)) (fun k hk => hk.1.1)
theorem R_keepT {α : Type} {d : Kd α} {e base : Nat} {ok : Nat → Prop} {W W' : World} {v : Value} {xs : List α} (h : d.R e W base ok v xs) (hE : 62 ∉ e :: d.E) (hk : KeepT W W') : d.R e W' base ok v xs :=
 Kd.R_mono (Kd.R_move (Kd.R_bound h) (fun k hk2 => by
  obtain ⟨-, -, -, q, hq, cells, hc⟩ := hk2
  rw [hk k cells q hc (fun e => hE (e ▸ hq)), hc])) (fun _ hk => hk.1)
structure DoA (B b g cap : Nat) (l' : List S52) (r : S37) (o : S31) (Ad : Option Addr) (cd : Nat) (vd vn : Value) (W w4 : World) : Prop where
 wk : Wk w4 b (.slice (some ⟨g, 0, none⟩) l'.length cap) (opV o Ad cd [.int .i64 0, vd, vn, .int .i64 r.f3, .int .i64 r.f4, .int .i64 r.f5])
 nodes : Kd.S k52 52 w4 B (fun k => k ≠ b) (.slice (some ⟨g, 0, none⟩) l'.length cap) l'
 dat : Kd.R (Kd.int .u8) 5 w4 B (fun k => k ≠ b) vd r.f1
 nam : Kd.R Kd.string 9 w4 B (fun k => k ≠ b) vn r.f2
 bel : Below B W w4
theorem do_after {B b : Nat} {l' : List S52} {r : S37} {o : S31} {Ad : Option Addr} {cd : Nat} {w W w3 w4 : World} {l : List S52} (hs : DoS B b l o Ad cd w W) (h : DoQ B b l' r o Ad cd W w3) (h4 : w4 = w3.setCell ⟨b + 1, 0, none⟩ (.int .i64 0)) (hl : 0 < l'.length) :
  ∃ vd vn g cap, DoA B b g cap l' r o Ad cd vd vn W w4 := by
 obtain ⟨h0, ⟨vd, vn, ⟨hBb, v, hw, hS⟩, h1, h2⟩, hb⟩ := h
 obtain ⟨g, cap, rfl, -, -, -⟩ := Kd.S_form hS hl
 have he := hb.keep _ _ _ hs.err zq9 zq9
 subst h4
 refine ⟨vd, vn, g, cap, ⟨Qam (p := ⟨b + 1, 0, none⟩) hw (Nat.ne_of_lt (Nat.lt_succ_self b)) _, Kd.S_set hS he zq9 0 _, Kd.R_set h1 he zq9 0 _, Kd.R_set h2 he zq9 0 _, hb.bel.setCell (p := ⟨b + 1, 0, none⟩) (Nat.le_succ_of_le hBb) _⟩⟩
set_option maxHeartbeats 8000000 in
theorem do_ok (A : Option Addr) (c : Nat) (l : List S52) (o : S31) (Ad : Option Addr) (cd : Nat) (w : World) (hr : Kd.C k52 w A l.length l) (hc : l.length ≤ c) (hrd : Kd.C (Kd.int .u8) w Ad o.f5.length o.f5) (hcd : o.f5.length ≤ cd) (ht : Rt l) (hp : o.f1.size < 10000000) (hq : o.f2.size < 10000000) :
  Calls Tryz.prog 11 #[.agg #[.slice A l.length c], .agg #[.int .i64 o.f0, .string o.f1, .string o.f2, .int .i64 o.f3, .int .i64 o.f4, .slice Ad o.f5.length cd]] w fun e w' => Handed w (doF l o) e w' := by
 have HC := am hr
 have HCD := am hrd
 have HT := am ht
 have hb := (Qci l).2 ht
 have hlp : 0 < l.length := ht.pr.wf.pos
 have hl56 : l.length ≤ 56 := ht.pr.le
 have h64 : ∀ k, (nd l k).f3.length ≤ 64 := ht.pr.ents
 have HM : Aside0 (∀ k, (nd l k).f3.length < 1000000000000) := ⟨fun k => by have := h64 k; omega⟩
 have hsz : ∀ k, (nd l k).f2.length ≤ 46368 := ht.pr.size
 have HDX : Aside0 (∀ x ∈ l, x.f2.length < 1000000000 ∧ x.f3.length < 1000000000) := ⟨fun x hx => by
  obtain ⟨k, hk, rfl⟩ := List.getElem_of_mem hx
  have h1 := h64 k
  have h2 := hsz k
  rw [Qbm hk] at h1 h2
  exact ⟨by omega, by omega⟩⟩
 have HD2 : Aside0 (∀ k, (nd l k).f2.length < 1000000000) := ⟨fun k => by have := hsz k; omega⟩
 obtain ⟨ad, hA⟩ : ∃ ad, A = some ad := by
  obtain ⟨ad, h, _⟩ := hr.2.2 hlp
  exact ⟨ad, h⟩
 subst hA
 have HN4 := am (new4 w (.cells #[.slice (some ad) l.length c] 26) (.cells #[.int .i64 o.f0, .string o.f1, .string o.f2, .int .i64 o.f3, .int .i64 o.f4, .slice Ad o.f5.length cd] 31) (.cells #[.slice none 0 0] 26) (.cells #[.int .i64 0, .slice none 0 0, .slice none 0 0, .int .i64 0, .int .i64 0, .int .i64 0] 37))
 clear hr hrd ht h64 hsz
 cases hwf : workF l o with
 | inr n =>
  have hdf : doF l o = (l, { res0 with f0 := n }) := by unfold doF; rw [hwf]
  rw [hdf]
  have HWF := am hwf
  have hnz : (n != 0) = true := bne_iff_ne.2 (workF_err hwf)
  clear hdf hwf
  go_enter Tryz.func11, Tryz.ntmps11
  go_wp2_with (go_at_call 19; (with_reducible refine (Qd (some ad) c l _ hc (Kd.C_below HC.out zq8) zq3 HM.out).mono ?_); rintro e w1 ⟨rfl, hb1⟩; rw [hb]; have HBW := am (Qa (Qaa (Qaa (Qaa (Qaa (Below.refl w.heap.size w) _) _) _) _) hb1); have HX0 := am (Qaf HN4.out.1 hb1); have HX1 := am (Qaf HN4.out.2.1 hb1); have HX2 := am (Qaf HN4.out.2.2.1 hb1); have HX3 := am (Qaf HN4.out.2.2.2 hb1); clear hb1)
  have hy0 := (Qab HX0.out 0).trans (show _ = some (Value.slice (some ad) l.length c) from rfl)
  have hq0 := (Qab HX1.out 0).trans (show _ = some (Value.int .i64 o.f0) from rfl)
  have hq1 := (Qab HX1.out 1).trans (show _ = some (Value.string o.f1) from rfl)
  have hq2 := (Qab HX1.out 2).trans (show _ = some (Value.string o.f2) from rfl)
  have hq3 := (Qab HX1.out 3).trans (show _ = some (Value.int .i64 o.f3) from rfl)
  have hq4 := (Qab HX1.out 4).trans (show _ = some (Value.int .i64 o.f4) from rfl)
  have hq5 := (Qab HX1.out 5).trans (show _ = some (Value.slice Ad o.f5.length cd) from rfl)
  have hlt1 := Qai HX1.out
  go_region_with (go_at_call 24; (with_reducible refine (Qgs ad c l _ (Kd.C_below HC.out (Qad HBW.out)) hc zq3 hlp HDX.out).mono ?_); rintro e w2 ⟨v, rfl, hs, hb⟩; obtain ⟨g, cap, rfl, hbg, hgl, -⟩ := Kd.S_form hs hlp; have HS := am (Kd.S_lower hs (show w1.heap.size ≤ w1.drew.heap.size from Nat.le_refl _)); have HB2 := am (Qa (Qad (Below.refl w1.heap.size w1)) hb); obtain ⟨hbc, hbf⟩ := bcell HB2.out; clear hs hb)
  all_goals simp only [Act.put]
  all_goals
   have HST := am (do_start ad c l o Ad cd w w1 w2 g cap HCD.out HBW.out HB2.out HS.out)
   go_wp2_with (first
    | (go_at_call 25; (with_reducible refine (caught_bad _ n _ (fun w' => BW w1.heap.size (Qca (w2.alloc (workO g l.length cap o Ad cd))) w') ?hrun).mono ?_); (case hrun => exact do_run_bad HST.out (World.size_alloc _ _) HT.out hp hq HD2.out hcd HWF.out); rintro e w4 ⟨rfl, w3, hq3, h4⟩; have HB4 := am (show Below w1.heap.size (Qca (w2.alloc (workO g l.length cap o Ad cd))) w4 from h4 ▸ hq3.bel.setCell (p := ⟨(w2.alloc (workO g l.length cap o Ad cd)).heap.size, 0, none⟩) (by show w1.heap.size ≤ (w2.alloc (workO g l.length cap o Ad cd)).heap.size; rw [World.size_alloc]; exact Nat.le_succ_of_le HB2.out.size) _); have HBA := am (HST.out.bel.trans (Below.mono HB4.out HST.out.size)); have HY0 := am ((HB4.out.block _ (Qai HX0.out)).trans (Qaj (Qaj (Qaf HX0.out HB2.out) _) _)); have HY2 := am ((HB4.out.block _ (Qai HX2.out)).trans (Qaj (Qaj (Qaf HX2.out HB2.out) _) _)); have HY3 := am ((HB4.out.block _ (Qai HX3.out)).trans (Qaj (Qaj (Qaf HX3.out HB2.out) _) _)); have hu0 := (Qab HY0.out 0).trans (show _ = some (Value.slice (some ad) l.length c) from rfl); clear hq3 h4)
    | (go_at_call 24; (with_reducible refine (Qgs ad c l _ (Kd.C_below HC.out HBA.out) hc zq3 hlp HDX.out).mono ?_); rintro e w6 ⟨v6, rfl, hs6, hb6⟩; obtain ⟨g6, cap6, rfl, -, -, -⟩ := Kd.S_form hs6 hlp; have HS6 := am hs6; have HB6 := am hb6; have HZ2 := am (Qaf HY2.out hb6); have HZ3 := am (Qaf HY3.out hb6); have hT0 := (Qab HZ2.out 0).trans (show _ = some (Value.slice none 0 0) from rfl); have hTf := Qag HZ2.out 0; have hR0 := (Qab HZ3.out 0).trans (show _ = some (Value.int .i64 0) from rfl); have hR1 := (Qab HZ3.out 1).trans (show _ = some (Value.slice none 0 0) from rfl); have hR2 := (Qab HZ3.out 2).trans (show _ = some (Value.slice none 0 0) from rfl); have hR3 := (Qab HZ3.out 3).trans (show _ = some (Value.int .i64 0) from rfl); have hR4 := (Qab HZ3.out 4).trans (show _ = some (Value.int .i64 0) from rfl); have hR5 := (Qab HZ3.out 5).trans (show _ = some (Value.int .i64 0) from rfl); have hRf0 := Qag HZ3.out 0; have hRf1 := Qag HZ3.out 1; have hRf2 := Qag HZ3.out 2; have hRf3 := Qag HZ3.out 3; have hRf4 := Qag HZ3.out 4; have hRf5 := Qag HZ3.out 5; clear hs6 hb6))
   have hTR : w.heap.size + 1 + 1 ≠ w.heap.size + 1 + 1 + 1 := by omega
   have hD0 := (Kd.R_reads' (R_laid (x := .slice (some ⟨g6, 0, none⟩) l.length cap6) (r0 := .int .i64 n) (r1 := .slice none 0 0) (r2 := .slice none 0 0) (r3 := .int .i64 0) (r4 := .int .i64 0) (r5 := .int .i64 0) (Kd.S_R HS6.out) HZ2.out HZ3.out zq9 zq9)).2
   refine bodyPost_ret (Qen rfl _ _ (w.heap.size + 1 + 1) (w.heap.size + 1 + 1 + 1) 26 37 _ _ (0, 0) (0, 0) _ _ rfl (laidR_T HZ2.out hTR) Tryz.underlying26 rfl zq15 rfl (laidR_R HZ3.out hTR) Tryz.underlying37 rfl zq15) rfl ⟨_, _, none, 0, none, 0, rfl, hD0.1, hD0.2, Nat.le_refl _, Kd.C_nil _ _, Nat.le_refl _, Kd.C_nil _ _, ?_⟩
   exact Qgu (Qa HBA.out HB6.out) zq3 zq3
 | inl lr =>
  obtain ⟨l', r⟩ := lr
  have hdf : doF l o = (num l', r) := by unfold doF; rw [hwf]
  rw [hdf]
  have HWF := am hwf
  clear hdf hwf
  go_enter Tryz.func11, Tryz.ntmps11
  go_wp2_with (go_at_call 19; (with_reducible refine (Qd (some ad) c l _ hc (Kd.C_below HC.out zq8) zq3 HM.out).mono ?_); rintro e w1 ⟨rfl, hb1⟩; rw [hb]; have HBW := am (Qa (Qaa (Qaa (Qaa (Qaa (Below.refl w.heap.size w) _) _) _) _) hb1); have HX0 := am (Qaf HN4.out.1 hb1); have HX1 := am (Qaf HN4.out.2.1 hb1); have HX2 := am (Qaf HN4.out.2.2.1 hb1); have HX3 := am (Qaf HN4.out.2.2.2 hb1); clear hb1)
  have hy0 := (Qab HX0.out 0).trans (show _ = some (Value.slice (some ad) l.length c) from rfl)
  have hq0 := (Qab HX1.out 0).trans (show _ = some (Value.int .i64 o.f0) from rfl)
  have hq1 := (Qab HX1.out 1).trans (show _ = some (Value.string o.f1) from rfl)
  have hq2 := (Qab HX1.out 2).trans (show _ = some (Value.string o.f2) from rfl)
  have hq3 := (Qab HX1.out 3).trans (show _ = some (Value.int .i64 o.f3) from rfl)
  have hq4 := (Qab HX1.out 4).trans (show _ = some (Value.int .i64 o.f4) from rfl)
  have hq5 := (Qab HX1.out 5).trans (show _ = some (Value.slice Ad o.f5.length cd) from rfl)
  have hlt1 := Qai HX1.out
  go_region_with (go_at_call 24; (with_reducible refine (Qgs ad c l _ (Kd.C_below HC.out (Qad HBW.out)) hc zq3 hlp HDX.out).mono ?_); rintro e w2 ⟨v, rfl, hs, hb⟩; obtain ⟨g, cap, rfl, hbg, hgl, -⟩ := Kd.S_form hs hlp; have HS := am (Kd.S_lower hs (show w1.heap.size ≤ w1.drew.heap.size from Nat.le_refl _)); have HB2 := am (Qa (Qad (Below.refl w1.heap.size w1)) hb); obtain ⟨hbc, hbf⟩ := bcell HB2.out; clear hs hb)
  all_goals simp only [Act.put]
  all_goals
   have HST := am (do_start ad c l o Ad cd w w1 w2 g cap HCD.out HBW.out HB2.out HS.out)
   go_wp2_with (go_at_call 25; (with_reducible refine (caught_ok _ _ (DoQ w1.heap.size w2.heap.size l' r o Ad cd (Qca (w2.alloc (workO g l.length cap o Ad cd)))) ?hrun).mono ?_); (case hrun => exact do_run_ok HST.out (World.size_alloc _ _) HT.out hp hq HD2.out hcd HWF.out); rintro e w4 ⟨rfl, w3, hq3, h4⟩; have HQ := am hq3; have H4 := am h4; clear hq3 h4)
   have hpr := work_pr HT.out HWF.out
   obtain ⟨vd, vn, g', cap', hA⟩ := do_after (w4 := w4) HST.out HQ.out (H4.out.trans (by rw [World.size_alloc])) hpr.wf.pos
   have h0 := HQ.out.1
   have HPR := am hpr
   have HA := am hA
   obtain ⟨Ad', cd', rfl⟩ := Kd.R_slice hA.dat
   obtain ⟨An', cn', rfl⟩ := Kd.R_slice hA.nam
   have hsz2 := HB2.out.size
   have hsz1 := HBW.out.size
   have HY2 := am ((hA.bel.block _ (Qai HX2.out)).trans (Qaj (Qaj (Qaf HX2.out HB2.out) _) _))
   have HY3 := am ((hA.bel.block _ (Qai HX3.out)).trans (Qaj (Qaj (Qaf HX3.out HB2.out) _) _))
   have hz0 := (Qab hA.wk 0).trans (show _ = some (Value.slice (some ⟨g', 0, none⟩) l'.length cap') from rfl)
   have hz7 := (Qab hA.wk 7).trans (show _ = some (Value.int .i64 0) from rfl)
   have hz8 := (Qab hA.wk 8).trans (show _ = some (Value.slice Ad' r.f1.length cd') from rfl)
   have hz9 := (Qab hA.wk 9).trans (show _ = some (Value.slice An' r.f2.length cn') from rfl)
   have hz10 := (Qab hA.wk 10).trans (show _ = some (Value.int .i64 r.f3) from rfl)
   have hz11 := (Qab hA.wk 11).trans (show _ = some (Value.int .i64 r.f4) from rfl)
   have hz12 := (Qab hA.wk 12).trans (show _ = some (Value.int .i64 r.f5) from rfl)
   have hBle : w1.heap.size ≤ w4.heap.size := Nat.le_trans (Nat.le_trans hsz2 (Nat.le_trans (Nat.le_succ _) (by simp [Qca]))) hA.bel.size
   have HBD : Aside0 (w1.heap.size ≤ w4.drew.heap.size) := ⟨hBle⟩
   clear hA hpr hbc hbf
   have hlt4 : w2.heap.size < w4.heap.size := Qai HA.out.wk
   have hlt5 : w.heap.size + 1 + 1 < w4.heap.size := Qai HY2.out
   have hlt6 : w.heap.size + 1 + 1 + 1 < w4.heap.size := Qai HY3.out
   have hne2 : w2.heap.size ≠ w.heap.size + 1 + 1 := by have := Qai HX2.out; omega
   have hne3 : w2.heap.size ≠ w.heap.size + 1 + 1 + 1 := by have := Qai HX3.out; omega
   go_region_with (go_at_call 27; (with_reducible refine (number_walk w1.heap.size g' cap' (fun k => k ≠ w2.heap.size) l' _ (Kd.S_drew HA.out.nodes) HPR.out.wf HPR.out.le HPR.out.ents HBD.out).mono ?_); rintro e w5 ⟨v5, rfl, hs5, hb5, hk5⟩; obtain ⟨g5, c5, rfl, -, -, -⟩ := Kd.S_form hs5 (num_wf HPR.out.wf).pos; have HS5 := am hs5; have HB5 := am hb5; have HK5 := am (show KeepT w4 w5 from hk5); have HW5 := am (HK5.out _ _ _ HA.out.wk zq9); have HZ2 := am (HK5.out _ _ _ HY2.out zq9); have HZ3 := am (HK5.out _ _ _ HY3.out zq9); have hv7 := (Qab HW5.out 7).trans (show _ = some (Value.int .i64 0) from rfl); have hv8 := (Qab HW5.out 8).trans (show _ = some (Value.slice Ad' r.f1.length cd') from rfl); have hv9 := (Qab HW5.out 9).trans (show _ = some (Value.slice An' r.f2.length cn') from rfl); have hv10 := (Qab HW5.out 10).trans (show _ = some (Value.int .i64 r.f3) from rfl); have hv11 := (Qab HW5.out 11).trans (show _ = some (Value.int .i64 r.f4) from rfl); have hv12 := (Qab HW5.out 12).trans (show _ = some (Value.int .i64 r.f5) from rfl); have hT0 := (Qab HZ2.out 0).trans (show _ = some (Value.slice none 0 0) from rfl); have hTf := Qag HZ2.out 0; have hR0 := (Qab HZ3.out 0).trans (show _ = some (Value.int .i64 0) from rfl); have hR1 := (Qab HZ3.out 1).trans (show _ = some (Value.slice none 0 0) from rfl); have hR2 := (Qab HZ3.out 2).trans (show _ = some (Value.slice none 0 0) from rfl); have hR3 := (Qab HZ3.out 3).trans (show _ = some (Value.int .i64 0) from rfl); have hR4 := (Qab HZ3.out 4).trans (show _ = some (Value.int .i64 0) from rfl); have hR5 := (Qab HZ3.out 5).trans (show _ = some (Value.int .i64 0) from rfl); have hRf0 := Qag HZ3.out 0; have hRf1 := Qag HZ3.out 1; have hRf2 := Qag HZ3.out 2; have hRf3 := Qag HZ3.out 3; have hRf4 := Qag HZ3.out 4; have hRf5 := Qag HZ3.out 5; clear hs5 hb5 hk5)
   all_goals go_wp2
   all_goals
    have hTR : w.heap.size + 1 + 1 ≠ w.heap.size + 1 + 1 + 1 := by omega
    have hD1 := (Kd.R_reads' (R_laid (x := .slice (some ⟨g5, 0, none⟩) (num l').length c5) (r0 := .int .i64 0) (r1 := .slice Ad' r.f1.length cd') (r2 := .slice An' r.f2.length cn') (r3 := .int .i64 r.f3) (r4 := .int .i64 r.f4) (r5 := .int .i64 r.f5) (R_keepT HA.out.dat zq9 HK5.out) HZ2.out HZ3.out zq9 zq9)).2
    have hD2 := (Kd.R_reads' (R_laid (x := .slice (some ⟨g5, 0, none⟩) (num l').length c5) (r0 := .int .i64 0) (r1 := .slice Ad' r.f1.length cd') (r2 := .slice An' r.f2.length cn') (r3 := .int .i64 r.f3) (r4 := .int .i64 r.f4) (r5 := .int .i64 r.f5) (R_keepT HA.out.nam zq9 HK5.out) HZ2.out HZ3.out zq9 zq9)).2
    have hD0 := (Kd.R_reads' (R_laid (x := .slice (some ⟨g5, 0, none⟩) (num l').length c5) (r0 := .int .i64 0) (r1 := .slice Ad' r.f1.length cd') (r2 := .slice An' r.f2.length cn') (r3 := .int .i64 r.f3) (r4 := .int .i64 r.f4) (r5 := .int .i64 r.f5) (Kd.S_R HS5.out) HZ2.out HZ3.out zq9 zq9)).2
    refine bodyPost_ret (Qen rfl _ _ (w.heap.size + 1 + 1) (w.heap.size + 1 + 1 + 1) 26 37 _ _ (0, 0) (0, 0) _ _ rfl (laidR_T HZ2.out hTR) Tryz.underlying26 rfl zq15 rfl (laidR_R HZ3.out hTR) Tryz.underlying37 rfl zq15) rfl ⟨_, _, _, _, _, _, ?_, hD0.1, hD0.2, hD1.1, hD1.2, hD2.1, hD2.2, ?_⟩
    · rw [h0]
    · exact Qgu ((Qad (HST.out.bel.trans (Below.mono HA.out.bel HST.out.size))).trans (Below.mono HB5.out HST.out.size)) zq3 zq3
end
def goF (n : Nat) (ch : Nat → List Nat) : Nat → List Nat → List Nat → Option (List Nat)
 | _, [], out => some out
 | 0, _ :: _, _ => none
 | f + 1, k :: row, out => if k ∈ out ∨ n ≤ k then goF n ch f row out else goF n ch f (ch k ++ row) (out ++ [k])
theorem goF_go (n : Nat) (ch : Nat → List Nat) : ∀ (f : Nat) (row out r : List Nat), goF n ch f row out = some r → go n ch row out = r
 | f, [], out, r, h => by
  rw [Qga]
  cases f <;> exact Option.some.inj h
 | 0, k :: row, out, r, h => nomatch h
 | f + 1, k :: row, out, r, h => by
  rw [go]
  unfold goF at h
  split at h
  ·
   rename_i hk
   rw [dif_pos hk]
   exact goF_go n ch f row out r h
  ·
   rename_i hk
   rw [dif_neg hk]
   exact goF_go n ch f _ _ r h
theorem mt_of {l : List S52} {r : List Nat} (f : Nat) (h : goF l.length (chl l) f [0] [] = some r) : mt l = r := goF_go _ _ f _ _ _ h
def numF (r : List Nat) (l : List S52) : List S52 := Qcz (r.map (fun k => ⟨(nd l k).f0, 0, (nd l k).f2, (nd l k).f3.map (ren (fun k => r.idxOf k))⟩))
theorem num_of {l : List S52} {r : List Nat} (h : mt l = r) : num l = numF r l := by subst h; rfl
def okAtF (r : List Nat) (l : List S52) (k : Nat) : Bool :=
 decide (r.length = l.length) && decide (r.getD k 0 = k) && decide (own l k = (nd l k).f1) && !(decide (0 < k) && decide ((nd l k).f0 = 2) && !decide (ups l k = 1))
def rightF (r : List Nat) (l : List S52) : Bool :=
 decide (1 ≤ l.length) && decide (l.length ≤ 56) && decide ((nd l 0).f0 = 2) && l.all (fun x => saneN x l.length) && (List.range l.length).all (okAtF r l)
theorem right_of {l : List S52} {r : List Nat} (h : mt l = r) : Qbd l = rightF r l := by subst h; rfl
theorem do_of {l l' : List S52} {o : S31} {r : S37} (h : workF l o = .inl (l', r)) : doF l o = (num l', r) := by unfold doF; rw [h]
def al0 : List S52 := [⟨2, 2, [], []⟩]
def alMk : S31 := ⟨2, ⟨#[47, 97]⟩, ByteArray.empty, 0, 0, []⟩
def alCr : S31 := ⟨1, ⟨#[47, 97, 47, 98]⟩, ByteArray.empty, 0, 0, []⟩
def alLs : S31 := ⟨11, ⟨#[47, 97]⟩, ByteArray.empty, 0, 0, []⟩
def alRd : S31 := ⟨5, ⟨#[47, 97]⟩, ByteArray.empty, 0, 0, []⟩
def al1' : List S52 := [⟨2, 2, [], [⟨⟨#[97]⟩, 1⟩]⟩, ⟨2, 0, [], []⟩]
def al1 : List S52 := [⟨2, 3, [], [⟨⟨#[97]⟩, 1⟩]⟩, ⟨2, 2, [], []⟩]
def al2' : List S52 := [⟨2, 3, [], [⟨⟨#[97]⟩, 1⟩]⟩, ⟨2, 2, [], [⟨⟨#[98]⟩, 2⟩]⟩, ⟨1, 0, [], []⟩]
def al2 : List S52 := [⟨2, 3, [], [⟨⟨#[97]⟩, 1⟩]⟩, ⟨2, 2, [], [⟨⟨#[98]⟩, 2⟩]⟩, ⟨1, 1, [], []⟩]
theorem rt_root : Rt al0 := (Qci al0).1 ((right_of (mt_of 9 (by decide +kernel : goF _ _ 9 [0] [] = some [0]))).trans (by decide +kernel))
theorem al_mk : doF al0 alMk = (al1, res0) := by
 rw [do_of (l' := al1') (r := res0) zq15, num_of (mt_of 9 (by decide +kernel : goF _ _ 9 [0] [] = some [0, 1]))]
 kernel_rfl
theorem al_cr : doF al1 alCr = (al2, res0) := by
 rw [do_of (l' := al2') (r := res0) zq15, num_of (mt_of 9 (by decide +kernel : goF _ _ 9 [0] [] = some [0, 1, 2]))]
 kernel_rfl
theorem al_ls : (doF al2 alLs).2 = { res0 with f2 := [⟨#[98]⟩] } := by
 rw [do_of (l' := al2) (r := { res0 with f2 := [⟨#[98]⟩] }) zq15]
theorem al_rd : (doF al2 alRd).2 = { res0 with f0 := 25 } := by
 have h : workF al2 alRd = .inr 25 := by kernel_rfl
 unfold doF
 rw [h]
theorem al_find : findF al2 ⟨#[47, 97, 47, 98]⟩ = (2, 0) := by kernel_rfl
theorem rt_al1 : Rt al1 := by
 have h := do_rt (l := al0) rt_root alMk
 rwa [al_mk] at h
theorem rt_al2 : Rt al2 := by
 have h := do_rt (l := al1) rt_al1 alCr
 rwa [al_cr] at h
theorem al_mk' : doF al0 ⟨2, ⟨#[47, 97]⟩, ⟨#[]⟩, 0, 0, []⟩ = (al1, ⟨0, [], [], 0, 0, 0⟩) := al_mk
theorem al_cr' : doF al1 ⟨1, ⟨#[47, 97, 47, 98]⟩, ⟨#[]⟩, 0, 0, []⟩ = (al2, ⟨0, [], [], 0, 0, 0⟩) := al_cr
theorem al_ls' : ∃ l, doF al2 ⟨11, ⟨#[47, 97]⟩, ⟨#[]⟩, 0, 0, []⟩ = (l, ⟨0, [], [⟨#[98]⟩], 0, 0, 0⟩) := ⟨_, Prod.ext rfl al_ls⟩
theorem al_rd' : ∃ l, doF al2 ⟨5, ⟨#[47, 97]⟩, ⟨#[]⟩, 0, 0, []⟩ = (l, ⟨25, [], [], 0, 0, 0⟩) := ⟨_, Prod.ext rfl al_rd⟩
section
attribute [local go_sem] max2_int min2_int max_two min_two max_three min_three max_four min_four
theorem eqA62 (d : Nat) (w : World) (x0 y0 : ByteArray) (x1 y1 : Int) :
  (Op.equalIn (d + 2) 62 (.agg #[.string x0, .int .i64 x1]) (.agg #[.string y0, .int .i64 y1])).run Tryz.prog w = .ok (x0.toList == y0.toList && (x1 == y1)) w := by
 refine eqA_of Tryz.underlying62 zq15 ?_
 refine eqf_cons zq25 (by go_simp; rfl) (by go_simp; rfl) (by go_simp) ?_
 exact eqf_last zq25 (by go_simp; rfl) (by go_simp; rfl) (by go_simp)
end
end Go.Proofs.YtbhjggbijkjmnaaGreatDoor.PZ
end
