import Derived.Test.YtbhjggbijkjmnaaGreatDoorM14
import Derived.Test.YtbhjggbijkjmnaaGreatDoorM15
import Derived.Test.YtbhjggbijkjmnaaGreatDoorM20
import Derived.Test.YtbhjggbijkjmnaaGreatDoorM33
import Derived.Test.YtbhjggbijkjmnaaGreatDoorM13
import Derived.Test.YtbhjggbijkjmnaaGreatDoorM34
import Derived.Test.YtbhjggbijkjmnaaGreatDoorM29
import Derived.Test.YtbhjggbijkjmnaaGreatDoorM02
import Derived.Test.YtbhjggbijkjmnaaGreatDoorM10
set_option linter.unusedVariables false
set_option linter.unusedSimpArgs false
section
namespace Go.Proofs.YtbhjggbijkjmnaaGreatDoor.PZ
open Go.RowKit Go.Proofs.YtbhjggbijkjmnaaGreatDoorW.PrintWords Go.Proofs.YtbhjggbijkjmnaaGreatDoorW.PrintLast Go.Proofs.YtbhjggbijkjmnaaGreatDoorW.PrintMore Go.Proofs.YtbhjggbijkjmnaaGreatDoor.B Go.Proofs.YtbhjggbijkjmnaaGreatDoor.Ord TD
set_option maxRecDepth 100000
section
attribute [local go_sem ↓] Go.wp_at_zero Go.wp_at_succ
theorem caughtf_ok (ps : Array Value) (w : World) (Q : World → Prop)
  (hrun : Calls Tryz.prog 32 ps (Qca w) fun en w' => en = .returned (.tuple #[]) ∧ w'.cell? ⟨w.heap.size, 0, none⟩ = some (.int .i64 0) ∧ w'.frozen? ⟨w.heap.size, 0, none⟩ = false ∧ Q w') :
  Calls Tryz.prog 25 #[.func (.func 32) #[] ps] w fun en w' => en = .returned (.int .i64 0) ∧ ∃ w1, Q w1 ∧ w' = w1.setCell ⟨w.heap.size, 0, none⟩ (.int .i64 0) := by
 have hmf : ∀ (fn : Fn) (first cap : Array Value) (w : World), (Instr.makeFunc fn first cap).run Tryz.prog w = .ok (.func fn first cap) w := fun _ _ _ _ => rfl
 unfold Qca at hrun
 go_enter_defers Tryz.func25, Tryz.ntmps25
 go_wp2_with (go_at_call 32; refine hrun.mono ?_; rintro e w1 ⟨rfl, hc, hz, hq⟩)
 refine leaves_cons (f := 47) (args := #[.pointer (some ⟨w.heap.size, 0, none⟩)]) zq14 (by simp [go_sem]) ?_
 refine (catch_idle ⟨w.heap.size, 0, none⟩ _).mono ?_
 rintro e u' w'' ⟨rfl, rfl, rfl⟩
 have hs : (w1.setCell ⟨w.heap.size, 0, none⟩ (.int .i64 0)).cell? ⟨w.heap.size, 0, none⟩ = some (.int .i64 0) := World.cell?_setCell_same _ _ _ hc
 simp [Leaves, settle, results, Tryz.results25, go_sem]
 rw [hs]
 exact ⟨_, rfl, rfl, w1, hq, rfl⟩
theorem caughtf_bad (ps : Array Value) (n : Int) (w : World) (Q : World → Prop)
  (hrun : Calls Tryz.prog 32 ps (Qca w) fun en w' => en = .panicked (wrong n) ∧ w'.cell? ⟨w.heap.size, 0, none⟩ = some (.int .i64 0) ∧ w'.frozen? ⟨w.heap.size, 0, none⟩ = false ∧ Q w') :
  Calls Tryz.prog 25 #[.func (.func 32) #[] ps] w fun en w' => en = .returned (.int .i64 n) ∧ ∃ w1, Q w1 ∧ w' = w1.setCell ⟨w.heap.size, 0, none⟩ (.int .i64 n) := by
 have hmf : ∀ (fn : Fn) (first cap : Array Value) (w : World), (Instr.makeFunc fn first cap).run Tryz.prog w = .ok (.func fn first cap) w := fun _ _ _ _ => rfl
 unfold Qca at hrun
 go_enter_defers Tryz.func25, Tryz.ntmps25
 go_wp2_with (go_at_call 32; refine hrun.mono ?_; rintro e w1 ⟨rfl, hc, hz, hq⟩)
 refine leaves_cons (f := 47) (args := #[.pointer (some ⟨w.heap.size, 0, none⟩)]) zq14 (by simp [go_sem]) ?_
 refine (catch_wrong ⟨w.heap.size, 0, none⟩ 0 n [] _ hc hz).mono ?_
 rintro e u' w'' ⟨rfl, rfl, rfl⟩
 have hs : (w1.setCell ⟨w.heap.size, 0, none⟩ (.int .i64 n)).cell? ⟨w.heap.size, 0, none⟩ = some (.int .i64 n) := World.cell?_setCell_same _ _ _ hc
 simp [Leaves, settle, results, Tryz.results25, go_sem]
 rw [hs]
 exact ⟨_, rfl, rfl, w1, hq, rfl⟩
structure FindS (b bw bp bk cap : Nat) (A : Option Addr) (rest : List Value) (l : List S52) (p : ByteArray) (W : World) : Prop where
 wk : Wk W b (.slice A l.length cap) rest
 nodes : Kd.C k52 W A l.length l
 pw : W.heap[bw]? = some (.cells #[.pointer (some ⟨b, 0, none⟩)] 55 (0, 0))
 pp : W.heap[bp]? = some (.cells #[.string p] 9 (0, 0))
 pk : W.heap[bk]? = some (.cells #[.int .i64 0] 3 (0, 0))
theorem FindS.below {b bw bp bk cap : Nat} {A : Option Addr} {rest : List Value} {l : List S52} {p : ByteArray} {W W1 : World} (h : FindS b bw bp bk cap A rest l p W) (hb : Below W.heap.size W W1) : FindS b bw bp bk cap A rest l p W1 :=
 ⟨Qaf h.wk hb, Kd.C_below h.nodes hb, Qaf h.pw hb, Qaf h.pp hb, Qaf h.pk hb⟩
theorem findc_walk (b bw bp bk cap : Nat) (A : Option Addr) (rest : List Value) (l : List S52) (p : ByteArray) (W : World) (h : FindS b bw bp bk cap A rest l p W) (ho : Ok l) (hp : p.size < 10000000) :
  Calls Tryz.prog 32 #[.pointer (some ⟨bw, 0, none⟩), .pointer (some ⟨bp, 0, none⟩), .pointer (some ⟨bk, 0, none⟩)] W fun en w' => match Qav l p with
   | .inl k => en = .returned (.tuple #[]) ∧ ∃ w1, Below W.heap.size W w1 ∧ w' = w1.setCell ⟨bk, 0, none⟩ (.int .i64 k)
   | .inr n => en = .panicked (wrong n) ∧ Below W.heap.size W w' := by
 have H := am h
 have HO := am ho
 have hy1 := (Qab h.pw 0).trans (show _ = some (Value.pointer (some ⟨b, 0, none⟩)) from rfl)
 have hy2 := (Qab h.pp 0).trans (show _ = some (Value.string p) from rfl)
 clear h ho
 have hlen : (Qah p).1.length < 1000000000 := by have := Qbi p; omega
 unfold Qav
 by_cases h0 : (Qah p).2 = 0
 ·
  rw [if_pos h0]
  cases hk : wk l (Qah p).1 0 with
  | inl k =>
   dsimp only
   have HK := am hk
   clear hk
   go_enter Tryz.func32, Tryz.ntmps32
   go_wp2
   go_region_with (first
    | (go_at_call 34; (with_reducible refine (Qak p _ hp).mono ?_); rintro e w1 ⟨h1, hb⟩; rw [if_pos h0] at h1; obtain ⟨An, cn, rfl, hcn, hCn⟩ := h1; have HCN := am hCn; have HB := am (Qa (Qad (Below.refl W.heap.size W)) hb); have H1 := am (H.out.below HB.out); have hz1 := (Qab H1.out.pw 0).trans (show _ = some (Value.pointer (some ⟨b, 0, none⟩)) from rfl); clear hCn hb)
    | (go_at_call 33; (with_reducible refine (walk_st b A cap l rest An cn (Qah p).1 k _ H1.out.wk H1.out.nodes HCN.out hcn hlen HO.out HK.out).mono ?_); rintro e w2 ⟨rfl, hb⟩; have HB2 := am (Qa HB.out hb); have H2 := am (H.out.below HB2.out); have hz3 := (Qab H2.out.pk 0).trans (show _ = some (Value.int .i64 0) from rfl); have hzf := Qag H2.out.pk 0; clear hb))
   all_goals go_wp2
   all_goals go_end0
   all_goals exact ⟨rfl, _, HB2.out, rfl⟩
  | inr n =>
   dsimp only
   have HK := am hk
   clear hk
   go_enter Tryz.func32, Tryz.ntmps32
   go_wp2
   have hyk := (Qab H.out.pk 0).trans (show _ = some (Value.int .i64 0) from rfl)
   go_region_with (first
    | (go_at_call 34; (with_reducible refine (Qak p _ hp).mono ?_); rintro e w1 ⟨h1, hb⟩; rw [if_pos h0] at h1; obtain ⟨An, cn, rfl, hcn, hCn⟩ := h1; have HCN := am hCn; have HB := am (Qa (Qad (Below.refl W.heap.size W)) hb); have H1 := am (H.out.below HB.out); have hz1 := (Qab H1.out.pw 0).trans (show _ = some (Value.pointer (some ⟨b, 0, none⟩)) from rfl); have hz3 := (Qab H1.out.pk 0).trans (show _ = some (Value.int .i64 0) from rfl); have hzf := Qag H1.out.pk 0; clear hCn hb)
    | (go_at_call 33; (with_reducible refine Qbn (v := .int .i64 0) ((walk_out b A cap l rest An cn (Qah p).1 n _ H1.out.wk H1.out.nodes HCN.out hcn hlen HO.out HK.out).mono ?_) ?_); (rintro e w2 ⟨rfl, hb⟩; exact ⟨rfl, rfl, Qa HB.out hb⟩); (intro hF0; have hF := am hF0; clear hF0; dsimp only)))
   all_goals exact hF.out.elim
 ·
  rw [if_neg h0]
  dsimp only
  have hyk := (Qab H.out.pk 0).trans (show _ = some (Value.int .i64 0) from rfl)
  have hykf := Qag H.out.pk 0
  go_enter Tryz.func32, Tryz.ntmps32
  go_wp2
  go_region_with (first
   | (go_at_call 34; (with_reducible refine Qbn (v := .slice none 0 0) ((Qak p _ hp).mono ?_) ?_); (rintro e w1 ⟨h1, hb⟩; rw [if_neg h0] at h1; subst h1; exact ⟨rfl, rfl, Qa (Qad (Below.refl W.heap.size W)) hb⟩); (intro hF0; have hF := am hF0; clear hF0; dsimp only))
   | (go_at_call 33; (with_reducible refine Qbn (v := .int .i64 0) hF.out.elim ?_); intro hF1; clear hF1; dsimp only))
  all_goals exact hF.out.elim
theorem new3 (w : World) (a b c : Obj) : (((w.alloc a).alloc b).alloc c).heap[w.heap.size]? = some a ∧ (((w.alloc a).alloc b).alloc c).heap[w.heap.size + 1]? = some b ∧ (((w.alloc a).alloc b).alloc c).heap[w.heap.size + 1 + 1]? = some c := by
 have h1 := Qal w a
 have h2 := Qal (w.alloc a) b
 have h3 := Qal ((w.alloc a).alloc b) c
 rw [World.size_alloc] at h2 h3
 rw [World.size_alloc] at h3
 exact ⟨Qaj (Qaj h1 _) _, Qaj h2 _, h3⟩
def find0 (w1 : World) (A : Option Addr) (n c : Nat) : World := ((w1.alloc (.cells #[.slice A n c, .int .i64 0, .string ⟨#[]⟩, .string ⟨#[]⟩, .int .i64 0, .int .i64 0, .slice none 0 0, .int .i64 0, .slice none 0 0, .slice none 0 0, .int .i64 0, .int .i64 0, .int .i64 0] 57)).alloc (.cells #[.pointer (some ⟨w1.heap.size, 0, none⟩)] 55)).alloc (.cells #[.int .i64 0] 3)
theorem Qdn (w1 : World) (A : Option Addr) (n c : Nat) : (find0 w1 A n c).heap.size = w1.heap.size + 1 + 1 + 1 := by simp [find0]
theorem find0_s (w1 : World) (A : Option Addr) (c bp : Nat) (l : List S52) (p : ByteArray) (hC : Kd.C k52 w1 A l.length l) (hpp : w1.heap[bp]? = some (.cells #[.string p] 9 (0, 0))) :
  FindS w1.heap.size (w1.heap.size + 1) bp (w1.heap.size + 1 + 1) c A [.int .i64 0, .string ⟨#[]⟩, .string ⟨#[]⟩, .int .i64 0, .int .i64 0, .slice none 0 0, .int .i64 0, .slice none 0 0, .slice none 0 0, .int .i64 0, .int .i64 0, .int .i64 0] l p (Qca (find0 w1 A l.length c)) ∧
   (Qca (find0 w1 A l.length c)).heap[w1.heap.size + 1 + 1 + 1]? = some (.cells #[.int .i64 0] 34 (0, 0)) ∧ Below w1.heap.size w1 (Qca (find0 w1 A l.length c)) := by
 obtain ⟨h1, h2, h3⟩ := new3 w1 (.cells #[.slice A l.length c, .int .i64 0, .string ⟨#[]⟩, .string ⟨#[]⟩, .int .i64 0, .int .i64 0, .slice none 0 0, .int .i64 0, .slice none 0 0, .slice none 0 0, .int .i64 0, .int .i64 0, .int .i64 0] 57) (.cells #[.pointer (some ⟨w1.heap.size, 0, none⟩)] 55) (.cells #[.int .i64 0] 3)
 have hb : Below w1.heap.size w1 (Qca (find0 w1 A l.length c)) := Qaa (Qaa (Qaa (Qaa (Below.refl _ _) _) _) _) _
 have he := Qal (find0 w1 A l.length c) (.cells #[.int .i64 0] 34)
 rw [Qdn] at he
 exact ⟨⟨Qaj h1 _, Kd.C_below hC hb, Qaj h2 _, Qaf hpp hb, Qaj h3 _⟩, he, hb⟩
def FindQ (w1 : World) (k : Nat) (w' : World) : Prop := ∃ w2, Below w1.heap.size w1 w2 ∧ w2.heap[w1.heap.size + 1 + 1]? = some (.cells #[.int .i64 0] 3 (0, 0)) ∧ w' = w2.setCell ⟨w1.heap.size + 1 + 1, 0, none⟩ (.int .i64 k)
theorem find_run_ok (w1 : World) (A : Option Addr) (c bp k : Nat) (l : List S52) (p : ByteArray) (hC : Kd.C k52 w1 A l.length l) (hpp : w1.heap[bp]? = some (.cells #[.string p] 9 (0, 0))) (ho : Ok l) (hp : p.size < 10000000) (hpf : Qav l p = .inl k) :
  Calls Tryz.prog 32 #[.pointer (some ⟨w1.heap.size + 1, 0, none⟩), .pointer (some ⟨bp, 0, none⟩), .pointer (some ⟨w1.heap.size + 1 + 1, 0, none⟩)] (Qca (find0 w1 A l.length c)) fun en w' => en = .returned (.tuple #[]) ∧ w'.cell? ⟨(find0 w1 A l.length c).heap.size, 0, none⟩ = some (.int .i64 0) ∧ w'.frozen? ⟨(find0 w1 A l.length c).heap.size, 0, none⟩ = false ∧ FindQ w1 k w' := by
 obtain ⟨hs, he, hb⟩ := find0_s w1 A c bp l p hC hpp
 refine (findc_walk _ _ _ _ _ _ _ l p _ hs ho hp).mono fun en w' h => ?_
 rw [hpf] at h
 obtain ⟨h1, w2, h2, rfl⟩ := h
 rw [Qdn]
 have h3 := Qam (p := ⟨w1.heap.size + 1 + 1, 0, none⟩) (Qaf he h2) (show w1.heap.size + 1 + 1 + 1 ≠ w1.heap.size + 1 + 1 by omega) (.int .i64 k)
 exact ⟨h1, Qab h3 0, Qag h3 0, w2, Qa hb h2, Qaf hs.pk h2, rfl⟩
theorem find_run_bad (w1 : World) (A : Option Addr) (c bp : Nat) (n : Int) (l : List S52) (p : ByteArray) (hC : Kd.C k52 w1 A l.length l) (hpp : w1.heap[bp]? = some (.cells #[.string p] 9 (0, 0))) (ho : Ok l) (hp : p.size < 10000000) (hpf : Qav l p = .inr n) :
  Calls Tryz.prog 32 #[.pointer (some ⟨w1.heap.size + 1, 0, none⟩), .pointer (some ⟨bp, 0, none⟩), .pointer (some ⟨w1.heap.size + 1 + 1, 0, none⟩)] (Qca (find0 w1 A l.length c)) fun en w' => en = .panicked (wrong n) ∧ w'.cell? ⟨(find0 w1 A l.length c).heap.size, 0, none⟩ = some (.int .i64 0) ∧ w'.frozen? ⟨(find0 w1 A l.length c).heap.size, 0, none⟩ = false ∧ (Below w1.heap.size w1 w' ∧ w'.heap[w1.heap.size + 1 + 1]? = some (.cells #[.int .i64 0] 3 (0, 0))) := by
 obtain ⟨hs, he, hb⟩ := find0_s w1 A c bp l p hC hpp
 refine (findc_walk _ _ _ _ _ _ _ l p _ hs ho hp).mono fun en w' h => ?_
 rw [hpf] at h
 obtain ⟨h1, h2⟩ := h
 rw [Qdn]
 have h3 := Qaf he h2
 exact ⟨h1, Qab h3 0, Qag h3 0, Qa hb h2, Qaf hs.pk h2⟩
def findG (l : List S52) (p : ByteArray) : Int × Int := if Qbd l = true then findF l p else (0, 15)
set_option maxHeartbeats 4000000 in
theorem find_bad (A : Option Addr) (c : Nat) (l : List S52) (p : ByteArray) (w : World) (hr : Kd.C k52 w A l.length l) (hc : l.length ≤ c) (hn : l.length < 1000000000000) (hm : ∀ k, (nd l k).f3.length < 1000000000000) (hb : Qbd l = false) :
  Calls Tryz.prog 17 #[.agg #[.slice A l.length c], .string p] w fun e w' => e = .returned (.tuple #[.int .i64 0, .int .i64 15]) ∧ Below w.heap.size w w' := by
 have HC := am hr
 have HM := am hm
 clear hr hm
 go_enter Tryz.func17, Tryz.ntmps17
 go_wp2_with (go_at_call 19; (with_reducible refine (Qd A c l _ hc (Kd.C_below HC.out zq8) hn HM.out).mono ?_); rintro e w1 ⟨rfl, hb1⟩; rw [hb]; have HBW := am (Qa (Qaa (Qaa (Below.refl w.heap.size w) _) _) hb1); clear hb1)
 go_ret2
 exact ⟨rfl, HBW.out⟩
set_option maxHeartbeats 4000000 in
theorem find_ok (A : Option Addr) (c : Nat) (l : List S52) (p : ByteArray) (w : World) (hr : Kd.C k52 w A l.length l) (hc : l.length ≤ c) (ht : Rt l) (hp : p.size < 10000000) :
  Calls Tryz.prog 17 #[.agg #[.slice A l.length c], .string p] w fun e w' => e = .returned (.tuple #[.int .i64 (findF l p).1, .int .i64 (findF l p).2]) ∧ Below w.heap.size w w' := by
 have HC := am hr
 have HT := am ht
 have hb := (Qci l).2 ht
 have hl56 : l.length ≤ 56 := ht.pr.le
 have HM : Aside0 (∀ k, (nd l k).f3.length < 1000000000000) := ⟨fun k => by have := ht.pr.ents k; omega⟩
 clear hr ht
 have HPP : Aside0 (((w.alloc (.cells #[.slice A l.length c] 26)).alloc (.cells #[.string p] 9)).heap[w.heap.size + 1]? = some (.cells #[.string p] 9 (0, 0))) := ⟨Qgh w _ _⟩
 unfold findF
 cases hpf : Qav l p with
 | inl k =>
  dsimp only
  have HPF := am hpf
  clear hpf
  go_enter Tryz.func17, Tryz.ntmps17
  go_wp2_with (first
   | (go_at_call 19; (with_reducible refine (Qd A c l _ hc (Kd.C_below HC.out zq8) zq3 HM.out).mono ?_); rintro e w1 ⟨rfl, hb1⟩; rw [hb]; have HBW := am (Qa (Qaa (Qaa (Below.refl w.heap.size w) _) _) hb1); have HP1 := am (Qaf HPP.out hb1); obtain ⟨hbc, hbf⟩ := bcell hb1; have hsz := hb1.size; (try simp at hsz); clear hb1)
   | (go_at_call 25; (with_reducible refine (caughtf_ok _ _ (FindQ w1 k) ?hrun).mono ?_); (case hrun => exact find_run_ok w1 A c _ k l p (Kd.C_below HC.out HBW.out) HP1.out HT.out.ok hp HPF.out); rintro e w5 ⟨rfl, w4, ⟨w2, hb2, hk2, h4⟩, h5⟩; subst h4; have HB2 := am hb2; have hk3 := (Qab (Qap hk2 0 (.int .i64 k) rfl) 0).trans (show _ = some (Value.int .i64 k) from rfl); have hk5 : w5.cell? ⟨w1.heap.size + 1 + 1, 0, none⟩ = some (.int .i64 k) := (h5 ▸ (cell_far (p := ⟨(find0 w1 A l.length c).heap.size, 0, none⟩) (a := ⟨w1.heap.size + 1 + 1, 0, none⟩) (by show w1.heap.size + 1 + 1 ≠ (find0 w1 A l.length c).heap.size; rw [Qdn]; omega) _).trans hk3); have HB5 := am (show Below w.heap.size w w5 from h5 ▸ ((Qa HBW.out hb2).setCell (p := ⟨w1.heap.size + 1 + 1, 0, none⟩) (by show w.heap.size ≤ w1.heap.size + 1 + 1; omega) _).setCell (p := ⟨(find0 w1 A l.length c).heap.size, 0, none⟩) (by show w.heap.size ≤ (find0 w1 A l.length c).heap.size; rw [Qdn]; omega) _); clear hb2 hk2 h5 hk3))
  go_ret2
  exact ⟨rfl, HB5.out⟩
 | inr n =>
  dsimp only
  have HPF := am hpf
  clear hpf
  go_enter Tryz.func17, Tryz.ntmps17
  go_wp2_with (first
   | (go_at_call 19; (with_reducible refine (Qd A c l _ hc (Kd.C_below HC.out zq8) zq3 HM.out).mono ?_); rintro e w1 ⟨rfl, hb1⟩; rw [hb]; have HBW := am (Qa (Qaa (Qaa (Below.refl w.heap.size w) _) _) hb1); have HP1 := am (Qaf HPP.out hb1); obtain ⟨hbc, hbf⟩ := bcell hb1; have hsz := hb1.size; (try simp at hsz); clear hb1)
   | (go_at_call 25; (with_reducible refine (caughtf_bad _ n _ (fun w' => Below w1.heap.size w1 w' ∧ w'.heap[w1.heap.size + 1 + 1]? = some (.cells #[.int .i64 0] 3 (0, 0))) ?hrun2).mono ?_); (case hrun2 => exact find_run_bad w1 A c _ n l p (Kd.C_below HC.out HBW.out) HP1.out HT.out.ok hp HPF.out); rintro e w5 ⟨rfl, w4, ⟨hb2, hk2⟩, h5⟩; have hk3 := (Qab hk2 0).trans (show _ = some (Value.int .i64 0) from rfl); have hk5 : w5.cell? ⟨w1.heap.size + 1 + 1, 0, none⟩ = some (.int .i64 0) := (h5 ▸ (cell_far (p := ⟨(find0 w1 A l.length c).heap.size, 0, none⟩) (a := ⟨w1.heap.size + 1 + 1, 0, none⟩) (by show w1.heap.size + 1 + 1 ≠ (find0 w1 A l.length c).heap.size; rw [Qdn]; omega) _).trans hk3); have HB5 := am (show Below w.heap.size w w5 from h5 ▸ (Qa HBW.out hb2).setCell (p := ⟨(find0 w1 A l.length c).heap.size, 0, none⟩) (by show w.heap.size ≤ (find0 w1 A l.length c).heap.size; rw [Qdn]; omega) _); clear hb2 hk2 h5 hk3))
  go_ret2
  exact ⟨rfl, HB5.out⟩
end
structure HoldR (g : Nat) (r : S37) (A1 : Option Addr) (c1 : Nat) (A2 : Option Addr) (c2 : Nat) (w : World) : Prop where
 blk : w.heap[g]? = some (.cells #[.int .i64 r.f0, .slice A1 r.f1.length c1, .slice A2 r.f2.length c2, .int .i64 r.f3, .int .i64 r.f4, .int .i64 r.f5] 37 (0, 0))
 cap1 : r.f1.length ≤ c1
 rows1 : Kd.C (Kd.int .u8) w A1 r.f1.length r.f1
 cap2 : r.f2.length ≤ c2
 rows2 : Kd.C Kd.string w A2 r.f2.length r.f2
section
variable {g : Nat} {r : S37} {A1 : Option Addr} {c1 : Nat} {A2 : Option Addr} {c2 : Nat} {w W : World}
theorem HoldR.below (h : HoldR g r A1 c1 A2 c2 w) (hb : Below w.heap.size w W) : HoldR g r A1 c1 A2 c2 W := ⟨Qaf h.blk hb, h.cap1, Kd.C_below h.rows1 hb, h.cap2, Kd.C_below h.rows2 hb⟩
theorem HoldR.cells (h : HoldR g r A1 c1 A2 c2 w) : w.cell? ⟨g, 0, none⟩ = some (.int .i64 r.f0) ∧ w.cell? ⟨g, 1, none⟩ = some (.slice A1 r.f1.length c1) ∧ w.cell? ⟨g, 2, none⟩ = some (.slice A2 r.f2.length c2) ∧ w.cell? ⟨g, 3, none⟩ = some (.int .i64 r.f3) ∧ w.cell? ⟨g, 4, none⟩ = some (.int .i64 r.f4) ∧ w.cell? ⟨g, 5, none⟩ = some (.int .i64 r.f5) ∧ g < w.heap.size :=
 ⟨(Qab h.blk 0).trans rfl, (Qab h.blk 1).trans rfl, (Qab h.blk 2).trans rfl, (Qab h.blk 3).trans rfl, (Qab h.blk 4).trans rfl, (Qab h.blk 5).trans rfl, Qai h.blk⟩
end
theorem Hold.cells {g : Nat} {l : List S52} {A : Option Addr} {c : Nat} {w : World} (h : Hold g l A c w) : w.cell? ⟨g, 0, none⟩ = some (.slice A l.length c) ∧ g < w.heap.size := ⟨h.cell, Qai h.blk⟩
structure Hand (l : List S52) (r : S37) (A1 : Option Addr) (c1 : Nat) (A2 : Option Addr) (c2 : Nat) (A3 : Option Addr) (c3 : Nat) (w : World) : Prop where
 cap : l.length ≤ c1
 rows : Kd.C k52 w A1 l.length l
 cap1 : r.f1.length ≤ c2
 rows1 : Kd.C (Kd.int .u8) w A2 r.f1.length r.f1
 cap2 : r.f2.length ≤ c3
 rows2 : Kd.C Kd.string w A3 r.f2.length r.f2
def treeO (A : Option Addr) (n c : Nat) : Obj := .cells #[.slice A n c] 26
def resO (r : S37) (A1 : Option Addr) (c1 : Nat) (A2 : Option Addr) (c2 : Nat) : Obj := .cells #[.int .i64 r.f0, .slice A1 r.f1.length c1, .slice A2 r.f2.length c2, .int .i64 r.f3, .int .i64 r.f4, .int .i64 r.f5] 37
section
variable {l : List S52} {r : S37} {A1 : Option Addr} {c1 : Nat} {A2 : Option Addr} {c2 : Nat} {A3 : Option Addr} {c3 : Nat} {w W W2 : World}
theorem Hand.laid (h : Hand l r A1 c1 A2 c2 A3 c3 w) (hb : Below ((w.alloc (treeO A1 l.length c1)).alloc (resO r A2 c2 A3 c3)).heap.size ((w.alloc (treeO A1 l.length c1)).alloc (resO r A2 c2 A3 c3)) W) : Hold w.heap.size l A1 c1 W ∧ HoldR (w.heap.size + 1) r A2 c2 A3 c3 W :=
 have hw : Below w.heap.size w W := Qa (Qaa (Qaa (Below.refl _ _) _) _) hb
 ⟨⟨Qaf (Qaj (Qal w _) _) hb, h.cap, Kd.C_below h.rows hw⟩, ⟨Qaf (Qfh w _ _) hb, h.cap1, Kd.C_below h.rows1 hw, h.cap2, Kd.C_below h.rows2 hw⟩⟩
theorem Hand.laidR (h : Hand l r A1 c1 A2 c2 A3 c3 w) (hb : Below (w.alloc (resO r A2 c2 A3 c3)).heap.size (w.alloc (resO r A2 c2 A3 c3)) W) : HoldR w.heap.size r A2 c2 A3 c3 W :=
 have hw : Below w.heap.size w W := Qa (Qaa (Below.refl _ _) _) hb
 ⟨Qaf (Qal w _) hb, h.cap1, Kd.C_below h.rows1 hw, h.cap2, Kd.C_below h.rows2 hw⟩
end
def DoneQ (w : World) (r : List S52 × S37) (e : Ending) (w' : World) : Prop :=
 ∃ A1 c1 A2 c2 A3 c3, e = .returned (.tuple #[.agg #[.slice A1 r.1.length c1], .agg #[.int .i64 r.2.f0, .slice A2 r.2.f1.length c2, .slice A3 r.2.f2.length c3, .int .i64 r.2.f3, .int .i64 r.2.f4, .int .i64 r.2.f5]]) ∧ Hand r.1 r.2 A1 c1 A2 c2 A3 c3 w' ∧ Below w.heap.size w w'
theorem do_call (A : Option Addr) (ln c : Nat) (l : List S52) (hln : ln = l.length) (f0 : Int) (p q : ByteArray) (a n : Int) (Ad : Option Addr) (dn cd : Nat) (d : List Int) (hdn : dn = d.length) (w : World) (hr : Kd.C k52 w A l.length l) (hc : l.length ≤ c) (hrd : Kd.C (Kd.int .u8) w Ad d.length d) (hcd : d.length ≤ cd) (ht : Rt l) (hp : p.size ≤ 10000) (hq : q.size ≤ 10000) :
  Calls Tryz.prog 11 #[.agg #[.slice A ln c], .agg #[.int .i64 f0, .string p, .string q, .int .i64 a, .int .i64 n, .slice Ad dn cd]] w fun e w' => DoneQ w (doF l ⟨f0, p, q, a, n, d⟩) e w' := by
 subst hln
 subst hdn
 refine (do_ok A c l ⟨f0, p, q, a, n, d⟩ Ad cd w hr hc hrd hcd ht (by show p.size < 10000000; omega) (by show q.size < 10000000; omega)).mono ?_
 rintro e w' ⟨A1, c1, A2, c2, A3, c3, h, h1, h2, h3, h4, h5, h6, h7⟩
 exact ⟨A1, c1, A2, c2, A3, c3, h, ⟨h1, h2, h3, h4, h5, h6⟩, h7⟩
theorem do_call0 (A : Option Addr) (ln c : Nat) (l : List S52) (hln : ln = l.length) (f0 : Int) (p q : ByteArray) (a n : Int) (w : World) (hr : Kd.C k52 w A l.length l) (hc : l.length ≤ c) (ht : Rt l) (hp : p.size ≤ 10000) (hq : q.size ≤ 10000) :
  Calls Tryz.prog 11 #[.agg #[.slice A ln c], .agg #[.int .i64 f0, .string p, .string q, .int .i64 a, .int .i64 n, .slice none 0 0]] w fun e w' => DoneQ w (doF l ⟨f0, p, q, a, n, []⟩) e w' :=
 do_call A ln c l hln f0 p q a n none 0 0 [] rfl w hr hc (Kd.C_nil _ _) (Nat.le_refl _) ht hp hq
section
attribute [local go_sem ↓] Go.wp_at_zero Go.wp_at_succ
theorem rfind_ok (A : Option Addr) (c : Nat) (l : List S52) (p : ByteArray) (w : World) (hC : Kd.C k52 w A l.length l) (hc : l.length ≤ c) (hn : l.length < 1000000000000) (hm : ∀ k, (nd l k).f3.length < 1000000000) (hp : p.size < 1000000) :
  Calls Tryz.prog 18 #[.agg #[.slice A l.length c], .string p] w fun e w' => e = .returned (.tuple #[.int .i64 (findG l p).1, .int .i64 (findG l p).2]) ∧ Below w.heap.size w w' := by
 have HC := am hC
 have HM := am hm
 have HB0 := am (Qaa (Below.refl w.heap.size w) (.cells #[.slice A l.length c] 26))
 have HX0 := am (Qal w (.cells #[.slice A l.length c] 26))
 clear hC hm
 unfold findG
 cases hr : Qbd l with
 | false =>
  have HR := am hr
  clear hr
  go_enter Tryz.func18, Tryz.ntmps18
  go_wp2_with (go_at_call 20; (with_reducible refine (rright A c l _ (Kd.C_below HC.out HB0.out) hc hn (fun k => by have := HM.out k; omega)).mono ?_); rintro e w1 ⟨rfl, hb⟩; rw [HR.out]; have HB1 := am (Qa HB0.out hb); clear hb)
  go_ret2
  exact ⟨rfl, HB1.out⟩
 | true =>
  have HR := am hr
  have HT := am ((Qci l).1 hr)
  have HE := am (show pairR (Qav l p) = findF l p by unfold pairR findF; cases Qav l p <;> rfl)
  clear hr
  go_enter Tryz.func18, Tryz.ntmps18
  go_wp2_with (first
   | (go_at_call 20; (with_reducible refine (rright A c l _ (Kd.C_below HC.out HB0.out) hc hn (fun k => by have := HM.out k; omega)).mono ?_); rintro e w1 ⟨rfl, hb⟩; rw [HR.out]; have HB1 := am (Qa HB0.out hb); have htc := (Qab (Qaf HX0.out hb) 0).trans (show _ = some (Value.slice A l.length c) from rfl); have htl := Qai (Qaf HX0.out hb); clear hb)
   | (go_at_call 35; (with_reducible refine (Qdd A c l p _ (Kd.C_below HC.out HB1.out) hc HT.out.pr.wf HM.out hp).mono ?_); rintro e w2 ⟨rfl, hb⟩; rw [HE.out]; have HB2 := am (Qa HB1.out hb); clear hb))
  go_ret2
  exact ⟨rfl, HB2.out⟩
theorem rdo_bad (A : Option Addr) (c : Nat) (l : List S52) (o : S31) (Ad : Option Addr) (cd : Nat) (w : World) (hC : Kd.C k52 w A l.length l) (hc : l.length ≤ c) (hn : l.length < 1000000000000) (hm : ∀ k, (nd l k).f3.length < 1000000000) (hb : Qbd l = false) :
  Calls Tryz.prog 12 #[.agg #[.slice A l.length c], .agg #[.int .i64 o.f0, .string o.f1, .string o.f2, .int .i64 o.f3, .int .i64 o.f4, .slice Ad o.f5.length cd]] w fun e w' => RQ w ([], { res0 with f0 := 15 }) e w' := by
 have HC := am hC
 have HM := am hm
 have HR := am hb
 have HF0 := am (Qco w (.slice A l.length c) (.int .i64 o.f0) (.string o.f1) (.string o.f2) (.int .i64 o.f3) (.int .i64 o.f4) (.slice Ad o.f5.length cd))
 clear hC hm hb
 go_enter Tryz.func12, Tryz.ntmps12
 go_wp2_with (first
  | (go_at_call 20; (with_reducible refine (rright A c l _ (Kd.C_below HC.out HF0.out.bel) hc hn (fun k => by have := HM.out k; omega)).mono ?_); rintro e w1 ⟨rfl, hb⟩; rw [HR.out]; have HF1 := am (HF0.out.below hb); obtain ⟨⟨t0, t1, t2, t3, t4⟩, -, ⟨r0, r1, r2, r3, r4, r5, r6⟩, f1, f2⟩ := HF1.out.all; clear hb)
  | (go_at_call 28; (with_reducible refine (Qcp 15 _).mono ?_); rintro en w2 ⟨rfl, hb⟩; clear t0 t1 t2 t3 t4 r0 r1 r2 r3 r4 r5 r6 f1 f2; have HF2 := am (HF1.out.below hb); obtain ⟨⟨t0, t1, t2, t3, t4⟩, -, ⟨r0, r1, r2, r3, r4, r5, r6⟩, f1, f2⟩ := HF2.out.all; clear hb))
 refine Qbe (fn := Tryz.f12) (w := w) (W := w2) (l := []) (r := { res0 with f0 := 15 }) (A1 := none) (A2 := none) (A3 := none) (c1 := 0) (c2 := 0) (c3 := 0) zq25 HF2.out _ ?h4 ?h5 (Nat.zero_le _) (Kd.C_nil _ _) (Nat.zero_le _) (Kd.C_nil _ _) (Nat.zero_le _) (Kd.C_nil _ _)
 case h4 => rfl
 case h5 => rfl
theorem ref_pr {l X : List S52} {r : S37} {o : S31} (h : Rt l) (hR : Qbh l (workF l o) = (X, r)) : Pr X ∧ doF l o = (num X, r) := by
 unfold doF
 cases hw : workF l o with
 | inl s =>
  rw [hw] at hR
  obtain ⟨l', r'⟩ := s
  obtain ⟨h1, h2⟩ := Prod.mk.inj (show (l', r') = (X, r) from hR)
  subst h1 h2
  exact ⟨work_pr h hw, rfl⟩
 | inr e =>
  rw [hw] at hR
  obtain ⟨h1, h2⟩ := Prod.mk.inj (show (l, ({ res0 with f0 := e } : S37)) = (X, r) from hR)
  subst h1 h2
  exact ⟨h.pr, by rw [h.num]⟩
set_option maxHeartbeats 2000000 in
theorem rdo_ok (A : Option Addr) (c : Nat) (l : List S52) (o : S31) (Ad : Option Addr) (cd : Nat) (w : World) (hC : Kd.C k52 w A l.length l) (hc : l.length ≤ c) (hrt : Rt l) (hp : o.f1.size < 1000000) (hq : o.f2.size < 1000000) (hdC : Kd.C (Kd.int .u8) w Ad o.f5.length o.f5) (hcd : o.f5.length ≤ cd) :
  Calls Tryz.prog 12 #[.agg #[.slice A l.length c], .agg #[.int .i64 o.f0, .string o.f1, .string o.f2, .int .i64 o.f3, .int .i64 o.f4, .slice Ad o.f5.length cd]] w fun e w' => RQ w (doF l o) e w' := by
 have HC := am hC
 have HT := am hrt
 have HD := am hdC
 have HM := am (show ∀ k, (nd l k).f3.length < 1000000000000 from fun k => by have := hrt.pr.ents k; omega)
 have HR := am ((Qci l).2 hrt)
 have hl56 : l.length ≤ 56 := hrt.pr.le
 obtain ⟨⟨X, r⟩, hX⟩ : ∃ R, Qbh l (workF l o) = R := ⟨_, rfl⟩
 obtain ⟨hpr, hdo⟩ := ref_pr hrt hX
 rw [hdo]
 have HX := am hX
 have HP := am hpr
 have HF0 := am (Qco w (.slice A l.length c) (.int .i64 o.f0) (.string o.f1) (.string o.f2) (.int .i64 o.f3) (.int .i64 o.f4) (.slice Ad o.f5.length cd))
 clear hC hrt hdC hX hpr hdo
 go_enter Tryz.func12, Tryz.ntmps12
 go_upto_region 4 with (first
  | (go_at_call 20; (with_reducible refine (rright A c l _ (Kd.C_below HC.out HF0.out.bel) hc zq3 HM.out).mono ?_); rintro e w1 ⟨rfl, hb⟩; rw [HR.out]; have HF1 := am (HF0.out.below hb); obtain ⟨⟨t0, t1, t2, t3, t4⟩, ⟨p0, p1, p2, p3, p4, p5⟩, -, -, -⟩ := HF1.out.all; clear hb)
  | (go_at_call 29; (with_reducible refine (rdo A c l o.f0 o.f1 o.f2 o.f3 o.f4 Ad cd o.f5 _ (Kd.C_below HC.out HF1.out.bel) hc HT.out hp hq (Kd.C_below HD.out HF1.out.bel) hcd X r HX.out).mono ?_); rintro e w2 ⟨A1, c1, A2, c2, A3, c3, rfl, h1, h2, h3, h4, h5, h6, hb⟩; have HF2 := am (HF1.out.below hb); have HQ := am (And.intro h2 (And.intro h4 h6)); have HL := am (And.intro h1 (And.intro h3 h5)); clear t0 t1 t2 t3 t4 p0 p1 p2 p3 p4 p5 h1 h2 h3 h4 h5 h6 hb))
 have HBT := am (Qaj (Qal w2 (.cells #[.slice A1 X.length c1] 26)) (.cells #[.int .i64 r.f0, .slice A2 r.f1.length c2, .slice A3 r.f2.length c3, .int .i64 r.f3, .int .i64 r.f4, .int .i64 r.f5] 37))
 have HBR := am (Qfh w2 (.cells #[.slice A1 X.length c1] 26) (.cells #[.int .i64 r.f0, .slice A2 r.f1.length c2, .slice A3 r.f2.length c3, .int .i64 r.f3, .int .i64 r.f4, .int .i64 r.f5] 37))
 have hb3 : Below w2.heap.size w2 ((w2.alloc (.cells #[.slice A1 X.length c1] 26)).alloc (.cells #[.int .i64 r.f0, .slice A2 r.f1.length c2, .slice A3 r.f2.length c3, .int .i64 r.f3, .int .i64 r.f4, .int .i64 r.f5] 37)) := Qaa (Qaa (Below.refl _ _) _) _
 have HB3 := am hb3
 have HF3 := am (HF2.out.below hb3)
 clear hb3 HF1 HF0
 generalize (w2.alloc (.cells #[.slice A1 X.length c1] 26)).alloc (.cells #[.int .i64 r.f0, .slice A2 r.f1.length c2, .slice A3 r.f2.length c3, .int .i64 r.f3, .int .i64 r.f4, .int .i64 r.f5] 37) = w3 at *
 have hx0 := (Qab HBT.out 0).trans (show _ = some (Value.slice A1 X.length c1) from rfl)
 have hxl := Qai HBT.out
 have y0 := (Qab HBR.out 0).trans (show _ = some (Value.int .i64 r.f0) from rfl); have y1 := (Qab HBR.out 1).trans (show _ = some (Value.slice A2 r.f1.length c2) from rfl); have y2 := (Qab HBR.out 2).trans (show _ = some (Value.slice A3 r.f2.length c3) from rfl); have y3 := (Qab HBR.out 3).trans (show _ = some (Value.int .i64 r.f3) from rfl); have y4 := (Qab HBR.out 4).trans (show _ = some (Value.int .i64 r.f4) from rfl); have y5 := (Qab HBR.out 5).trans (show _ = some (Value.int .i64 r.f5) from rfl)
 have hyl := Qai HBR.out
 have hlt2 := HF2.out.lt.2.2.2
 have hne1 : w.heap.size + 1 + 1 ≠ w2.heap.size + 1 := by omega
 have hne2 : w2.heap.size + 1 ≠ w.heap.size + 1 + 1 := by omega
 have hne3 : ¬ w2.heap.size = w.heap.size + 1 := by omega
 have hne4 : ¬ w.heap.size + 1 = w2.heap.size := by omega
 obtain ⟨⟨t0, t1, t2, t3, t4⟩, -, ⟨r0, r1, r2, r3, r4, r5, r6⟩, f1, f2⟩ := HF3.out.all
 go_region_with (go_at_call 30; (with_reducible refine (rnumber A1 c1 X _ (Kd.C_below HQ.out.1 (Qa HB3.out zq5)) HL.out.1 HP.out.wf (by have := HP.out.le; omega) HP.out.ents (fun k => by have := HP.out.size k; omega)).mono ?_); rintro e w4 ⟨v, rfl, hs, hb⟩; obtain ⟨A5, c5, hv, hc5, hC5⟩ := Kd.S_reads hs; subst hv; have HC5 := am hC5; have HL5 := am hc5; have HB4 := am (Qa HB3.out (Qa zq5 hb)); have HF4 := am (HF2.out.below HB4.out); have HBR4 := am (Qaf HBR.out (Qa zq5 hb)); clear hs hc5 hC5 hb hx0 hxl y0 y1 y2 y3 y4 y5 hyl t0 t1 t2 t3 t4 r0 r1 r2 r3 r4 r5 r6 f1 f2; have y0 := (Qab HBR4.out 0).trans (show _ = some (Value.int .i64 r.f0) from rfl); have y1 := (Qab HBR4.out 1).trans (show _ = some (Value.slice A2 r.f1.length c2) from rfl); have y2 := (Qab HBR4.out 2).trans (show _ = some (Value.slice A3 r.f2.length c3) from rfl); have y3 := (Qab HBR4.out 3).trans (show _ = some (Value.int .i64 r.f3) from rfl); have y4 := (Qab HBR4.out 4).trans (show _ = some (Value.int .i64 r.f4) from rfl); have y5 := (Qab HBR4.out 5).trans (show _ = some (Value.int .i64 r.f5) from rfl); have hyl := Qai HBR4.out; obtain ⟨⟨t0, t1, t2, t3, t4⟩, -, ⟨r0, r1, r2, r3, r4, r5, r6⟩, f1, f2⟩ := HF4.out.all)
 all_goals
  go_wp2
  generalize num X = Y at *
  refine Qbe (fn := Tryz.f12) (w := w) (W := w4) (l := Y) (r := r) (A1 := A5) (A2 := A2) (A3 := A3) (c1 := c5) (c2 := c2) (c3 := c3) zq25 HF4.out _ ?h4 ?h5 HL5.out HC5.out HL.out.2.1 (Kd.C_below HQ.out.2.1 HB4.out) HL.out.2.2 (Kd.C_below HQ.out.2.2 HB4.out)
  case h4 => rfl
  case h5 => rfl
end
section
attribute [local go_sem] max2_int min2_int max_two min_two max_three min_three max_four min_four
def moraineref00_CopyOp.f (a0_0 : Int) (a0_1 : ByteArray) (a0_2 : ByteArray) (a0_3 : Int) (a0_4 : Int) (l0_5 : List Int) : Option (Int × ByteArray × ByteArray × Int × Int × List Int) := (moraineref00_CopyBytes.f l0_5).bind fun t302 => (some (a0_0, a0_1, a0_2, a0_3, a0_4, t302))
set_option maxHeartbeats 8000000 in
set_option maxRecDepth 100000 in
theorem moraineref00_CopyOp.calls (a0_0 : Int) (a0_1 : ByteArray) (a0_2 : ByteArray) (a0_3 : Int) (a0_4 : Int) (A0_5 : Option Addr) (c0_5 : Nat) (l0_5 : List Int) (r1 : Int) (r2 : ByteArray) (r3 : ByteArray) (r4 : Int) (r5 : Int) (r6 : List Int) (w : World) (hr0_5 : Kd.C (Kd.int .u8) w A0_5 l0_5.length l0_5) (hc0_5 : l0_5.length ≤ c0_5) (h : moraineref00_CopyOp.f a0_0 a0_1 a0_2 a0_3 a0_4 l0_5 = some (r1, r2, r3, r4, r5, r6)) :
  Calls Tryz.prog 9 #[.agg #[.int .i64 a0_0, .string a0_1, .string a0_2, .int .i64 a0_3, .int .i64 a0_4, .slice A0_5 l0_5.length c0_5]] w fun e w' => ∃ v5_ : Value, e = .returned (.agg #[.int .i64 r1, .string r2, .string r3, .int .i64 r4, .int .i64 r5, v5_]) ∧ Kd.R (Kd.int .u8) 5 w' w.heap.size (fun _ => True) v5_ r6 ∧ Below w.heap.size w w' := by
 have hu31 := Tryz.underlying31
 have HR0_5 := am hr0_5
 have HC0_5 := am hc0_5
 clear hr0_5 hc0_5
 have HB := am (Below.refl w.heap.size w)
 have H : ((moraineref00_CopyBytes.f l0_5).bind fun t302 => (some (a0_0, a0_1, a0_2, a0_3, a0_4, t302))) = some (r1, r2, r3, r4, r5, r6) := h
 clear h
 replace H := Option.bind_eq_some_iff.mp H
 obtain ⟨t302, A20, H⟩ := H
 replace H : (some (a0_0, a0_1, a0_2, a0_3, a0_4, t302)) = some (r1, r2, r3, r4, r5, r6) := H
 have A2 := am A20
 clear A20
 simp only [Option.some.injEq, Prod.mk.injEq] at H
 obtain ⟨rfl, rfl, rfl, rfl, rfl, rfl⟩ := H
 go_enter Tryz.func9, Tryz.ntmps9
 go_wp2_with (first | ((with_reducible refine Qbx (N := 1) rfl ?_); refine box_event ?hg (N := 1) ?hd (cs := #[.int .i64 a0_0, .string a0_1, .string a0_2, .int .i64 a0_3, .int .i64 a0_4, .slice A0_5 l0_5.length c0_5]) (t := 31) ?hr ?_; (case hd => rfl); (case hg => rfl); (case hr => first | (go_simp; done) | (go_simp; rfl)); intro gb300 hg w3 hbox hb; have n0_ := am (Qa zq2 hb); have n1_ := am (hbox); have n2_ := am ((by rw [hg]; exact (Qao zq2) : w.heap.size ≤ gb300)); have n3_ := am ((by rw [hg]; exact (Qao zq2) : w.heap.size ≤ gb300)); clear HB; have HB := n0_; have BK300 := n1_; have GW300 := n2_; have GE300 := n3_; clear n0_ n1_ n2_ n3_; clear hb hbox hg) | ((with_reducible refine Qbx (N := 2) rfl ?_); refine box_event ?hg (N := 2) ?hd (cs := #[.int .i64 0, .string (⟨#[]⟩ : ByteArray), .string (⟨#[]⟩ : ByteArray), .int .i64 0, .int .i64 0, .slice none 0 0]) (t := 31) ?hr ?_; (case hd => rfl); (case hg => rfl); (case hr => first | (go_simp; done) | (go_simp; rfl)); intro gb301 hg w4 hbox hb; have n0_ := am (Qaf (g := gb300) (o := .cells #[.int .i64 a0_0, .string a0_1, .string a0_2, .int .i64 a0_3, .int .i64 a0_4, .slice A0_5 l0_5.length c0_5] 31 (0, 0)) (by (with_reducible repeat (first | refine Qbk ?_ _ | refine Qat ?_ | refine Qaj ?_ _)); exact BK300.out) hb); have n1_ := am (Qa (by repeat (first | (with_reducible first | exact HB.out | apply Qaa | apply Qac | apply Qad | refine Qcd ?_ GE300.out) | exact HB.out)) hb); have n2_ := am (hbox); have n3_ := am ((by rw [hg]; exact (Qao (by repeat (first | (with_reducible first | exact HB.out | apply Qaa | apply Qac | apply Qad | refine Qcd ?_ GE300.out) | exact HB.out))) : w.heap.size ≤ gb301)); have n4_ := am ((by rw [hg]; exact (Qao (by repeat (first | (with_reducible first | exact HB.out | apply Qaa | apply Qac | apply Qad | refine Qcd ?_ GE300.out) | exact HB.out))) : w.heap.size ≤ gb301)); have n5_ := am ((by rw [hg]; exact Nat.ne_of_lt (Qai (g := gb300) (o := .cells #[.int .i64 a0_0, .string a0_1, .string a0_2, .int .i64 a0_3, .int .i64 a0_4, .slice A0_5 l0_5.length c0_5] 31 (0, 0)) (by (with_reducible repeat (first | refine Qbk ?_ _ | refine Qat ?_ | refine Qaj ?_ _)); exact BK300.out)) : gb300 ≠ gb301)); have n6_ := am ((by rw [hg]; exact Nat.ne_of_gt (Qai (g := gb300) (o := .cells #[.int .i64 a0_0, .string a0_1, .string a0_2, .int .i64 a0_3, .int .i64 a0_4, .slice A0_5 l0_5.length c0_5] 31 (0, 0)) (by (with_reducible repeat (first | refine Qbk ?_ _ | refine Qat ?_ | refine Qaj ?_ _)); exact BK300.out)) : gb301 ≠ gb300)); clear BK300; clear HB; have BK300 := n0_; have HB := n1_; have BK301 := n2_; have GW301 := n3_; have GE301 := n4_; have NB300_301 := n5_; have NB301_300 := n6_; clear n0_ n1_ n2_ n3_ n4_ n5_ n6_; clear hb hbox hg; have hnb5 := NB300_301.out; have hnc5 := NB301_300.out; have hcz6_0 : w4.cell? ⟨gb300, 0, none⟩ = some (.int .i64 a0_0) := (Qab BK300.out 0).trans rfl; have hcz6_1 : w4.cell? ⟨gb300, 1, none⟩ = some (.string a0_1) := (Qab BK300.out 1).trans rfl; have hcz6_2 : w4.cell? ⟨gb300, 2, none⟩ = some (.string a0_2) := (Qab BK300.out 2).trans rfl; have hcz6_3 : w4.cell? ⟨gb300, 3, none⟩ = some (.int .i64 a0_3) := (Qab BK300.out 3).trans rfl; have hcz6_4 : w4.cell? ⟨gb300, 4, none⟩ = some (.int .i64 a0_4) := (Qab BK300.out 4).trans rfl; have hcz6_5 : w4.cell? ⟨gb300, 5, none⟩ = some (.slice A0_5 l0_5.length c0_5) := (Qab BK300.out 5).trans rfl; have hfz6_0 := Qag BK300.out 0; have hfz6_1 := Qag BK300.out 1; have hfz6_2 := Qag BK300.out 2; have hfz6_3 := Qag BK300.out 3; have hfz6_4 := Qag BK300.out 4; have hfz6_5 := Qag BK300.out 5) | ((with_reducible refine Qar (f := 22) rfl ?_); refine Qbw (some 5) rfl rfl Tryz.func22 zq15 rfl #[.slice A0_5 l0_5.length c0_5] rfl zq6 ?_; (with_reducible refine (moraineref00_CopyBytes.calls _ _ l0_5 t302 _ ?side1 ?side2 A2.out).mono ?_); (case side1 => repeat (first | exact (Kd.C_below HR0_5.out HB.out) | (with_reducible refine Kd.C_alloc ?_ _) | (with_reducible refine Kd.C_drewN ?_ _) | (with_reducible refine Kd.C_drew ?_))); (case side2 => exact HC0_5.out); rintro e w7 ⟨v303, rfl, ho0, hb⟩; refine ⟨_, rfl, ?_⟩; have n0_ := am (Kd.R_lower ho0 (Qao (by repeat (first | (with_reducible first | exact HB.out | apply Qaa | apply Qac | apply Qad | refine Qcd ?_ GE300.out | refine Qcd ?_ GE301.out) | exact HB.out)))); have n1_ := am (Qaf (g := gb300) (o := .cells #[.int .i64 a0_0, .string a0_1, .string a0_2, .int .i64 a0_3, .int .i64 a0_4, .slice A0_5 l0_5.length c0_5] 31 (0, 0)) (by (with_reducible repeat (first | refine Qbk ?_ _ | refine Qat ?_ | refine Qaj ?_ _)); exact BK300.out) hb); have n2_ := am (Qaf (g := gb301) (o := .cells #[.int .i64 0, .string (⟨#[]⟩ : ByteArray), .string (⟨#[]⟩ : ByteArray), .int .i64 0, .int .i64 0, .slice none 0 0] 31 (0, 0)) (by (with_reducible repeat (first | refine Qbk ?_ _ | refine Qat ?_ | refine Qaj ?_ _)); exact BK301.out) hb); have n3_ := am (Qa (by repeat (first | (with_reducible first | exact HB.out | apply Qaa | apply Qac | apply Qad | refine Qcd ?_ GE300.out | refine Qcd ?_ GE301.out) | exact HB.out)) hb); clear BK300; clear BK301; clear HB; have HO304 := n0_; have BK300 := n1_; have BK301 := n2_; have HB := n3_; clear n0_ n1_ n2_ n3_; (try clear hb); (try clear hb2); (try clear hk); (try clear hi); (try clear ho0); obtain ⟨Ao8, co8, eo8⟩ := Kd.R_slice HO304.out; subst eo8; have hcz9_0 : w7.cell? ⟨gb300, 0, none⟩ = some (.int .i64 a0_0) := (Qab BK300.out 0).trans rfl; have hcz9_1 : w7.cell? ⟨gb300, 1, none⟩ = some (.string a0_1) := (Qab BK300.out 1).trans rfl; have hcz9_2 : w7.cell? ⟨gb300, 2, none⟩ = some (.string a0_2) := (Qab BK300.out 2).trans rfl; have hcz9_3 : w7.cell? ⟨gb300, 3, none⟩ = some (.int .i64 a0_3) := (Qab BK300.out 3).trans rfl; have hcz9_4 : w7.cell? ⟨gb300, 4, none⟩ = some (.int .i64 a0_4) := (Qab BK300.out 4).trans rfl; have hcz9_5 : w7.cell? ⟨gb300, 5, none⟩ = some (.slice A0_5 l0_5.length c0_5) := (Qab BK300.out 5).trans rfl; have hfz9_0 := Qag BK300.out 0; have hfz9_1 := Qag BK300.out 1; have hfz9_2 := Qag BK300.out 2; have hfz9_3 := Qag BK300.out 3; have hfz9_4 := Qag BK300.out 4; have hfz9_5 := Qag BK300.out 5; have hcz10_0 : w7.cell? ⟨gb301, 0, none⟩ = some (.int .i64 0) := (Qab BK301.out 0).trans rfl; have hcz10_1 : w7.cell? ⟨gb301, 1, none⟩ = some (.string (⟨#[]⟩ : ByteArray)) := (Qab BK301.out 1).trans rfl; have hcz10_2 : w7.cell? ⟨gb301, 2, none⟩ = some (.string (⟨#[]⟩ : ByteArray)) := (Qab BK301.out 2).trans rfl; have hcz10_3 : w7.cell? ⟨gb301, 3, none⟩ = some (.int .i64 0) := (Qab BK301.out 3).trans rfl; have hcz10_4 : w7.cell? ⟨gb301, 4, none⟩ = some (.int .i64 0) := (Qab BK301.out 4).trans rfl; have hcz10_5 : w7.cell? ⟨gb301, 5, none⟩ = some (.slice none 0 0) := (Qab BK301.out 5).trans rfl; have hfz10_0 := Qag BK301.out 0; have hfz10_1 := Qag BK301.out 1; have hfz10_2 := Qag BK301.out 2; have hfz10_3 := Qag BK301.out 3; have hfz10_4 := Qag BK301.out 4; have hfz10_5 := Qag BK301.out 5))
 refine bodyPost_ret (results_cell_row rfl _ _ gb301 31 #[.int .i64 a0_0, .string a0_1, .string a0_2, .int .i64 a0_3, .int .i64 a0_4, .slice Ao8 t302.length co8] (0, 0) _ rfl (by (with_reducible repeat (first | refine Qbk ?_ _ | refine Qat ?_ | refine Qaj ?_ _)); refine Qap (cs := #[.int .i64 a0_0, .string a0_1, .string a0_2, .int .i64 a0_3, .int .i64 a0_4, .slice none 0 0]) ?_ 5 _ rfl; (with_reducible repeat (first | refine Qbk ?_ _ | refine Qat ?_ | refine Qaj ?_ _)); refine Qap (cs := #[.int .i64 a0_0, .string a0_1, .string a0_2, .int .i64 a0_3, .int .i64 0, .slice none 0 0]) ?_ 4 _ rfl; (with_reducible repeat (first | refine Qbk ?_ _ | refine Qat ?_ | refine Qaj ?_ _)); refine Qap (cs := #[.int .i64 a0_0, .string a0_1, .string a0_2, .int .i64 0, .int .i64 0, .slice none 0 0]) ?_ 3 _ rfl; (with_reducible repeat (first | refine Qbk ?_ _ | refine Qat ?_ | refine Qaj ?_ _)); refine Qap (cs := #[.int .i64 a0_0, .string a0_1, .string (⟨#[]⟩ : ByteArray), .int .i64 0, .int .i64 0, .slice none 0 0]) ?_ 2 _ rfl; (with_reducible repeat (first | refine Qbk ?_ _ | refine Qat ?_ | refine Qaj ?_ _)); refine Qap (cs := #[.int .i64 a0_0, .string (⟨#[]⟩ : ByteArray), .string (⟨#[]⟩ : ByteArray), .int .i64 0, .int .i64 0, .slice none 0 0]) ?_ 1 _ rfl; (with_reducible repeat (first | refine Qbk ?_ _ | refine Qat ?_ | refine Qaj ?_ _)); refine Qap (cs := #[.int .i64 0, .string (⟨#[]⟩ : ByteArray), .string (⟨#[]⟩ : ByteArray), .int .i64 0, .int .i64 0, .slice none 0 0]) ?_ 0 _ rfl; (with_reducible repeat (first | refine Qbk ?_ _ | refine Qat ?_ | refine Qaj ?_ _)); refine Qam ?_ NB301_300.out _; (with_reducible repeat (first | refine Qbk ?_ _ | refine Qat ?_ | refine Qaj ?_ _)); exact BK301.out) Tryz.underlying31 rfl zq15) rfl ?_
 exact ⟨_, by first | rfl | (simp [errW_none, errW_some] <;> rfl) | (simp [*, errW_none, errW_some] <;> rfl), by (with_reducible repeat (first | apply Kd.R_alloc | apply Kd.R_drewN | apply Kd.R_drew)); exact Kd.R_mono (Kd.R_far (p := ⟨gb301, 5, none⟩) (Kd.R_far (p := ⟨gb301, 4, none⟩) (Kd.R_far (p := ⟨gb301, 3, none⟩) (Kd.R_far (p := ⟨gb301, 2, none⟩) (Kd.R_far (p := ⟨gb301, 1, none⟩) (Kd.R_far (p := ⟨gb301, 0, none⟩) (Kd.R_far (p := ⟨gb300, 5, none⟩) (Kd.R_types (Kd.R_types HO304.out BK300.out zq9) BK301.out zq9) (fun _ hk => hk.1.2) (.slice Ao8 t302.length co8)) (fun _ hk => hk.2) (.int .i64 a0_0)) (fun _ hk => hk.2) (.string a0_1)) (fun _ hk => hk.2) (.string a0_2)) (fun _ hk => hk.2) (.int .i64 a0_3)) (fun _ hk => hk.2) (.int .i64 a0_4)) (fun _ hk => hk.2) (.slice Ao8 t302.length co8)) (fun _ hk => trivial), by repeat (first | (with_reducible first | exact HB.out | apply Qaa | apply Qac | apply Qad | refine Qcd ?_ GE300.out | refine Qcd ?_ GE301.out) | exact HB.out)⟩
-- NOT PRINTED: function 3 (morainelaw12_TreeSteps)
-- NOT PRINTED: function 4 (morainelaw12_TreeRaw)
end
theorem one_node (w : World) (x y : Int) : Kd.C k52 (w.alloc (.cells #[.int .i64 x, .int .i64 y, .slice none 0 0, .slice none 0 0] 52)) (some ⟨w.heap.size, 0, none⟩) 1 [⟨x, y, [], []⟩] :=
 ⟨rfl, by decide, fun _ => ⟨_, rfl, fun j p hj => by
  cases j with
  | zero =>
   obtain rfl := Option.some.inj hj
   refine ⟨[.int .i64 x, .int .i64 y, .slice none 0 0, .slice none 0 0], rfl, k52_mk _ ⟨x, y, [], []⟩ (Nat.zero_le _) (Kd.C_nil _ _) (Nat.zero_le _) (Kd.C_nil _ _), fun i u hu => ?_⟩
   have h := Qab (Qal w (.cells #[.int .i64 x, .int .i64 y, .slice none 0 0, .slice none 0 0] 52)) i
   rw [show (0 * k52.sz + i) = i from by rw [Nat.zero_mul, Nat.zero_add], Qbl, h]
   match i, hu with
   | 0, hu => exact hu
   | 1, hu => exact hu
   | 2, hu => exact hu
   | 3, hu => exact hu
  | succ j => cases hj⟩⟩
theorem rnew (w : World) : Calls Tryz.prog 7 #[] w fun e w' => ∃ A, e = .returned (.agg #[.slice A 1 1]) ∧ Kd.C k52 w' A 1 ([⟨2, 2, [], []⟩] : List S52) ∧ Below w.heap.size w w' := by
 go_enter Tryz.func7, Tryz.ntmps7
 go_wp2
 have h1 := Qaj (Qal w (.cells #[.slice (some ⟨w.heap.size + 1, 0, none⟩) 1 1] 26)) (.cells #[.int .i64 2, .int .i64 2, .slice none 0 0, .slice none 0 0] 52)
 have h2 := one_node (w.alloc (.cells #[.slice (some ⟨w.heap.size + 1, 0, none⟩) 1 1] 26)) 2 2
 rw [World.size_alloc] at h2
 exact bodyPost_ret (results_cell_row rfl _ _ w.heap.size 26 #[.slice (some ⟨w.heap.size + 1, 0, none⟩) 1 1] (0, 0) _ rfl h1 Tryz.underlying26 rfl zq15) rfl ⟨_, rfl, h2, Qaa (Qaa (Below.refl _ _) _) _⟩
theorem copyop (o : S31) (A : Option Addr) (c : Nat) (w : World) (hC : Kd.C (Kd.int .u8) w A o.f5.length o.f5) (hc : o.f5.length ≤ c) (hl : o.f5.length < 100000000000) :
  Calls Tryz.prog 9 #[.agg #[.int .i64 o.f0, .string o.f1, .string o.f2, .int .i64 o.f3, .int .i64 o.f4, .slice A o.f5.length c]] w fun e w' => ∃ A6 c6, e = .returned (.agg #[.int .i64 o.f0, .string o.f1, .string o.f2, .int .i64 o.f3, .int .i64 o.f4, .slice A6 o.f5.length c6]) ∧ o.f5.length ≤ c6 ∧ Kd.C (Kd.int .u8) w' A6 o.f5.length o.f5 ∧ Below w.heap.size w w' := by
 refine (moraineref00_CopyOp.calls o.f0 o.f1 o.f2 o.f3 o.f4 A c o.f5 o.f0 o.f1 o.f2 o.f3 o.f4 o.f5 w hC hc (by unfold moraineref00_CopyOp.f; rw [rcopy_b _ hl]; rfl)).mono ?_
 rintro e w' ⟨v, rfl, hr, hb⟩
 obtain ⟨A6, c6, hv, h1, h2⟩ := Kd.R_reads hr
 subst hv
 exact ⟨A6, c6, rfl, h1, h2, hb⟩
end Go.Proofs.YtbhjggbijkjmnaaGreatDoor.PZ
end
