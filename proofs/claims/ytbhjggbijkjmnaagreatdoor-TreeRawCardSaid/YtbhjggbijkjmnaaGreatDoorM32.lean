import Derived.Test.YtbhjggbijkjmnaaGreatDoorM30
import Derived.Test.YtbhjggbijkjmnaaGreatDoorM31
import Derived.Deep.RegionHeld3
import Derived.Deep.RegionHeld2
import Derived.Deep.Cut
import Derived.Deep.QuietTactic
import Derived.BigQuiet
import Derived.Test.YtbhjggbijkjmnaaGreatDoorM29
import Derived.Test.YtbhjggbijkjmnaaGreatDoorM25
import Derived.Test.YtbhjggbijkjmnaaGreatDoorM23
set_option linter.unusedVariables false
set_option linter.unusedSimpArgs false
section
namespace Go.Proofs.YtbhjggbijkjmnaaGreatDoor.PZ
open Go.RowKit Go.Proofs.YtbhjggbijkjmnaaGreatDoorW.PrintWords Go.Proofs.YtbhjggbijkjmnaaGreatDoorW.PrintLast Go.Proofs.YtbhjggbijkjmnaaGreatDoorW.PrintMore Go.Proofs.YtbhjggbijkjmnaaGreatDoor.B Go.Proofs.YtbhjggbijkjmnaaGreatDoor.Ord TD
set_option maxRecDepth 100000
section
attribute [local go_sem ↓] Go.wp_at_zero Go.wp_at_succ
set_option maxHeartbeats 40000000 in
theorem rename_core (B b : Nat) (l : List S52) (x : Value) (p q : ByteArray) (rs : List Value) (w : World) (hst : St B b l (x :: .string p :: .string q :: rs) w) (ho : Ok l) (hp : p.size < 10000000) (hq : q.size < 10000000) (X : List S52 ⊕ Int) (h0 : (Qah p).2 = 0) (hzq : (Qah q).2 = 0) (hr : p ≠ rootP) (hrq : q ≠ rootP) (k : Nat) (hk : wk l (Qah p).1 0 = .inl k) (hC : ¬ ((nd l k).f0 = 2 ∧ q ≠ p ∧ Qbt q p = true)) (hX : (match spotF l p with | .inr n => .inr n | .inl a => match spotF l q with | .inr n => .inr n | .inl c => moveF l k a c) = X) :
  Calls Tryz.prog 52 #[.pointer (some ⟨b, 0, none⟩)] w fun en w' => OpPost B b (x :: .string p :: .string q :: rs) w X en w' := by
 cases hsa : spotF l p with
 | inr n => exact rename_a B b l x p q rs w hst ho hp hq X h0 hzq hr hrq k hk hC n hsa hX
 | inl a =>
  cases hsb : spotF l q with
  | inr n => exact rename_b B b l x p q rs w hst ho hp hq X h0 hzq hr hrq k hk hC a hsa n hsb hX
  | inl c => exact rename_c B b l x p q rs w hst ho hp hq X h0 hzq hr hrq k hk hC a c hsa hsb hX
set_option maxHeartbeats 4000000 in
theorem rename_walk (B b : Nat) (l : List S52) (x : Value) (p q : ByteArray) (rs : List Value) (w : World) (hst : St B b l (x :: .string p :: .string q :: rs) w) (ho : Ok l) (hp : p.size < 10000000) (hq : q.size < 10000000) :
  Calls Tryz.prog 52 #[.pointer (some ⟨b, 0, none⟩)] w fun en w' => (match Qbz l p q with | .inl l' => en = .returned (.tuple #[]) ∧ St B b l' (x :: .string p :: .string q :: rs) w' | .inr n => en = .panicked (wrong n)) ∧ BW B w w' := by
 have hbl : b < w.heap.size := by obtain ⟨_, v, h, _⟩ := hst; exact Qai h
 have hBb : B ≤ b := hst.1
 have hBw : B ≤ w.heap.size := by omega
 have hk2 : w.cell? ⟨b, 2, none⟩ = some (.string p) := by obtain ⟨_, v, h, _⟩ := hst; exact (Qab h 2).trans rfl
 have hk3 : w.cell? ⟨b, 3, none⟩ = some (.string q) := by obtain ⟨_, v, h, _⟩ := hst; exact (Qab h 3).trans rfl
 have HST := am hst
 have HO := am ho
 have HB := am (Below.refl w.heap.size w)
 clear hst ho
 unfold Qbz
 by_cases h0 : (Qah p).2 = 0
 ·
  rw [if_neg (fun h => h h0)]
  by_cases hzq : (Qah q).2 = 0
  ·
   rw [if_neg (fun h => h hzq)]
   by_cases hr : p = rootP
   ·
    rw [if_pos (.inl hr)]
    have hpr : (p.toList == [47]) = true := by rw [hr]; exact root_eq
    clear hr
    go_enter Tryz.func52, Tryz.ntmps52
    go_wp2_with (first
     | (go_at_call 34; (with_reducible refine (Qak p _ hp).mono ?_); rintro e w1 ⟨h1, hb⟩; rw [if_pos h0] at h1; obtain ⟨An, cn, rfl, hcn, hCn⟩ := h1; have HCN := am hCn; clear hCn; have n0_ := am (Qa zq0 hb); clear HB hb; have HB := n0_; clear n0_; have hk2_ := (HB.out.cell (p := ⟨b, 2, none⟩) hbl).trans hk2; have hk3_ := (HB.out.cell (p := ⟨b, 3, none⟩) hbl).trans hk3)
     | (go_at_call 34; (with_reducible refine (Qak q _ hq).mono ?_); rintro e w1q ⟨h1, hb⟩; rw [if_pos hzq] at h1; obtain ⟨Anq, cnq, rfl, hcnq, hCn⟩ := h1; have HCNq := am hCn; clear hCn; have HCN2 := am (Kd.C_below HCN.out hb); have n0_ := am (Qa zq0 hb); clear HB hb; have HB := n0_; clear n0_; have hk2_ := (HB.out.cell (p := ⟨b, 2, none⟩) hbl).trans hk2; have hk3_ := (HB.out.cell (p := ⟨b, 3, none⟩) hbl).trans hk3)
     | (go_at_call 64; (with_reducible refine (Qaw 29 _).mono ?_); rintro e w9 ⟨rfl, h9⟩; subst w9; exact ⟨rfl, rfl, BW.mono zq0 hBw⟩))
   ·
    have hpr : (p.toList == [47]) = false := beq_eq_false_iff_ne.2 fun h => hr (Qax (h.trans (beq_iff_eq.1 root_eq).symm))
    by_cases hrq : q = rootP
    ·
     rw [if_pos (.inr hrq)]
     have hqr : (q.toList == [47]) = true := by rw [hrq]; exact root_eq
     clear hrq
     go_enter Tryz.func52, Tryz.ntmps52
     go_wp2_with (first
      | (go_at_call 34; (with_reducible refine (Qak p _ hp).mono ?_); rintro e w1 ⟨h1, hb⟩; rw [if_pos h0] at h1; obtain ⟨An, cn, rfl, hcn, hCn⟩ := h1; have HCN := am hCn; clear hCn; have n0_ := am (Qa zq0 hb); clear HB hb; have HB := n0_; clear n0_; have hk2_ := (HB.out.cell (p := ⟨b, 2, none⟩) hbl).trans hk2; have hk3_ := (HB.out.cell (p := ⟨b, 3, none⟩) hbl).trans hk3)
      | (go_at_call 34; (with_reducible refine (Qak q _ hq).mono ?_); rintro e w1q ⟨h1, hb⟩; rw [if_pos hzq] at h1; obtain ⟨Anq, cnq, rfl, hcnq, hCn⟩ := h1; have HCNq := am hCn; clear hCn; have HCN2 := am (Kd.C_below HCN.out hb); have n0_ := am (Qa zq0 hb); clear HB hb; have HB := n0_; clear n0_; have hk2_ := (HB.out.cell (p := ⟨b, 2, none⟩) hbl).trans hk2; have hk3_ := (HB.out.cell (p := ⟨b, 3, none⟩) hbl).trans hk3)
      | (go_at_call 64; (with_reducible refine (Qaw 29 _).mono ?_); rintro e w9 ⟨rfl, h9⟩; subst w9; exact ⟨rfl, rfl, BW.mono zq0 hBw⟩))
    ·
     rw [if_neg (fun h => h.elim hr hrq)]
     have hqr : (q.toList == [47]) = false := beq_eq_false_iff_ne.2 fun h => hrq (Qax (h.trans (beq_iff_eq.1 root_eq).symm))
     cases hk : wk l (Qah p).1 0 with
     | inr n =>
      dsimp only
      have HK := am hk
      clear hk
      go_enter Tryz.func52, Tryz.ntmps52
      go_wp2_with (first
       | (go_at_call 34; (with_reducible refine (Qak p _ hp).mono ?_); rintro e w1 ⟨h1, hb⟩; rw [if_pos h0] at h1; obtain ⟨An, cn, rfl, hcn, hCn⟩ := h1; have HCN := am hCn; clear hCn; have n0_ := am (Qa zq0 hb); clear HB hb; have HB := n0_; clear n0_; have hk2_ := (HB.out.cell (p := ⟨b, 2, none⟩) hbl).trans hk2; have hk3_ := (HB.out.cell (p := ⟨b, 3, none⟩) hbl).trans hk3)
       | (go_at_call 34; (with_reducible refine (Qak q _ hq).mono ?_); rintro e w1q ⟨h1, hb⟩; rw [if_pos hzq] at h1; obtain ⟨Anq, cnq, rfl, hcnq, hCn⟩ := h1; have HCNq := am hCn; clear hCn; have HCN2 := am (Kd.C_below HCN.out hb); have n0_ := am (Qa zq0 hb); clear HB hb; have HB := n0_; clear n0_; have hk2_ := (HB.out.cell (p := ⟨b, 2, none⟩) hbl).trans hk2; have hk3_ := (HB.out.cell (p := ⟨b, 3, none⟩) hbl).trans hk3)
       | (go_at_call 64; (with_reducible refine (Qau _ _).mono ?_); rintro e w9 ⟨rfl, h9⟩; subst w9)
       | (go_at_call 33; (with_reducible refine (Qaq B b l _ An cn p _ (St.below HST.out zq0) HO.out HCN2.out hcn).mono ?_); rintro e w2 ⟨h1, hb⟩; rw [HK.out] at h1; subst h1; have n0_ := am (Qa zq0 hb); clear HB hb; have HB := n0_; clear n0_; have hk2_ := (HB.out.cell (p := ⟨b, 2, none⟩) hbl).trans hk2; exact ⟨rfl, rfl, BW.mono zq0 hBw⟩))
     | inl k =>
      dsimp only
      by_cases hC : (nd l k).f0 = 2 ∧ q ≠ p ∧ Qbt q p = true
      ·
       rw [if_pos hC]
       obtain ⟨hd, hqp, hwi⟩ := hC
       have hd := beq_iff_eq.2 hd
       have hqpb : (q.toList == p.toList) = false := beq_eq_false_iff_ne.2 fun h => hqp (Qax h)
       clear hqp
       have hkl : k < l.length := wk_lt HO.out.wf HO.out.wf.pos hk
       have HK := am hk
       clear hk
       go_enter Tryz.func52, Tryz.ntmps52
       go_wp2_with (first
        | (go_at_call 34; (with_reducible refine (Qak p _ hp).mono ?_); rintro e w1 ⟨h1, hb⟩; rw [if_pos h0] at h1; obtain ⟨An, cn, rfl, hcn, hCn⟩ := h1; have HCN := am hCn; clear hCn; have n0_ := am (Qa zq0 hb); clear HB hb; have HB := n0_; clear n0_; have hk2_ := (HB.out.cell (p := ⟨b, 2, none⟩) hbl).trans hk2; have hk3_ := (HB.out.cell (p := ⟨b, 3, none⟩) hbl).trans hk3)
        | (go_at_call 34; (with_reducible refine (Qak q _ hq).mono ?_); rintro e w1q ⟨h1, hb⟩; rw [if_pos hzq] at h1; obtain ⟨Anq, cnq, rfl, hcnq, hCn⟩ := h1; have HCNq := am hCn; clear hCn; have HCN2 := am (Kd.C_below HCN.out hb); have n0_ := am (Qa zq0 hb); clear HB hb; have HB := n0_; clear n0_; have hk2_ := (HB.out.cell (p := ⟨b, 2, none⟩) hbl).trans hk2; have hk3_ := (HB.out.cell (p := ⟨b, 3, none⟩) hbl).trans hk3)
        | (go_at_call 64; (with_reducible refine (Qau _ _).mono ?_); rintro e w9 ⟨rfl, h9⟩; subst w9)
        | (go_at_call 33; (with_reducible refine (Qaq B b l _ An cn p _ (St.below HST.out zq0) HO.out HCN2.out hcn).mono ?_); rintro e w2 ⟨h1, hb⟩; rw [HK.out] at h1; subst h1; have n0_ := am (Qa zq0 hb); clear HB hb; have HB := n0_; clear n0_; have hk2_ := (HB.out.cell (p := ⟨b, 2, none⟩) hbl).trans hk2; have hk3_ := (HB.out.cell (p := ⟨b, 3, none⟩) hbl).trans hk3))
       go_region_held2 (fun w' => w'.cell? ⟨b, 2, none⟩ = some (.string p) ∧ w'.cell? ⟨b, 3, none⟩ = some (.string q)) (first | exact hF.out.elim | go_keep) (first | (go_at_call 65; (with_reducible refine (Qan B b l _ k _ hkl (St.below HST.out zq0) hd).mono ?_); rintro e w9 ⟨rfl, h9⟩; subst w9) | (go_at_call 78; (with_reducible refine (Qfj q p _ hq hp hwi).mono ?_); rintro e w7 ⟨rfl, hb⟩; have n0_ := am (Qa zq0 hb); clear HB hb; have HB := n0_; clear n0_; have hk2_ := (HB.out.cell (p := ⟨b, 2, none⟩) hbl).trans hk2; have hk3_ := (HB.out.cell (p := ⟨b, 3, none⟩) hbl).trans hk3) | (go_at_call 64; (with_reducible refine Qbn (v := .tuple #[]) ((Qaw 29 _).mono ?hm) ?hd); (case hm => rintro e w9 ⟨rfl, h9⟩; subst w9; exact ⟨rfl, rfl, BW.mono zq0 hBw⟩); intro hF0; have hF := am hF0; clear hF0; dsimp only))
       all_goals exact hF.out.elim
      ·
       rw [if_neg hC]
       exact rename_core B b l x p q rs w HST.out HO.out hp hq _ h0 hzq hr hrq k hk hC rfl
  ·
   rw [if_pos hzq]
   dsimp only
   go_enter Tryz.func52, Tryz.ntmps52
   go_wp2_with (first
    | (go_at_call 34; (with_reducible refine (Qak p _ hp).mono ?_); rintro e w1 ⟨h1, hb⟩; rw [if_pos h0] at h1; obtain ⟨An, cn, rfl, hcn, hCn⟩ := h1; have HCN := am hCn; clear hCn; have n0_ := am (Qa zq0 hb); clear HB hb; have HB := n0_; clear n0_; have hk2_ := (HB.out.cell (p := ⟨b, 2, none⟩) hbl).trans hk2; have hk3_ := (HB.out.cell (p := ⟨b, 3, none⟩) hbl).trans hk3)
    | (go_at_call 34; (with_reducible refine (Qak q _ hq).mono ?_); rintro e w1q ⟨h1, hb⟩; rw [if_neg hzq] at h1; subst h1; have n0_ := am (Qa zq0 hb); clear HB hb; have HB := n0_; clear n0_; have hk2_ := (HB.out.cell (p := ⟨b, 2, none⟩) hbl).trans hk2; exact ⟨rfl, rfl, BW.mono zq0 hBw⟩))
 ·
  rw [if_pos h0]
  dsimp only
  go_enter Tryz.func52, Tryz.ntmps52
  go_wp2_with (first
   | (go_at_call 34; (with_reducible refine (Qak p _ hp).mono ?_); rintro e w1 ⟨h1, hb⟩; rw [if_neg h0] at h1; subst h1; have n0_ := am (Qa zq0 hb); clear HB hb; have HB := n0_; clear n0_; have hk2_ := (HB.out.cell (p := ⟨b, 2, none⟩) hbl).trans hk2; exact ⟨rfl, rfl, BW.mono zq0 hBw⟩))
def opV (o : S31) (Ad : Option Addr) (cd : Nat) (rest : List Value) : List Value := .int .i64 o.f0 :: .string o.f1 :: .string o.f2 :: .int .i64 o.f3 :: .int .i64 o.f4 :: .slice Ad o.f5.length cd :: rest
def zeroR : List Value := [.int .i64 0, .slice none 0 0, .slice none 0 0, .int .i64 0, .int .i64 0, .int .i64 0]
def Qck (B b : Nat) (o : S31) (Ad : Option Addr) (cd : Nat) (w : World) (X : (List S52 × S37) ⊕ Int) (en : Ending) (w' : World) : Prop :=
 (match X with
  | .inl (l', r) => en = .returned (.tuple #[]) ∧ r.f0 = 0 ∧ ∃ vd vn, St B b l' (opV o Ad cd [.int .i64 0, vd, vn, .int .i64 r.f3, .int .i64 r.f4, .int .i64 r.f5]) w' ∧ Kd.R (Kd.int .u8) 5 w' B (fun k => k ≠ b) vd r.f1 ∧ Kd.R Kd.string 9 w' B (fun k => k ≠ b) vn r.f2
  | .inr e => en = .panicked (wrong e)) ∧ BW B w w'
theorem Qbc {B b : Nat} {o : S31} {Ad : Option Addr} {cd : Nat} {w : World} {m : Int} {w' : World} (hb : BW B w w') : Qck B b o Ad cd w (.inr m) (.panicked (wrong m)) w' := ⟨rfl, hb⟩
theorem Qbj {B b : Nat} {o : S31} {Ad : Option Addr} {cd : Nat} {w : World} {l' : List S52} {r : S37} {w' : World} {vd vn : Value} (h0 : r.f0 = 0) (hs : St B b l' (opV o Ad cd [.int .i64 0, vd, vn, .int .i64 r.f3, .int .i64 r.f4, .int .i64 r.f5]) w') (h1 : Kd.R (Kd.int .u8) 5 w' B (fun k => k ≠ b) vd r.f1) (h2 : Kd.R Kd.string 9 w' B (fun k => k ≠ b) vn r.f2) (hb : BW B w w') :
  Qck B b o Ad cd w (.inl (l', r)) (.returned (.tuple #[])) w' := ⟨⟨rfl, h0, vd, vn, hs, h1, h2⟩, hb⟩
theorem workF_bad {l : List S52} {o : S31} (h : ∀ c : Int, 1 ≤ c → c ≤ 13 → o.f0 ≠ c) : workF l o = .inr 30 := by
 unfold workF
 rw [if_neg (h 1 zq3 zq3), if_neg (h 2 zq3 zq3), if_neg (h 3 zq3 zq3), if_neg (h 4 zq3 zq3), if_neg (h 5 zq3 zq3), if_neg (h 6 zq3 zq3), if_neg (h 7 zq3 zq3), if_neg (h 8 zq3 zq3), if_neg (h 9 zq3 zq3), if_neg (h 10 zq3 zq3), if_neg (h 11 zq3 zq3), if_neg (h 12 zq3 zq3), if_neg (h 13 zq3 zq3)]
set_option maxHeartbeats 4000000 in
theorem run_1 (B b : Nat) (l : List S52) (o : S31) (Ad : Option Addr) (cd : Nat) (w : World) (hst : St B b l (opV o Ad cd zeroR) w) (ho : Ok l) (hp : o.f1.size < 10000000) (hq : o.f2.size < 10000000) (hd : ∀ k, (nd l k).f2.length < 1000000000) (hxc : o.f5.length ≤ cd) (hx : ∀ w', Below B w w' → Kd.C (Kd.int .u8) w' Ad o.f5.length o.f5) (hk : o.f0 = 1) :
  Calls Tryz.prog 26 #[.pointer (some ⟨b, 0, none⟩)] w fun en w' => Qck B b o Ad cd w (workF l o) en w' := by
 obtain ⟨k0, p, q, a, n, xs⟩ := o
 dsimp only at hk hp hq hxc hx
 subst hk
 have hk1 : w.cell? ⟨b, 1, none⟩ = some (.int .i64 1) := by obtain ⟨_, v, h, _⟩ := hst; exact (Qab h 1).trans rfl
 dsimp only [opV, zeroR] at hst
 have HST := am hst
 have HO := am ho
 have HD := am hd
 have HX := am hx
 clear hst ho hd hx
 have hwf : workF l ⟨1, p, q, a, n, xs⟩ = plain (Qdc l p 1) := rfl
 rw [hwf]
 clear hwf
 cases hX : Qdc l p 1 with
 | inr m =>
  have HXX := am hX
  clear hX
  go_enter Tryz.func26, Tryz.ntmps26
  go_wp2_with (go_at_call 48; (with_reducible refine (Qfk B b l _ p _ 1 _ HST.out HO.out hp).mono ?_); rintro e w1 h1; rw [HXX.out] at h1; obtain ⟨h1, hb⟩ := h1; dsimp only at h1; subst h1; exact ⟨rfl, Qbc hb⟩)
 | inl l' =>
  have HXX := am hX
  clear hX
  go_enter Tryz.func26, Tryz.ntmps26
  go_wp2_with (go_at_call 48; (with_reducible refine (Qfk B b l _ p _ 1 _ HST.out HO.out hp).mono ?_); rintro e w1 h1; rw [HXX.out] at h1; obtain ⟨h1, hb⟩ := h1; dsimp only at h1; obtain ⟨rfl, hs⟩ := h1; have HS := am hs; have HB := am hb; clear hs hb)
  go_end0
  exact Qbj rfl HS.out (Kd.R_nil _ _ _ _ _) (Kd.R_nil _ _ _ _ _) HB.out
set_option maxHeartbeats 4000000 in
theorem run_2 (B b : Nat) (l : List S52) (o : S31) (Ad : Option Addr) (cd : Nat) (w : World) (hst : St B b l (opV o Ad cd zeroR) w) (ho : Ok l) (hp : o.f1.size < 10000000) (hq : o.f2.size < 10000000) (hd : ∀ k, (nd l k).f2.length < 1000000000) (hxc : o.f5.length ≤ cd) (hx : ∀ w', Below B w w' → Kd.C (Kd.int .u8) w' Ad o.f5.length o.f5) (hk : o.f0 = 2) :
  Calls Tryz.prog 26 #[.pointer (some ⟨b, 0, none⟩)] w fun en w' => Qck B b o Ad cd w (workF l o) en w' := by
 obtain ⟨k0, p, q, a, n, xs⟩ := o
 dsimp only at hk hp hq hxc hx
 subst hk
 have hk1 : w.cell? ⟨b, 1, none⟩ = some (.int .i64 2) := by obtain ⟨_, v, h, _⟩ := hst; exact (Qab h 1).trans rfl
 dsimp only [opV, zeroR] at hst
 have HST := am hst
 have HO := am ho
 have HD := am hd
 have HX := am hx
 clear hst ho hd hx
 have hwf : workF l ⟨2, p, q, a, n, xs⟩ = plain (Qdc l p 2) := rfl
 rw [hwf]
 clear hwf
 cases hX : Qdc l p 2 with
 | inr m =>
  have HXX := am hX
  clear hX
  go_enter Tryz.func26, Tryz.ntmps26
  go_wp2_with (go_at_call 48; (with_reducible refine (Qfk B b l _ p _ 2 _ HST.out HO.out hp).mono ?_); rintro e w1 h1; rw [HXX.out] at h1; obtain ⟨h1, hb⟩ := h1; dsimp only at h1; subst h1; exact ⟨rfl, Qbc hb⟩)
 | inl l' =>
  have HXX := am hX
  clear hX
  go_enter Tryz.func26, Tryz.ntmps26
  go_wp2_with (go_at_call 48; (with_reducible refine (Qfk B b l _ p _ 2 _ HST.out HO.out hp).mono ?_); rintro e w1 h1; rw [HXX.out] at h1; obtain ⟨h1, hb⟩ := h1; dsimp only at h1; obtain ⟨rfl, hs⟩ := h1; have HS := am hs; have HB := am hb; clear hs hb)
  go_end0
  exact Qbj rfl HS.out (Kd.R_nil _ _ _ _ _) (Kd.R_nil _ _ _ _ _) HB.out
set_option maxHeartbeats 4000000 in
theorem run_3 (B b : Nat) (l : List S52) (o : S31) (Ad : Option Addr) (cd : Nat) (w : World) (hst : St B b l (opV o Ad cd zeroR) w) (ho : Ok l) (hp : o.f1.size < 10000000) (hq : o.f2.size < 10000000) (hd : ∀ k, (nd l k).f2.length < 1000000000) (hxc : o.f5.length ≤ cd) (hx : ∀ w', Below B w w' → Kd.C (Kd.int .u8) w' Ad o.f5.length o.f5) (hk : o.f0 = 3) :
  Calls Tryz.prog 26 #[.pointer (some ⟨b, 0, none⟩)] w fun en w' => Qck B b o Ad cd w (workF l o) en w' := by
 obtain ⟨k0, p, q, a, n, xs⟩ := o
 dsimp only at hk hp hq hxc hx
 subst hk
 have hk1 : w.cell? ⟨b, 1, none⟩ = some (.int .i64 3) := by obtain ⟨_, v, h, _⟩ := hst; exact (Qab h 1).trans rfl
 dsimp only [opV, zeroR] at hst
 have HST := am hst
 have HO := am ho
 have HD := am hd
 have HX := am hx
 clear hst ho hd hx
 have hwf : workF l ⟨3, p, q, a, n, xs⟩ = plain (linkF l p q) := rfl
 rw [hwf]
 clear hwf
 cases hX : linkF l p q with
 | inr m =>
  have HXX := am hX
  clear hX
  go_enter Tryz.func26, Tryz.ntmps26
  go_wp2_with (go_at_call 49; (with_reducible refine (link_walk B b l _ p q _ _ HST.out HO.out hp hq).mono ?_); rintro e w1 h1; rw [HXX.out] at h1; obtain ⟨h1, hb⟩ := h1; dsimp only at h1; subst h1; exact ⟨rfl, Qbc hb⟩)
 | inl l' =>
  have HXX := am hX
  clear hX
  go_enter Tryz.func26, Tryz.ntmps26
  go_wp2_with (go_at_call 49; (with_reducible refine (link_walk B b l _ p q _ _ HST.out HO.out hp hq).mono ?_); rintro e w1 h1; rw [HXX.out] at h1; obtain ⟨h1, hb⟩ := h1; dsimp only at h1; obtain ⟨rfl, hs⟩ := h1; have HS := am hs; have HB := am hb; clear hs hb)
  go_end0
  exact Qbj rfl HS.out (Kd.R_nil _ _ _ _ _) (Kd.R_nil _ _ _ _ _) HB.out
set_option maxHeartbeats 4000000 in
theorem run_4 (B b : Nat) (l : List S52) (o : S31) (Ad : Option Addr) (cd : Nat) (w : World) (hst : St B b l (opV o Ad cd zeroR) w) (ho : Ok l) (hp : o.f1.size < 10000000) (hq : o.f2.size < 10000000) (hd : ∀ k, (nd l k).f2.length < 1000000000) (hxc : o.f5.length ≤ cd) (hx : ∀ w', Below B w w' → Kd.C (Kd.int .u8) w' Ad o.f5.length o.f5) (hk : o.f0 = 4) :
  Calls Tryz.prog 26 #[.pointer (some ⟨b, 0, none⟩)] w fun en w' => Qck B b o Ad cd w (workF l o) en w' := by
 obtain ⟨k0, p, q, a, n, xs⟩ := o
 dsimp only at hk hp hq hxc hx
 subst hk
 have hk1 : w.cell? ⟨b, 1, none⟩ = some (.int .i64 4) := by obtain ⟨_, v, h, _⟩ := hst; exact (Qab h 1).trans rfl
 dsimp only [opV, zeroR] at hst
 have HST := am hst
 have HO := am ho
 have HD := am hd
 have HX := am hx
 clear hst ho hd hx
 have hwf : workF l ⟨4, p, q, a, n, xs⟩ = plain (Qek l p) := rfl
 rw [hwf]
 clear hwf
 cases hX : Qek l p with
 | inr m =>
  have HXX := am hX
  clear hX
  go_enter Tryz.func26, Tryz.ntmps26
  go_wp2_with (go_at_call 50; (with_reducible refine (unlink_walk B b l _ p _ _ HST.out HO.out hp).mono ?_); rintro e w1 h1; rw [HXX.out] at h1; obtain ⟨h1, hb⟩ := h1; dsimp only at h1; subst h1; exact ⟨rfl, Qbc hb⟩)
 | inl l' =>
  have HXX := am hX
  clear hX
  go_enter Tryz.func26, Tryz.ntmps26
  go_wp2_with (go_at_call 50; (with_reducible refine (unlink_walk B b l _ p _ _ HST.out HO.out hp).mono ?_); rintro e w1 h1; rw [HXX.out] at h1; obtain ⟨h1, hb⟩ := h1; dsimp only at h1; obtain ⟨rfl, hs⟩ := h1; have HS := am hs; have HB := am hb; clear hs hb)
  go_end0
  exact Qbj rfl HS.out (Kd.R_nil _ _ _ _ _) (Kd.R_nil _ _ _ _ _) HB.out
set_option maxHeartbeats 4000000 in
theorem run_5 (B b : Nat) (l : List S52) (o : S31) (Ad : Option Addr) (cd : Nat) (w : World) (hst : St B b l (opV o Ad cd zeroR) w) (ho : Ok l) (hp : o.f1.size < 10000000) (hq : o.f2.size < 10000000) (hd : ∀ k, (nd l k).f2.length < 1000000000) (hxc : o.f5.length ≤ cd) (hx : ∀ w', Below B w w' → Kd.C (Kd.int .u8) w' Ad o.f5.length o.f5) (hk : o.f0 = 5) :
  Calls Tryz.prog 26 #[.pointer (some ⟨b, 0, none⟩)] w fun en w' => Qck B b o Ad cd w (workF l o) en w' := by
 obtain ⟨k0, p, q, a, n, xs⟩ := o
 dsimp only at hk hp hq hxc hx
 subst hk
 have hk1 : w.cell? ⟨b, 1, none⟩ = some (.int .i64 5) := by obtain ⟨_, v, h, _⟩ := hst; exact (Qab h 1).trans rfl
 dsimp only [opV, zeroR] at hst
 have HST := am hst
 have HO := am ho
 have HD := am hd
 have HX := am hx
 clear hst ho hd hx
 have hwf : workF l ⟨5, p, q, a, n, xs⟩ = plain (Qgq l p) := rfl
 rw [hwf]
 clear hwf
 cases hX : Qgq l p with
 | inr m =>
  have HXX := am hX
  clear hX
  go_enter Tryz.func26, Tryz.ntmps26
  go_wp2_with (go_at_call 51; (with_reducible refine (rmdir_walk B b l _ p _ _ HST.out HO.out hp).mono ?_); rintro e w1 h1; rw [HXX.out] at h1; obtain ⟨h1, hb⟩ := h1; dsimp only at h1; subst h1; exact ⟨rfl, Qbc hb⟩)
 | inl l' =>
  have HXX := am hX
  clear hX
  go_enter Tryz.func26, Tryz.ntmps26
  go_wp2_with (go_at_call 51; (with_reducible refine (rmdir_walk B b l _ p _ _ HST.out HO.out hp).mono ?_); rintro e w1 h1; rw [HXX.out] at h1; obtain ⟨h1, hb⟩ := h1; dsimp only at h1; obtain ⟨rfl, hs⟩ := h1; have HS := am hs; have HB := am hb; clear hs hb)
  go_end0
  exact Qbj rfl HS.out (Kd.R_nil _ _ _ _ _) (Kd.R_nil _ _ _ _ _) HB.out
set_option maxHeartbeats 4000000 in
theorem run_6 (B b : Nat) (l : List S52) (o : S31) (Ad : Option Addr) (cd : Nat) (w : World) (hst : St B b l (opV o Ad cd zeroR) w) (ho : Ok l) (hp : o.f1.size < 10000000) (hq : o.f2.size < 10000000) (hd : ∀ k, (nd l k).f2.length < 1000000000) (hxc : o.f5.length ≤ cd) (hx : ∀ w', Below B w w' → Kd.C (Kd.int .u8) w' Ad o.f5.length o.f5) (hk : o.f0 = 6) :
  Calls Tryz.prog 26 #[.pointer (some ⟨b, 0, none⟩)] w fun en w' => Qck B b o Ad cd w (workF l o) en w' := by
 obtain ⟨k0, p, q, a, n, xs⟩ := o
 dsimp only at hk hp hq hxc hx
 subst hk
 have hk1 : w.cell? ⟨b, 1, none⟩ = some (.int .i64 6) := by obtain ⟨_, v, h, _⟩ := hst; exact (Qab h 1).trans rfl
 dsimp only [opV, zeroR] at hst
 have HST := am hst
 have HO := am ho
 have HD := am hd
 have HX := am hx
 clear hst ho hd hx
 have hwf : workF l ⟨6, p, q, a, n, xs⟩ = plain (Qbz l p q) := rfl
 rw [hwf]
 clear hwf
 cases hX : Qbz l p q with
 | inr m =>
  have HXX := am hX
  clear hX
  go_enter Tryz.func26, Tryz.ntmps26
  go_wp2_with (go_at_call 52; (with_reducible refine (rename_walk B b l _ p q _ _ HST.out HO.out hp hq).mono ?_); rintro e w1 h1; rw [HXX.out] at h1; obtain ⟨h1, hb⟩ := h1; dsimp only at h1; subst h1; exact ⟨rfl, Qbc hb⟩)
 | inl l' =>
  have HXX := am hX
  clear hX
  go_enter Tryz.func26, Tryz.ntmps26
  go_wp2_with (go_at_call 52; (with_reducible refine (rename_walk B b l _ p q _ _ HST.out HO.out hp hq).mono ?_); rintro e w1 h1; rw [HXX.out] at h1; obtain ⟨h1, hb⟩ := h1; dsimp only at h1; obtain ⟨rfl, hs⟩ := h1; have HS := am hs; have HB := am hb; clear hs hb)
  go_end0
  exact Qbj rfl HS.out (Kd.R_nil _ _ _ _ _) (Kd.R_nil _ _ _ _ _) HB.out
set_option maxHeartbeats 4000000 in
theorem run_9 (B b : Nat) (l : List S52) (o : S31) (Ad : Option Addr) (cd : Nat) (w : World) (hst : St B b l (opV o Ad cd zeroR) w) (ho : Ok l) (hp : o.f1.size < 10000000) (hq : o.f2.size < 10000000) (hd : ∀ k, (nd l k).f2.length < 1000000000) (hxc : o.f5.length ≤ cd) (hx : ∀ w', Below B w w' → Kd.C (Kd.int .u8) w' Ad o.f5.length o.f5) (hk : o.f0 = 9) :
  Calls Tryz.prog 26 #[.pointer (some ⟨b, 0, none⟩)] w fun en w' => Qck B b o Ad cd w (workF l o) en w' := by
 obtain ⟨k0, p, q, a, n, xs⟩ := o
 dsimp only at hk hp hq hxc hx
 subst hk
 have hk1 : w.cell? ⟨b, 1, none⟩ = some (.int .i64 9) := by obtain ⟨_, v, h, _⟩ := hst; exact (Qab h 1).trans rfl
 dsimp only [opV, zeroR] at hst
 have HST := am hst
 have HO := am ho
 have HD := am hd
 have HX := am hx
 clear hst ho hd hx
 have hwf : workF l ⟨9, p, q, a, n, xs⟩ = plain (Qgo l p n) := rfl
 rw [hwf]
 clear hwf
 cases hX : Qgo l p n with
 | inr m =>
  have HXX := am hX
  clear hX
  go_enter Tryz.func26, Tryz.ntmps26
  go_wp2_with (go_at_call 55; (with_reducible refine (trunc_walk B b l _ _ _ p n _ _ HST.out HO.out hp HD.out).mono ?_); rintro e w1 h1; rw [HXX.out] at h1; obtain ⟨h1, hb⟩ := h1; dsimp only at h1; subst h1; exact ⟨rfl, Qbc hb⟩)
 | inl l' =>
  have HXX := am hX
  clear hX
  go_enter Tryz.func26, Tryz.ntmps26
  go_wp2_with (go_at_call 55; (with_reducible refine (trunc_walk B b l _ _ _ p n _ _ HST.out HO.out hp HD.out).mono ?_); rintro e w1 h1; rw [HXX.out] at h1; obtain ⟨h1, hb⟩ := h1; dsimp only at h1; obtain ⟨rfl, hs⟩ := h1; have HS := am hs; have HB := am hb; clear hs hb)
  go_end0
  exact Qbj rfl HS.out (Kd.R_nil _ _ _ _ _) (Kd.R_nil _ _ _ _ _) HB.out
set_option maxHeartbeats 4000000 in
theorem run_7 (B b : Nat) (l : List S52) (o : S31) (Ad : Option Addr) (cd : Nat) (w : World) (hst : St B b l (opV o Ad cd zeroR) w) (ho : Ok l) (hp : o.f1.size < 10000000) (hq : o.f2.size < 10000000) (hd : ∀ k, (nd l k).f2.length < 1000000000) (hxc : o.f5.length ≤ cd) (hx : ∀ w', Below B w w' → Kd.C (Kd.int .u8) w' Ad o.f5.length o.f5) (hk : o.f0 = 7) :
  Calls Tryz.prog 26 #[.pointer (some ⟨b, 0, none⟩)] w fun en w' => Qck B b o Ad cd w (workF l o) en w' := by
 obtain ⟨k0, p, q, a, n, xs⟩ := o
 dsimp only at hk hp hq hxc hx
 subst hk
 have hk1 : w.cell? ⟨b, 1, none⟩ = some (.int .i64 7) := by obtain ⟨_, v, h, _⟩ := hst; exact (Qab h 1).trans rfl
 dsimp only [opV, zeroR] at hst
 have HST := am hst
 have HO := am ho
 have HD := am hd
 have HX := am hx
 clear hst ho hd hx
 have hwf : workF l ⟨7, p, q, a, n, xs⟩ = (match readF l p a n with | .inl d => .inl (l, { res0 with f1 := d }) | .inr e => .inr e) := rfl
 rw [hwf]
 clear hwf
 cases hX : readF l p a n with
 | inr m =>
  have HXX := am hX
  clear hX
  dsimp only
  go_enter Tryz.func26, Tryz.ntmps26
  go_wp2_with (go_at_call 53; (with_reducible refine (read_walk B b l _ _ _ _ p a n _ _ HST.out HO.out hp HD.out).mono ?_); rintro e w1 h1; rw [HXX.out] at h1; obtain ⟨h1, hb⟩ := h1; dsimp only at h1; subst h1; exact ⟨rfl, Qbc hb⟩)
 | inl d =>
  have HXX := am hX
  clear hX
  dsimp only
  go_enter Tryz.func26, Tryz.ntmps26
  go_wp2_with (go_at_call 53; (with_reducible refine (read_walk B b l _ _ _ _ p a n _ _ HST.out HO.out hp HD.out).mono ?_); rintro e w1 h1; rw [HXX.out] at h1; obtain ⟨h1, hb⟩ := h1; dsimp only at h1; obtain ⟨rfl, vd, hs, hr⟩ := h1; have HB := am hb; clear hb; have HS := am hs; have HR := am hr; clear hs hr)
  go_end0
  exact Qbj rfl HS.out HR.out (Kd.R_nil _ _ _ _ _) HB.out
set_option maxHeartbeats 4000000 in
theorem run_8 (B b : Nat) (l : List S52) (o : S31) (Ad : Option Addr) (cd : Nat) (w : World) (hst : St B b l (opV o Ad cd zeroR) w) (ho : Ok l) (hp : o.f1.size < 10000000) (hq : o.f2.size < 10000000) (hd : ∀ k, (nd l k).f2.length < 1000000000) (hxc : o.f5.length ≤ cd) (hx : ∀ w', Below B w w' → Kd.C (Kd.int .u8) w' Ad o.f5.length o.f5) (hk : o.f0 = 8) :
  Calls Tryz.prog 26 #[.pointer (some ⟨b, 0, none⟩)] w fun en w' => Qck B b o Ad cd w (workF l o) en w' := by
 obtain ⟨k0, p, q, a, n, xs⟩ := o
 dsimp only at hk hp hq hxc hx
 subst hk
 have hk1 : w.cell? ⟨b, 1, none⟩ = some (.int .i64 8) := by obtain ⟨_, v, h, _⟩ := hst; exact (Qab h 1).trans rfl
 dsimp only [opV, zeroR] at hst
 have HST := am hst
 have HO := am ho
 have HD := am hd
 have HX := am hx
 clear hst ho hd hx
 have hwf : workF l ⟨8, p, q, a, n, xs⟩ = (match Qfz l p a xs with | .inl d => .inl (d, { res0 with f5 := (xs.length : Int) }) | .inr e => .inr e) := rfl
 rw [hwf]
 clear hwf
 cases hX : Qfz l p a xs with
 | inr m =>
  have HXX := am hX
  clear hX
  dsimp only
  go_enter Tryz.func26, Tryz.ntmps26
  go_wp2_with (go_at_call 54; (with_reducible refine (write_walk B b l _ _ _ p a Ad cd xs _ _ _ _ _ _ HST.out HO.out hp HD.out hxc HX.out).mono ?_); rintro e w1 h1; rw [HXX.out] at h1; obtain ⟨h1, hb⟩ := h1; dsimp only at h1; subst h1; exact ⟨rfl, Qbc hb⟩)
 | inl d =>
  have HXX := am hX
  clear hX
  dsimp only
  go_enter Tryz.func26, Tryz.ntmps26
  go_wp2_with (go_at_call 54; (with_reducible refine (write_walk B b l _ _ _ p a Ad cd xs _ _ _ _ _ _ HST.out HO.out hp HD.out hxc HX.out).mono ?_); rintro e w1 h1; rw [HXX.out] at h1; obtain ⟨h1, hb⟩ := h1; dsimp only at h1; obtain ⟨rfl, hs⟩ := h1; have HB := am hb; clear hb; have HS := am hs; clear hs)
  go_end0
  exact Qbj rfl HS.out (Kd.R_nil _ _ _ _ _) (Kd.R_nil _ _ _ _ _) HB.out
set_option maxHeartbeats 4000000 in
theorem run_10 (B b : Nat) (l : List S52) (o : S31) (Ad : Option Addr) (cd : Nat) (w : World) (hst : St B b l (opV o Ad cd zeroR) w) (ho : Ok l) (hp : o.f1.size < 10000000) (hq : o.f2.size < 10000000) (hd : ∀ k, (nd l k).f2.length < 1000000000) (hxc : o.f5.length ≤ cd) (hx : ∀ w', Below B w w' → Kd.C (Kd.int .u8) w' Ad o.f5.length o.f5) (hk : o.f0 = 10) :
  Calls Tryz.prog 26 #[.pointer (some ⟨b, 0, none⟩)] w fun en w' => Qck B b o Ad cd w (workF l o) en w' := by
 obtain ⟨k0, p, q, a, n, xs⟩ := o
 dsimp only at hk hp hq hxc hx
 subst hk
 have hk1 : w.cell? ⟨b, 1, none⟩ = some (.int .i64 10) := by obtain ⟨_, v, h, _⟩ := hst; exact (Qab h 1).trans rfl
 dsimp only [opV, zeroR] at hst
 have HST := am hst
 have HO := am ho
 have HD := am hd
 have HX := am hx
 clear hst ho hd hx
 have hwf : workF l ⟨10, p, q, a, n, xs⟩ = (match Qav l p with | .inl d => .inl (l, { res0 with f3 := (nd l d).f0, f4 := (nd l d).f1, f5 := ((nd l d).f2.length + (nd l d).f3.length : Nat) }) | .inr e => .inr e) := rfl
 rw [hwf]
 clear hwf
 cases hX : Qav l p with
 | inr m =>
  have HXX := am hX
  clear hX
  dsimp only
  go_enter Tryz.func26, Tryz.ntmps26
  go_wp2_with (go_at_call 56; (with_reducible refine (stat_walk B b l _ _ _ _ _ _ _ _ p _ HST.out HO.out hp HD.out).mono ?_); rintro e w1 h1; rw [HXX.out] at h1; obtain ⟨h1, hb⟩ := h1; dsimp only at h1; subst h1; exact ⟨rfl, Qbc hb⟩)
 | inl d =>
  have HXX := am hX
  clear hX
  dsimp only
  go_enter Tryz.func26, Tryz.ntmps26
  go_wp2_with (go_at_call 56; (with_reducible refine (stat_walk B b l _ _ _ _ _ _ _ _ p _ HST.out HO.out hp HD.out).mono ?_); rintro e w1 h1; rw [HXX.out] at h1; obtain ⟨h1, hb⟩ := h1; dsimp only at h1; obtain ⟨rfl, hs⟩ := h1; have HB := am hb; clear hb; have HS := am hs; clear hs)
  go_end0
  exact Qbj rfl HS.out (Kd.R_nil _ _ _ _ _) (Kd.R_nil _ _ _ _ _) HB.out
set_option maxHeartbeats 4000000 in
theorem run_11 (B b : Nat) (l : List S52) (o : S31) (Ad : Option Addr) (cd : Nat) (w : World) (hst : St B b l (opV o Ad cd zeroR) w) (ho : Ok l) (hp : o.f1.size < 10000000) (hq : o.f2.size < 10000000) (hd : ∀ k, (nd l k).f2.length < 1000000000) (hxc : o.f5.length ≤ cd) (hx : ∀ w', Below B w w' → Kd.C (Kd.int .u8) w' Ad o.f5.length o.f5) (hk : o.f0 = 11) :
  Calls Tryz.prog 26 #[.pointer (some ⟨b, 0, none⟩)] w fun en w' => Qck B b o Ad cd w (workF l o) en w' := by
 obtain ⟨k0, p, q, a, n, xs⟩ := o
 dsimp only at hk hp hq hxc hx
 subst hk
 have hk1 : w.cell? ⟨b, 1, none⟩ = some (.int .i64 11) := by obtain ⟨_, v, h, _⟩ := hst; exact (Qab h 1).trans rfl
 dsimp only [opV, zeroR] at hst
 have HST := am hst
 have HO := am ho
 have HD := am hd
 have HX := am hx
 clear hst ho hd hx
 have hwf : workF l ⟨11, p, q, a, n, xs⟩ = (match listF l p with | .inl d => .inl (l, { res0 with f2 := d }) | .inr e => .inr e) := rfl
 rw [hwf]
 clear hwf
 cases hX : listF l p with
 | inr m =>
  have HXX := am hX
  clear hX
  dsimp only
  go_enter Tryz.func26, Tryz.ntmps26
  go_wp2_with (go_at_call 57; (with_reducible refine (list_walk B b l _ _ _ _ _ _ _ p _ _ HST.out HO.out hp).mono ?_); rintro e w1 h1; rw [HXX.out] at h1; obtain ⟨h1, hb⟩ := h1; dsimp only at h1; subst h1; exact ⟨rfl, Qbc hb⟩)
 | inl d =>
  have HXX := am hX
  clear hX
  dsimp only
  go_enter Tryz.func26, Tryz.ntmps26
  go_wp2_with (go_at_call 57; (with_reducible refine (list_walk B b l _ _ _ _ _ _ _ p _ _ HST.out HO.out hp).mono ?_); rintro e w1 h1; rw [HXX.out] at h1; obtain ⟨h1, hb⟩ := h1; dsimp only at h1; obtain ⟨rfl, vn, hs, hr⟩ := h1; have HB := am hb; clear hb; have HS := am hs; have HR := am hr; clear hs hr)
  go_end0
  exact Qbj rfl HS.out (Kd.R_nil _ _ _ _ _) HR.out HB.out
set_option maxHeartbeats 4000000 in
theorem run_12 (B b : Nat) (l : List S52) (o : S31) (Ad : Option Addr) (cd : Nat) (w : World) (hst : St B b l (opV o Ad cd zeroR) w) (ho : Ok l) (hp : o.f1.size < 10000000) (hq : o.f2.size < 10000000) (hd : ∀ k, (nd l k).f2.length < 1000000000) (hxc : o.f5.length ≤ cd) (hx : ∀ w', Below B w w' → Kd.C (Kd.int .u8) w' Ad o.f5.length o.f5) (hk : o.f0 = 12) :
  Calls Tryz.prog 26 #[.pointer (some ⟨b, 0, none⟩)] w fun en w' => Qck B b o Ad cd w (workF l o) en w' := by
 obtain ⟨k0, p, q, a, n, xs⟩ := o
 dsimp only at hk hp hq hxc hx
 subst hk
 have hk1 : w.cell? ⟨b, 1, none⟩ = some (.int .i64 12) := by obtain ⟨_, v, h, _⟩ := hst; exact (Qab h 1).trans rfl
 dsimp only [opV, zeroR] at hst
 have HST := am hst
 have HO := am ho
 have HD := am hd
 have HX := am hx
 clear hst ho hd hx
 have hwf : workF l ⟨12, p, q, a, n, xs⟩ = .inl (l, res0) := rfl
 rw [hwf]
 clear hwf
 go_enter Tryz.func26, Tryz.ntmps26
 go_wp2
 go_end0
 exact Qbj rfl HST.out (Kd.R_nil _ _ _ _ _) (Kd.R_nil _ _ _ _ _) (BW.refl _ _)
set_option maxHeartbeats 4000000 in
theorem run_13 (B b : Nat) (l : List S52) (o : S31) (Ad : Option Addr) (cd : Nat) (w : World) (hst : St B b l (opV o Ad cd zeroR) w) (ho : Ok l) (hp : o.f1.size < 10000000) (hq : o.f2.size < 10000000) (hd : ∀ k, (nd l k).f2.length < 1000000000) (hxc : o.f5.length ≤ cd) (hx : ∀ w', Below B w w' → Kd.C (Kd.int .u8) w' Ad o.f5.length o.f5) (hk : o.f0 = 13) :
  Calls Tryz.prog 26 #[.pointer (some ⟨b, 0, none⟩)] w fun en w' => Qck B b o Ad cd w (workF l o) en w' := by
 obtain ⟨k0, p, q, a, n, xs⟩ := o
 dsimp only at hk hp hq hxc hx
 subst hk
 have hk1 : w.cell? ⟨b, 1, none⟩ = some (.int .i64 13) := by obtain ⟨_, v, h, _⟩ := hst; exact (Qab h 1).trans rfl
 dsimp only [opV, zeroR] at hst
 have HST := am hst
 have HO := am ho
 have HD := am hd
 have HX := am hx
 clear hst ho hd hx
 have hwf : workF l ⟨13, p, q, a, n, xs⟩ = (match Qav l p with | .inl _ => .inl (l, res0) | .inr e => .inr e) := rfl
 rw [hwf]
 clear hwf
 have hk2 : w.cell? ⟨b, 2, none⟩ = some (.string p) := by obtain ⟨_, v, h, _⟩ := HST.out; exact (Qab h 2).trans rfl
 have hBw : B ≤ w.heap.size := by obtain ⟨h0, v, h, _⟩ := HST.out; have := Qai h; omega
 have HB := am (Below.refl w.heap.size w)
 unfold Qav
 by_cases h0 : (Qah p).2 = 0
 ·
  rw [if_pos h0]
  cases hk : wk l (Qah p).1 0 with
  | inr m =>
   have HK := am hk
   clear hk
   dsimp only
   go_enter Tryz.func26, Tryz.ntmps26
   go_wp2_with (first | (go_at_call 34; (with_reducible refine (Qak p _ hp).mono ?_); rintro e w1 ⟨h1, hb⟩; rw [if_pos h0] at h1; obtain ⟨An, cn, rfl, hcn, hCn⟩ := h1; have HCN := am hCn; clear hCn; have n0_ := am (Qa zq0 hb); clear HB hb; have HB := n0_; clear n0_) | (go_at_call 33; (with_reducible refine (Qaq B b l _ An cn p _ (St.below HST.out zq0) HO.out HCN.out hcn).mono ?_); rintro e w2 ⟨h1, hb⟩; rw [HK.out] at h1; subst h1; have n0_ := am (Qa zq0 hb); clear HB hb; have HB := n0_; clear n0_; exact ⟨rfl, Qbc (BW.mono HB.out hBw)⟩))
  | inl k =>
   have HK := am hk
   clear hk
   dsimp only
   go_enter Tryz.func26, Tryz.ntmps26
   go_wp2_with (first | (go_at_call 34; (with_reducible refine (Qak p _ hp).mono ?_); rintro e w1 ⟨h1, hb⟩; rw [if_pos h0] at h1; obtain ⟨An, cn, rfl, hcn, hCn⟩ := h1; have HCN := am hCn; clear hCn; have n0_ := am (Qa zq0 hb); clear HB hb; have HB := n0_; clear n0_) | (go_at_call 33; (with_reducible refine (Qaq B b l _ An cn p _ (St.below HST.out zq0) HO.out HCN.out hcn).mono ?_); rintro e w2 ⟨h1, hb⟩; rw [HK.out] at h1; subst h1; have n0_ := am (Qa zq0 hb); clear HB hb; have HB := n0_; clear n0_))
   go_end0
   exact Qbj rfl (St.below HST.out HB.out) (Kd.R_nil _ _ _ _ _) (Kd.R_nil _ _ _ _ _) (BW.mono HB.out hBw)
 ·
  rw [if_neg h0]
  dsimp only
  go_enter Tryz.func26, Tryz.ntmps26
  go_wp2_with (first | (go_at_call 34; (with_reducible refine (Qak p _ hp).mono ?_); rintro e w1 ⟨h1, hb⟩; rw [if_neg h0] at h1; subst h1; have n0_ := am (Qa zq0 hb); clear HB hb; have HB := n0_; clear n0_; exact ⟨rfl, Qbc (BW.mono HB.out hBw)⟩))
set_option maxHeartbeats 4000000 in
theorem run_bad (B b : Nat) (l : List S52) (o : S31) (Ad : Option Addr) (cd : Nat) (w : World) (hst : St B b l (opV o Ad cd zeroR) w) (ho : Ok l) (hp : o.f1.size < 10000000) (hq : o.f2.size < 10000000) (hd : ∀ k, (nd l k).f2.length < 1000000000) (hxc : o.f5.length ≤ cd) (hx : ∀ w', Below B w w' → Kd.C (Kd.int .u8) w' Ad o.f5.length o.f5) (hk : ∀ c : Int, 1 ≤ c → c ≤ 13 → o.f0 ≠ c) :
  Calls Tryz.prog 26 #[.pointer (some ⟨b, 0, none⟩)] w fun en w' => Qck B b o Ad cd w (workF l o) en w' := by
 rw [workF_bad hk]
 have hk1 : w.cell? ⟨b, 1, none⟩ = some (.int .i64 o.f0) := by obtain ⟨_, v, h, _⟩ := hst; exact (Qab h 1).trans rfl
 have e1 : (o.f0 == 1) = false := beq_eq_false_iff_ne.2 (hk 1 zq3 zq3)
 have e2 : (o.f0 == 2) = false := beq_eq_false_iff_ne.2 (hk 2 zq3 zq3)
 have e3 : (o.f0 == 3) = false := beq_eq_false_iff_ne.2 (hk 3 zq3 zq3)
 have e4 : (o.f0 == 4) = false := beq_eq_false_iff_ne.2 (hk 4 zq3 zq3)
 have e5 : (o.f0 == 5) = false := beq_eq_false_iff_ne.2 (hk 5 zq3 zq3)
 have e6 : (o.f0 == 6) = false := beq_eq_false_iff_ne.2 (hk 6 zq3 zq3)
 have e7 : (o.f0 == 7) = false := beq_eq_false_iff_ne.2 (hk 7 zq3 zq3)
 have e8 : (o.f0 == 8) = false := beq_eq_false_iff_ne.2 (hk 8 zq3 zq3)
 have e9 : (o.f0 == 9) = false := beq_eq_false_iff_ne.2 (hk 9 zq3 zq3)
 have e10 : (o.f0 == 10) = false := beq_eq_false_iff_ne.2 (hk 10 zq3 zq3)
 have e11 : (o.f0 == 11) = false := beq_eq_false_iff_ne.2 (hk 11 zq3 zq3)
 have e12 : (o.f0 == 12) = false := beq_eq_false_iff_ne.2 (hk 12 zq3 zq3)
 have e13 : (o.f0 == 13) = false := beq_eq_false_iff_ne.2 (hk 13 zq3 zq3)
 clear hst ho hp hq hd hxc hx hk
 generalize o.f0 = kd at *
 go_enter Tryz.func26, Tryz.ntmps26
 go_wp2
 exact ⟨rfl, Qbc (BW.refl _ _)⟩
theorem run_walk (B b : Nat) (l : List S52) (o : S31) (Ad : Option Addr) (cd : Nat) (w : World) (hst : St B b l (opV o Ad cd zeroR) w) (ho : Ok l) (hp : o.f1.size < 10000000) (hq : o.f2.size < 10000000) (hd : ∀ k, (nd l k).f2.length < 1000000000) (hxc : o.f5.length ≤ cd) (hx : ∀ w', Below B w w' → Kd.C (Kd.int .u8) w' Ad o.f5.length o.f5) :
  Calls Tryz.prog 26 #[.pointer (some ⟨b, 0, none⟩)] w fun en w' => Qck B b o Ad cd w (workF l o) en w' := by
 by_cases h1 : o.f0 = 1
 · exact run_1 B b l o Ad cd w hst ho hp hq hd hxc hx h1
 by_cases h2 : o.f0 = 2
 · exact run_2 B b l o Ad cd w hst ho hp hq hd hxc hx h2
 by_cases h3 : o.f0 = 3
 · exact run_3 B b l o Ad cd w hst ho hp hq hd hxc hx h3
 by_cases h4 : o.f0 = 4
 · exact run_4 B b l o Ad cd w hst ho hp hq hd hxc hx h4
 by_cases h5 : o.f0 = 5
 · exact run_5 B b l o Ad cd w hst ho hp hq hd hxc hx h5
 by_cases h6 : o.f0 = 6
 · exact run_6 B b l o Ad cd w hst ho hp hq hd hxc hx h6
 by_cases h7 : o.f0 = 7
 · exact run_7 B b l o Ad cd w hst ho hp hq hd hxc hx h7
 by_cases h8 : o.f0 = 8
 · exact run_8 B b l o Ad cd w hst ho hp hq hd hxc hx h8
 by_cases h9 : o.f0 = 9
 · exact run_9 B b l o Ad cd w hst ho hp hq hd hxc hx h9
 by_cases h10 : o.f0 = 10
 · exact run_10 B b l o Ad cd w hst ho hp hq hd hxc hx h10
 by_cases h11 : o.f0 = 11
 · exact run_11 B b l o Ad cd w hst ho hp hq hd hxc hx h11
 by_cases h12 : o.f0 = 12
 · exact run_12 B b l o Ad cd w hst ho hp hq hd hxc hx h12
 by_cases h13 : o.f0 = 13
 · exact run_13 B b l o Ad cd w hst ho hp hq hd hxc hx h13
 exact run_bad B b l o Ad cd w hst ho hp hq hd hxc hx (fun c h0 h => by omega)
end
end Go.Proofs.YtbhjggbijkjmnaaGreatDoor.PZ
end
