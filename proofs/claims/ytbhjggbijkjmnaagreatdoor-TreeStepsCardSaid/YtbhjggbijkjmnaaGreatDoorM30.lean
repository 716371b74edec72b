import Derived.Test.YtbhjggbijkjmnaaGreatDoorM14
import Derived.Test.YtbhjggbijkjmnaaGreatDoorM15
import Derived.Deep.RegionHeld3
import Derived.Deep.RegionHeld2
import Derived.Deep.Cut
import Derived.Deep.QuietTactic
import Derived.BigQuiet
set_option linter.unusedVariables false
set_option linter.unusedSimpArgs false
section
namespace Go.Proofs.YtbhjggbijkjmnaaGreatDoor.PZ
open Go.RowKit Go.Proofs.YtbhjggbijkjmnaaGreatDoorW.PrintWords Go.Proofs.YtbhjggbijkjmnaaGreatDoorW.PrintLast Go.Proofs.YtbhjggbijkjmnaaGreatDoorW.PrintMore Go.Proofs.YtbhjggbijkjmnaaGreatDoor.B Go.Proofs.YtbhjggbijkjmnaaGreatDoor.Ord TD
set_option maxRecDepth 100000
section
attribute [local go_sem ↓] Go.wp_at_zero Go.wp_at_succ
set_option maxHeartbeats 4000000 in
theorem unlink_walk (B b : Nat) (l : List S52) (x : Value) (p : ByteArray) (rs : List Value) (w : World) (hst : St B b l (x :: .string p :: rs) w) (ho : Ok l) (hp : p.size < 10000000) :
  Calls Tryz.prog 50 #[.pointer (some ⟨b, 0, none⟩)] w fun en w' => (match Qek l p with | .inl l' => en = .returned (.tuple #[]) ∧ St B b l' (x :: .string p :: rs) w' | .inr n => en = .panicked (wrong n)) ∧ BW B w w' := by
 have hbl : b < w.heap.size := by obtain ⟨_, v, h, _⟩ := hst; exact Qai h
 have hBb : B ≤ b := hst.1
 have hBw : B ≤ w.heap.size := by omega
 have hk2 : w.cell? ⟨b, 2, none⟩ = some (.string p) := by obtain ⟨_, v, h, _⟩ := hst; exact (Qab h 2).trans rfl
 have HST := am hst
 have HO := am ho
 have HB := am (Below.refl w.heap.size w)
 clear hst ho
 unfold Qek Qav
 by_cases h0 : (Qah p).2 = 0
 ·
  rw [if_pos h0]
  cases hk : wk l (Qah p).1 0 with
  | inr n =>
   dsimp only
   have HK := am hk
   clear hk
   go_enter Tryz.func50, Tryz.ntmps50
   go_wp2_with (first
    | (go_at_call 34; (with_reducible refine (Qak p _ hp).mono ?_); rintro e w1 ⟨h1, hb⟩; rw [if_pos h0] at h1; obtain ⟨An, cn, rfl, hcn, hCn⟩ := h1; have HCN := am hCn; clear hCn; have n0_ := am (Qa zq0 hb); clear HB hb; have HB := n0_; clear n0_; have hk2_ := (HB.out.cell (p := ⟨b, 2, none⟩) hbl).trans hk2)
    | (go_at_call 33; (with_reducible refine (Qaq B b l _ An cn p _ (St.below HST.out zq0) HO.out HCN.out hcn).mono ?_); rintro e w2 ⟨h1, hb⟩; rw [HK.out] at h1; subst h1; have n0_ := am (Qa zq0 hb); clear HB hb; have HB := n0_; clear n0_; have hk2_ := (HB.out.cell (p := ⟨b, 2, none⟩) hbl).trans hk2; exact ⟨rfl, rfl, BW.mono zq0 hBw⟩))
  | inl k =>
   dsimp only
   have hkl : k < l.length := wk_lt HO.out.wf HO.out.wf.pos hk
   have HK := am hk
   clear hk
   cases hd : ((nd l k).f0 == 2) with
   | true =>
    rw [if_pos (beq_iff_eq.1 hd)]
    go_enter Tryz.func50, Tryz.ntmps50
    go_wp2_with (first
     | (go_at_call 34; (with_reducible refine (Qak p _ hp).mono ?_); rintro e w1 ⟨h1, hb⟩; rw [if_pos h0] at h1; obtain ⟨An, cn, rfl, hcn, hCn⟩ := h1; have HCN := am hCn; clear hCn; have n0_ := am (Qa zq0 hb); clear HB hb; have HB := n0_; clear n0_; have hk2_ := (HB.out.cell (p := ⟨b, 2, none⟩) hbl).trans hk2)
     | (go_at_call 33; (with_reducible refine (Qaq B b l _ An cn p _ (St.below HST.out zq0) HO.out HCN.out hcn).mono ?_); rintro e w2 ⟨h1, hb⟩; rw [HK.out] at h1; subst h1; have n0_ := am (Qa zq0 hb); clear HB hb; have HB := n0_; clear n0_; have hk2_ := (HB.out.cell (p := ⟨b, 2, none⟩) hbl).trans hk2)
     | (go_at_call 65; (with_reducible refine (Qan B b l _ k _ hkl (St.below HST.out zq0) hd).mono ?_); rintro e w9 ⟨rfl, h9⟩; subst w9)
     | (go_at_call 64; (with_reducible refine (Qaw 23 _).mono ?_); rintro e w9 ⟨rfl, h9⟩; subst w9; exact ⟨rfl, rfl, BW.mono zq0 hBw⟩))
   | false =>
    rw [if_neg (beq_eq_false_iff_ne.1 hd)]
    have hr : p ≠ rootP := fun h => by
     have h2 := HK.out
     rw [h, splitA_root] at h2
     injection h2 with h2
     subst h2
     exact (beq_eq_false_iff_ne.1 hd) HO.out.wf.root
    cases hs : spotF l p with
    | inr n =>
     dsimp only
     have HS := am hs
     clear hs
     go_enter Tryz.func50, Tryz.ntmps50
     go_wp2_with (first
      | (go_at_call 34; (with_reducible refine (Qak p _ hp).mono ?_); rintro e w1 ⟨h1, hb⟩; rw [if_pos h0] at h1; obtain ⟨An, cn, rfl, hcn, hCn⟩ := h1; have HCN := am hCn; clear hCn; have n0_ := am (Qa zq0 hb); clear HB hb; have HB := n0_; clear n0_; have hk2_ := (HB.out.cell (p := ⟨b, 2, none⟩) hbl).trans hk2)
      | (go_at_call 33; (with_reducible refine (Qaq B b l _ An cn p _ (St.below HST.out zq0) HO.out HCN.out hcn).mono ?_); rintro e w2 ⟨h1, hb⟩; rw [HK.out] at h1; subst h1; have n0_ := am (Qa zq0 hb); clear HB hb; have HB := n0_; clear n0_; have hk2_ := (HB.out.cell (p := ⟨b, 2, none⟩) hbl).trans hk2)
      | (go_at_call 65; (with_reducible refine (Qan B b l _ k _ hkl (St.below HST.out zq0) hd).mono ?_); rintro e w9 ⟨rfl, h9⟩; subst w9)
      | (go_at_call 64; (with_reducible refine (Qau _ _).mono ?_); rintro e w9 ⟨rfl, h9⟩; subst w9)
      | (go_at_call 74; (with_reducible refine (Qcb B b l _ p _ (St.below HST.out zq0) HO.out hp hr).mono ?_); rintro e w3 ⟨h1, hb⟩; rw [HS.out] at h1; subst h1; have n0_ := am (Qa zq0 hb); clear HB hb; have HB := n0_; clear n0_; have hk2_ := (HB.out.cell (p := ⟨b, 2, none⟩) hbl).trans hk2; exact ⟨rfl, rfl, BW.mono zq0 hBw⟩))
    | inl s =>
     obtain ⟨d, nm, o⟩ := s
     dsimp only
     have HS := am hs
     have hdl : d < l.length := (Qbb hs).choose_spec.2.2.2.2.1
     clear hs
     go_enter Tryz.func50, Tryz.ntmps50
     go_wp2_with (first
      | (go_at_call 34; (with_reducible refine (Qak p _ hp).mono ?_); rintro e w1 ⟨h1, hb⟩; rw [if_pos h0] at h1; obtain ⟨An, cn, rfl, hcn, hCn⟩ := h1; have HCN := am hCn; clear hCn; have n0_ := am (Qa zq0 hb); clear HB hb; have HB := n0_; clear n0_; have hk2_ := (HB.out.cell (p := ⟨b, 2, none⟩) hbl).trans hk2)
      | (go_at_call 33; (with_reducible refine (Qaq B b l _ An cn p _ (St.below HST.out zq0) HO.out HCN.out hcn).mono ?_); rintro e w2 ⟨h1, hb⟩; rw [HK.out] at h1; subst h1; have n0_ := am (Qa zq0 hb); clear HB hb; have HB := n0_; clear n0_; have hk2_ := (HB.out.cell (p := ⟨b, 2, none⟩) hbl).trans hk2)
      | (go_at_call 65; (with_reducible refine (Qan B b l _ k _ hkl (St.below HST.out zq0) hd).mono ?_); rintro e w9 ⟨rfl, h9⟩; subst w9)
      | (go_at_call 64; (with_reducible refine (Qau _ _).mono ?_); rintro e w9 ⟨rfl, h9⟩; subst w9)
      | (go_at_call 74; (with_reducible refine (Qcb B b l _ p _ (St.below HST.out zq0) HO.out hp hr).mono ?_); rintro e w3 ⟨h1, hb⟩; rw [HS.out] at h1; subst h1; have n0_ := am (Qa zq0 hb); clear HB hb; have HB := n0_; clear n0_; have hk2_ := (HB.out.cell (p := ⟨b, 2, none⟩) hbl).trans hk2; unfold spotV)
      | (go_at_call 77; (with_reducible refine (mcut_walk B b l _ d nm (nodeV o) _ hdl (St.below HST.out zq0) HO.out).mono ?_); rintro e w4 ⟨rfl, hst4, hb4⟩; have HST4 := am hst4; have HB4 := am (BW.trans (BW.mono zq0 hBw) hb4); clear hst4 hb4))
     go_end0
     exact ⟨⟨rfl, HST4.out⟩, HB4.out⟩
 ·
  rw [if_neg h0]
  dsimp only
  go_enter Tryz.func50, Tryz.ntmps50
  go_wp2_with (first
   | (go_at_call 34; (with_reducible refine (Qak p _ hp).mono ?_); rintro e w1 ⟨h1, hb⟩; rw [if_neg h0] at h1; subst h1; have n0_ := am (Qa zq0 hb); clear HB hb; have HB := n0_; clear n0_; have hk2_ := (HB.out.cell (p := ⟨b, 2, none⟩) hbl).trans hk2; exact ⟨rfl, rfl, BW.mono zq0 hBw⟩))
set_option maxHeartbeats 4000000 in
theorem rmdir_walk (B b : Nat) (l : List S52) (x : Value) (p : ByteArray) (rs : List Value) (w : World) (hst : St B b l (x :: .string p :: rs) w) (ho : Ok l) (hp : p.size < 10000000) :
  Calls Tryz.prog 51 #[.pointer (some ⟨b, 0, none⟩)] w fun en w' => (match Qgq l p with | .inl l' => en = .returned (.tuple #[]) ∧ St B b l' (x :: .string p :: rs) w' | .inr n => en = .panicked (wrong n)) ∧ BW B w w' := by
 have hbl : b < w.heap.size := by obtain ⟨_, v, h, _⟩ := hst; exact Qai h
 have hBb : B ≤ b := hst.1
 have hBw : B ≤ w.heap.size := by omega
 have hk2 : w.cell? ⟨b, 2, none⟩ = some (.string p) := by obtain ⟨_, v, h, _⟩ := hst; exact (Qab h 2).trans rfl
 have HST := am hst
 have HO := am ho
 have HB := am (Below.refl w.heap.size w)
 clear hst ho
 unfold Qgq Qav
 by_cases h0 : (Qah p).2 = 0
 ·
  rw [if_pos h0]
  cases hk : wk l (Qah p).1 0 with
  | inr n =>
   dsimp only
   have HK := am hk
   clear hk
   go_enter Tryz.func51, Tryz.ntmps51
   go_wp2_with (first
    | (go_at_call 34; (with_reducible refine (Qak p _ hp).mono ?_); rintro e w1 ⟨h1, hb⟩; rw [if_pos h0] at h1; obtain ⟨An, cn, rfl, hcn, hCn⟩ := h1; have HCN := am hCn; clear hCn; have n0_ := am (Qa zq0 hb); clear HB hb; have HB := n0_; clear n0_; have hk2_ := (HB.out.cell (p := ⟨b, 2, none⟩) hbl).trans hk2)
    | (go_at_call 33; (with_reducible refine (Qaq B b l _ An cn p _ (St.below HST.out zq0) HO.out HCN.out hcn).mono ?_); rintro e w2 ⟨h1, hb⟩; rw [HK.out] at h1; subst h1; have n0_ := am (Qa zq0 hb); clear HB hb; have HB := n0_; clear n0_; have hk2_ := (HB.out.cell (p := ⟨b, 2, none⟩) hbl).trans hk2; exact ⟨rfl, rfl, BW.mono zq0 hBw⟩))
  | inl k =>
   dsimp only
   have hkl : k < l.length := wk_lt HO.out.wf HO.out.wf.pos hk
   have HK := am hk
   clear hk
   cases hd : ((nd l k).f0 == 2) with
   | false =>
    rw [if_neg (beq_eq_false_iff_ne.1 hd)]
    go_enter Tryz.func51, Tryz.ntmps51
    go_wp2_with (first
     | (go_at_call 34; (with_reducible refine (Qak p _ hp).mono ?_); rintro e w1 ⟨h1, hb⟩; rw [if_pos h0] at h1; obtain ⟨An, cn, rfl, hcn, hCn⟩ := h1; have HCN := am hCn; clear hCn; have n0_ := am (Qa zq0 hb); clear HB hb; have HB := n0_; clear n0_; have hk2_ := (HB.out.cell (p := ⟨b, 2, none⟩) hbl).trans hk2)
     | (go_at_call 33; (with_reducible refine (Qaq B b l _ An cn p _ (St.below HST.out zq0) HO.out HCN.out hcn).mono ?_); rintro e w2 ⟨h1, hb⟩; rw [HK.out] at h1; subst h1; have n0_ := am (Qa zq0 hb); clear HB hb; have HB := n0_; clear n0_; have hk2_ := (HB.out.cell (p := ⟨b, 2, none⟩) hbl).trans hk2)
     | (go_at_call 65; (with_reducible refine (Qan B b l _ k _ hkl (St.below HST.out zq0) hd).mono ?_); rintro e w9 ⟨rfl, h9⟩; subst w9)
     | (go_at_call 64; (with_reducible refine (Qaw 22 _).mono ?_); rintro e w9 ⟨rfl, h9⟩; subst w9; exact ⟨rfl, rfl, BW.mono zq0 hBw⟩))
   | true =>
    rw [if_pos (beq_iff_eq.1 hd)]
    obtain ⟨hBb', v, hw, hS⟩ := HST.out
    obtain ⟨A, cap, rfl, hcap, hC⟩ := Kd.S_reads hS
    have HW := am hw
    have HC := am hC
    clear hw hS hC hBb'
    have hk0 : (0 : Int) ≤ (k : Int) := by omega
    have hk1 : (k : Int) < (l.length : Int) := by omega
    by_cases hz : k = 0 ∨ (nd l k).f3 ≠ []
    ·
     rw [if_pos hz]
     by_cases hz0 : k = 0
     ·
      have hkz : ((k : Int) != 0) = false := by rw [hz0]; rfl
      clear hz0 hz
      go_enter Tryz.func51, Tryz.ntmps51
      go_wp2_with (first
       | (go_at_call 34; (with_reducible refine (Qak p _ hp).mono ?_); rintro e w1 ⟨h1, hb⟩; rw [if_pos h0] at h1; obtain ⟨An, cn, rfl, hcn, hCn⟩ := h1; have HCN := am hCn; clear hCn; have n0_ := am (Qa zq0 hb); clear HB hb; have HB := n0_; clear n0_; have hk2_ := (HB.out.cell (p := ⟨b, 2, none⟩) hbl).trans hk2)
       | (go_at_call 33; (with_reducible refine (Qaq B b l _ An cn p _ (St.below HST.out zq0) HO.out HCN.out hcn).mono ?_); rintro e w2 ⟨h1, hb⟩; rw [HK.out] at h1; subst h1; have n0_ := am (Qa zq0 hb); clear HB hb; have HB := n0_; clear n0_; have hk2_ := (HB.out.cell (p := ⟨b, 2, none⟩) hbl).trans hk2; have hw2 := Qaf HW.out HB.out; have hC2 := Kd.C_below HC.out HB.out; obtain ⟨ad, A2, c2, A3, c3, hA, -, -, -, hx3, -, -, -, -⟩ := Qaz hC2 (k : Int) zq3 zq3; subst hA; rw [Int.toNat_natCast] at hx3; have hy0 := (Qab hw2 0).trans (show _ = some (Value.slice (some ad) l.length cap) from rfl); clear hw2 hC2)
       | (go_at_call 65; (with_reducible refine (Qan B b l _ k _ hkl (St.below HST.out zq0) hd).mono ?_); rintro e w9 ⟨rfl, h9⟩; subst w9)
       | (go_at_call 64; (with_reducible refine (Qau _ _).mono ?_); rintro e w9 ⟨rfl, h9⟩; subst w9)
       | (go_at_call 64; (with_reducible refine (Qaw 25 _).mono ?_); rintro e w9 ⟨rfl, h9⟩; subst w9; exact ⟨rfl, rfl, BW.mono zq0 hBw⟩))
     ·
      have hkz : ((k : Int) != 0) = true := bne_iff_ne.2 zq3
      have hne : (((rd_T52 l (k : Int)).f3.length : Int) == 0) = false := beq_eq_false_iff_ne.2 (fun h => hz.elim hz0 (fun h2 => h2 (List.length_eq_zero_iff.1 (Int.ofNat.inj h))))
      go_enter Tryz.func51, Tryz.ntmps51
      go_wp2_with (first
       | (go_at_call 34; (with_reducible refine (Qak p _ hp).mono ?_); rintro e w1 ⟨h1, hb⟩; rw [if_pos h0] at h1; obtain ⟨An, cn, rfl, hcn, hCn⟩ := h1; have HCN := am hCn; clear hCn; have n0_ := am (Qa zq0 hb); clear HB hb; have HB := n0_; clear n0_; have hk2_ := (HB.out.cell (p := ⟨b, 2, none⟩) hbl).trans hk2)
       | (go_at_call 33; (with_reducible refine (Qaq B b l _ An cn p _ (St.below HST.out zq0) HO.out HCN.out hcn).mono ?_); rintro e w2 ⟨h1, hb⟩; rw [HK.out] at h1; subst h1; have n0_ := am (Qa zq0 hb); clear HB hb; have HB := n0_; clear n0_; have hk2_ := (HB.out.cell (p := ⟨b, 2, none⟩) hbl).trans hk2; have hw2 := Qaf HW.out HB.out; have hC2 := Kd.C_below HC.out HB.out; obtain ⟨ad, A2, c2, A3, c3, hA, -, -, -, hx3, -, -, -, -⟩ := Qaz hC2 (k : Int) zq3 zq3; subst hA; rw [Int.toNat_natCast] at hx3; have hy0 := (Qab hw2 0).trans (show _ = some (Value.slice (some ad) l.length cap) from rfl); clear hw2 hC2)
       | (go_at_call 65; (with_reducible refine (Qan B b l _ k _ hkl (St.below HST.out zq0) hd).mono ?_); rintro e w9 ⟨rfl, h9⟩; subst w9)
       | (go_at_call 64; (with_reducible refine (Qau _ _).mono ?_); rintro e w9 ⟨rfl, h9⟩; subst w9)
       | (go_at_call 64; (with_reducible refine (Qaw 25 _).mono ?_); rintro e w9 ⟨rfl, h9⟩; subst w9; exact ⟨rfl, rfl, BW.mono zq0 hBw⟩))
    ·
     rw [if_neg hz]
     have hz0 : ¬ k = 0 := fun h => hz (.inl h)
     have hkz : ((k : Int) != 0) = true := bne_iff_ne.2 zq3
     have hze : (nd l k).f3 = [] := Classical.byContradiction fun h => hz (.inr h)
     have hne : (((rd_T52 l (k : Int)).f3.length : Int) == 0) = true := beq_iff_eq.2 (by show ((nd l k).f3.length : Int) = 0; rw [hze]; rfl)
     have hr : p ≠ rootP := fun h => by
      have h2 := HK.out
      rw [h, splitA_root] at h2
      injection h2 with h2
      exact hz0 h2.symm
     cases hs : spotF l p with
     | inr n =>
      dsimp only
      have HS := am hs
      clear hs
      go_enter Tryz.func51, Tryz.ntmps51
      go_wp2_with (first
       | (go_at_call 34; (with_reducible refine (Qak p _ hp).mono ?_); rintro e w1 ⟨h1, hb⟩; rw [if_pos h0] at h1; obtain ⟨An, cn, rfl, hcn, hCn⟩ := h1; have HCN := am hCn; clear hCn; have n0_ := am (Qa zq0 hb); clear HB hb; have HB := n0_; clear n0_; have hk2_ := (HB.out.cell (p := ⟨b, 2, none⟩) hbl).trans hk2)
       | (go_at_call 33; (with_reducible refine (Qaq B b l _ An cn p _ (St.below HST.out zq0) HO.out HCN.out hcn).mono ?_); rintro e w2 ⟨h1, hb⟩; rw [HK.out] at h1; subst h1; have n0_ := am (Qa zq0 hb); clear HB hb; have HB := n0_; clear n0_; have hk2_ := (HB.out.cell (p := ⟨b, 2, none⟩) hbl).trans hk2; have hw2 := Qaf HW.out HB.out; have hC2 := Kd.C_below HC.out HB.out; obtain ⟨ad, A2, c2, A3, c3, hA, -, -, -, hx3, -, -, -, -⟩ := Qaz hC2 (k : Int) zq3 zq3; subst hA; rw [Int.toNat_natCast] at hx3; have hy0 := (Qab hw2 0).trans (show _ = some (Value.slice (some ad) l.length cap) from rfl); clear hw2 hC2)
       | (go_at_call 65; (with_reducible refine (Qan B b l _ k _ hkl (St.below HST.out zq0) hd).mono ?_); rintro e w9 ⟨rfl, h9⟩; subst w9)
       | (go_at_call 64; (with_reducible refine (Qau _ _).mono ?_); rintro e w9 ⟨rfl, h9⟩; subst w9)
       | (go_at_call 74; (with_reducible refine (Qcb B b l _ p _ (St.below HST.out zq0) HO.out hp hr).mono ?_); rintro e w3 ⟨h1, hb⟩; rw [HS.out] at h1; subst h1; have n0_ := am (Qa zq0 hb); clear HB hb; have HB := n0_; clear n0_; have hk2_ := (HB.out.cell (p := ⟨b, 2, none⟩) hbl).trans hk2; exact ⟨rfl, rfl, BW.mono zq0 hBw⟩))
     | inl s =>
      obtain ⟨d, nm, o⟩ := s
      dsimp only
      have HS := am hs
      have hdl : d < l.length := (Qbb hs).choose_spec.2.2.2.2.1
      clear hs
      go_enter Tryz.func51, Tryz.ntmps51
      go_wp2_with (first
       | (go_at_call 34; (with_reducible refine (Qak p _ hp).mono ?_); rintro e w1 ⟨h1, hb⟩; rw [if_pos h0] at h1; obtain ⟨An, cn, rfl, hcn, hCn⟩ := h1; have HCN := am hCn; clear hCn; have n0_ := am (Qa zq0 hb); clear HB hb; have HB := n0_; clear n0_; have hk2_ := (HB.out.cell (p := ⟨b, 2, none⟩) hbl).trans hk2)
       | (go_at_call 33; (with_reducible refine (Qaq B b l _ An cn p _ (St.below HST.out zq0) HO.out HCN.out hcn).mono ?_); rintro e w2 ⟨h1, hb⟩; rw [HK.out] at h1; subst h1; have n0_ := am (Qa zq0 hb); clear HB hb; have HB := n0_; clear n0_; have hk2_ := (HB.out.cell (p := ⟨b, 2, none⟩) hbl).trans hk2; have hw2 := Qaf HW.out HB.out; have hC2 := Kd.C_below HC.out HB.out; obtain ⟨ad, A2, c2, A3, c3, hA, -, -, -, hx3, -, -, -, -⟩ := Qaz hC2 (k : Int) zq3 zq3; subst hA; rw [Int.toNat_natCast] at hx3; have hy0 := (Qab hw2 0).trans (show _ = some (Value.slice (some ad) l.length cap) from rfl); clear hw2 hC2)
       | (go_at_call 65; (with_reducible refine (Qan B b l _ k _ hkl (St.below HST.out zq0) hd).mono ?_); rintro e w9 ⟨rfl, h9⟩; subst w9)
       | (go_at_call 64; (with_reducible refine (Qau _ _).mono ?_); rintro e w9 ⟨rfl, h9⟩; subst w9)
       | (go_at_call 74; (with_reducible refine (Qcb B b l _ p _ (St.below HST.out zq0) HO.out hp hr).mono ?_); rintro e w3 ⟨h1, hb⟩; rw [HS.out] at h1; subst h1; have n0_ := am (Qa zq0 hb); clear HB hb; have HB := n0_; clear n0_; have hk2_ := (HB.out.cell (p := ⟨b, 2, none⟩) hbl).trans hk2; unfold spotV)
       | (go_at_call 77; (with_reducible refine (mcut_walk B b l _ d nm (nodeV o) _ hdl (St.below HST.out zq0) HO.out).mono ?_); rintro e w4 ⟨rfl, hst4, hb4⟩; have HST4 := am hst4; have HB4 := am (BW.trans (BW.mono zq0 hBw) hb4); clear hst4 hb4))
      go_end0
      exact ⟨⟨rfl, HST4.out⟩, HB4.out⟩
 ·
  rw [if_neg h0]
  dsimp only
  go_enter Tryz.func51, Tryz.ntmps51
  go_wp2_with (first
   | (go_at_call 34; (with_reducible refine (Qak p _ hp).mono ?_); rintro e w1 ⟨h1, hb⟩; rw [if_neg h0] at h1; subst h1; have n0_ := am (Qa zq0 hb); clear HB hb; have HB := n0_; clear n0_; have hk2_ := (HB.out.cell (p := ⟨b, 2, none⟩) hbl).trans hk2; exact ⟨rfl, rfl, BW.mono zq0 hBw⟩))
set_option maxHeartbeats 40000000 in
theorem rename_b (B b : Nat) (l : List S52) (x : Value) (p q : ByteArray) (rs : List Value) (w : World) (hst : St B b l (x :: .string p :: .string q :: rs) w) (ho : Ok l) (hp : p.size < 10000000) (hq : q.size < 10000000) (X : List S52 ⊕ Int) (h0 : (Qah p).2 = 0) (hzq : (Qah q).2 = 0) (hr : p ≠ rootP) (hrq : q ≠ rootP) (k : Nat) (hk : wk l (Qah p).1 0 = .inl k) (hC : ¬ ((nd l k).f0 = 2 ∧ q ≠ p ∧ Qbt q p = true)) (a : Nat × ByteArray × Option Nat) (hsa : spotF l p = .inl a) (n : Int) (hsb : spotF l q = .inr n) (hX : (match spotF l p with | .inr n => .inr n | .inl a => match spotF l q with | .inr n => .inr n | .inl c => moveF l k a c) = X) :
  Calls Tryz.prog 52 #[.pointer (some ⟨b, 0, none⟩)] w fun en w' => OpPost B b (x :: .string p :: .string q :: rs) w X en w' := by
 have Hhsa_ := am hsa
 clear hsa
 have Hhsb_ := am hsb
 clear hsb
 have hbl : b < w.heap.size := by obtain ⟨_, v, h, _⟩ := hst; exact Qai h
 have hBb : B ≤ b := hst.1
 have hBw : B ≤ w.heap.size := by omega
 have hk2 : w.cell? ⟨b, 2, none⟩ = some (.string p) := by obtain ⟨_, v, h, _⟩ := hst; exact (Qab h 2).trans rfl
 have hk3 : w.cell? ⟨b, 3, none⟩ = some (.string q) := by obtain ⟨_, v, h, _⟩ := hst; exact (Qab h 3).trans rfl
 obtain ⟨_, v, hw, hS⟩ := id hst
 obtain ⟨g, cap, rfl, hBg, hgl, -⟩ := Kd.S_form hS ho.wf.pos
 have HW := am hw
 have HS := am hS
 have hk0 : w.cell? ⟨b, 0, none⟩ = some (.slice (some ⟨g, 0, none⟩) l.length cap) := (Qab hw 0).trans rfl
 clear hw hS
 have HST := am hst
 have HO := am ho
 have HB := am (Below.refl w.heap.size w)
 clear hst ho
 have hpr : (p.toList == [47]) = false := beq_eq_false_iff_ne.2 fun h => hr (Qax (h.trans (beq_iff_eq.1 root_eq).symm))
 have hqr : (q.toList == [47]) = false := beq_eq_false_iff_ne.2 fun h => hrq (Qax (h.trans (beq_iff_eq.1 root_eq).symm))
 have hkl : k < l.length := wk_lt HO.out.wf HO.out.wf.pos hk
 have HK := am hk
 have HX := am hX
 clear hk hX
 have HCC := am hC
 clear hC
 go_enter Tryz.func52, Tryz.ntmps52
 go_wp2_with (first
  | (go_at_call 34; (with_reducible refine (Qak p _ hp).mono ?_); rintro e w1 ⟨h1, hb⟩; rw [if_pos h0] at h1; obtain ⟨An, cn, rfl, hcn, hCn⟩ := h1; have HCN := am hCn; clear hCn; have n0_ := am (Qa zq0 hb); clear HB hb; have HB := n0_; clear n0_; have hk2_ := (HB.out.cell (p := ⟨b, 2, none⟩) hbl).trans hk2; have hk3_ := (HB.out.cell (p := ⟨b, 3, none⟩) hbl).trans hk3)
  | (go_at_call 34; (with_reducible refine (Qak q _ hq).mono ?_); rintro e w1q ⟨h1, hb⟩; rw [if_pos hzq] at h1; obtain ⟨Anq, cnq, rfl, hcnq, hCn⟩ := h1; have HCNq := am hCn; clear hCn; have HCN2 := am (Kd.C_below HCN.out hb); have n0_ := am (Qa zq0 hb); clear HB hb; have HB := n0_; clear n0_; have hk2_ := (HB.out.cell (p := ⟨b, 2, none⟩) hbl).trans hk2; have hk3_ := (HB.out.cell (p := ⟨b, 3, none⟩) hbl).trans hk3)
  | (go_at_call 64; (with_reducible refine (Qau _ _).mono ?_); rintro e w9 ⟨rfl, h9⟩; subst w9)
  | (go_at_call 33; (with_reducible refine (Qaq B b l _ An cn p _ (St.below HST.out zq0) HO.out HCN2.out hcn).mono ?_); rintro e w2 ⟨h1, hb⟩; rw [HK.out] at h1; subst h1; have n0_ := am (Qa zq0 hb); clear HB hb; have HB := n0_; clear n0_; have hk2_ := (HB.out.cell (p := ⟨b, 2, none⟩) hbl).trans hk2; have hk3_ := (HB.out.cell (p := ⟨b, 3, none⟩) hbl).trans hk3))
 go_cut [] from 6 (fun w' => Below w.heap.size w w')
 case first =>
  cases hd : ((nd l k).f0 == 2) with
  | false =>
   go_quiet (first | (go_at_call 65; refine Calls.quiet_of_same (Qan B b l _ k _ hkl (St.below HST.out zq0) hd)) | (go_at_call 64; refine Calls.quiet_of_same (Qau _ _)))
   go_wp2
   go_meet
   case rel => exact zq0
  | true =>
   by_cases hqp : q = p
   ·
    have hqpb : (q.toList == p.toList) = true := by rw [hqp]; exact beq_self_eq_true _
    clear hqp
    go_quiet (first | (go_at_call 65; refine Calls.quiet_of_same (Qan B b l _ k _ hkl (St.below HST.out zq0) hd)) | (go_at_call 64; refine Calls.quiet_of_same (Qau _ _)))
    go_wp2
    go_meet
    case rel => exact zq0
   ·
    have hqpb : (q.toList == p.toList) = false := beq_eq_false_iff_ne.2 fun h => hqp (Qax h)
    cases hwi : Qbt q p with
    | true => exact absurd ⟨beq_iff_eq.1 hd, hqp, hwi⟩ HCC.out
    | false =>
     clear hqp
     go_region_held3 (fun w' => w'.cell? ⟨b, 2, none⟩ = some (.string p) ∧ w'.cell? ⟨b, 3, none⟩ = some (.string q)) (go_keep) (first | (go_at_call 65; (with_reducible refine (Qan B b l _ k _ hkl (St.below HST.out zq0) hd).mono ?_); rintro e w9 ⟨rfl, h9⟩; subst w9) | (go_at_call 78; (with_reducible refine (Qfj q p _ hq hp hwi).mono ?_); rintro e w7 ⟨rfl, hb⟩; have n0_ := am (Qa zq0 hb); clear HB hb; have HB := n0_; clear n0_; have hk2_ := (HB.out.cell (p := ⟨b, 2, none⟩) hbl).trans hk2; have hk3_ := (HB.out.cell (p := ⟨b, 3, none⟩) hbl).trans hk3) | (go_at_call 64; (with_reducible refine (Qau _ _).mono ?_); rintro e w9 ⟨rfl, h9⟩; subst w9))
     all_goals go_wp2
     all_goals go_meet
     all_goals exact zq0
 case rest =>
  clear HB
  have HB := am hcut
  have hk2_ := (HB.out.cell (p := ⟨b, 2, none⟩) hbl).trans hk2
  have hk3_ := (HB.out.cell (p := ⟨b, 3, none⟩) hbl).trans hk3
  clear hcut
  have hX := HX.out
  clear HX
  have hsa := Hhsa_.out
  clear Hhsa_
  have hsb := Hhsb_.out
  clear Hhsb_
  obtain ⟨d1, n1, o1⟩ := a
  have HSA := am hsa
  have hd1 : d1 < l.length := (Qbb hsa).choose_spec.2.2.2.2.1
  rw [hsa] at hX
  dsimp only at hX
  clear hsa
  rw [hsb] at hX
  dsimp only at hX
  subst hX
  have HSB := am hsb
  clear hsb
  have hszc := HB.out.size
  have hbnc := Nat.ne_of_gt (Nat.lt_of_lt_of_le hbl HB.out.size)
  have hbmc := Nat.ne_of_gt (Nat.lt_succ_of_lt (Nat.lt_of_lt_of_le hbl HB.out.size))
  go_wp2
  go_region_held2 (fun w' => w'.cell? ⟨b, 2, none⟩ = some (.string p) ∧ w'.cell? ⟨b, 3, none⟩ = some (.string q)) (first | exact hF.out.elim | go_keep) (first | (go_at_call 74; (with_reducible refine (Qcb B b l _ p _ (St.below HST.out zq0) HO.out hp hr).mono ?_); rintro e w3 ⟨h1, hb⟩; rw [HSA.out] at h1; subst h1; (try have qa := Qaf (Qat (Qal wc _)) hb); (try have qa := Qaf (Qat (Qaj (Qal wc _) _)) hb); (try have qb := Qaf (Qat (Qgh wc _ _)) hb); (try (have hza := Qai qa; have hzan := Nat.ne_of_lt hza)); (try (have hzb := Qai qb; have hzbn := Nat.ne_of_lt hzb)); (try (have qa0 : w3.cell? ⟨wc.heap.size, 0, none⟩ = some (.int .i64 0) := (Qab qa 0).trans rfl; have qaf0 : w3.frozen? ⟨wc.heap.size, 0, none⟩ = false := Qag qa 0; have qa1 : w3.cell? ⟨wc.heap.size, 1, none⟩ = some (.string ⟨#[]⟩) := (Qab qa 1).trans rfl; have qaf1 : w3.frozen? ⟨wc.heap.size, 1, none⟩ = false := Qag qa 1; have qa2 : w3.cell? ⟨wc.heap.size, 2, none⟩ = some (.int .i64 0) := (Qab qa 2).trans rfl; have qaf2 : w3.frozen? ⟨wc.heap.size, 2, none⟩ = false := Qag qa 2)); (try (have qb0 : w3.cell? ⟨wc.heap.size + 1, 0, none⟩ = some (.int .i64 0) := (Qab qb 0).trans rfl; have qbf0 : w3.frozen? ⟨wc.heap.size + 1, 0, none⟩ = false := Qag qb 0; have qb1 : w3.cell? ⟨wc.heap.size + 1, 1, none⟩ = some (.string ⟨#[]⟩) := (Qab qb 1).trans rfl; have qbf1 : w3.frozen? ⟨wc.heap.size + 1, 1, none⟩ = false := Qag qb 1; have qb2 : w3.cell? ⟨wc.heap.size + 1, 2, none⟩ = some (.int .i64 0) := (Qab qb 2).trans rfl; have qbf2 : w3.frozen? ⟨wc.heap.size + 1, 2, none⟩ = false := Qag qb 2)); have hs3 := hb.size; (try simp at hs3); have n0_ := am (Qa zq0 hb); clear HB hb; have HB := n0_; clear n0_; have hk2_ := (HB.out.cell (p := ⟨b, 2, none⟩) hbl).trans hk2; have hk3_ := (HB.out.cell (p := ⟨b, 3, none⟩) hbl).trans hk3; have hbn3 := Nat.ne_of_gt (Nat.lt_of_lt_of_le hbl HB.out.size); have hbm3 := Nat.ne_of_gt (Nat.lt_succ_of_lt (Nat.lt_of_lt_of_le hbl HB.out.size)); have hsz_ := HB.out.size; unfold spotV; dsimp only) | (go_at_call 74; (with_reducible refine Qbn (v := .agg #[.int .i64 0, .string p, .int .i64 0]) ((Qcb B b l _ q _ (St.below HST.out zq0) HO.out hq hrq).mono ?_) ?_); (rintro e w4 ⟨h1, hb⟩; rw [HSB.out] at h1; subst h1; have n0_ := am (Qa zq0 hb); clear HB hb; have HB := n0_; clear n0_; have hk2_ := (HB.out.cell (p := ⟨b, 2, none⟩) hbl).trans hk2; have hk3_ := (HB.out.cell (p := ⟨b, 3, none⟩) hbl).trans hk3; exact ⟨rfl, rfl, BW.mono zq0 hBw⟩); (intro hF0; have hF := am hF0; clear hF0; dsimp only)))
  all_goals exact hF.out.elim
end
end Go.Proofs.YtbhjggbijkjmnaaGreatDoor.PZ
end
