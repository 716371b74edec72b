import Derived.Test.YtbhjggbijkjmnaaGreatDoorM16
import Derived.Test.YtbhjggbijkjmnaaGreatDoorM08
import Derived.BigQuiet
import Derived.Deep.QuietTactic
set_option linter.unusedVariables false
set_option linter.unusedSimpArgs false
section
namespace Go.Proofs.YtbhjggbijkjmnaaGreatDoor.PZ
open Go.RowKit Go.Proofs.YtbhjggbijkjmnaaGreatDoorW.PrintWords Go.Proofs.YtbhjggbijkjmnaaGreatDoorW.PrintLast Go.Proofs.YtbhjggbijkjmnaaGreatDoorW.PrintMore Go.Proofs.YtbhjggbijkjmnaaGreatDoor.B Go.Proofs.YtbhjggbijkjmnaaGreatDoor.Ord TD
set_option maxRecDepth 100000
theorem rname_call (p : ByteArray) (w : World) : Calls Tryz.prog 73 #[.string p] w fun e w' => e = .returned (.bool (nameB p)) ∧ ∃ m, w' = w.drewN m := by
 obtain ⟨k, hk⟩ := (name_ev p).rounds
 exact (moraineref10_Name.calls k p _ w hk).mono fun _ _ h => ⟨h.1, h.2.out⟩
def nodeN (x : S52) (n : Nat) : Bool :=
 if x.f0 = 1 then decide (x.f3.length = 0) && decide (x.f2.length ≤ 46368) && decide (1 ≤ x.f1) && decide (x.f1 ≤ 200)
 else decide (x.f0 = 2) && decide (x.f2.length = 0) && decide (x.f3.length ≤ 64) && sanE n x.f3 none
theorem bad_or (n : Nat) (e : S62) (nb : Bool) (p : Option ByteArray) (h : okE n e = (nb && decide (1 ≤ e.f1) && decide (e.f1 < (n : Int)))) :
  (nb = false ∧ (okE n e && okP p e) = false) ∨ (nb = true ∧ e.f1 < 1 ∧ (okE n e && okP p e) = false) ∨ (nb = true ∧ ¬ e.f1 < 1 ∧ (n : Int) ≤ e.f1 ∧ (okE n e && okP p e) = false) ∨ (nb = true ∧ ¬ e.f1 < 1 ∧ ¬ (n : Int) ≤ e.f1) := by
 rw [h]
 cases nb with
 | false => exact .inl ⟨rfl, rfl⟩
 | true =>
  by_cases h1 : e.f1 < 1
  · exact .inr (.inl ⟨rfl, h1, by rw [decide_eq_false (show ¬ 1 ≤ e.f1 by omega)]; rfl⟩)
  ·
   by_cases h2 : (n : Int) ≤ e.f1
   · exact .inr (.inr (.inl ⟨rfl, h1, h2, by rw [decide_eq_false (show ¬ e.f1 < (n : Int) by omega), Bool.and_false]; rfl⟩))
   · exact .inr (.inr (.inr ⟨rfl, h1, h2⟩))
set_option maxHeartbeats 4000000 in
theorem rnode (x : S52) (n : Nat) (A2 : Option Addr) (c2 : Nat) (A3 : Option Addr) (c3 : Nat) (w : World) (hn : n < 1000000000000) (hl : x.f3.length < 1000000000000) (hr3 : Kd.C k62 w A3 x.f3.length x.f3) (hc3 : x.f3.length ≤ c3) :
  Calls Tryz.prog 41 #[.agg #[.int .i64 x.f0, .int .i64 x.f1, .slice A2 x.f2.length c2, .slice A3 x.f3.length c3], .int .i64 n] w fun e w' => e = .returned (.bool (nodeN x n)) ∧ Below w.heap.size w w' := by
 have HR := am hr3
 clear hr3
 obtain ⟨x0, x1, x2, x3⟩ := x
 dsimp only at *
 by_cases k1 : x0 = 1
 ·
  subst k1
  have HS := am (show nodeN ⟨1, x1, x2, x3⟩ n = (decide (x3.length = 0) && decide (x2.length ≤ 46368) && decide (1 ≤ x1) && decide (x1 ≤ 200)) from rfl)
  rcases Classical.em (x3.length = 0) with p1 | p1
  ·
   have b1 : ((x3.length : Int) == 0) = true := beq_iff_eq.2 zq3
   rcases Classical.em (x2.length ≤ 46368) with p2 | p2
   ·
    have b2 : decide ((x2.length : Int) ≤ 46368) = true := decide_eq_true zq3
    rcases Classical.em (1 ≤ x1) with p3 | p3
    ·
     have b3 : decide (x1 ≥ 1) = true := decide_eq_true p3
     have b3' : decide (1 ≤ x1) = true := decide_eq_true p3
     rw [decide_eq_true p1, decide_eq_true p2, b3'] at HS
     have b2' : decide (x2.length ≤ 46368) = true := decide_eq_true p2
     clear p1 p2 p3
     go_enter Tryz.func41, Tryz.ntmps41
     go_wp2
     go_ret
     exact ⟨by rw [HS.out]; rfl, Qaa (Below.refl _ _) _⟩
    ·
     have b3 : decide (x1 ≥ 1) = false := decide_eq_false p3
     have b3' : decide (1 ≤ x1) = false := decide_eq_false p3
     rw [decide_eq_true p1, decide_eq_true p2, b3'] at HS
     have b2' : decide (x2.length ≤ 46368) = true := decide_eq_true p2
     clear p1 p2 p3
     go_enter Tryz.func41, Tryz.ntmps41
     go_wp2
     go_ret
     exact ⟨by rw [HS.out]; rfl, Qaa (Below.refl _ _) _⟩
   ·
    have b2 : decide ((x2.length : Int) ≤ 46368) = false := decide_eq_false zq3
    have b2' : decide (x2.length ≤ 46368) = false := decide_eq_false p2
    rw [decide_eq_true p1, b2'] at HS
    clear p1 p2
    go_enter Tryz.func41, Tryz.ntmps41
    go_wp2
    go_ret
    exact ⟨by rw [HS.out]; rfl, Qaa (Below.refl _ _) _⟩
  ·
   have b1 : ((x3.length : Int) == 0) = false := beq_eq_false_iff_ne.2 zq3
   have b1' : ¬ x3 = [] := fun h => p1 (by rw [h]; rfl)
   rw [decide_eq_false p1] at HS
   clear p1
   go_enter Tryz.func41, Tryz.ntmps41
   go_wp2
   go_ret
   exact ⟨by rw [HS.out]; rfl, Qaa (Below.refl _ _) _⟩
 ·
  have b0 : (x0 == 1) = false := beq_eq_false_iff_ne.2 k1
  have HS := am (show nodeN ⟨x0, x1, x2, x3⟩ n = (decide (x0 = 2) && decide (x2.length = 0) && decide (x3.length ≤ 64) && sanE n x3 none) by unfold nodeN; rw [if_neg k1])
  clear k1
  rcases Classical.em (x0 = 2) with k2 | k2
  ·
   subst k2
   rcases Classical.em (x2.length = 0) with p1 | p1
   ·
    have b1 : ¬ 0 < x2.length := by omega
    have b1c : decide ((x2.length : Int) > 0) = false := decide_eq_false zq3
    have b1d : decide (0 < x2.length) = false := decide_eq_false b1
    rcases Classical.em (x3.length ≤ 64) with p2 | p2
    ·
     have b2 : ¬ 64 < x3.length := by omega
     have b2c : decide ((x3.length : Int) > 64) = false := decide_eq_false zq3
     have b2d : decide (64 < x3.length) = false := decide_eq_false b2
     rw [decide_eq_true p1, decide_eq_true p2] at HS
     have HSN := am (show nodeN ⟨2, x1, x2, x3⟩ n = sanE n x3 none from HS.out)
     clear p1 p2 HS
     go_enter Tryz.func41, Tryz.ntmps41
     go_wp2
     go_loopw [5] (fun v5 wr => ∃ k : Nat, k ≤ x3.length ∧ v5 = .int .i64 k ∧ Aside0 (sanE n (x3.drop k) (prevE x3 k) = sanE n x3 none) ∧ Aside0 (Below (boxN w x1 A2 x2.length c2 A3 x3.length c3).heap.size (boxN w x1 A2 x2.length c2 A3 x3.length c3) wr)) (fun v5 _ => x3.length - (intOf v5).toNat)
     case atStart => exact ⟨0, Nat.zero_le _, rfl, ⟨rfl⟩, ⟨Below.refl _ _⟩⟩
     case round =>
      obtain ⟨k, hk, rfl, HE, HB⟩ := hrel
      obtain ⟨hb2, hb3, hbl, hbw⟩ := boxN_cell HB.out
      have HBW := am hbw
      clear hbw
      by_cases hlt : k < x3.length
      ·
       have hki : (k : Int) < (x3.length : Int) := by omega
       have HE2 := am (HE.out.symm.trans (sanE_step hlt))
       obtain ⟨ad, rfl, hx0, hx1⟩ := Qbg HR.out (k : Int) zq3 zq3
       rw [Int.toNat_natCast] at hx0 hx1
       replace hx0 := (HBW.out.cell (World.block_lt_of_cell? w _ hx0)).trans hx0
       replace hx1 := (HBW.out.cell (World.block_lt_of_cell? w _ hx1)).trans hx1
       obtain ⟨e, he⟩ : ∃ e, rd_T62 x3 (k : Int) = e := ⟨_, rfl⟩
       rw [he] at hx0 hx1 HE2
       have hbq : Below wr.heap.size wr (wr.alloc (.cells #[.string e.f0, .int .i64 e.f1] 62)) := Qaa (Below.refl _ _) _
       have hq := Qal wr (.cells #[.string e.f0, .int .i64 e.f1] 62)
       go_wp2
       generalize wr.alloc (.cells #[.string e.f0, .int .i64 e.f1] 62) = wq at hbq hq ⊢
       have he0 := (Qab hq 0).trans (show _ = some (Value.string e.f0) from rfl)
       have he1 := (Qab hq 1).trans (show _ = some (Value.int .i64 e.f1) from rfl)
       replace hb3 := (hbq.cell hbl).trans hb3
       have hbl2 := Nat.lt_of_lt_of_le hbl hbq.size
       have HBQ := am (Qa HBW.out hbq)
       have HBR := am (Qa HB.out hbq)
       have hOK : okE n e = (nameB e.f0 && decide (1 ≤ e.f1) && decide (e.f1 < (n : Int))) := rfl
       have HOK := am hOK
       obtain ⟨nb, hnb⟩ : ∃ nb, nameB e.f0 = nb := ⟨_, rfl⟩
       have HNB := am (fun W => hnb ▸ rname_call e.f0 W)
       rw [hnb] at HOK
       clear hx0 hx1 hb2 hq hnb hOK he
       rcases bad_or n e nb (prevE x3 k) HOK.out with ⟨rfl, h⟩ | ⟨rfl, q1, h⟩ | ⟨rfl, q1, q2, h⟩ | ⟨rfl, q1, q2⟩
       case inr.inr.inr =>
        rcases Nat.eq_zero_or_pos k with k0 | k0
        ·
         have k0b : decide ((k : Int) > 0) = false := decide_eq_false zq3
         have k0c : decide (0 < k) = false := decide_eq_false zq3
         have HS := am (show sanE n x3 none = sanE n (x3.drop (k + 1)) (prevE x3 (k + 1)) by rw [HE2.out, HOK.out, show prevE x3 k = none by unfold prevE; rw [if_pos k0], decide_eq_true (show 1 ≤ e.f1 by omega), decide_eq_true (show e.f1 < (n : Int) by omega)]; rfl)
         clear k0
         go_quiet ((go_at_call 73; exact Calls.quiet_of (HNB.out _)))
         go_wp2
         go_roundw
         case rel => exact ⟨k + 1, by omega, rfl, ⟨HS.out.symm⟩, ⟨by repeat (first | exact HBR.out | with_reducible apply Qac | with_reducible apply Qad)⟩⟩
         case measure => simp [intOf]; omega
        ·
         have k0b : decide ((k : Int) > 0) = true := decide_eq_true zq3
         have k0c : decide (0 < k) = true := decide_eq_true k0
         have k1n : (k : Int) - 1 = ((k - 1 : Nat) : Int) := by omega
         have k1l : ((k - 1 : Nat) : Int) < (x3.length : Int) := by omega
         obtain ⟨ad', e', hy0, -⟩ := Qbg HR.out ((k - 1 : Nat) : Int) zq3 zq3
         cases e'
         rw [Int.toNat_natCast] at hy0
         replace hy0 := (HBQ.out.cell (World.block_lt_of_cell? w _ hy0)).trans hy0
         have hyl : (ad.add ((k - 1) * 2)).block < wq.heap.size := World.block_lt_of_cell? wq _ hy0
         have HS := am (show sanE n x3 none = (lts (rd_T62 x3 ((k - 1 : Nat) : Int)).f0 e.f0 && sanE n (x3.drop (k + 1)) (prevE x3 (k + 1))) by
          rw [HE2.out, HOK.out, show prevE x3 k = some (rd_T62 x3 ((k - 1 : Nat) : Int)).f0 by unfold prevE; rw [if_neg zq3], decide_eq_true (show 1 ≤ e.f1 by omega), decide_eq_true (show e.f1 < (n : Int) by omega)]; rfl)
         generalize (rd_T62 x3 ((k - 1 : Nat) : Int)).f0 = pv at hy0 HS
         unfold lts at HS
         cases hlb : Op.bytesLess pv.toList e.f0.toList with
         | false =>
          rw [hlb] at HS
          go_quiet ((go_at_call 73; exact Calls.quiet_of (HNB.out _)))
          go_wp2
          go_ret
          exact ⟨by rw [HSN.out, HS.out]; rfl, by repeat (first | exact HBQ.out | with_reducible apply Qac | with_reducible apply Qad)⟩
         | true =>
          rw [hlb] at HS
          go_quiet ((go_at_call 73; exact Calls.quiet_of (HNB.out _)))
          go_wp2
          go_roundw
          case rel => exact ⟨k + 1, by omega, rfl, ⟨HS.out.symm⟩, ⟨by repeat (first | exact HBR.out | with_reducible apply Qac | with_reducible apply Qad)⟩⟩
          case measure => simp [intOf]; omega
       all_goals
        have HF := am (HE2.out.trans (by rw [h]; rfl : _ = false))
        clear h
        go_quiet ((go_at_call 73; exact Calls.quiet_of (HNB.out _)))
        go_wp2
        go_ret
        exact ⟨by rw [HSN.out, HF.out]; rfl, by repeat (first | exact HBQ.out | with_reducible apply Qac | with_reducible apply Qad)⟩
      ·
       have hke : k = x3.length := by omega
       subst hke
       have HS := am (HE.out.symm.trans (by rw [List.drop_length]; rfl : _ = true))
       go_wp2
       go_ret
       exact ⟨by rw [HSN.out, HS.out]; rfl, HBW.out⟩
    ·
     have b2 : 64 < x3.length := by omega
     have b2c : decide ((x3.length : Int) > 64) = true := decide_eq_true zq3
     have b2d : decide (64 < x3.length) = true := decide_eq_true b2
     rw [decide_eq_true p1, decide_eq_false p2] at HS
     clear p1 p2
     go_enter Tryz.func41, Tryz.ntmps41
     go_wp2
     go_ret
     exact ⟨by rw [HS.out]; rfl, Qaa (Below.refl _ _) _⟩
   ·
    have b1 : 0 < x2.length := by omega
    have b1c : decide ((x2.length : Int) > 0) = true := decide_eq_true zq3
    have b1d : decide (0 < x2.length) = true := decide_eq_true b1
    rw [decide_eq_false p1] at HS
    clear p1
    go_enter Tryz.func41, Tryz.ntmps41
    go_wp2
    go_ret
    exact ⟨by rw [HS.out]; rfl, Qaa (Below.refl _ _) _⟩
  ·
   have b0' : (x0 != 2) = true := bne_iff_ne.2 k2
   rw [decide_eq_false k2] at HS
   clear k2
   go_enter Tryz.func41, Tryz.ntmps41
   go_wp2
   go_ret
   exact ⟨by rw [HS.out]; rfl, Qaa (Below.refl _ _) _⟩
end Go.Proofs.YtbhjggbijkjmnaaGreatDoor.PZ
end
