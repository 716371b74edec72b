import Derived.Test.YtbhjggbijkjmnaaGreatDoorM35
import Derived.Test.YtbhjggbijkjmnaaGreatDoorM13
import Derived.Test.YtbhjggbijkjmnaaGreatDoorM15
import Derived.Deep.RegionHeld2
set_option linter.unusedVariables false
set_option linter.unusedSimpArgs false
section
namespace Go.Proofs.YtbhjggbijkjmnaaGreatDoor.PZ
open Go.RowKit Go.Proofs.YtbhjggbijkjmnaaGreatDoorW.PrintWords Go.Proofs.YtbhjggbijkjmnaaGreatDoorW.PrintLast Go.Proofs.YtbhjggbijkjmnaaGreatDoorW.PrintMore Go.Proofs.YtbhjggbijkjmnaaGreatDoor.B Go.Proofs.YtbhjggbijkjmnaaGreatDoor.Ord TD
set_option maxRecDepth 100000
theorem blk_new3 (w : World) (p : Addr) (v : Value) (o : Obj) : ((w.setCell p v).alloc o).heap[w.heap.size]? = some o := by
 have h := Qal (w.setCell p v) o
 rwa [World.size_setCell] at h
theorem one_string (w : World) (x : ByteArray) : Kd.C Kd.string (w.alloc (.cells #[.string x] 9)) (some ⟨w.heap.size, 0, none⟩) 1 [x] :=
 ⟨rfl, by decide, fun _ => ⟨_, rfl, fun j p hj => by
  cases j with
  | zero =>
   obtain rfl := Option.some.inj hj
   refine ⟨[.string x], rfl, rfl, fun i u hu => ?_⟩
   cases i with
   | zero =>
    obtain rfl := Option.some.inj hu
    exact (Qab (Qal w (.cells #[.string x] 9)) 0).trans rfl
   | succ i => simp at hu
  | succ j => simp at hj⟩⟩
theorem sametexts_lit (A0 : Option Addr) (c0 : Nat) (A1 : Option Addr) (c1 : Nat) (x : ByteArray) (w : World) (h0 : Kd.C Kd.string w A0 1 [x]) (hc0 : 1 ≤ c0) (h1 : Kd.C Kd.string w A1 1 [x]) (hc1 : 1 ≤ c1) :
  Calls Tryz.prog 21 #[.slice A0 1 c0, .slice A1 1 c1] w fun e w' => e = .returned (.bool true) ∧ Below w.heap.size w w' :=
 (Qej A0 c0 [x] A1 c1 [x] w h0 hc0 h1 hc1 (by show 1 < 1000000000000; decide)).mono (by
  rintro e w' ⟨⟨r, rfl, hr⟩, hb⟩
  exact ⟨by rw [hr.2 rfl], hb⟩)
set_option maxHeartbeats 8000000 in
theorem alive_walk (w : World) :
  Calls Tryz.prog 5 #[] w fun e w' => e = .returned (.bool true) ∧ Below w.heap.size w w' := by
 go_enter Tryz.func5, Tryz.ntmps5
 go_wp2_with (first
  | (go_at_call 6; (with_reducible refine (new_walk _).mono ?_); rintro e w1 ⟨v, rfl, hs, hb⟩; obtain ⟨An, cn, hv, hcn, hC⟩ := Kd.S_reads hs; subst hv; have HN := am (show al0.length ≤ cn ∧ Kd.C k52 w1 An al0.length al0 from ⟨hcn, hC⟩); have HB1 := am hb; clear hs hb hC hcn)
  | (go_at_call 11; (with_reducible refine (do_call0 An 1 cn al0 rfl 2 ⟨#[47, 97]⟩ ⟨#[]⟩ 0 0 _ HN.out.2 HN.out.1 rt_root zq9 zq9).mono ?_); rintro e w2 h; rw [al_mk'] at h; obtain ⟨A1, c1, A2, c2, A3, c3, rfl, hh, hb⟩ := h; have HH1 := am hh; have HB2 := am (Qa HB1.out hb); clear hh hb)
  | (go_at_call 11; (with_reducible refine (do_call0 A1 al1.length c1 al1 rfl 1 ⟨#[47, 97, 47, 98]⟩ ⟨#[]⟩ 0 0 _ (Kd.C_below HH1.out.rows zq1) HH1.out.cap rt_al1 zq9 zq9).mono ?_); rintro e w3 h; rw [al_cr'] at h; obtain ⟨A4, c4, A5, c5, A6, c6, rfl, hh, hb⟩ := h; have HH2 := am hh; have HV1 := am (HH1.out.laid hb); have HB3 := am (Qa (w := w) zq11 hb); have HS := am (show Hold w2.heap.size al2 A4 c4 (w3.setCell ⟨w2.heap.size, 0, none⟩ (.slice A4 al2.length c4)) from ⟨Qap (cs := #[.slice A1 al1.length c1]) HV1.out.1.blk 0 _ rfl, HH2.out.cap, Qet HV1.out.1.blk HH2.out.rows _⟩); have HSa := am (Qam (p := ⟨w2.heap.size, 0, none⟩) HV1.out.2.blk (by show w2.heap.size + 1 ≠ w2.heap.size; omega) (.slice A4 al2.length c4)); have HSb := am (blk_new3 w3 ⟨w2.heap.size, 0, none⟩ (.slice A4 al2.length c4) (resO ⟨0, [], [], 0, 0, 0⟩ A5 c5 A6 c6)); have HB3 := am ((Qa (w := w) zq11 hb).setCell (p := ⟨w2.heap.size, 0, none⟩) HB2.out.size (.slice A4 al2.length c4)); have hv1 := HV1.out.1.cells; have hv1f := Qag HV1.out.1.blk 0; clear hh hb; obtain ⟨hv1, hv1l⟩ := hv1)
  | (go_at_call 11; (with_reducible refine (do_call0 A4 al2.length c4 al2 rfl 11 ⟨#[47, 97]⟩ ⟨#[]⟩ 0 0 _ (Kd.C_alloc HS.out.rows _) HS.out.cap rt_al2 zq9 zq9).mono ?_); rintro e w4 h; obtain ⟨l3, h3⟩ := al_ls'; rw [h3] at h; clear h3; obtain ⟨A7, c7, A8, c8, A9, c9, rfl, hh, hb⟩ := h; have HH3 := am hh; have K1 := am (HS.out.below (Qa zq1 hb)); have K2 := am (Qaf (Qaj HSa.out _) hb); have K3 := am (Qaf HSb.out hb); have HB4 := am (Qa (w := w) (by repeat (first | exact HB3.out | with_reducible apply Qac | with_reducible apply Qad | with_reducible apply Qaa)) hb); clear hv1 hv1f hv1l; obtain ⟨hv1, hv1l⟩ := K1.out.cells; have hv2 := (Qab K2.out 0).trans (show _ = some (Value.int .i64 0) from rfl); have hv2l := Qai K2.out; have hv3 := (Qab K3.out 0).trans (show _ = some (Value.int .i64 0) from rfl); have hv3l := Qai K3.out; clear hh hb)
  | (go_at_call 11; (with_reducible refine (do_call0 A4 al2.length c4 al2 rfl 5 ⟨#[47, 97]⟩ ⟨#[]⟩ 0 0 _ (Kd.C_below K1.out.rows zq1) K1.out.cap rt_al2 zq9 zq9).mono ?_); rintro e w5 h; obtain ⟨l4, h4⟩ := al_rd'; rw [h4] at h; clear h4; obtain ⟨Aa, ca, Ab, cb, Ac, cc, rfl, hh, hb⟩ := h; have HH4 := am hh; have L1 := am (K1.out.below (Qa zq1 hb)); have L2 := am (Qaf (Qaj (Qaj K2.out _) _) hb); have L3 := am (Qaf (Qaj (Qaj K3.out _) _) hb); have L5 := am (HH3.out.laid hb).2; have HB5 := am (Qa (w := w) (by repeat (first | exact HB4.out | with_reducible apply Qac | with_reducible apply Qad | with_reducible apply Qaa)) hb); clear hv1 hv1l hv2 hv2l hv3 hv3l; obtain ⟨hv1, hv1l⟩ := L1.out.cells; have hv2 := (Qab L2.out 0).trans (show _ = some (Value.int .i64 0) from rfl); have hv2l := Qai L2.out; have hv3 := (Qab L3.out 0).trans (show _ = some (Value.int .i64 0) from rfl); have hv3l := Qai L3.out; have hv5 := (Qab L5.out.blk 2).trans (show _ = some (Value.slice A9 1 c9) from rfl); have hv5l := Qai L5.out.blk; clear hh hb)
  | (go_at_call 17; (with_reducible refine (find_ok A4 c4 al2 ⟨#[47, 97, 47, 98]⟩ _ (Kd.C_below L1.out.rows zq1) L1.out.cap rt_al2 zq9).mono ?_); rintro e w6 ⟨rfl, hb⟩; rw [al_find]; have M1 := am (L1.out.below (Qa zq1 hb)); have M2 := am (Qaf (Qaj (Qaj L2.out _) _) hb); have M3 := am (Qaf (Qaj (Qaj L3.out _) _) hb); have M5 := am (L5.out.below (Qa zq1 hb)); have M7 := am (HH4.out.laid hb).2; have HB6 := am (Qa (w := w) (by repeat (first | exact HB5.out | with_reducible apply Qac | with_reducible apply Qad | with_reducible apply Qaa)) hb); clear hv1 hv1l hv2 hv2l hv3 hv3l hv5 hv5l; obtain ⟨hv1, hv1l⟩ := M1.out.cells; have hv2 := (Qab M2.out 0).trans (show _ = some (Value.int .i64 0) from rfl); have hv2l := Qai M2.out; have hv3 := (Qab M3.out 0).trans (show _ = some (Value.int .i64 0) from rfl); have hv3l := Qai M3.out; have hv5 := (Qab M5.out.blk 2).trans (show _ = some (Value.slice A9 1 c9) from rfl); have hv5l := Qai M5.out.blk; have hv7 := (Qab M7.out.blk 0).trans (show _ = some (Value.int .i64 25) from rfl); have hv7l := Qai M7.out.blk; clear hb)
  | (go_at_call 21; have M5r := am (show Kd.C Kd.string w6 A9 1 [⟨#[98]⟩] from M5.out.rows2); have M5c := am (show 1 ≤ c9 from M5.out.cap2); (with_reducible refine (sametexts_lit A9 c9 _ 1 ⟨#[98]⟩ _ (Kd.C_below M5r.out zq1) M5c.out (one_string w6 ⟨#[98]⟩) (Nat.le_refl _)).mono ?_); rintro e w7 ⟨rfl, hb⟩; have N1 := am (M1.out.below (Qa zq1 hb)); have N7 := am (M7.out.below (Qa zq1 hb)); have HB7 := am (Qa (w := w) (by repeat (first | exact HB6.out | with_reducible apply Qac | with_reducible apply Qad | with_reducible apply Qaa)) hb); clear hv1 hv1l hv2 hv2l hv3 hv3l hv5 hv5l hv7 hv7l; obtain ⟨hv1, hv1l⟩ := N1.out.cells; have hv7 := (Qab N7.out.blk 0).trans (show _ = some (Value.int .i64 25) from rfl); have hv7l := Qai N7.out.blk; clear hb)
  | (go_at_call 19; (with_reducible refine (Qd A4 c4 al2 _ N1.out.cap (Kd.C_below N1.out.rows zq1) (Qdo rt_al2).1 (fun k => ((Qdo rt_al2).2 k).2)).mono ?_); rintro e w8 ⟨rfl, hb⟩; rw [(Qci al2).2 rt_al2]; have HB8 := am (Qa (w := w) (by repeat (first | exact HB7.out | with_reducible apply Qac | with_reducible apply Qad | with_reducible apply Qaa)) hb); clear hb))
 go_ret
 exact ⟨rfl, HB8.out⟩

theorem part_le (b : List Int) (a n : Int) : (partF b a n).length ≤ b.length := by
 unfold partF
 rw [List.length_take, List.length_drop]
 omega
theorem plain_in {X : List S52 ⊕ Int} {l' : List S52} {r : S37} (h : plain X = .inl (l', r)) : X = .inl l' ∧ r = res0 := by
 cases X with
 | inl l => injection h with h; injection h with h h2; subst h; exact ⟨rfl, h2.symm⟩
 | inr m => cases h
section
variable {g : Nat} {a b c d e f : Value} {w W : World}
end
theorem do_small {l : List S52} (h : Rt l) (o : S31) : (doF l o).2.f1.length ≤ 46368 ∧ (doF l o).2.f2.length ≤ 64 := by
 have h0 : (res0.f1.length ≤ 46368) ∧ (res0.f2.length ≤ 64) := ⟨Nat.zero_le _, Nat.zero_le _⟩
 unfold doF
 cases hw : workF l o with
 | inr e => exact h0
 | inl s =>
  obtain ⟨l', r⟩ := s
  show r.f1.length ≤ 46368 ∧ r.f2.length ≤ 64
  have hp : ∀ {X : List S52 ⊕ Int}, plain X = .inl (l', r) → r.f1.length ≤ 46368 ∧ r.f2.length ≤ 64 := fun h => by rw [(plain_in h).2]; exact h0
  unfold workF at hw
  by_cases e1 : o.f0 = 1
  · rw [if_pos e1] at hw; exact hp hw
  rw [if_neg e1] at hw
  by_cases e2 : o.f0 = 2
  · rw [if_pos e2] at hw; exact hp hw
  rw [if_neg e2] at hw
  by_cases e3 : o.f0 = 3
  · rw [if_pos e3] at hw; exact hp hw
  rw [if_neg e3] at hw
  by_cases e4 : o.f0 = 4
  · rw [if_pos e4] at hw; exact hp hw
  rw [if_neg e4] at hw
  by_cases e5 : o.f0 = 5
  · rw [if_pos e5] at hw; exact hp hw
  rw [if_neg e5] at hw
  by_cases e6 : o.f0 = 6
  · rw [if_pos e6] at hw; exact hp hw
  rw [if_neg e6] at hw
  by_cases e7 : o.f0 = 7
  ·
   rw [if_pos e7] at hw
   split at hw
   ·
    rename_i d hd
    injection hw with hw; injection hw with _ hw; rw [← hw]
    refine ⟨?_, Nat.zero_le _⟩
    show d.length ≤ 46368
    unfold readF at hd
    split at hd
    · cases hd
    ·
     split at hd
     ·
      injection hd with hd
      rw [← hd]
      exact Nat.le_trans (part_le _ _ _) (h.pr.size _)
     · cases hd
   · cases hw
  rw [if_neg e7] at hw
  by_cases e8 : o.f0 = 8
  ·
   rw [if_pos e8] at hw
   split at hw
   · injection hw with hw; injection hw with _ hw; rw [← hw]; exact ⟨Nat.zero_le _, Nat.zero_le _⟩
   · cases hw
  rw [if_neg e8] at hw
  by_cases e9 : o.f0 = 9
  · rw [if_pos e9] at hw; exact hp hw
  rw [if_neg e9] at hw
  by_cases e10 : o.f0 = 10
  ·
   rw [if_pos e10] at hw
   split at hw
   · injection hw with hw; injection hw with _ hw; rw [← hw]; exact ⟨Nat.zero_le _, Nat.zero_le _⟩
   · cases hw
  rw [if_neg e10] at hw
  by_cases e11 : o.f0 = 11
  ·
   rw [if_pos e11] at hw
   split at hw
   ·
    rename_i ns hn
    injection hw with hw; injection hw with _ hw; rw [← hw]
    refine ⟨Nat.zero_le _, ?_⟩
    show ns.length ≤ 64
    unfold listF at hn
    split at hn
    · cases hn
    ·
     split at hn
     ·
      injection hn with hn
      rw [← hn, List.length_map]
      exact h.pr.ents _
     · cases hn
   · cases hw
  rw [if_neg e11] at hw
  by_cases e12 : o.f0 = 12
  ·
   rw [if_pos e12] at hw
   injection hw with hw; injection hw with _ hw; rw [← hw]; exact h0
  rw [if_neg e12] at hw
  by_cases e13 : o.f0 = 13
  ·
   rw [if_pos e13] at hw
   split at hw
   · injection hw with hw; injection hw with _ hw; rw [← hw]; exact h0
   · cases hw
  rw [if_neg e13] at hw
  cases hw
structure OpAt (e : Addr) (o : S31) (A : Option Addr) (c : Nat) (W : World) : Prop where
 x0 : W.cell? e = some (.int .i64 o.f0)
 x1 : W.cell? ⟨e.block, e.off + 1, none⟩ = some (.string o.f1)
 x2 : W.cell? ⟨e.block, e.off + 2, none⟩ = some (.string o.f2)
 x3 : W.cell? ⟨e.block, e.off + 3, none⟩ = some (.int .i64 o.f3)
 x4 : W.cell? ⟨e.block, e.off + 4, none⟩ = some (.int .i64 o.f4)
 x5 : W.cell? ⟨e.block, e.off + 5, none⟩ = some (.slice A o.f5.length c)
 rows : Kd.C (Kd.int .u8) W A o.f5.length o.f5
theorem OpAt.below {e : Addr} {o : S31} {A : Option Addr} {c : Nat} {W W' : World} (h : OpAt e o A c W) (hb : Below W.heap.size W W') : OpAt e o A c W' :=
 ⟨Qae hb h.x0, Qae hb h.x1, Qae hb h.x2, Qae hb h.x3, Qae hb h.x4, Qae hb h.x5, Kd.C_below h.rows hb⟩
structure HoldP (b : Nat) (o : S31) (A : Option Addr) (c : Nat) (W : World) : Prop where
 blk : W.heap[b]? = some (.cells #[.int .i64 o.f0, .string o.f1, .string o.f2, .int .i64 o.f3, .int .i64 o.f4, .slice A o.f5.length c] 31 (0, 0))
 cap : o.f5.length ≤ c
 rows : Kd.C (Kd.int .u8) W A o.f5.length o.f5
theorem HoldP.below {b : Nat} {o : S31} {A : Option Addr} {c : Nat} {W W' : World} (h : HoldP b o A c W) (hb : Below W.heap.size W W') : HoldP b o A c W' := ⟨Qaf h.blk hb, h.cap, Kd.C_below h.rows hb⟩
theorem HoldP.cells {b : Nat} {o : S31} {A : Option Addr} {c : Nat} {W : World} (h : HoldP b o A c W) : W.cell? ⟨b, 0, none⟩ = some (.int .i64 o.f0) ∧ W.cell? ⟨b, 1, none⟩ = some (.string o.f1) ∧ W.cell? ⟨b, 2, none⟩ = some (.string o.f2) ∧ W.cell? ⟨b, 3, none⟩ = some (.int .i64 o.f3) ∧ W.cell? ⟨b, 4, none⟩ = some (.int .i64 o.f4) ∧ W.cell? ⟨b, 5, none⟩ = some (.slice A o.f5.length c) ∧ b < W.heap.size :=
 ⟨(Qab h.blk 0).trans rfl, (Qab h.blk 1).trans rfl, (Qab h.blk 2).trans rfl, (Qab h.blk 3).trans rfl, (Qab h.blk 4).trans rfl, (Qab h.blk 5).trans rfl, Qai h.blk⟩
theorem Hand.setT {X : List S52} {r : S37} {A1 A2 A3 : Option Addr} {c1 c2 c3 : Nat} {W : World} (h : Hand X r A1 c1 A2 c2 A3 c3 W) {g : Nat} (hT : W.heap[g]? = some (.cells #[.slice none 0 0] 26 (0, 0))) :
  Hold g X A1 c1 (W.setCell ⟨g, 0, none⟩ (.slice A1 X.length c1)) ∧ Hand X r A1 c1 A2 c2 A3 c3 (W.setCell ⟨g, 0, none⟩ (.slice A1 X.length c1)) :=
 have hk : ∀ k, k ≠ g → (W.setCell ⟨g, 0, none⟩ (.slice A1 X.length c1)).heap[k]? = W.heap[k]? := fun k hk => Below.heap_setCell W ⟨g, 0, none⟩ _ k hk
 ⟨⟨Qap (cs := #[.slice none 0 0]) hT 0 _ rfl, h.cap, C_box hT hk h.rows⟩, ⟨h.cap, C_box hT hk h.rows, h.cap1, Qgx hT hk h.rows1, h.cap2, Qfy hT hk h.rows2⟩⟩
theorem Hand.setR {X : List S52} {r : S37} {A1 A2 A3 : Option Addr} {c1 c2 c3 : Nat} {W : World} (h : Hand X r A1 c1 A2 c2 A3 c3 W) {g : Nat} (hR : W.heap[g]? = some (.cells #[.int .i64 0, .slice none 0 0, .slice none 0 0, .int .i64 0, .int .i64 0, .int .i64 0] 37 (0, 0))) :
  HoldR g r A2 c2 A3 c3 (set6 W g (.int .i64 r.f0) (.slice A2 r.f1.length c2) (.slice A3 r.f2.length c3) (.int .i64 r.f3) (.int .i64 r.f4) (.int .i64 r.f5)) ∧ Hand X r A1 c1 A2 c2 A3 c3 (set6 W g (.int .i64 r.f0) (.slice A2 r.f1.length c2) (.slice A3 r.f2.length c3) (.int .i64 r.f3) (.int .i64 r.f4) (.int .i64 r.f5)) :=
 have hk : ∀ k, k ≠ g → (set6 W g (.int .i64 r.f0) (.slice A2 r.f1.length c2) (.slice A3 r.f2.length c3) (.int .i64 r.f3) (.int .i64 r.f4) (.int .i64 r.f5)).heap[k]? = W.heap[k]? := fun k hk => Qeb hk
 ⟨⟨set6_blk hR, h.cap1, C_u8R hR hk h.rows1, h.cap2, C_strR hR hk h.rows2⟩, ⟨h.cap, C_resR hR hk h.rows, h.cap1, C_u8R hR hk h.rows1, h.cap2, C_strR hR hk h.rows2⟩⟩
def Put2 (w9 : World) (X : List S52) (r : S37) (A10 : Option Addr) (c10 : Nat) (D1 : Option Addr) (g1 : Nat) (D2 : Option Addr) (g2 : Nat) (b10 b11 : Nat) (W : World) : Prop := Hold b10 X A10 c10 W ∧ HoldR b11 r D1 g1 D2 g2 W ∧ Below w9.heap.size w9 W ∧ w9.heap.size ≤ b10
section
variable {w9 w10 : World} {X : List S52} {r : S37} {A10 D1 D2 : Option Addr} {c10 g1 g2 : Nat}
theorem put_tr (h : Hand X r A10 c10 D1 g1 D2 g2 w10) (hb : Below w9.heap.size w9 w10) : Put2 w9 X r A10 c10 D1 g1 D2 g2 w10.heap.size (w10.heap.size + 1) ((w10.alloc (treeO A10 X.length c10)).alloc (resO r D1 g1 D2 g2)) :=
 have h2 := h.laid (Below.refl _ _)
 ⟨h2.1, h2.2, Qaa (Qaa hb _) _, hb.size⟩
theorem put_rt (h : Hand X r A10 c10 D1 g1 D2 g2 w10) (hb : Below w9.heap.size w9 w10) : Put2 w9 X r A10 c10 D1 g1 D2 g2 (w10.heap.size + 1) w10.heap.size ((w10.alloc (resO r D1 g1 D2 g2)).alloc (treeO A10 X.length c10)) :=
 have h1 : Below w10.heap.size w10 ((w10.alloc (resO r D1 g1 D2 g2)).alloc (treeO A10 X.length c10)) := Qaa (Qaa (Below.refl _ _) _) _
 ⟨⟨Qfh w10 _ _, h.cap, Kd.C_below h.rows h1⟩, ⟨Qaj (Qal w10 _) _, h.cap1, Kd.C_below h.rows1 h1, h.cap2, Kd.C_below h.rows2 h1⟩, Qaa (Qaa hb _) _, Nat.le_succ_of_le hb.size⟩
theorem put_t (h : Hand X r A10 c10 D1 g1 D2 g2 w10) (hb : Below w9.heap.size w9 w10) {g : Nat} (hg : w9.heap.size ≤ g) (hT : w10.heap[g]? = some (.cells #[.slice none 0 0] 26 (0, 0))) : Put2 w9 X r A10 c10 D1 g1 D2 g2 g w10.heap.size ((w10.setCell ⟨g, 0, none⟩ (.slice A10 X.length c10)).alloc (resO r D1 g1 D2 g2)) := by
 have h2 := h.setT hT
 have h1 := h2.2.laidR (Below.refl _ _)
 rw [World.size_setCell] at h1
 exact ⟨h2.1.below (Qaa (Below.refl _ _) _), h1, Qaa (hb.setCell (p := ⟨g, 0, none⟩) hg _) _, hg⟩
theorem put_r (h : Hand X r A10 c10 D1 g1 D2 g2 w10) (hb : Below w9.heap.size w9 w10) {g : Nat} (hg : w9.heap.size ≤ g) (hR : w10.heap[g]? = some (.cells #[.int .i64 0, .slice none 0 0, .slice none 0 0, .int .i64 0, .int .i64 0, .int .i64 0] 37 (0, 0))) : Put2 w9 X r A10 c10 D1 g1 D2 g2 w10.heap.size g ((set6 w10 g (.int .i64 r.f0) (.slice D1 r.f1.length g1) (.slice D2 r.f2.length g2) (.int .i64 r.f3) (.int .i64 r.f4) (.int .i64 r.f5)).alloc (treeO A10 X.length c10)) := by
 have h2 := h.setR hR
 have h3 : Below (set6 w10 g (.int .i64 r.f0) (.slice D1 r.f1.length g1) (.slice D2 r.f2.length g2) (.int .i64 r.f3) (.int .i64 r.f4) (.int .i64 r.f5)).heap.size (set6 w10 g (.int .i64 r.f0) (.slice D1 r.f1.length g1) (.slice D2 r.f2.length g2) (.int .i64 r.f3) (.int .i64 r.f4) (.int .i64 r.f5)) ((set6 w10 g (.int .i64 r.f0) (.slice D1 r.f1.length g1) (.slice D2 r.f2.length g2) (.int .i64 r.f3) (.int .i64 r.f4) (.int .i64 r.f5)).alloc (treeO A10 X.length c10)) := Qaa (Below.refl _ _) _
 have h4 := Qal (set6 w10 g (.int .i64 r.f0) (.slice D1 r.f1.length g1) (.slice D2 r.f2.length g2) (.int .i64 r.f3) (.int .i64 r.f4) (.int .i64 r.f5)) (treeO A10 X.length c10)
 rw [set6_size] at h4
 exact ⟨⟨h4, h2.2.cap, Kd.C_below h2.2.rows h3⟩, h2.1.below h3, Qaa (Qeq hb hg) _, hb.size⟩
theorem put_b (h : Hand X r A10 c10 D1 g1 D2 g2 w10) (hb : Below w9.heap.size w9 w10) {g g' : Nat} (hg : w9.heap.size ≤ g) (hg' : w9.heap.size ≤ g') (hT : w10.heap[g]? = some (.cells #[.slice none 0 0] 26 (0, 0))) (hR : w10.heap[g']? = some (.cells #[.int .i64 0, .slice none 0 0, .slice none 0 0, .int .i64 0, .int .i64 0, .int .i64 0] 37 (0, 0))) : Put2 w9 X r A10 c10 D1 g1 D2 g2 g g' (laid2 w10 g g' (.slice A10 X.length c10) (.int .i64 r.f0) (.slice D1 r.f1.length g1) (.slice D2 r.f2.length g2) (.int .i64 r.f3) (.int .i64 r.f4) (.int .i64 r.f5)) := by
 have hne : g ≠ g' := Qce hT hR zq9
 have h2 := h.setT hT
 have hR2 : (w10.setCell ⟨g, 0, none⟩ (.slice A10 X.length c10)).heap[g']? = some (.cells #[.int .i64 0, .slice none 0 0, .slice none 0 0, .int .i64 0, .int .i64 0, .int .i64 0] 37 (0, 0)) := Qam (p := ⟨g, 0, none⟩) hR (Ne.symm hne) _
 have h3 := h2.2.setR hR2
 exact ⟨⟨(Qeb hne).trans h2.1.blk, h3.2.cap, h3.2.rows⟩, h3.1, Qeq (hb.setCell (p := ⟨g, 0, none⟩) hg _) hg', hg⟩
end
end Go.Proofs.YtbhjggbijkjmnaaGreatDoor.PZ
end
