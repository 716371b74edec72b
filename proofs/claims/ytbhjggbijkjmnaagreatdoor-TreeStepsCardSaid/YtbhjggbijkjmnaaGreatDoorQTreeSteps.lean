/- What the statement TreeStepsCardSaid alone wants beside the common texts M..: the walk of the law's own Go function and its plain facts. No condition but those in the theorems. -/
import Derived.Test.YtbhjggbijkjmnaaGreatDoorM35
import Derived.Test.YtbhjggbijkjmnaaGreatDoorM36
import Derived.Deep.RegionHeld3
import Derived.Deep.DeepCutAuto
set_option linter.unusedVariables false
set_option linter.unusedSimpArgs false
section
namespace Go.Proofs.YtbhjggbijkjmnaaGreatDoor.PZ
open Go.RowKit Go.Proofs.YtbhjggbijkjmnaaGreatDoorW.PrintWords Go.Proofs.YtbhjggbijkjmnaaGreatDoorW.PrintLast Go.Proofs.YtbhjggbijkjmnaaGreatDoorW.PrintMore Go.Proofs.YtbhjggbijkjmnaaGreatDoor.B Go.Proofs.YtbhjggbijkjmnaaGreatDoor.Ord TD
set_option maxRecDepth 100000
structure SF (w : World) (e : Addr) (o : S31) (A5 : Option Addr) (c5 : Nat) (l X : List S52) (r : S37) (b3 b4 b6 b7 b8 b9 b10 b11 : Nat) (A1 A2 A6 A7 A8 A10 B1 B2 D1 D2 : Option Addr) (c1 c2 c6 c7 c8 c10 e1 e2 g1 g2 : Nat) (W : World) : Prop where
 t : Hold b3 l A1 c1 W
 m : Hold b4 l A2 c2 W
 x : OpAt e o A5 c5 W
 own : HoldP b6 o A6 c6 W
 old : Hold b7 l A7 c7 W
 nx : Hold b8 X A8 c8 W
 ra : HoldR b9 r B1 e1 B2 e2 W
 al : Hold b10 X A10 c10 W
 rb : HoldR b11 r D1 g1 D2 g2 W
 bel : Below w.heap.size w W
section
variable {w W W' : World} {e : Addr} {o : S31} {A5 : Option Addr} {c5 : Nat} {l X : List S52} {r : S37} {b3 b4 b6 b7 b8 b9 b10 b11 : Nat} {A1 A2 A6 A7 A8 A10 B1 B2 D1 D2 : Option Addr} {c1 c2 c6 c7 c8 c10 e1 e2 g1 g2 : Nat}
theorem SF.below (h : SF w e o A5 c5 l X r b3 b4 b6 b7 b8 b9 b10 b11 A1 A2 A6 A7 A8 A10 B1 B2 D1 D2 c1 c2 c6 c7 c8 c10 e1 e2 g1 g2 W) (hb : Below W.heap.size W W') : SF w e o A5 c5 l X r b3 b4 b6 b7 b8 b9 b10 b11 A1 A2 A6 A7 A8 A10 B1 B2 D1 D2 c1 c2 c6 c7 c8 c10 e1 e2 g1 g2 W' :=
 ⟨h.t.below hb, h.m.below hb, h.x.below hb, h.own.below hb, h.old.below hb, h.nx.below hb, h.ra.below hb, h.al.below hb, h.rb.below hb, Qa h.bel hb⟩
theorem SF.loads (h : SF w e o A5 c5 l X r b3 b4 b6 b7 b8 b9 b10 b11 A1 A2 A6 A7 A8 A10 B1 B2 D1 D2 c1 c2 c6 c7 c8 c10 e1 e2 g1 g2 W) : W.cell? ⟨b9, 0, none⟩ = some (.int .i64 r.f0) ∧ W.cell? ⟨b9, 1, none⟩ = some (.slice B1 r.f1.length e1) ∧ W.cell? ⟨b9, 2, none⟩ = some (.slice B2 r.f2.length e2) ∧ W.cell? ⟨b9, 3, none⟩ = some (.int .i64 r.f3) ∧ W.cell? ⟨b9, 4, none⟩ = some (.int .i64 r.f4) ∧ W.cell? ⟨b9, 5, none⟩ = some (.int .i64 r.f5) ∧ W.cell? ⟨b11, 0, none⟩ = some (.int .i64 r.f0) ∧ W.cell? ⟨b11, 1, none⟩ = some (.slice D1 r.f1.length g1) ∧ W.cell? ⟨b11, 2, none⟩ = some (.slice D2 r.f2.length g2) ∧ W.cell? ⟨b11, 3, none⟩ = some (.int .i64 r.f3) ∧ W.cell? ⟨b11, 4, none⟩ = some (.int .i64 r.f4) ∧ W.cell? ⟨b11, 5, none⟩ = some (.int .i64 r.f5) ∧ W.cell? ⟨b8, 0, none⟩ = some (.slice A8 X.length c8) ∧ W.cell? ⟨b10, 0, none⟩ = some (.slice A10 X.length c10) ∧ W.cell? ⟨b3, 0, none⟩ = some (.slice A1 l.length c1) ∧ W.cell? ⟨b7, 0, none⟩ = some (.slice A7 l.length c7) ∧ W.cell? ⟨b6, 5, none⟩ = some (.slice A6 o.f5.length c6) ∧ W.cell? ⟨e.block, e.off + 5, none⟩ = some (.slice A5 o.f5.length c5) :=
 ⟨h.ra.cells.1, h.ra.cells.2.1, h.ra.cells.2.2.1, h.ra.cells.2.2.2.1, h.ra.cells.2.2.2.2.1, h.ra.cells.2.2.2.2.2.1, h.rb.cells.1, h.rb.cells.2.1, h.rb.cells.2.2.1, h.rb.cells.2.2.2.1, h.rb.cells.2.2.2.2.1, h.rb.cells.2.2.2.2.2.1, h.nx.cell, h.al.cell, h.t.cell, h.old.cell, h.own.cells.2.2.2.2.2.1, h.x.x5⟩
theorem SF.next (h : SF w e o A5 c5 l X r b3 b4 b6 b7 b8 b9 b10 b11 A1 A2 A6 A7 A8 A10 B1 B2 D1 D2 c1 c2 c6 c7 c8 c10 e1 e2 g1 g2 W) (h34 : b3 < b4) (hw : w.heap.size ≤ b3) : Hold b3 X A8 c8 ((W.setCell ⟨b3, 0, none⟩ (.slice A8 X.length c8)).setCell ⟨b4, 0, none⟩ (.slice A10 X.length c10)) ∧ Hold b4 X A10 c10 ((W.setCell ⟨b3, 0, none⟩ (.slice A8 X.length c8)).setCell ⟨b4, 0, none⟩ (.slice A10 X.length c10)) ∧ Below w.heap.size w ((W.setCell ⟨b3, 0, none⟩ (.slice A8 X.length c8)).setCell ⟨b4, 0, none⟩ (.slice A10 X.length c10)) :=
 have h3 : Hold b3 X A8 c8 (W.setCell ⟨b3, 0, none⟩ (.slice A8 X.length c8)) := ⟨Qap (cs := #[.slice A1 l.length c1]) h.t.blk 0 _ rfl, h.nx.cap, Qet h.t.blk h.nx.rows _⟩
 have hm : (W.setCell ⟨b3, 0, none⟩ (.slice A8 X.length c8)).heap[b4]? = some (.cells #[.slice A2 l.length c2] 26 (0, 0)) := Qam (p := ⟨b3, 0, none⟩) h.m.blk (Nat.ne_of_gt h34) _
 ⟨⟨Qam (p := ⟨b4, 0, none⟩) h3.blk (Nat.ne_of_lt h34) _, h3.cap, Qet hm h3.rows _⟩, ⟨Qap (cs := #[.slice A2 l.length c2]) hm 0 _ rfl, h.al.cap, Qet hm (Qet h.t.blk h.al.rows _) _⟩, (h.bel.setCell (p := ⟨b3, 0, none⟩) hw _).setCell (p := ⟨b4, 0, none⟩) (Nat.le_of_lt (Nat.lt_of_le_of_lt hw h34)) _⟩
end
set_option maxHeartbeats 16000000 in
theorem steps_walk (A : Option Addr) (c : Nat) (ops : List S31) (w : World) (hr : Kd.C k31 w A ops.length ops) (hc : ops.length ≤ c) :
  Calls Tryz.prog 3 #[.slice A ops.length c] w fun e w' => e = .returned (.bool true) ∧ Below w.heap.size w w' := by
 have HR := am hr
 clear hr
 by_cases hlen : 150 < ops.length
 ·
  have hlb : decide (150 < (ops.length : Int)) = true := decide_eq_true zq3
  clear hlen
  go_enter Tryz.func3, Tryz.ntmps3
  go_wp2_with (go_at_call 5; (with_reducible refine (alive_walk _).mono ?_); rintro e w1 ⟨rfl, hb⟩; have HB1 := am hb; clear hb)
  go_ret
  exact ⟨rfl, HB1.out⟩
 have hlb : decide (150 < (ops.length : Int)) = false := decide_eq_false zq3
 have h150 : ops.length ≤ 150 := by omega
 clear hlen
 go_enter Tryz.func3, Tryz.ntmps3
 go_wp2_with (first
  | (go_at_call 5; (with_reducible refine (alive_walk _).mono ?_); rintro e w1 ⟨rfl, hb⟩; have HB1 := am hb; clear hb)
  | (go_at_call 6; (with_reducible refine (new_walk _).mono ?_); rintro e w2 ⟨v, rfl, hs, hb⟩; obtain ⟨A1, c1, hv, hc1, hC1⟩ := Kd.S_reads hs; subst hv; have HN := am (And.intro hc1 hC1); have HB2 := am (Qa HB1.out hb); clear hs hb hc1 hC1)
  | (go_at_call 7; (with_reducible refine (rnew _).mono ?_); rintro e w3 ⟨A2, rfl, hC2, hb⟩; have HN2 := am hC2; have HB3 := am (Qa HB2.out (Qa zq1 hb)); have HT3 := am (show Hold w2.heap.size al0 A1 c1 w3 from Hold.below ⟨Qal w2 (.cells #[.slice A1 al0.length c1] 26), HN.out.1, Kd.C_alloc HN.out.2 _⟩ hb); clear hb hC2))
 go_loopw [5] (fun v5 wr => ∃ (k : Nat) (l : List S52) (A1 A2 : Option Addr) (c1 c2 : Nat), k ≤ ops.length ∧ v5 = .int .i64 k ∧ Aside0 (Rt l) ∧ Aside0 (Hold w2.heap.size l A1 c1 wr) ∧ Aside0 (Hold w3.heap.size l A2 c2 wr) ∧ Aside0 (Below w.heap.size w wr)) (fun v5 _ => ops.length - (intOf v5).toNat)
 case atStart => exact ⟨0, al0, A1, A2, c1, 1, Nat.zero_le _, rfl, ⟨rt_root⟩, ⟨HT3.out.below (Qaa (Below.refl _ _) _)⟩, ⟨⟨Qal w3 (.cells #[.slice A2 al0.length 1] 26), Nat.le_refl _, Kd.C_alloc HN2.out _⟩⟩, ⟨Qaa HB3.out _⟩⟩
 case round =>
  obtain ⟨k, l, A1, A2, c1, c2, hk, rfl, HT, HT0, HM0, HB0⟩ := hrel
  obtain ⟨b3, hb3⟩ : ∃ b, w2.heap.size = b := ⟨_, rfl⟩
  obtain ⟨b4, hb4⟩ : ∃ b, w3.heap.size = b := ⟨_, rfl⟩
  rw [hb3] at HT0
  rw [hb4] at HM0
  try rw [hb3]
  try rw [hb4]
  have HNE := am (show b3 < b4 by rw [← hb3, ← hb4]; exact Qai HT3.out.blk)
  have HBW := am (show w.heap.size ≤ b3 by rw [← hb3]; exact HB2.out.size)
  by_cases hlt : k < ops.length
  ·
   obtain ⟨ad, A5, c5, e5, hx0, hx1, hx2, hx3, hx4, hx5, hl5, hC5⟩ := at_T31 HR.out (k : Int) zq3 zq3
   subst e5
   have hkk : (k : Int) < (ops.length : Int) := by omega
   rw [Int.toNat_natCast] at hx0 hx1 hx2 hx3 hx4 hx5
   generalize rd_T31 ops (k : Int) = o at hx0 hx1 hx2 hx3 hx4 hx5 hl5 hC5
   have HX0 := am (OpAt.below ⟨hx0, hx1, hx2, hx3, hx4, hx5, hC5⟩ HB0.out)
   have HL5 := am hl5
   clear hx0 hx1 hx2 hx3 hx4 hx5 hC5 hl5
   obtain ⟨⟨X, r⟩, hX⟩ : ∃ R, doF l o = R := ⟨_, rfl⟩
   have HD := am hX
   have HTX := am (show Rt X by have h := do_rt HT.out o; rwa [hX] at h)
   have HSR := am (show r.f1.length ≤ 46368 ∧ r.f2.length ≤ 64 by have h := do_small HT.out o; rwa [hX] at h)
   clear hX
   obtain ⟨t0, t1⟩ := HT0.out.cells; obtain ⟨m0, m1⟩ := HM0.out.cells; have x0 := HX0.out.x0; have x1 := HX0.out.x1; have x2 := HX0.out.x2; have x3 := HX0.out.x3; have x4 := HX0.out.x4; have x5 := HX0.out.x5; have xl := World.block_lt_of_cell? _ _ x0; 
   go_upto_region 15 with (first
    | (go_at_call 8; (with_reducible refine (long_walk o A5 c5 _).mono ?_); rintro en w5 ⟨⟨q, rfl, hq⟩, hb⟩; have HL := am hq; have HT1 := am (HT0.out.below hb); have HM1 := am (HM0.out.below hb); have HX1 := am (HX0.out.below hb); have HB1' := am (Qa HB0.out hb); clear t0 t1 m0 m1 x0 x1 x2 x3 x4 x5 xl; obtain ⟨t0, t1⟩ := HT1.out.cells; obtain ⟨m0, m1⟩ := HM1.out.cells; have x0 := HX1.out.x0; have x1 := HX1.out.x1; have x2 := HX1.out.x2; have x3 := HX1.out.x3; have x4 := HX1.out.x4; have x5 := HX1.out.x5; have xl := World.block_lt_of_cell? _ _ x0; clear hb hq; cases q)
    | (go_at_call 9; (with_reducible refine (copyop o A5 c5 _ HX1.out.rows HL5.out zq32).mono ?_); rintro en w6 ⟨A6, c6, rfl, h61, h62, hb⟩; have HT2 := am (HT1.out.below hb); have HM2 := am (HM1.out.below hb); have HX2 := am (HX1.out.below hb); have HB2' := am (Qa HB1'.out hb); have HC6 := am (And.intro h61 h62); clear t0 t1 m0 m1 x0 x1 x2 x3 x4 x5 xl; obtain ⟨t0, t1⟩ := HT2.out.cells; obtain ⟨m0, m1⟩ := HM2.out.cells; have x0 := HX2.out.x0; have x1 := HX2.out.x1; have x2 := HX2.out.x2; have x3 := HX2.out.x3; have x4 := HX2.out.x4; have x5 := HX2.out.x5; have xl := World.block_lt_of_cell? _ _ x0; clear hb h61 h62)
    | (go_at_call 10; (with_reducible refine (Qdi A1 c1 l _ (Kd.C_below HT2.out.rows zq1) HT2.out.cap (by have := HT.out.pr.le; omega) (fun k => ⟨by have := HT.out.pr.size k; omega, by have := HT.out.pr.ents k; omega⟩)).mono ?_); rintro en w7 ⟨u, rfl, hs, hb⟩; obtain ⟨A7, c7, hu, h71, h72⟩ := Kd.S_reads hs; subst hu; have HT3' := am (HT2.out.below (Qa zq1 hb)); have HM3' := am (HM2.out.below (Qa zq1 hb)); have HX3' := am (HX2.out.below (Qa zq1 hb)); have HB3' := am (Qa HB2'.out (Qa zq1 hb)); have HP3 := am (HoldP.below (b := w6.heap.size) (o := o) ⟨Qal w6 (.cells #[.int .i64 o.f0, .string o.f1, .string o.f2, .int .i64 o.f3, .int .i64 o.f4, .slice A6 o.f5.length c6] 31), HC6.out.1, Kd.C_alloc HC6.out.2 _⟩ hb); have HC7 := am (And.intro h71 h72); clear t0 t1 m0 m1 x0 x1 x2 x3 x4 x5 xl; obtain ⟨t0, t1⟩ := HT3'.out.cells; obtain ⟨m0, m1⟩ := HM3'.out.cells; have x0 := HX3'.out.x0; have x1 := HX3'.out.x1; have x2 := HX3'.out.x2; have x3 := HX3'.out.x3; have x4 := HX3'.out.x4; have x5 := HX3'.out.x5; have xl := World.block_lt_of_cell? _ _ x0; clear hs hb h71 h72; obtain ⟨p0, p1, p2, p3, p4, p5, p6⟩ := HP3.out.cells)
    | (go_at_call 11; (with_reducible refine (do_ok A1 c1 l o A6 c6 _ (Kd.C_below HT3'.out.rows zq1) HT3'.out.cap (Kd.C_below HP3.out.rows zq1) HP3.out.cap HT.out zq32 zq32).mono ?_); rw [HD.out]; rintro en w8 ⟨A8, c8, B1, e1, B2, e2, rfl, h1, h2, h3, h4, h5, h6, hb⟩; have HH := am (show Hand X r A8 c8 B1 e1 B2 e2 w8 from ⟨h1, h2, h3, h4, h5, h6⟩); have HT4 := am (HT3'.out.below (Qa zq1 hb)); have HM4 := am (HM3'.out.below (Qa zq1 hb)); have HX4 := am (HX3'.out.below (Qa zq1 hb)); have HB4' := am (Qa HB3'.out (Qa zq1 hb)); have HP4 := am (HP3.out.below (Qa zq1 hb)); have HO4 := am (Hold.below (g := w7.heap.size) (l := l) ⟨Qal w7 (.cells #[.slice A7 l.length c7] 26), HC7.out.1, Kd.C_alloc HC7.out.2 _⟩ hb); clear t0 t1 m0 m1 x0 x1 x2 x3 x4 x5 xl; clear p0 p1 p2 p3 p4 p5 p6 h1 h2 h3 h4 h5 h6 hb))
   rotate_left
   ·
    go_ret
    exact ⟨rfl, HB1'.out⟩
   have HW := HH.out.laid (Below.refl _ _)
   have hb9 : Below w8.heap.size w8 ((w8.alloc (treeO A8 X.length c8)).alloc (resO r B1 e1 B2 e2)) := Qaa (Qaa (Below.refl _ _) _) _
   have HN5 := am HW.1
   have HR5 := am HW.2
   have HT5 := am (HT4.out.below hb9); have HM5 := am (HM4.out.below hb9); have HX5 := am (HX4.out.below hb9); have HB5' := am (Qa HB4'.out hb9); have HP5 := am (HP4.out.below hb9); have HO5 := am (HO4.out.below hb9)
   clear HW hb9
   change Code.wp _ _ _ _ ((w8.alloc (treeO A8 X.length c8)).alloc (resO r B1 e1 B2 e2))
   generalize (w8.alloc (treeO A8 X.length c8)).alloc (resO r B1 e1 B2 e2) = w9 at *
   obtain ⟨t0, t1⟩ := HT5.out.cells; obtain ⟨m0, m1⟩ := HM5.out.cells; have x0 := HX5.out.x0; have x1 := HX5.out.x1; have x2 := HX5.out.x2; have x3 := HX5.out.x3; have x4 := HX5.out.x4; have x5 := HX5.out.x5; have xl := World.block_lt_of_cell? _ _ x0
   have HALL := am (And.intro HT5.out (And.intro HM5.out (And.intro HX5.out (And.intro HP5.out (And.intro HO5.out (And.intro HN5.out (And.intro HR5.out (And.intro HB5'.out (And.intro HTX.out HSR.out)))))))))
   clear HT0 HM0 HX0 HT1 HM1 HX1 HT2 HM2 HX2 HT3' HM3' HX3' HT4 HM4 HX4 HP3 HP4 HP5 HO4 HO5 HN5 HR5 HC6 HC7 HB0 HB1 HB2 HB3 HB1' HB2' HB3' HB4' HB5' HN HN2 HT3 t0 t1 HT5 HTX HSR HH
   go_cut [10, 11] (fun v10 v11 wx => ∃ A10 c10 D1 g1 D2 g2 b10 b11, v10 = .pointer (some ⟨b10, 0, none⟩) ∧ v11 = .pointer (some ⟨b11, 0, none⟩) ∧ Put2 w9 X r A10 c10 D1 g1 D2 g2 b10 b11 wx)
   case first =>
    go_region_with (go_at_call 12; (with_reducible refine (rdo_ok A2 c2 l o A5 c5 _ (Kd.C_below HM5.out.rows zq1) HM5.out.cap HT.out zq32 zq32 (Kd.C_below HX5.out.rows zq1) HL5.out).mono ?_); rw [HD.out]; rintro en w10 ⟨A10, c10, D1, g1, D2, g2, rfl, h1, h2, h3, h4, h5, h6, hb⟩; have HH2 := am (show Hand X r A10 c10 D1 g1 D2 g2 w10 from ⟨h1, h2, h3, h4, h5, h6⟩); have HB10 := am (show Below w9.heap.size w9 w10 from Qa zq1 hb); (first | ((with_reducible have hw : Below (((w9.alloc (.cells #[.slice none 0 0] 26)).alloc (.cells #[.int .i64 0, .slice none 0 0, .slice none 0 0, .int .i64 0, .int .i64 0, .int .i64 0] 37)).drew).heap.size (((w9.alloc (.cells #[.slice none 0 0] 26)).alloc (.cells #[.int .i64 0, .slice none 0 0, .slice none 0 0, .int .i64 0, .int .i64 0, .int .i64 0] 37)).drew) w10 := hb); have QT := am (Qaf (Qat (Qaj (Qal w9 (.cells #[.slice none 0 0] 26)) (.cells #[.int .i64 0, .slice none 0 0, .slice none 0 0, .int .i64 0, .int .i64 0, .int .i64 0] 37))) hw); have QR := am (Qaf (Qat (Qfh w9 (.cells #[.slice none 0 0] 26) (.cells #[.int .i64 0, .slice none 0 0, .slice none 0 0, .int .i64 0, .int .i64 0, .int .i64 0] 37))) hw); have QG := am (And.intro (Nat.le_refl w9.heap.size) (Nat.le_succ w9.heap.size)); clear hw; have q0 := (Qab QT.out 0).trans (show _ = some (Value.slice none 0 0) from rfl); have q1 := Qag QT.out 0; have q2 := Qai QT.out; have y0 := (Qab QR.out 0).trans (show _ = some (Value.int .i64 0) from rfl); have y1 := (Qab QR.out 1).trans (show _ = some (Value.slice none 0 0) from rfl); have y2 := (Qab QR.out 2).trans (show _ = some (Value.slice none 0 0) from rfl); have y3 := (Qab QR.out 3).trans (show _ = some (Value.int .i64 0) from rfl); have y4 := (Qab QR.out 4).trans (show _ = some (Value.int .i64 0) from rfl); have y5 := (Qab QR.out 5).trans (show _ = some (Value.int .i64 0) from rfl); have y6 := Qag QR.out; have y7 := Qai QR.out) | ((with_reducible have hw : Below (((w9.alloc (.cells #[.int .i64 0, .slice none 0 0, .slice none 0 0, .int .i64 0, .int .i64 0, .int .i64 0] 37)).alloc (.cells #[.slice none 0 0] 26)).drew).heap.size (((w9.alloc (.cells #[.int .i64 0, .slice none 0 0, .slice none 0 0, .int .i64 0, .int .i64 0, .int .i64 0] 37)).alloc (.cells #[.slice none 0 0] 26)).drew) w10 := hb); have QR := am (Qaf (Qat (Qaj (Qal w9 (.cells #[.int .i64 0, .slice none 0 0, .slice none 0 0, .int .i64 0, .int .i64 0, .int .i64 0] 37)) (.cells #[.slice none 0 0] 26))) hw); have QT := am (Qaf (Qat (Qfh w9 (.cells #[.int .i64 0, .slice none 0 0, .slice none 0 0, .int .i64 0, .int .i64 0, .int .i64 0] 37) (.cells #[.slice none 0 0] 26))) hw); have QG := am (And.intro (Nat.le_succ w9.heap.size) (Nat.le_refl w9.heap.size)); clear hw; have q0 := (Qab QT.out 0).trans (show _ = some (Value.slice none 0 0) from rfl); have q1 := Qag QT.out 0; have q2 := Qai QT.out; have y0 := (Qab QR.out 0).trans (show _ = some (Value.int .i64 0) from rfl); have y1 := (Qab QR.out 1).trans (show _ = some (Value.slice none 0 0) from rfl); have y2 := (Qab QR.out 2).trans (show _ = some (Value.slice none 0 0) from rfl); have y3 := (Qab QR.out 3).trans (show _ = some (Value.int .i64 0) from rfl); have y4 := (Qab QR.out 4).trans (show _ = some (Value.int .i64 0) from rfl); have y5 := (Qab QR.out 5).trans (show _ = some (Value.int .i64 0) from rfl); have y6 := Qag QR.out; have y7 := Qai QR.out) | ((with_reducible have hw : Below ((w9.alloc (.cells #[.slice none 0 0] 26)).drew).heap.size ((w9.alloc (.cells #[.slice none 0 0] 26)).drew) w10 := hb); have QT := am (Qaf (Qat (Qal w9 (.cells #[.slice none 0 0] 26))) hw); clear hw; have q0 := (Qab QT.out 0).trans (show _ = some (Value.slice none 0 0) from rfl); have q1 := Qag QT.out 0; have q2 := Qai QT.out) | ((with_reducible have hw : Below ((w9.alloc (.cells #[.int .i64 0, .slice none 0 0, .slice none 0 0, .int .i64 0, .int .i64 0, .int .i64 0] 37)).drew).heap.size ((w9.alloc (.cells #[.int .i64 0, .slice none 0 0, .slice none 0 0, .int .i64 0, .int .i64 0, .int .i64 0] 37)).drew) w10 := hb); have QR := am (Qaf (Qat (Qal w9 (.cells #[.int .i64 0, .slice none 0 0, .slice none 0 0, .int .i64 0, .int .i64 0, .int .i64 0] 37))) hw); clear hw; have y0 := (Qab QR.out 0).trans (show _ = some (Value.int .i64 0) from rfl); have y1 := (Qab QR.out 1).trans (show _ = some (Value.slice none 0 0) from rfl); have y2 := (Qab QR.out 2).trans (show _ = some (Value.slice none 0 0) from rfl); have y3 := (Qab QR.out 3).trans (show _ = some (Value.int .i64 0) from rfl); have y4 := (Qab QR.out 4).trans (show _ = some (Value.int .i64 0) from rfl); have y5 := (Qab QR.out 5).trans (show _ = some (Value.int .i64 0) from rfl); have y6 := Qag QR.out; have y7 := Qai QR.out) | skip); clear h1 h2 h3 h4 h5 h6 hb)
    all_goals go_wp2
    all_goals first
     | (have hS : Put2 w9 X r A10 c10 D1 g1 D2 g2 w10.heap.size (w10.heap.size + 1) (World.alloc (World.alloc w10 (.cells #[.slice A10 X.length c10] 26)) (.cells #[.int .i64 r.f0, .slice D1 r.f1.length g1, .slice D2 r.f2.length g2, .int .i64 r.f3, .int .i64 r.f4, .int .i64 r.f5] 37)) := put_tr HH2.out HB10.out; (go_meet); case rel => with_reducible exact ⟨A10, c10, D1, g1, D2, g2, _, _, rfl, rfl, hS⟩)
     | (have hS : Put2 w9 X r A10 c10 D1 g1 D2 g2 (w10.heap.size + 1) w10.heap.size (World.alloc (World.alloc w10 (.cells #[.int .i64 r.f0, .slice D1 r.f1.length g1, .slice D2 r.f2.length g2, .int .i64 r.f3, .int .i64 r.f4, .int .i64 r.f5] 37)) (.cells #[.slice A10 X.length c10] 26)) := put_rt HH2.out HB10.out; (go_meet); case rel => with_reducible exact ⟨A10, c10, D1, g1, D2, g2, _, _, rfl, rfl, hS⟩)
     | (have hS : Put2 w9 X r A10 c10 D1 g1 D2 g2 w9.heap.size w10.heap.size (World.alloc (World.setCell w10 ⟨w9.heap.size, 0, none⟩ (.slice A10 X.length c10)) (.cells #[.int .i64 r.f0, .slice D1 r.f1.length g1, .slice D2 r.f2.length g2, .int .i64 r.f3, .int .i64 r.f4, .int .i64 r.f5] 37)) := put_t HH2.out HB10.out (Nat.le_refl _) QT.out; (go_meet); case rel => with_reducible exact ⟨A10, c10, D1, g1, D2, g2, _, _, rfl, rfl, hS⟩)
     | (have hS : Put2 w9 X r A10 c10 D1 g1 D2 g2 w10.heap.size w9.heap.size (World.alloc (World.setCell (World.setCell (World.setCell (World.setCell (World.setCell (World.setCell w10 ⟨w9.heap.size, 0, none⟩ (.int .i64 r.f0)) ⟨w9.heap.size, 1, none⟩ (.slice D1 r.f1.length g1)) ⟨w9.heap.size, 2, none⟩ (.slice D2 r.f2.length g2)) ⟨w9.heap.size, 3, none⟩ (.int .i64 r.f3)) ⟨w9.heap.size, 4, none⟩ (.int .i64 r.f4)) ⟨w9.heap.size, 5, none⟩ (.int .i64 r.f5)) (.cells #[.slice A10 X.length c10] 26)) := put_r HH2.out HB10.out (Nat.le_refl _) QR.out; (go_meet); case rel => with_reducible exact ⟨A10, c10, D1, g1, D2, g2, _, _, rfl, rfl, hS⟩)
     | (have hS : Put2 w9 X r A10 c10 D1 g1 D2 g2 w9.heap.size (w9.heap.size + 1) (World.setCell (World.setCell (World.setCell (World.setCell (World.setCell (World.setCell (World.setCell w10 ⟨w9.heap.size, 0, none⟩ (.slice A10 X.length c10)) ⟨(w9.heap.size + 1), 0, none⟩ (.int .i64 r.f0)) ⟨(w9.heap.size + 1), 1, none⟩ (.slice D1 r.f1.length g1)) ⟨(w9.heap.size + 1), 2, none⟩ (.slice D2 r.f2.length g2)) ⟨(w9.heap.size + 1), 3, none⟩ (.int .i64 r.f3)) ⟨(w9.heap.size + 1), 4, none⟩ (.int .i64 r.f4)) ⟨(w9.heap.size + 1), 5, none⟩ (.int .i64 r.f5)) := put_b HH2.out HB10.out (Nat.le_refl _) (Nat.le_succ _) QT.out QR.out; (go_meet); case rel => with_reducible exact ⟨A10, c10, D1, g1, D2, g2, _, _, rfl, rfl, hS⟩)
     | (have hS : Put2 w9 X r A10 c10 D1 g1 D2 g2 (w9.heap.size + 1) w9.heap.size (World.setCell (World.setCell (World.setCell (World.setCell (World.setCell (World.setCell (World.setCell w10 ⟨(w9.heap.size + 1), 0, none⟩ (.slice A10 X.length c10)) ⟨w9.heap.size, 0, none⟩ (.int .i64 r.f0)) ⟨w9.heap.size, 1, none⟩ (.slice D1 r.f1.length g1)) ⟨w9.heap.size, 2, none⟩ (.slice D2 r.f2.length g2)) ⟨w9.heap.size, 3, none⟩ (.int .i64 r.f3)) ⟨w9.heap.size, 4, none⟩ (.int .i64 r.f4)) ⟨w9.heap.size, 5, none⟩ (.int .i64 r.f5)) := put_b HH2.out HB10.out (Nat.le_succ _) (Nat.le_refl _) QT.out QR.out; (go_meet); case rel => with_reducible exact ⟨A10, c10, D1, g1, D2, g2, _, _, rfl, rfl, hS⟩)
   case rest =>
    obtain ⟨A10, c10, D1, g1, D2, g2, b10, b11, rfl, rfl, hS⟩ := hcut
    obtain ⟨w11, hw11⟩ : ∃ W : World, W = wc := ⟨_, rfl⟩
    rw [← hw11] at hS ⊢
    clear hw11
    obtain ⟨hT5, hM5, hX5, hP5, hO5, hN5, hR5, hB5, hTX, hSR⟩ := HALL.out
    have HTX := am hTX
    have HSR := am hSR
    have HS0 := am (show SF w (ad.add (k * 6)) o A5 c5 l X r b3 b4 w6.heap.size w7.heap.size w8.heap.size (w8.heap.size + 1) b10 b11 A1 A2 A6 A7 A8 A10 B1 B2 D1 D2 c1 c2 c6 c7 c8 c10 e1 e2 g1 g2 w11 from ⟨hT5.below hS.2.2.1, hM5.below hS.2.2.1, hX5.below hS.2.2.1, hP5.below hS.2.2.1, hO5.below hS.2.2.1, hN5.below hS.2.2.1, hR5.below hS.2.2.1, hS.1, hS.2.1, Qa hB5 hS.2.2.1⟩)
    have HNA := am (show b3 ≠ b10 from Nat.ne_of_lt (Nat.lt_of_lt_of_le (Qai hT5.blk) hS.2.2.2))
    have HNB := am (show b4 ≠ b10 from Nat.ne_of_lt (Nat.lt_of_lt_of_le (Qai hM5.blk) hS.2.2.2))
    clear hT5 hM5 hX5 hP5 hO5 hN5 hR5 hB5 hTX hSR hS HALL m0 m1 x0 x1 x2 x3 x4 x5 xl
    generalize w8.heap.size = b8 at *
    generalize w7.heap.size = b7 at *
    generalize w6.heap.size = b6 at *
    go_wp2
    go_region_held3 (fun w' => w'.cell? ⟨(b8 + 1), 0, none⟩ = some (.int .i64 r.f0) ∧ w'.cell? ⟨(b8 + 1), 1, none⟩ = some (.slice B1 r.f1.length e1) ∧ w'.cell? ⟨(b8 + 1), 2, none⟩ = some (.slice B2 r.f2.length e2) ∧ w'.cell? ⟨(b8 + 1), 3, none⟩ = some (.int .i64 r.f3) ∧ w'.cell? ⟨(b8 + 1), 4, none⟩ = some (.int .i64 r.f4) ∧ w'.cell? ⟨(b8 + 1), 5, none⟩ = some (.int .i64 r.f5) ∧ w'.cell? ⟨b11, 0, none⟩ = some (.int .i64 r.f0) ∧ w'.cell? ⟨b11, 1, none⟩ = some (.slice D1 r.f1.length g1) ∧ w'.cell? ⟨b11, 2, none⟩ = some (.slice D2 r.f2.length g2) ∧ w'.cell? ⟨b11, 3, none⟩ = some (.int .i64 r.f3) ∧ w'.cell? ⟨b11, 4, none⟩ = some (.int .i64 r.f4) ∧ w'.cell? ⟨b11, 5, none⟩ = some (.int .i64 r.f5) ∧ w'.cell? ⟨b8, 0, none⟩ = some (.slice A8 X.length c8) ∧ w'.cell? ⟨b10, 0, none⟩ = some (.slice A10 X.length c10) ∧ w'.cell? ⟨b3, 0, none⟩ = some (.slice A1 l.length c1) ∧ w'.cell? ⟨b7, 0, none⟩ = some (.slice A7 l.length c7) ∧ w'.cell? ⟨b6, 5, none⟩ = some (.slice A6 o.f5.length c6) ∧ w'.cell? ⟨(ad.add (k * 6)).block, (ad.add (k * 6)).off + 5, none⟩ = some (.slice A5 o.f5.length c5))
     (first | ((refine (SF.below HS0.out ?_).loads); (repeat (first | exact Below.refl _ _ | with_reducible apply Qac | with_reducible apply Qad)); done) | ((refine (SF.below HS1.out ?_).loads); (repeat (first | exact Below.refl _ _ | with_reducible apply Qac | with_reducible apply Qad)); done) | ((refine (SF.below HS2.out ?_).loads); (repeat (first | exact Below.refl _ _ | with_reducible apply Qac | with_reducible apply Qad)); done) | ((refine (SF.below HS3.out ?_).loads); (repeat (first | exact Below.refl _ _ | with_reducible apply Qac | with_reducible apply Qad)); done) | ((refine (SF.below HS4.out ?_).loads); (repeat (first | exact Below.refl _ _ | with_reducible apply Qac | with_reducible apply Qad)); done))
     (first
     | (go_at_call 13; (with_reducible refine (Qfx B1 e1 B2 e2 r D1 g1 D2 g2 r _ (Kd.C_below HS0.out.ra.rows1 zq5) HS0.out.ra.cap1 (Kd.C_below HS0.out.ra.rows2 zq5) HS0.out.ra.cap2 (Kd.C_below HS0.out.rb.rows1 zq5) HS0.out.rb.cap1 (Kd.C_below HS0.out.rb.rows2 zq5) HS0.out.rb.cap2 (by have := HSR.out; omega) (by have := HSR.out; omega)).mono ?_); rintro en w12 ⟨⟨q, rfl, hq⟩, hb⟩; obtain rfl : q = true := hq.2 rfl; have HS1 := am (HS0.out.below (Qa zq5 hb)); clear hb hq)
     | (go_at_call 14; (with_reducible refine (Qdx A8 c8 X A10 c10 X _ (Kd.C_below HS1.out.nx.rows zq5) HS1.out.nx.cap (Kd.C_below HS1.out.al.rows zq5) HS1.out.al.cap (Qdo HTX.out).1 (Qdo HTX.out).2).mono ?_); rintro en w13 ⟨⟨q, rfl, hq⟩, hb⟩; obtain rfl : q = true := hq.2 rfl; have HS2 := am (HS1.out.below (Qa zq5 hb)); clear hb hq)
     | (go_at_call 14; (with_reducible refine (Qdx A1 c1 l A7 c7 l _ (Kd.C_below HS2.out.t.rows zq5) HS2.out.t.cap (Kd.C_below HS2.out.old.rows zq5) HS2.out.old.cap (Qdo HT.out).1 (Qdo HT.out).2).mono ?_); rintro en w14 ⟨⟨q, rfl, hq⟩, hb⟩; obtain rfl : q = true := hq.2 rfl; have HS3 := am (HS2.out.below (Qa zq5 hb)); clear hb hq)
     | (go_at_call 15; (with_reducible refine (Qbv A6 c6 o.f5 A5 c5 o.f5 _ (Kd.C_below HS3.out.own.rows zq5) HS3.out.own.cap (Kd.C_below HS3.out.x.rows zq5) HL5.out zq32).mono ?_); rintro en w15 ⟨⟨q, rfl, hq⟩, hb⟩; obtain rfl : q = true := hq.2 rfl; have HS4 := am (HS3.out.below (Qa zq5 hb)); clear hb hq))
    rename_i hheld
    clear hheld HS0 HS1 HS2 HS3 HM5 HX5
    have hn3 := HNA.out
    have hn4 := HNB.out
    have h34 := Nat.ne_of_lt HNE.out
    have h43 := Nat.ne_of_gt HNE.out
    obtain ⟨t0, t1⟩ := HS4.out.t.cells
    have t2 := Qag HS4.out.t.blk 0
    obtain ⟨m0, m1⟩ := HS4.out.m.cells
    have m2 := Qag HS4.out.m.blk 0
    obtain ⟨n0, n1⟩ := HS4.out.nx.cells
    obtain ⟨l0, l1⟩ := HS4.out.al.cells
    have HX3 := am (HS4.out.next HNE.out HBW.out)
    go_wp2_with (go_at_call 16; (with_reducible refine (weigh_walk A8 c8 X 20000 _ HX3.out.1.rows HX3.out.1.cap (Qdo HTX.out).1 (Qdo HTX.out).2).mono ?_); rintro e w16 ⟨⟨n, rfl⟩, hb⟩; have HX4 := am (And.intro (HX3.out.1.below hb) (And.intro (HX3.out.2.1.below hb) (Qa HX3.out.2.2 hb))); clear hb; cases hn : decide (20000 < n))
    ·
     go_roundw
     case rel => exact ⟨k + 1, X, A8, A10, c8, c10, by omega, rfl, HTX, ⟨HX4.out.1⟩, ⟨HX4.out.2.1⟩, ⟨HX4.out.2.2⟩⟩
     case measure => simp [intOf]; omega
    ·
     go_ret
     exact ⟨rfl, HX4.out.2.2⟩
  ·
   have hke : k = ops.length := by omega
   subst hke
   obtain ⟨t0, t1⟩ := HT0.out.cells
   go_wp2
   go_ret
   exact ⟨rfl, HB0.out⟩
end Go.Proofs.YtbhjggbijkjmnaaGreatDoor.PZ
end
