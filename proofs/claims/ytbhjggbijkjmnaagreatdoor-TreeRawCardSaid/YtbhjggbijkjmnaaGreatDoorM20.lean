import Derived.Test.YtbhjggbijkjmnaaGreatDoorM19
import Derived.Deep.DeepCutAuto
import Derived.Test.YtbhjggbijkjmnaaGreatDoorM16
import Derived.Test.YtbhjggbijkjmnaaGreatDoorM18
import Derived.BigQuiet
import Derived.Deep.QuietTactic
set_option linter.unusedVariables false
set_option linter.unusedSimpArgs false
section
namespace Go.Proofs.YtbhjggbijkjmnaaGreatDoor.PZ
open Go.RowKit Go.Proofs.YtbhjggbijkjmnaaGreatDoorW.PrintWords Go.Proofs.YtbhjggbijkjmnaaGreatDoorW.PrintLast Go.Proofs.YtbhjggbijkjmnaaGreatDoorW.PrintMore Go.Proofs.YtbhjggbijkjmnaaGreatDoor.B Go.Proofs.YtbhjggbijkjmnaaGreatDoor.Ord TD
set_option maxRecDepth 100000
section
variable {B g g' n c : Nat} {f fo fu fo' fu' : Nat → Int} {w W W' : World} {bx : Value}
theorem Tb.new (W : World) (B n : Nat) (hB : B ≤ W.heap.size) (hn : n ≤ 9223372036854775807) : Tb B W.heap.size n n (fun _ => 0) (W.alloc (.cells (madeCells #[.int .i64 0] n) 3)) := by
 unfold Tb
 rw [← rep_tabl]
 exact own_made W B 3 .i64 n hB hn
theorem Tb.far (h : Tb B g n c f W) {p : Addr} (hne : p.block ≠ g) (u : Value) : Tb B g n c f (W.setCell p u) := own_setCell h (fun e => hne (Option.some.inj e)) u
theorem ownP_le {l : List S52} (h64 : ∀ k, (nd l k).f3.length ≤ 64) (i k : Nat) : ownP l i k ≤ 64 * i + 66 := by
 have h := ownQ_le h64 i 0 k
 rw [Qes] at h
 split at h
 ·
  rename_i h1
  unfold ownP
  rw [if_pos h1.2, if_neg zq3]
  omega
 · exact h
structure TL (w : World) (g g' n : Nat) (fo fu : Nat → Int) (bx : Value) (W : World) : Prop where
 o : Tb w.heap.size g n n fo W
 u : Tb w.heap.size g' n n fu W
 x : W.heap[w.heap.size]? = some (.cells #[bx] 26 (0, 0))
 ne : g ≠ g'
 bel : Below w.heap.size w W
theorem TL.below (h : TL w g g' n fo fu bx W) (hb : Below W.heap.size W W') : TL w g g' n fo fu bx W' := ⟨h.o.below hb, h.u.below hb, Qaf h.x hb, h.ne, Qa h.bel hb⟩
theorem TL.congr (h : TL w g g' n fo fu bx W) (h1 : ∀ k, k < n → fo k = fo' k) (h2 : ∀ k, k < n → fu k = fu' k) : TL w g g' n fo' fu' bx W := ⟨h.o.congr h1, h.u.congr h2, h.x, h.ne, h.bel⟩
theorem TL.putO (h : TL w g g' n fo fu bx W) {i : Nat} (v : Int) (hi : i < n) (hf : ∀ k, k < n → fo' k = if k = i then v else fo k) : TL w g g' n fo' fu bx (W.setCell ⟨g, i, none⟩ (.int .i64 v)) :=
 ⟨h.o.put v hi hf, h.u.far (p := ⟨g, i, none⟩) h.ne _, Qam (p := ⟨g, i, none⟩) h.x (h.o.ne h.x zq9) _, h.ne, h.bel.setCell (p := ⟨g, i, none⟩) h.o.base.1 _⟩
theorem TL.putU (h : TL w g g' n fo fu bx W) {i : Nat} (v : Int) (hi : i < n) (hf : ∀ k, k < n → fu' k = if k = i then v else fu k) : TL w g g' n fo fu' bx (W.setCell ⟨g', i, none⟩ (.int .i64 v)) :=
 ⟨h.o.far (p := ⟨g', i, none⟩) (Ne.symm h.ne) _, h.u.put v hi hf, Qam (p := ⟨g', i, none⟩) h.x (h.u.ne h.x zq9) _, h.ne, h.bel.setCell (p := ⟨g', i, none⟩) h.u.base.1 _⟩
theorem TL.start (hn : n ≤ 56) : TL w (w.heap.size + 1) (w.heap.size + 1 + 1) n (fun _ => 0) (fun _ => 0) bx (((w.alloc (.cells #[bx] 26)).alloc (.cells (madeCells #[.int .i64 0] n) 3)).alloc (.cells (madeCells #[.int .i64 0] n) 3)) := by
 have e1 : (w.alloc (.cells #[bx] 26)).heap.size = w.heap.size + 1 := World.size_alloc _ _
 have h1 := Tb.new (w.alloc (.cells #[bx] 26)) w.heap.size n zq3 zq3
 have e2 : ((w.alloc (.cells #[bx] 26)).alloc (.cells (madeCells #[.int .i64 0] n) 3)).heap.size = w.heap.size + 1 + 1 := by rw [World.size_alloc, e1]
 have h2 := Tb.new ((w.alloc (.cells #[bx] 26)).alloc (.cells (madeCells #[.int .i64 0] n) 3)) w.heap.size n zq3 zq3
 rw [e1] at h1
 rw [e2] at h2
 exact ⟨h1.below (Qaa (Below.refl _ _) _), h2, Qaj (Qaj (Qal w _) _) _, by omega, Qaa (Qaa (Qaa (Below.refl _ _) _) _) _⟩
theorem TL.swap (h : TL w g g' n fo fu bx W) : TL w g' g n fu fo bx W := ⟨h.u, h.o, h.x, Ne.symm h.ne, h.bel⟩
end
set_option maxHeartbeats 8000000 in
theorem tlinks (A : Option Addr) (c : Nat) (l : List S52) (w : World) (hC : Kd.C k52 w A l.length l) (hc : l.length ≤ c) (hw : Wf l) (hl : l.length ≤ 56) (h64 : ∀ k, (nd l k).f3.length ≤ 64) :
  Calls Tryz.prog 40 #[.agg #[.slice A l.length c]] w fun e w' => ∃ g g' c' c'', e = .returned (.tuple #[.slice (some ⟨g, 0, none⟩) l.length c', .slice (some ⟨g', 0, none⟩) l.length c'']) ∧ Tb w.heap.size g l.length c' (own l) w' ∧ Tb w.heap.size g' l.length c'' (fun k => (ups l k : Int)) w' ∧ Below w.heap.size w w' := by
 have HC := am hC
 have HW := am hw
 have H64 := am h64
 clear hC hw h64
 go_enter Tryz.func40, Tryz.ntmps40
 have hmk := run_make_row' (P := Tryz.prog) 68 3 (.int .i64 0) 8 Tryz.underlying68 info3 rfl .i64 .i64 l.length zq3 zq3
 go_upto_region 1 with (fail)
 go_cut [4, 5] (fun v4 v5 wx => ∃ g g', v4 = .slice (some ⟨g, 0, none⟩) l.length l.length ∧ v5 = .slice (some ⟨g', 0, none⟩) l.length l.length ∧ TL w g g' l.length (fun _ => 0) (fun _ => 0) (.slice A l.length c) wx)
 case first =>
  go_region
  all_goals
   go_wp2
   go_meet
   case rel => first | exact ⟨_, _, rfl, rfl, (TL.start hl).below (Qad (Below.refl _ _))⟩ | exact ⟨_, _, rfl, rfl, (TL.start hl).swap.below (Qad (Below.refl _ _))⟩
 case rest =>
  clear hmk
  obtain ⟨g, g', rfl, rfl, hS⟩ := hcut
  have HS0 := am hS
  clear hS
  have hxc := (Qab HS0.out.x 0).trans (show _ = some (Value.slice A l.length c) from rfl)
  have hxl := Qai HS0.out.x
  go_wp2
  obtain ⟨wa, rfl⟩ : ∃ wa : World, wa = wc := ⟨_, rfl⟩
  clear hxc hxl
  go_loopw [21] (fun v21 wr => ∃ i : Nat, v21 = .int .i64 i ∧ i ≤ l.length ∧ Aside0 (TL w g g' l.length (fun k => (ownP l i k : Int)) (fun k => (upP l i k : Int)) (.slice A l.length c) wr)) (fun v21 _ => l.length - (intOf v21).toNat)
  case atStart => exact ⟨0, rfl, Nat.zero_le _, ⟨HS0.out.congr (fun k _ => by unfold ownP upP; simp) (fun k _ => by unfold upP; simp)⟩⟩
  case round =>
   obtain ⟨i, rfl, hil, HS⟩ := hrel
   have hxc := (Qab HS.out.x 0).trans (show _ = some (Value.slice A l.length c) from rfl)
   have hxl := Qai HS.out.x
   by_cases hlt : i < l.length
   ·
    have hii : (i : Int) < (l.length : Int) := by omega
    obtain ⟨ad, A2, c2, A3, c3, e3, hy0, hy1, hy2, hy3, -, -, hl3, hC3⟩ := Qaz HC.out (i : Int) zq3 zq3
    cases e3
    rw [Int.toNat_natCast] at hy0 hy1 hy2 hy3
    rw [show rd_T52 l (i : Int) = nd l i from rfl] at hy0 hy1 hy2 hy3 hl3 hC3
    replace hy0 := (HS.out.bel.cell (World.block_lt_of_cell? w _ hy0)).trans hy0
    replace hy1 := (HS.out.bel.cell (World.block_lt_of_cell? w _ hy1)).trans hy1
    replace hy2 := (HS.out.bel.cell (World.block_lt_of_cell? w _ hy2)).trans hy2
    replace hy3 := (HS.out.bel.cell (World.block_lt_of_cell? w _ hy3)).trans hy3
    have HC3 := am hC3
    clear hC3
    have h64i := H64.out i
    obtain ⟨hg0, hgf⟩ := HS.out.o.at hlt
    have hgl := HS.out.o.base.2
    obtain ⟨x, hx⟩ : ∃ x, nd l i = x := ⟨_, rfl⟩
    have HX := am hx
    have hzo := ownP_le H64.out i i
    rw [hx] at hy0 hy1 hy2 hy3 hl3 h64i
    clear hx
    generalize hzz : ownP l i i = z at hg0 hzo
    have HZ := am hzz
    clear hzz
    go_upto_if 28 with (fail)
    go_cut [] (fun wx => TL w g g' l.length (fun k => (ownQ l i 0 k : Int)) (fun k => (upQ l i 0 k : Int)) (.slice (some ad) l.length c) wx ∧ wx.heap[wr.heap.size]? = some (.cells #[.int .i64 x.f0, .int .i64 x.f1, .slice A2 x.f2.length c2, .slice A3 x.f3.length c3] 52))
    case first =>
     by_cases hk : x.f0 = 2
     ·
      have hkb : (x.f0 == 2) = true := beq_iff_eq.2 hk
      have HT : TL w g g' l.length (fun k => (ownQ l i 0 k : Int)) (fun k => (upQ l i 0 k : Int)) (.slice (some ad) l.length c) (wr.setCell ⟨g, i, none⟩ (.int .i64 ((z : Int) + 2))) := (HS.out.congr (fun k _ => rfl) (fun k _ => by rw [upQ_zero])).putO _ hlt (fun k _ => by
       rw [Qes]
       by_cases e : k = i
       ·
        rw [if_pos e, if_pos ⟨e, by rw [e, HX.out]; exact hk⟩]
        have : z = 0 := by rw [← HZ.out]; unfold ownP; rw [HX.out, if_pos hk, if_neg zq3]
        omega
       · rw [if_neg e, if_neg (fun h => e h.1)])
      have HT := am HT
      clear hk
      go_wp2
      go_meet
      case rel => exact ⟨HT.out.below (Qaa (Below.refl _ _) _), by have h := Qal (wr.setCell ⟨g, i, none⟩ (.int .i64 ((z : Int) + 2))) (.cells #[.int .i64 x.f0, .int .i64 x.f1, .slice A2 x.f2.length c2, .slice A3 x.f3.length c3] 52); rwa [World.size_setCell] at h⟩
     ·
      have hkb : (x.f0 == 2) = false := beq_eq_false_iff_ne.2 hk
      have HT := am (HS.out.congr (fo' := fun k => (ownQ l i 0 k : Int)) (fu' := fun k => (upQ l i 0 k : Int)) (fun k _ => by rw [Qes, if_neg (fun h => hk (by rw [← HX.out, ← h.1]; exact h.2))]) (fun k _ => by rw [upQ_zero]))
      clear hk
      go_wp2
      go_meet
      case rel => exact ⟨HT.out.below (Qaa (Below.refl _ _) _), Qal _ _⟩
    case rest =>
     have HT := am hcut.1
     have hn3 := (Qab hcut.2 3).trans (show _ = some (Value.slice A3 x.f3.length c3) from rfl)
     have hnl := Qai hcut.2
     clear hcut hy0 hy1 hy2 hy3 hg0 hgf hgl HS hxc hxl HZ
     go_wp2
     obtain ⟨wb, rfl⟩ : ∃ wb : World, wb = wc := ⟨_, rfl⟩
     clear hn3 hnl
     go_loopw [38] (fun v38 wq => ∃ j : Nat, v38 = .int .i64 j ∧ j ≤ x.f3.length ∧ Aside0 (TL w g g' l.length (fun k => (ownQ l i j k : Int)) (fun k => (upQ l i j k : Int)) (.slice (some ad) l.length c) wq)) (fun v38 _ => x.f3.length - (intOf v38).toNat)
     case atStart => exact ⟨0, rfl, Nat.zero_le _, HT⟩
     case round =>
      obtain ⟨j, rfl, hj, HS⟩ := hrel
      by_cases hlj : j < x.f3.length
      ·
       have hjj : (j : Int) < (x.f3.length : Int) := by omega
       have hxc := (Qab HS.out.x 0).trans (show _ = some (Value.slice (some ad) l.length c) from rfl)
       have hxl := Qai HS.out.x
       have hlj' : j < (nd l i).f3.length := by rw [HX.out]; exact hlj
       obtain ⟨ad4, e4, hw0, hw1⟩ := Qbg HC3.out (j : Int) zq3 zq3
       cases e4
       rw [Int.toNat_natCast] at hw0 hw1
       have hin := HW.out.ino_lt (List.getElem_mem hlj')
       have HD : Aside0 (∀ k, (nd l i).f0 = 2 → (nd l (ino (nd l i).f3[j])).f0 = 2 → ownQ l i (j + 1) k = if k = i then ownQ l i j k + 1 else ownQ l i j k) := ⟨fun k => ownQ_dir l i j k hlj'⟩
       have HF : Aside0 (∀ k, (nd l (ino (nd l i).f3[j])).f0 ≠ 2 → ownQ l i (j + 1) k = if k = ino (nd l i).f3[j] then ownQ l i j k + 1 else ownQ l i j k) := ⟨fun k => ownQ_file l i j k hlj'⟩
       have HU : Aside0 (∀ k, upQ l i (j + 1) k = if k = ino (nd l i).f3[j] then upQ l i j k + 1 else upQ l i j k) := ⟨fun k => upQ_succ l i j k hlj'⟩
       rw [show rd_T62 (nd l i).f3 (j : Int) = (nd l i).f3[j] by simp [rd_T62, List.getD_eq_getElem?_getD, List.getElem?_eq_getElem hlj']] at hw0 hw1
       rw [← hin.2.2] at hw1
       replace hw0 := (HS.out.bel.cell (World.block_lt_of_cell? w _ hw0)).trans hw0
       replace hw1 := (HS.out.bel.cell (World.block_lt_of_cell? w _ hw1)).trans hw1
       have hid : (nd l i).f0 = 2 := by
        rcases Classical.em ((nd l i).f0 = 2) with h | h
        · exact h
        · rw [HW.out.file i h] at hlj'; simp at hlj'
       have HID := am hid
       have hb := hin.1
       generalize (nd l i).f3[j].f0 = nm at hw0
       generalize ino (nd l i).f3[j] = b at *
       clear hin hid hlj'
       have hbi : (b : Int) < (l.length : Int) := by omega
       obtain ⟨ad5, A5, c5, A6, c6, e5, hx0, -, -, -, -, -, -, -⟩ := Qaz HC.out (b : Int) zq3 zq3
       cases e5
       rw [Int.toNat_natCast] at hx0
       rw [show rd_T52 l (b : Int) = nd l b from rfl] at hx0
       have hbg : (ad.add (b * 4)).block ≠ g' := Nat.ne_of_lt (Nat.lt_of_lt_of_le (World.block_lt_of_cell? w _ hx0) HS.out.u.base.1)
       have hxg := HS.out.u.ne HS.out.x zq9
       replace hx0 := (HS.out.bel.cell (World.block_lt_of_cell? w _ hx0)).trans hx0
       have hbl := World.block_lt_of_cell? _ _ hx0
       obtain ⟨hu0, huf⟩ := HS.out.u.at hb
       have hul := HS.out.u.base.2
       have hol := HS.out.o.base.2
       have hn1 := HS.out.ne
       have hn2 := Ne.symm HS.out.ne
       have hzu := upQ_le H64.out i j b
       by_cases hk : (nd l b).f0 = 2
       ·
        have hkb : ((nd l b).f0 == 2) = true := beq_iff_eq.2 hk
        obtain ⟨hg0, hgf⟩ := HS.out.o.at hlt
        have hzo := ownQ_le H64.out i j i
        have HT2 : Aside0 (TL w g g' l.length (fun k => (ownQ l i (j + 1) k : Int)) (fun k => (upQ l i (j + 1) k : Int)) (.slice (some ad) l.length c) ((wr.setCell ⟨g', b, none⟩ (.int .i64 ((upQ l i j b : Int) + 1))).setCell ⟨g, i, none⟩ (.int .i64 ((ownQ l i j i : Int) + 1)))) := ⟨(HS.out.putU (fu' := fun k => (upQ l i (j + 1) k : Int)) _ hb (fun k _ => by show ((upQ l i (j + 1) k : Nat) : Int) = _; rw [HU.out k]; split <;> simp_all)).putO (fo' := fun k => (ownQ l i (j + 1) k : Int)) _ hlt (fun k _ => by show ((ownQ l i (j + 1) k : Nat) : Int) = _; rw [HD.out k HID.out hk]; split <;> simp_all)⟩
        generalize upQ l i j b = zu at hu0 hzu HT2
        generalize ownQ l i j i = zo at hg0 hzo HT2
        have hx1 : ((wr.setCell ⟨g', b, none⟩ (.int .i64 ((zu : Int) + 1))).alloc (.cells #[.string nm, .int .i64 (b : Int)] 62)).cell? (ad.add (b * 4)) = some (.int .i64 (nd l b).f0) := by rw [World.cell?_alloc_lt _ _ _ (by rw [World.size_setCell]; exact hbl), cell_far hbg]; exact hx0
        clear hk HD HF HU
        go_wp2
        go_roundw
        case rel => exact ⟨j + 1, rfl, by omega, ⟨HT2.out.below (Qaa (Below.refl _ _) _)⟩⟩
        case measure => simp [intOf]; omega
       ·
        have hkb : ((nd l b).f0 == 2) = false := beq_eq_false_iff_ne.2 hk
        obtain ⟨hg0, hgf⟩ := HS.out.o.at hb
        have hzo := ownQ_le H64.out i j b
        have HT2 : Aside0 (TL w g g' l.length (fun k => (ownQ l i (j + 1) k : Int)) (fun k => (upQ l i (j + 1) k : Int)) (.slice (some ad) l.length c) ((wr.setCell ⟨g', b, none⟩ (.int .i64 ((upQ l i j b : Int) + 1))).setCell ⟨g, b, none⟩ (.int .i64 ((ownQ l i j b : Int) + 1)))) := ⟨(HS.out.putU (fu' := fun k => (upQ l i (j + 1) k : Int)) _ hb (fun k _ => by show ((upQ l i (j + 1) k : Nat) : Int) = _; rw [HU.out k]; split <;> simp_all)).putO (fo' := fun k => (ownQ l i (j + 1) k : Int)) _ hb (fun k _ => by show ((ownQ l i (j + 1) k : Nat) : Int) = _; rw [HF.out k hk]; split <;> simp_all)⟩
        generalize upQ l i j b = zu at hu0 hzu HT2
        generalize ownQ l i j b = zo at hg0 hzo HT2
        have hx1 : ((wr.setCell ⟨g', b, none⟩ (.int .i64 ((zu : Int) + 1))).alloc (.cells #[.string nm, .int .i64 (b : Int)] 62)).cell? (ad.add (b * 4)) = some (.int .i64 (nd l b).f0) := by rw [World.cell?_alloc_lt _ _ _ (by rw [World.size_setCell]; exact hbl), cell_far hbg]; exact hx0
        clear hk HD HF HU
        go_wp2
        go_roundw
        case rel => exact ⟨j + 1, rfl, by omega, ⟨HT2.out.below (Qaa (Below.refl _ _) _)⟩⟩
        case measure => simp [intOf]; omega
      ·
       have hje : j = x.f3.length := by omega
       subst hje
       have HT2 := am (HS.out.congr (fo' := fun k => (ownP l (i + 1) k : Int)) (fu' := fun k => (upP l (i + 1) k : Int)) (fun k _ => by rw [← HX.out, ownQ_end]) (fun k _ => by rw [← HX.out, upQ_end]))
       have hge2 : ¬ ((x.f3.length : Int) < (x.f3.length : Int)) := Int.lt_irrefl _
       go_wp2
       go_roundw
       case rel => exact ⟨i + 1, rfl, by omega, HT2⟩
       case measure => simp [intOf]; omega
   ·
    have hie : i = l.length := by omega
    subst hie
    go_wp2
    go_ret2
    exact ⟨g, g', _, _, rfl, HS.out.o.congr (fun k hk => by unfold ownP own; rw [Qdj, if_pos hk]; split <;> rfl), HS.out.u.congr (fun k _ => by rw [Qdj]; rfl), HS.out.bel⟩
theorem met_walk (A : Option Addr) (cap : Nat) (l : List S52) (w : World) (hcap : l.length ≤ cap) (hc : Kd.C k52 w A l.length l) (hw : Wf l) (h56 : l.length ≤ 56) (h64 : ∀ k, (nd l k).f3.length ≤ 64) :
  Calls Tryz.prog 39 #[.agg #[.slice A l.length cap]] w fun e W' => ∃ v, e = .returned v ∧ W'.ownsRow w.heap.size 3 1 v (mt l).length (vals (mt l)) ∧ Below w.heap.size w W' :=
 (callsIn_wide (n := 3)).1 (met_in Fence.wide 3 trivial trivial trivial rfl zq3 A cap l w hcap hc hw h56 h64)
def Qct (l : List S52) (k : Nat) : Int :=
 if k < l.length then (if saneN (nd l k) l.length = true then Qct l (k + 1) else (k : Int)) else -1
termination_by l.length - k
decreasing_by omega
theorem ins_all (l : List S52) : ∀ (d k : Nat), l.length - k = d → (Qct l k < 0 ↔ ∀ j, k ≤ j → j < l.length → saneN (nd l j) l.length = true) := by
 intro d
 induction d with
 | zero =>
  intro k hd
  rw [Qct, if_neg zq3]
  exact ⟨fun _ j _ _ => by omega, fun _ => by omega⟩
 | succ d ih =>
  intro k hd
  have hkl : k < l.length := by omega
  rw [Qct, if_pos hkl]
  by_cases h : saneN (nd l k) l.length = true
  ·
   rw [if_pos h, ih (k + 1) zq3]
   constructor
   ·
    intro h2 j hj hl
    by_cases e : j = k
    · rw [e]; exact h
    · exact h2 j zq3 hl
   · exact fun h2 j hj hl => h2 j zq3 hl
  ·
   rw [if_neg h]
   constructor
   · intro h2; omega
   · intro h2; exact absurd (h2 k (Nat.le_refl _) hkl) h
theorem insane_walk (x : S52) (n : Nat) (A2 : Option Addr) (c2 : Nat) (A3 : Option Addr) (c3 : Nat) (B : Addr) (w : World) (hn : n < 1000000000000) (hl : x.f3.length < 1000000000000) (hB : w.cell? B = some (.int .i64 n))
  (hr2 : Kd.C (Kd.int .u8) w A2 x.f2.length x.f2) (hc2 : x.f2.length ≤ c2) (hr3 : Kd.C k62 w A3 x.f3.length x.f3) (hc3 : x.f3.length ≤ c3) :
  Calls Tryz.prog 37 #[.agg #[.int .i64 x.f0, .int .i64 x.f1, .slice A2 x.f2.length c2, .slice A3 x.f3.length c3], .pointer (some B)] w fun e w' => e = .returned (.bool (!saneN x n)) ∧ Below w.heap.size w w' := by
 have HR2 := am hr2
 have HR3 := am hr3
 have hBl := World.block_lt_of_cell? w _ hB
 clear hr2 hr3
 go_enter Tryz.func37, Tryz.ntmps37
 go_wp2_with (go_at_call 38; refine (sane_walk x n A2 c2 A3 c3 _ hn hl (Kd.C_below HR3.out (Qaa (Below.refl _ _) _)) hc3).mono ?_; rintro e w' ⟨rfl, hb⟩; have HB := am hb; clear hb)
 go_ret
 exact ⟨rfl, Qa (Qaa (Below.refl _ _) _) HB.out⟩
set_option maxHeartbeats 1000000 in
theorem insidx_walk (A0 : Option Addr) (c0 : Nat) (l : List S52) (B : Addr) (w : World) (hr0 : Kd.C k52 w A0 l.length l) (hc0 : l.length ≤ c0) (hn : l.length < 1000000000000) (hm : ∀ k, (nd l k).f3.length < 1000000000000) (hB : w.cell? B = some (.int .i64 l.length)) :
  Calls Tryz.prog 70 #[.slice A0 l.length c0, .func (.func 37) #[] #[.pointer (some B)]] w fun e w' => e = .returned (.int .i64 (Qct l 0)) ∧ Below w.heap.size w w' := by
 have HR0 := am hr0
 have HM := am hm
 have HBC := am hB
 clear hr0 hm hB
 go_enter Tryz.func70, Tryz.ntmps70
 go_wp2
 go_loopw [5, 8] (fun v5 v8 wr => ∃ k : Nat, k ≤ l.length ∧ v8 = .int .i64 k ∧ Aside0 (Qct l k = Qct l 0) ∧ Aside0 (Below w.heap.size w wr)) (fun v5 v8 _ => l.length - (intOf v8).toNat)
 case atStart => exact ⟨0, Nat.zero_le _, rfl, ⟨rfl⟩, ⟨Below.refl _ _⟩⟩
 case round =>
  obtain ⟨k, hk, rfl, HE, HB⟩ := hrel
  by_cases hlt : k < l.length
  ·
   obtain ⟨ad, A2, c2, A3, c3, e, hx0, hx1, hx2, hx3, hl2, hC2, hl3, hC3⟩ := Qaz HR0.out (k : Int) zq3 zq3
   subst e
   rw [Int.toNat_natCast] at hx0 hx1 hx2 hx3
   have hq := HM.out k
   have hxk : rd_T52 l (k : Int) = nd l k := rfl
   rw [hxk] at hx0 hx1 hx2 hx3 hl2 hC2 hl3 hC3
   clear hxk
   generalize hX : nd l k = x at hx0 hx1 hx2 hx3 hl2 hC2 hl3 hC3 hq
   replace hx0 := (HB.out.cell (World.block_lt_of_cell? w _ hx0)).trans hx0
   replace hx1 := (HB.out.cell (World.block_lt_of_cell? w _ hx1)).trans hx1
   replace hx2 := (HB.out.cell (World.block_lt_of_cell? w _ hx2)).trans hx2
   replace hx3 := (HB.out.cell (World.block_lt_of_cell? w _ hx3)).trans hx3
   have hBr := (HB.out.cell (World.block_lt_of_cell? w _ HBC.out)).trans HBC.out
   have HC2 := am (Kd.C_below hC2 HB.out)
   have HC3 := am (Kd.C_below hC3 HB.out)
   have HL2 := am hl2
   have HL3 := am hl3
   have HBR := am hBr
   have HQ2 := am hq
   clear hC2 hC3 hl2 hl3 hBr hq
   by_cases hp : saneN x l.length = true
   ·
    have HE2 := am (HE.out.symm.trans (by rw [Qct, if_pos hlt, hX, if_pos hp] : Qct l k = Qct l (k + 1)))
    have hp2 : (!saneN x l.length) = false := by rw [hp]; rfl
    clear hX
    go_wp2_with (go_at_call 37; refine (insane_walk x l.length A2 c2 A3 c3 B _ hn HQ2.out HBR.out HC2.out HL2.out HC3.out HL3.out).mono ?_; rintro e w' ⟨rfl, hb⟩; have HB2 := am hb; clear hb)
    go_roundw
    case rel => exact ⟨k + 1, by omega, rfl, ⟨HE2.out.symm⟩, ⟨Qa HB.out HB2.out⟩⟩
    case measure => simp [intOf]; omega
   ·
    replace hp : saneN x l.length = false := by simpa using hp
    have HQ := am (HE.out.symm.trans (by rw [Qct, if_pos hlt, hX, if_neg (by rw [hp]; decide)] : Qct l k = (k : Int)))
    have hp2 : (!saneN x l.length) = true := by rw [hp]; rfl
    clear hX
    go_wp2_with (go_at_call 37; refine (insane_walk x l.length A2 c2 A3 c3 B _ hn HQ2.out HBR.out HC2.out HL2.out HC3.out HL3.out).mono ?_; rintro e w' ⟨rfl, hb⟩; have HB2 := am hb; clear hb)
    go_ret
    exact ⟨by rw [HQ.out]; rfl, Qa HB.out HB2.out⟩
  ·
   have hkl : k = l.length := by omega
   subst hkl
   have HQ := am (HE.out.symm.trans (by rw [Qct, if_neg zq3] : Qct l l.length = (-1 : Int)))
   go_wp2
   go_ret
   exact ⟨by rw [HQ.out]; rfl, HB.out⟩
theorem inscon_walk (A0 : Option Addr) (c0 : Nat) (l : List S52) (B : Addr) (w : World) (hr0 : Kd.C k52 w A0 l.length l) (hc0 : l.length ≤ c0) (hn : l.length < 1000000000000) (hm : ∀ k, (nd l k).f3.length < 1000000000000) (hB : w.cell? B = some (.int .i64 l.length)) :
  Calls Tryz.prog 36 #[.slice A0 l.length c0, .func (.func 37) #[] #[.pointer (some B)]] w fun e w' => e = .returned (.bool (!l.all (fun x => saneN x l.length))) ∧ Below w.heap.size w w' := by
 have hq : (!l.all (fun x => saneN x l.length)) = decide (Qct l 0 ≥ 0) := by
  have h := ins_all l l.length 0 zq3
  rw [Bool.eq_iff_iff, Bool.not_eq_true', decide_eq_true_eq]
  constructor
  ·
   intro h2
   rcases Classical.em (Qct l 0 ≥ 0) with h3 | h3
   · exact h3
   ·
    have := (all_nd (p := fun x => saneN x l.length)).2 (fun j hj => h.1 zq3 j (Nat.zero_le _) hj)
    rw [this] at h2; cases h2
  ·
   intro h2
   cases h3 : l.all (fun x => saneN x l.length) with
   | false => rfl
   | true =>
    have := h.2 (fun j _ hj => (all_nd (p := fun x => saneN x l.length)).1 h3 j hj)
    omega
 rw [hq]
 have HR0 := am hr0
 have HM := am hm
 have HBC := am hB
 clear hr0 hm hB hq
 go_enter Tryz.func36, Tryz.ntmps36
 go_wp2_with (go_at_call 70; refine (insidx_walk _ _ l B _ HR0.out hc0 hn HM.out HBC.out).mono ?_; rintro e w' ⟨rfl, hb⟩; have HB := am hb; clear hb)
 go_ret
 exact ⟨rfl, HB.out⟩
theorem all_bad {l : List S52} {k : Nat} (hk : k < l.length) (h : okAt l k = false) : (List.range l.length).all (okAt l) = false := by
 cases h2 : (List.range l.length).all (okAt l) with
 | false => rfl
 | true =>
  have := List.all_eq_true.1 h2 k (List.mem_range.2 hk)
  rw [h] at this
  cases this
theorem rd0 (l : List S52) : rd_T52 l 0 = nd l 0 := rfl
set_option maxHeartbeats 4000000 in
theorem Qd (A : Option Addr) (cap : Nat) (l : List S52) (w : World) (hcap : l.length ≤ cap) (hc : Kd.C k52 w A l.length l) (hn : l.length < 1000000000000) (hm : ∀ k, (nd l k).f3.length < 1000000000000) :
  Calls Tryz.prog 19 #[.agg #[.slice A l.length cap]] w fun e w' => e = .returned (.bool (Qbd l)) ∧ Below w.heap.size w w' := by
 have HC := am hc
 have HM := am hm
 clear hc hm
 by_cases h1 : 1 ≤ l.length
 ·
  by_cases h2 : l.length ≤ 56
  ·
   obtain ⟨ad, A2, c2, A3, c3, e, hx0, -, -, -, -, -, -, -⟩ := Qaz HC.out 0 zq3 zq3
   subst e
   rw [rd0] at hx0
   have hx00 : w.cell? ad = some (.int .i64 (nd l 0).f0) := by simpa [Addr.add] using hx0
   have hxl := World.block_lt_of_cell? w _ hx00
   clear hx0
   have hd1 : decide ((l.length : Int) < 1) = false := decide_eq_false zq3
   have hd2 : decide (56 < (l.length : Int)) = false := decide_eq_false zq3
   by_cases h3 : (nd l 0).f0 = 2
   ·
    cases h4 : l.all (fun x => saneN x l.length) with
    | false =>
     have e : Qbd l = false := by unfold Qbd; rw [h4]; simp
     rw [e]
     have h4b : (!l.all (fun x => saneN x l.length)) = true := by rw [h4]; rfl
     have HN := am h4b
     rw [h3] at hx00
     clear e h4 h4b
     go_enter Tryz.func19, Tryz.ntmps19
     go_wp2_with (go_at_call 36; refine (inscon_walk _ _ l _ _ (Kd.C_below HC.out (Qaa (Qaa (Below.refl _ _) _) _)) hcap hn HM.out (by go_simp)).mono ?_; rw [HN.out]; rintro e w' ⟨rfl, hb⟩; have HB := am hb; clear hb)
     go_ret
     exact ⟨rfl, Qa (Qaa (Qaa (Below.refl _ _) _) _) HB.out⟩
    | true =>
     have hs := sn_of h1 h2 h3 h4
     have HS := am hs
     have h4b : (!l.all (fun x => saneN x l.length)) = false := by rw [h4]; rfl
     have HN := am h4b
     rw [h3] at hx00
     have hr : Qbd l = (List.range l.length).all (okAt l) := by
      unfold Qbd; rw [h4]; simp [h1, h2, h3]
     rw [hr]
     clear hr h4 h4b hs
     go_enter Tryz.func19, Tryz.ntmps19
     go_wp2_with (first
      | (go_at_call 36; refine (inscon_walk _ _ l _ _ (Kd.C_below HC.out (Qaa (Qaa (Below.refl _ _) _) _)) hcap hn HM.out (by go_simp)).mono ?_; rw [HN.out]; rintro e w1 ⟨rfl, hb⟩; have HB1 := am (Qa (Qaa (Qaa (Below.refl _ _) _) _) hb); have ht1 : w1.cell? ⟨w.heap.size, 0, none⟩ = some (.slice (some ad) l.length cap) := (hb.cell zq20).trans (by go_simp); have hn1 : w1.cell? ⟨w.heap.size + 1, 0, none⟩ = some (.int .i64 (l.length : Int)) := (hb.cell zq14).trans (by go_simp); clear hb)
      | (go_at_call 39; refine (met_walk _ _ l _ hcap (Kd.C_below HC.out HB1.out) HS.out.wf h2 HS.out.ents).mono ?_; rintro e w2 ⟨vo, rfl, ho, hb⟩; have HO := am ho; have HB2 := am (Qa HB1.out hb); have ht2 := (hb.cell (World.block_lt_of_cell? _ _ ht1)).trans ht1; have hn2 := (hb.cell (World.block_lt_of_cell? _ _ hn1)).trans hn1; have HBL := am hb; clear ho hb)
      | (go_at_call 40; refine (tlinks _ _ l _ (Kd.C_below HC.out HB2.out) hcap HS.out.wf h2 HS.out.ents).mono ?_; rintro e w3 ⟨g0, g1, c0, c1, rfl, hr0, hr1, hb⟩; have HR0 := am hr0; have HR1 := am hr1; have HB3 := am (Qa HB2.out hb); have ht3 := (hb.cell (World.block_lt_of_cell? _ _ ht2)).trans ht2; have hn3 := (hb.cell (World.block_lt_of_cell? _ _ hn2)).trans hn2; have HO3 := am (Qch HO.out hb); clear hr0 hr1 hb))
     obtain ⟨Ao, co, rfl⟩ := Qcm HO3.out
     have HT3 := am ht3
     have HN3 := am hn3
     clear ht1 ht2 ht3 hn1 hn2 hn3
     go_loopw [42] (fun v42 wr => ∃ k : Nat, k ≤ l.length ∧ v42 = .int .i64 k ∧ Aside0 (∀ j, j < k → okAt l j = true) ∧ Aside0 (Below w3.heap.size w3 wr)) (fun v42 _ => l.length - (intOf v42).toNat)
     case atStart => exact ⟨0, Nat.zero_le _, rfl, ⟨fun j hj => by omega⟩, ⟨Below.refl _ _⟩⟩
     case round =>
      obtain ⟨k, hk, rfl, HE, HB⟩ := hrel
      by_cases hlt : k < l.length
      ·
       obtain ⟨ad2, B2, d2, B3, d3, e, hx0, hx1, hx2, hx3, -, -, -, -⟩ := Qaz HC.out (k : Int) zq3 zq3
       cases e
       rw [Int.toNat_natCast] at hx0 hx1 hx2 hx3
       have hrd : rd_T52 l (k : Int) = nd l k := rfl
       rw [hrd] at hx0 hx1 hx2 hx3
       have hB4 := Qa HB3.out HB.out
       replace hx0 := (hB4.cell (World.block_lt_of_cell? w _ hx0)).trans hx0
       replace hx1 := (hB4.cell (World.block_lt_of_cell? w _ hx1)).trans hx1
       replace hx2 := (hB4.cell (World.block_lt_of_cell? w _ hx2)).trans hx2
       replace hx3 := (hB4.cell (World.block_lt_of_cell? w _ hx3)).trans hx3
       have hn4 := (HB.out.cell (World.block_lt_of_cell? _ _ HN3.out)).trans HN3.out
       have HB4 := am hB4
       clear hB4 hrd
       have hwr : w.heap.size + 1 < wr.heap.size := World.block_lt_of_cell? _ _ hn4
       obtain ⟨wq, hwq⟩ : ∃ wq, wr.alloc (.cells #[.int .i64 (nd l k).f0, .int .i64 (nd l k).f1, .slice B2 (nd l k).f2.length d2, .slice B3 (nd l k).f3.length d3] 52) = wq := ⟨_, rfl⟩
       have hbq : Below wr.heap.size wr wq := by rw [← hwq]; exact Qaa (Below.refl _ _) _
       have hB5 := am (Qa HB.out hbq)
       have hn5 := (hbq.cell (World.block_lt_of_cell? _ _ hn4)).trans hn4
       have h80 : wq.cell? ⟨wr.heap.size, 0, none⟩ = some (.int .i64 (nd l k).f0) := by rw [← hwq]; exact (Qab (Qal wr _) 0).trans rfl
       have h81 : wq.cell? ⟨wr.heap.size, 1, none⟩ = some (.int .i64 (nd l k).f1) := by rw [← hwq]; exact (Qab (Qal wr _) 1).trans rfl
       clear hn4 hbq
       have HB6 := am (Qa HB3.out hB5.out)
       by_cases hA : (mt l).length = l.length
       ·
        have hg1 : ((((mt l).length : Nat) : Int) != ((l.length : Nat) : Int)) = false := by rw [hA]; simp
        obtain ⟨ado, e, hxo⟩ : ∃ ado, Ao = some ado ∧ wq.cell? (ado.add k) = some (.int .i64 ((mt l).getD k 0 : Nat)) := by
         obtain ⟨g, cp, e2, _, _⟩ := HO3.out.form zq3
         injection e2 with e2
         subst e2
         refine ⟨_, rfl, (hB5.out.cell (by rw [Qc]; exact Qgl HO3.out g zq24)).trans (HO3.out.cells (g := g) rfl k _ ?_)⟩
         simp [vals, List.getD_eq_getElem?_getD, List.getElem?_eq_getElem (show k < (mt l).length by omega)]
        subst e
        have hy0 := (HR0.out.at hlt).1
        replace hy0 := (hB5.out.cell (World.block_lt_of_cell? _ _ hy0)).trans hy0
        have hy1 := (HR1.out.at hlt).1
        replace hy1 := (hB5.out.cell (World.block_lt_of_cell? _ _ hy1)).trans hy1
        have hkn : k < (mt l).length := by omega
        generalize hO : (mt l).getD k 0 = ok at hxo
        have HO := am hO
        have HA := am hA
        clear hO hA
        by_cases hB : ok = k
        ·
         have hg2 : ((ok : Int) != (k : Int)) = false := by rw [hB]; simp
         have HBk := am hB
         clear hB
         by_cases hC : own l k = (nd l k).f1
         ·
          have hg3 : (own l k != (nd l k).f1) = false := by rw [hC]; simp
          have HCk := am hC
          clear hC
          by_cases hD : 0 < k
          ·
           have hg4 : decide ((0 : Int) < (k : Int)) = true := decide_eq_true zq3
           have hg4' : decide (0 < k) = true := decide_eq_true hD
           by_cases hF : (nd l k).f0 = 2
           ·
            have hg5 : ((nd l k).f0 == 2) = true := beq_iff_eq.2 hF
            have HF := am hF
            clear hF
            by_cases hG : ups l k = 1
            ·
             have hg6 : ((ups l k : Int) != 1) = false := by rw [hG]; rfl
             have OKK : Aside0 (okAt l k = true) := ⟨by unfold okAt; rw [HA.out, HO.out, HBk.out, HCk.out, HF.out, hG]; simp⟩
             clear hG
             go_wp2
             clear hx0 hx1 hx2 hx3
             go_quiet (fail)
             go_wp2
             go_roundw
             case rel => exact ⟨k + 1, by omega, by first | rfl | simp, ⟨fun j hj => by
              by_cases e : j = k
              · rw [e]; exact OKK.out
              · exact HE.out j zq3⟩, ⟨Qac hB5.out _⟩⟩
             case measure => simp [intOf]; omega
            ·
             have hg6 : ((ups l k : Int) != 1) = true := by simp [bne]; omega
             have BAD : Aside0 ((List.range l.length).all (okAt l) = false) := ⟨all_bad hlt (by unfold okAt; simp [HF.out, hD, hG])⟩
             clear hG
             go_wp2
             clear hx0 hx1 hx2 hx3
             go_quiet (fail)
             go_wp2
             go_ret
             exact ⟨by rw [BAD.out]; rfl, Qa HB6.out (Qac (Below.refl _ _) _)⟩
           ·
            have hg5 : ((nd l k).f0 == 2) = false := beq_eq_false_iff_ne.2 hF
            have OKK : Aside0 (okAt l k = true) := ⟨by unfold okAt; rw [HA.out, HO.out, HBk.out, HCk.out]; simp [hF]⟩
            clear hF
            go_wp2
            clear hx0 hx1 hx2 hx3
            go_quiet (fail)
            go_wp2
            go_roundw
            case rel => exact ⟨k + 1, by omega, by first | rfl | simp, ⟨fun j hj => by
             by_cases e : j = k
             · rw [e]; exact OKK.out
             · exact HE.out j zq3⟩, ⟨Qac hB5.out _⟩⟩
            case measure => simp [intOf]; omega
          ·
           have hg4 : decide ((0 : Int) < (k : Int)) = false := decide_eq_false zq3
           have hg4' : decide (0 < k) = false := decide_eq_false hD
           have OKK : Aside0 (okAt l k = true) := ⟨by unfold okAt; rw [HA.out, HO.out, HBk.out, HCk.out]; simp [hD]⟩
           clear hD
           go_wp2
           clear hx0 hx1 hx2 hx3
           go_quiet (fail)
           go_wp2
           go_roundw
           case rel => exact ⟨k + 1, by omega, by first | rfl | simp, ⟨fun j hj => by
            by_cases e : j = k
            · rw [e]; exact OKK.out
            · exact HE.out j zq3⟩, ⟨Qac hB5.out _⟩⟩
           case measure => simp [intOf]; omega
         ·
          have hg3 : (own l k != (nd l k).f1) = true := by simp [bne, hC]
          have BAD : Aside0 ((List.range l.length).all (okAt l) = false) := ⟨all_bad hlt (by unfold okAt; simp [hC])⟩
          clear hC
          go_wp2
          clear hx0 hx1 hx2 hx3
          go_quiet (fail)
          go_wp2
          go_ret
          exact ⟨by rw [BAD.out]; rfl, Qa HB6.out (Qac (Below.refl _ _) _)⟩
        ·
         have hg2 : ((ok : Int) != (k : Int)) = true := by simp [bne]; omega
         have BAD : Aside0 ((List.range l.length).all (okAt l) = false) := ⟨all_bad hlt (by unfold okAt; rw [HO.out]; simp [hB])⟩
         clear hB
         go_wp2
         clear hx0 hx1 hx2 hx3
         go_quiet (fail)
         go_wp2
         go_ret
         exact ⟨by rw [BAD.out]; rfl, Qa HB6.out (Qac (Below.refl _ _) _)⟩
       ·
        have hg1 : ((((mt l).length : Nat) : Int) != ((l.length : Nat) : Int)) = true := by simp [bne]; omega
        have BAD : Aside0 ((List.range l.length).all (okAt l) = false) := ⟨all_bad hlt (by unfold okAt; simp [hA])⟩
        clear hA
        go_wp2
        clear hx0 hx1 hx2 hx3
        go_quiet (fail)
        go_wp2
        go_ret
        exact ⟨by rw [BAD.out]; rfl, Qa HB6.out (Qac (Below.refl _ _) _)⟩
      ·
       have hkl2 : k = l.length := by omega
       subst hkl2
       have hall : (List.range l.length).all (okAt l) = true := List.all_eq_true.2 fun j hj => HE.out j (List.mem_range.1 hj)
       have HALL := am hall
       clear hall
       go_wp2
       go_ret
       exact ⟨by rw [HALL.out]; rfl, Qa HB3.out HB.out⟩
   ·
    have e : Qbd l = false := by unfold Qbd; simp [h3]
    rw [e]
    have hd3 : ((nd l 0).f0 != 2) = true := by simp [bne, h3]
    clear e h3
    go_enter Tryz.func19, Tryz.ntmps19
    go_wp2
    go_ret
    exact ⟨rfl, Qaa (Qaa (Below.refl _ _) _) _⟩
  ·
   have e : Qbd l = false := by unfold Qbd; simp [h2]
   rw [e]
   have hd1 : decide ((l.length : Int) < 1) = false := decide_eq_false zq3
   have hd2 : decide (56 < (l.length : Int)) = true := decide_eq_true zq3
   clear e
   go_enter Tryz.func19, Tryz.ntmps19
   go_wp2
   go_ret
   exact ⟨rfl, Qaa (Qaa (Below.refl _ _) _) _⟩
 ·
  have e : Qbd l = false := by unfold Qbd; simp [h1]
  rw [e]
  have hd1 : decide ((l.length : Int) < 1) = true := decide_eq_true zq3
  clear e
  go_enter Tryz.func19, Tryz.ntmps19
  go_wp2
  go_ret
  exact ⟨rfl, Qaa (Qaa (Below.refl _ _) _) _⟩
end Go.Proofs.YtbhjggbijkjmnaaGreatDoor.PZ
end
