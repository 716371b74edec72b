import Derived.Test.YtbhjggbijkjmnaaGreatDoorM18
import Derived.Test.YtbhjggbijkjmnaaGreatDoorM16
import Derived.Test.YtbhjggbijkjmnaaGreatDoorM02
set_option linter.unusedVariables false
set_option linter.unusedSimpArgs false
section
namespace Go.Proofs.YtbhjggbijkjmnaaGreatDoor.PZ
open Go.RowKit Go.Proofs.YtbhjggbijkjmnaaGreatDoorW.PrintWords Go.Proofs.YtbhjggbijkjmnaaGreatDoorW.PrintLast Go.Proofs.YtbhjggbijkjmnaaGreatDoorW.PrintMore Go.Proofs.YtbhjggbijkjmnaaGreatDoor.B Go.Proofs.YtbhjggbijkjmnaaGreatDoor.Ord TD
set_option maxRecDepth 100000
theorem unv_mono {n : Nat} {a b : List Nat} (h : ∀ x ∈ a, x ∈ b) : unv n b ≤ unv n a := by
 unfold unv
 rw [← List.countP_eq_length_filter, ← List.countP_eq_length_filter]
 exact List.countP_mono_left (fun x _ hx => decide_eq_true (fun h2 => of_decide_eq_true hx (h x h2)))
theorem go_full {n : Nat} {ch : Nat → List Nat} {out : List Nat} (h : unv n out = 0) (row : List Nat) : go n ch row out = out := by
 induction row with
 | nil => exact Qga _ _ _
 | cons k row ih =>
  by_cases hk : k ∈ out
  · rw [Qfs hk, ih]
  ·
   rcases Nat.lt_or_ge k n with hn | hn
   · have := unv_lt hn hk; omega
   · rw [go_far hn, ih]
theorem nodup_le {m : List Nat} {n : Nat} (h : m.Nodup) (hl : ∀ k ∈ m, k < n) : m.length ≤ n := by
 have := Qfw (g := fun _ => 1) h (r := List.range n) (fun x hx => List.mem_range.2 (hl x hx))
 rw [Qcv, Qcv, List.length_range] at this
 exact this
theorem dec_take {m : List Nat} {j : Nat} (h : j < m.length) (b : Nat) : decide (b ∈ m.take (j + 1)) = (decide (b ∈ m.take j) || decide (m[j] = b)) := by
 rw [List.take_add_one, List.getElem?_eq_getElem h, Bool.eq_iff_iff, decide_eq_true_iff, Bool.or_eq_true, decide_eq_true_iff, decide_eq_true_iff, List.mem_append, Option.toList_some, List.mem_singleton]
 exact or_congr Iff.rfl ⟨Eq.symm, Eq.symm⟩
theorem grown_alloc {w W : World} {o : Obj} {r : Option Nat} (h : (w.alloc o).grownBy W r) : w.grownBy W r :=
 ⟨h.os, h.tape, h.output, by have := h.size; rw [World.size_alloc] at this; omega, fun k hk hr => (h.block k (by rw [World.size_alloc]; omega) hr).trans (Below.heap_alloc w o k hk)⟩
structure OI (w0 w : World) (vt v : Value) (m : List Nat) (vm : Value) (W : World) : Prop where
 own : W.ownsRow w0.heap.size 3 1 vm m.length (vals m)
 gro : w.grownBy W v.ownBlock
 blk : vm.ownBlock = v.ownBlock ∨ ∃ b, vm.ownBlock = some b ∧ w.heap.size < b
 box : W.heap[w.heap.size]? = some (.cells #[vt] 26 (0, 0))
theorem OI.step {w0 w W W' : World} {vt v vm vm' : Value} {m m' : List Nat} (hv : ∀ j, v.ownBlock = some j → j < w.heap.size) (h : OI w0 w vt v m vm W) (ho : W'.ownsRow w0.heap.size 3 1 vm' m'.length (vals m')) (hg : W.grownBy W' vm.ownBlock) (hb : vm'.ownBlock = vm.ownBlock ∨ ∃ b, vm'.ownBlock = some b ∧ W.heap.size ≤ b) : OI w0 w vt v m' vm' W' := by
 have hlt := Qai h.box
 have hne : ∀ k, k ≤ w.heap.size → some k ≠ v.ownBlock → some k ≠ vm.ownBlock := fun k hk hr e => by
  rcases h.blk with h1 | ⟨b, h1, h2⟩
  · exact hr (e.trans h1)
  · rw [h1] at e; injection e with e; omega
 refine ⟨ho, ⟨hg.os.trans h.gro.os, hg.tape.trans h.gro.tape, hg.output.trans h.gro.output, Nat.le_trans h.gro.size hg.size, fun k hk hr => (hg.block k zq3 (hne k zq3 hr)).trans (h.gro.block k hk hr)⟩, ?_, Qba h.box hg (hne _ (Nat.le_refl _) (fun e => by have := hv _ e.symm; omega))⟩
 rcases hb with h1 | ⟨b, h1, h2⟩
 · rw [h1]; exact h.blk
 · exact .inr ⟨b, h1, by omega⟩
theorem OI.bel {w0 w W : World} {vt v vm : Value} {m : List Nat} (h : OI w0 w vt v m vm W) (hB : Below w0.heap.size w0 w) (hr : ∀ k, v.ownBlock = some k → w0.heap.size ≤ k) : Below w0.heap.size w0 W := Qcu hB _ hB.size h.gro hr
theorem oi_start {w0 w : World} {vt v : Value} {m : List Nat} (h : w.ownsRow w0.heap.size 3 1 v m.length (vals m)) : OI w0 w vt v m v (w.alloc (.cells #[vt] 26)) :=
 ⟨h.alloc _, Qgn (Qaa (Below.refl _ _) _) _, .inl rfl, Qal _ _⟩
theorem own_val {w : World} {B : Nat} {v : Value} {m : List Nat} (h : w.ownsRow B 3 1 v m.length (vals m)) (j : Nat) (hj : j < m.length) : ∃ g c, v = .slice (some ⟨g, 0, none⟩) m.length c ∧ w.cell? ⟨g, j, none⟩ = some (.int .i64 (m[j] : Int)) := by
 obtain ⟨g, cp, e, _, _⟩ := h.form zq3
 subst e
 have h2 := h.cells (g := g) rfl j (.int .i64 (m[j] : Int)) (by simp [vals, List.getElem?_eq_getElem hj])
 rw [Qbl] at h2
 exact ⟨g, cp, rfl, h2⟩
def OrdP (w0 w : World) (v : Value) (m : List Nat) (e : Ending) (w' : World) : Prop :=
 ∃ v', e = .returned v' ∧ w'.ownsRow w0.heap.size 3 1 v' m.length (vals m) ∧ w.grownBy w' v.ownBlock ∧ (v'.ownBlock = v.ownBlock ∨ ∃ b, v'.ownBlock = some b ∧ w.heap.size ≤ b)
set_option maxHeartbeats 8000000 in
theorem rorder (A : Option Addr) (c : Nat) (l : List S52) (w0 : World) (hC : Kd.C k52 w0 A l.length l) (hc : l.length ≤ c) (hw : Wf l) (hl : l.length < 1000000) (hm : ∀ k, (nd l k).f3.length < 1000000000) :
  ∀ (deep at_ : Nat) (met : List Nat) (v : Value) (w : World), deep ≤ 60 → Below w0.heap.size w0 w → at_ < l.length → at_ ∉ met → met.Nodup → (∀ k ∈ met, k < l.length) → unv l.length (met ++ [at_]) ≤ deep → w.ownsRow w0.heap.size 3 1 v met.length (vals met) →
  Calls Tryz.prog 42 #[.agg #[.slice A l.length c], .int .i64 at_, v, .int .i64 deep] w fun e w' => OrdP w0 w v (go l.length (chl l) (chl l at_) (met ++ [at_])) e w' := by
 have HC := am hC
 have HW := am hw
 have HM := am hm
 clear hC hw hm
 intro deep
 induction deep using Nat.strongRecOn with
 | _ deep ih =>
 have IH := am ih
 clear ih
 intro a met v w hd hB hat hnm hnd hlt hun hown
 obtain ⟨Av, cv, rfl⟩ := Qcm hown
 have hnd1 : (met ++ [a]).Nodup := by
  rw [List.nodup_append]
  exact ⟨hnd, by simp, fun x hx y hy e => by simp at hy; exact hnm (by rw [← hy, ← e]; exact hx)⟩
 have hlt1 : ∀ k ∈ met ++ [a], k < l.length := fun k hk => by
  rcases List.mem_append.1 hk with h | h
  · exact hlt k h
  · simp at h; omega
 have hlen := nodup_le hnd1 hlt1
 rw [List.length_append, List.length_singleton] at hlen
 have HVL := am (Qgl hown)
 have HVB := am (Qdp hown)
 have HB := am hB
 have HO0 := am (oi_start (vt := .slice A l.length c) hown)
 have HI0 := am (show go l.length (chl l) ((chl l a).drop 0) (met ++ [a]) = go l.length (chl l) (chl l a) (met ++ [a]) ∧ (met ++ [a]).Nodup ∧ (∀ k ∈ met ++ [a], k < l.length) ∧ unv l.length (met ++ [a]) ≤ deep from ⟨by rw [List.drop_zero], hnd1, hlt1, hun⟩)
 have hov1 : met.length + 1 ≤ maxLen := by unfold maxLen; omega
 have hov2 : (met.length + 1) * 8 ≤ 140737488355328 := by omega
 have hbs : w0.heap.size ≤ w.heap.size := hB.size
 obtain ⟨i0, hi, hz0, hz1, hz2⟩ := info_parts info3
 obtain ⟨ad, A2, c2, A3, c3, e3, -, -, -, hy3, -, -, hl3, hC3⟩ := Qaz HC.out (a : Int) zq3 zq3
 cases e3
 rw [Int.toNat_natCast] at hy3
 rw [show rd_T52 l (a : Int) = nd l a from rfl] at hy3 hl3 hC3
 have hai : (a : Int) < (l.length : Int) := by omega
 have HY3 := am hy3
 have HC3 := am hC3
 have HL3 := am hl3
 have hlen3 := HM.out a
 clear hy3 hC3 hl3 hnd1 hlt1 hun hown hnm hnd hlt hB
 obtain ⟨R, hR⟩ : ∃ R, go l.length (chl l) (chl l a) (met ++ [a]) = R := ⟨_, rfl⟩
 rw [hR] at HI0 ⊢
 clear hR
 have hone : ∀ j u, ([Value.int .i64 (a : Int)] : List Value)[j]? = some u → ((w.alloc (.cells #[.slice (some ad) l.length c] 26)).alloc (.cells #[.int .i64 (a : Int)] 3)).cell? ((⟨w.heap.size + 1, 0, none⟩ : Addr).add j) = some u := by
  have h := cell_one_new (w.alloc (.cells #[.slice (some ad) l.length c] 26)) (.int .i64 (a : Int)) 3
  rwa [World.size_alloc] at h
 go_enter Tryz.func42, Tryz.ntmps42
 go_wp2_with (at_builtin; go_loud (refine wpList_append_own_at _ rfl _ _ 68 rfl w0.heap.size 3 i0 (.int .i64 0) 1 8 Tryz.underlying68 hi hz0 hz1 hz2 rfl zq9 (.slice Av met.length cv) met.length (vals met) rfl (HO0.out.own.alloc _) ⟨w.heap.size + 1, 0, none⟩ 1 1 [.int .i64 (a : Int)] rfl rfl hone (by simp [Value.oneCell']) hov1 hov2 zq20 ?_; intro v1 w1 hoo hg _ hat1; have HO1 := am (HO0.out.step HVL.out (m' := met ++ [a]) (by simpa [vals] using hoo) (grown_alloc hg) (hat1.imp id (fun h => ⟨_, h, by simp⟩))); clear hoo hg hat1))
 go_loopw [2, 9] (fun v2 v9 wr => ∃ (m : List Nat) (i : Nat), v9 = .int .i64 i ∧ i ≤ (nd l a).f3.length ∧ Aside0 (go l.length (chl l) ((chl l a).drop i) m = R ∧ m.Nodup ∧ (∀ k ∈ m, k < l.length) ∧ unv l.length m ≤ deep) ∧ Aside0 (OI w0 w (.slice (some ad) l.length c) (.slice Av met.length cv) m v2 wr)) (fun v2 v9 _ => (nd l a).f3.length - (intOf v9).toNat)
 case atStart => exact ⟨_, 0, rfl, Nat.zero_le _, HI0, HO1⟩
 case round =>
  obtain ⟨m, i, rfl, hil, HI, HO⟩ := hrel
  obtain ⟨Am, cm, rfl⟩ := Qcm HO.out.own
  have htc := (Qab HO.out.box 0).trans (show _ = some (Value.slice (some ad) l.length c) from rfl)
  have htl := Qai HO.out.box
  have HBR := am (HO.out.bel HB.out HVB.out)
  have hy3 := (HBR.out.cell (World.block_lt_of_cell? w0 _ HY3.out)).trans HY3.out
  have hml := nodup_le HI.out.2.1 HI.out.2.2.1
  by_cases hlt : i < (nd l a).f3.length
  ·
   obtain ⟨ad4, e4, hz0, hz1⟩ := Qbg (Kd.C_below HC3.out HBR.out) (i : Int) zq3 zq3
   cases e4
   rw [Int.toNat_natCast] at hz1
   have hin := HW.out.ino_lt (List.getElem_mem hlt)
   rw [show rd_T62 (nd l a).f3 (i : Int) = (nd l a).f3[i] by simp [rd_T62, List.getD_eq_getElem?_getD, List.getElem?_eq_getElem hlt], ← hin.2.2] at hz1
   have hgo := HI.out.1
   rw [show (chl l a).drop i = ino (nd l a).f3[i] :: (chl l a).drop (i + 1) by unfold chl; rw [List.drop_eq_getElem_cons (by rw [List.length_map]; exact hlt), List.getElem_map]] at hgo
   have hb := hin.1
   clear hz0 hin
   generalize ino (nd l a).f3[i] = b at hz1 hgo hb
   have HGO := am hgo
   have hbi : (b : Int) < (l.length : Int) := by omega
   have hii : (i : Int) < ((nd l a).f3.length : Int) := by omega
   have hdi : decide ((i : Int) < ((nd l a).f3.length : Int)) = true := decide_eq_true hii
   have hdj : decide (i < (nd l a).f3.length) = true := decide_eq_true hlt
   clear hgo
   by_cases hd0 : 0 < deep
   ·
    have hdk : decide ((deep : Int) > 0) = true := decide_eq_true zq3
    have hdl : decide (0 < deep) = true := decide_eq_true hd0
    have hdm : (deep : Int) - 1 = ((deep - 1 : Nat) : Int) := by omega
    go_wp2
    obtain ⟨wo, rfl⟩ : ∃ wo : World, wo = wr := ⟨_, rfl⟩
    go_loopw [11, 12] (fun v11 v12 wq => ∃ (j : Nat) (sb : Bool), v12 = .int .i64 j ∧ j ≤ m.length ∧ v11 = .bool sb ∧ Aside0 (sb = decide (b ∈ m.take j)) ∧ Aside0 (wq = wo)) (fun v11 v12 _ => m.length - (intOf v12).toNat)
    case atStart => exact ⟨0, false, rfl, Nat.zero_le _, rfl, ⟨by simp⟩, ⟨rfl⟩⟩
    case round =>
     obtain ⟨j, sb, rfl, hj, rfl, HSB, HWQ⟩ := hrel
     obtain rfl := HWQ.out
     by_cases hlj : j < m.length
     ·
      obtain ⟨g, cp, eg, hx⟩ := own_val HO.out.own j hlj
      injection eg with e1 e2 e3
      subst e1
      have hjj : (j : Int) < (m.length : Int) := by omega
      have HTK := am (dec_take hlj b)
      clear e2 e3
      generalize m[j] = q at hx HTK
      cases sb with
      | true =>
       go_wp2
       go_roundw
       case rel => exact ⟨j + 1, true, rfl, by omega, rfl, ⟨by rw [HTK.out, ← HSB.out]; rfl⟩, ⟨by trivial⟩⟩
       case measure => simp [intOf]; omega
      | false =>
       by_cases hq : q = b
       ·
        have hqb : ((q : Int) == (b : Int)) = true := by rw [hq]; exact beq_self_eq_true _
        have HQ := am hq
        clear hq
        go_wp2
        go_roundw
        case rel => exact ⟨j + 1, true, rfl, by omega, rfl, ⟨by rw [HTK.out, ← HSB.out, decide_eq_true HQ.out]; rfl⟩, ⟨by trivial⟩⟩
        case measure => simp [intOf]; omega
       ·
        have hqb : ((q : Int) == (b : Int)) = false := beq_eq_false_iff_ne.2 zq3
        have HQ := am hq
        clear hq
        go_wp2
        go_roundw
        case rel => exact ⟨j + 1, false, rfl, by omega, rfl, ⟨by rw [HTK.out, ← HSB.out, decide_eq_false HQ.out]; rfl⟩, ⟨by trivial⟩⟩
        case measure => simp [intOf]; omega
     ·
      have hje : j = m.length := by omega
      subst hje
      have hsb := HSB.out
      rw [List.take_length] at hsb
      by_cases hbm : b ∈ m
      ·
       rw [decide_eq_true hbm] at hsb
       subst hsb
       have HB2 := am hbm
       clear hbm
       go_wp2
       go_roundw
       case rel => exact ⟨m, i + 1, rfl, by omega, ⟨by rw [← HGO.out, Qfs HB2.out], HI.out.2⟩, HO⟩
       case measure => simp [intOf]; omega
      ·
       rw [decide_eq_false hbm] at hsb
       subst hsb
       have HGN := am (HGO.out.symm.trans (Qfm hbm hb))
       have HUN := am (unv_lt hb hbm)
       have HB2 := am hbm
       clear hbm
       go_wp2_with (go_at_call 42; (with_reducible refine (IH.out (deep - 1) zq3 b m _ _ zq3 HBR.out hb HB2.out HI.out.2.1 HI.out.2.2.1 (by have := HUN.out; have := HI.out.2.2.2; omega) HO.out.own).mono ?_); rintro e w2 ⟨v', rfl, ho, hg, hv⟩; have HO2 := am ho; have HG2 := am hg; have HV2 := am hv; clear ho hg hv)
       go_roundw
       case rel =>
        refine ⟨_, i + 1, rfl, by omega, ⟨?_, ?_, ?_, ?_⟩, ⟨HO.out.step HVL.out HO2.out HG2.out HV2.out⟩⟩
        · rw [← go_append]; exact HGN.out.symm
        ·
         exact go_nodup _ _ _ _ (by
          rw [List.nodup_append]
          exact ⟨HI.out.2.1, by simp, fun x hx y hy e => by simp at hy; exact HB2.out (by rw [← hy, ← e]; exact hx)⟩)
        ·
         exact fun k hk => (go_all (R := fun k => k < l.length) (fun k _ hk c hc => (HW.out.ch_lt hc).1) _ _ (fun k hk => (HW.out.ch_lt hk).1) (fun k hk => by
          rcases List.mem_append.1 hk with h | h
          · exact ⟨HI.out.2.2.1 k h, HI.out.2.2.1 k h⟩
          · simp at h; subst h; exact ⟨hb, hb⟩) k hk).1
        · exact Nat.le_trans (unv_mono (fun x hx => (Qh _ _ _ _).subset (List.mem_append_left _ hx))) HI.out.2.2.2
       case measure => simp [intOf]; omega
   ·
    have hdk : decide ((deep : Int) > 0) = false := decide_eq_false zq3
    have hdl : decide (0 < deep) = false := decide_eq_false hd0
    have HR := am (HI.out.1.symm.trans (go_full (by have := HI.out.2.2.2; omega) _))
    go_wp2
    go_ret
    rw [HR.out]
    exact ⟨_, rfl, HO.out.own, HO.out.gro, HO.out.blk.imp id (fun ⟨b, h1, h2⟩ => ⟨b, h1, by omega⟩)⟩
  ·
   have hii : ¬ (i : Int) < ((nd l a).f3.length : Int) := by omega
   have hdi : decide ((i : Int) < ((nd l a).f3.length : Int)) = false := decide_eq_false hii
   have HR := am (show R = m by rw [← HI.out.1, List.drop_of_length_le (by unfold chl; rw [List.length_map]; omega), Qga])
   go_wp2
   go_ret
   rw [HR.out]
   exact ⟨_, rfl, HO.out.own, HO.out.gro, HO.out.blk.imp id (fun ⟨b, h1, h2⟩ => ⟨b, h1, by omega⟩)⟩
def tabl (n : Nat) (f : Nat → Int) : List Int := (List.range n).map f
theorem set_tabl (n : Nat) (f : Nat → Int) (i : Nat) (v : Int) (h : i < n) : (tabl n f).set i v = tabl n (fun k => if k = i then v else f k) := by
 apply List.ext_getElem
 · simp [tabl]
 ·
  intro j h1 h2
  simp only [tabl, List.getElem_set, List.getElem_map, List.getElem_range]
  by_cases e : i = j
  · subst e; simp
  · rw [if_neg e, if_neg (Ne.symm e)]
theorem tabl_congr {n : Nat} {f g : Nat → Int} (h : ∀ k, k < n → f k = g k) : tabl n f = tabl n g := by
 unfold tabl
 exact List.map_congr_left fun k hk => h k (List.mem_range.1 hk)
theorem rep_tabl (n : Nat) : List.replicate n (0 : Int) = tabl n (fun _ => 0) := by
 apply List.ext_getElem
 · simp [tabl]
 · intro i h1 h2; simp [tabl]
section
variable (l : List S52)
def upP (i k : Nat) : Nat := ((List.range i).map (fun x => cnt l x k)).sum
theorem upP_succ (i k : Nat) : upP l (i + 1) k = upP l i k + cnt l i k := by
 unfold upP
 rw [List.range_succ, List.map_append, List.sum_append]
 simp
def ownP (i k : Nat) : Nat := if (nd l k).f0 = 2 then (if k < i then 2 + dirs l (nd l k).f3 else 0) else upP l i k
def upQ (i j k : Nat) : Nat := upP l i k + ((nd l i).f3.take j).countP (fun e => ino e == k)
def ownQ (i j k : Nat) : Nat := if (nd l k).f0 = 2 then (if k < i then 2 + dirs l (nd l k).f3 else if k = i then 2 + dirs l ((nd l i).f3.take j) else 0) else upQ l i j k
theorem upQ_end (i k : Nat) : upQ l i (nd l i).f3.length k = upP l (i + 1) k := by
 unfold upQ; rw [List.take_length, upP_succ]; rfl
theorem ownQ_end (i k : Nat) : ownQ l i (nd l i).f3.length k = ownP l (i + 1) k := by
 unfold ownQ ownP
 rw [upQ_end, List.take_length]
 by_cases h : (nd l k).f0 = 2
 ·
  rw [if_pos h, if_pos h]
  by_cases h1 : k < i
  · rw [if_pos h1, if_pos zq3]
  ·
   rw [if_neg h1]
   by_cases h2 : k = i
   · subst h2; rw [if_pos rfl, if_pos zq3]
   · rw [if_neg h2, if_neg zq3]
 · rw [if_neg h, if_neg h]
theorem upQ_zero (i k : Nat) : upQ l i 0 k = upP l i k := by simp [upQ]
theorem Qes (i k : Nat) : ownQ l i 0 k = if k = i ∧ (nd l k).f0 = 2 then 2 else ownP l i k := by
 unfold ownQ ownP
 rw [upQ_zero]
 by_cases h : (nd l k).f0 = 2
 ·
  rw [if_pos h, if_pos h]
  by_cases h2 : k = i
  ·
   subst h2
   rw [if_neg (show ¬ k < k by omega), if_pos rfl, if_pos ⟨rfl, h⟩]
   simp [dirs]
  · rw [if_neg (show ¬ (k = i ∧ (nd l k).f0 = 2) from fun e => h2 e.1), if_neg h2]
 · rw [if_neg h, if_neg h, if_neg (show ¬ (k = i ∧ (nd l k).f0 = 2) from fun e => h e.2)]
theorem Qdv {α : Type} (es : List α) (j : Nat) (h : j < es.length) (p : α → Bool) : (es.take (j + 1)).countP p = (es.take j).countP p + (if p es[j] then 1 else 0) := by
 rw [List.take_succ_eq_append_getElem h, List.countP_append]
 simp [List.countP_cons]
theorem upQ_succ (i j k : Nat) (h : j < (nd l i).f3.length) : upQ l i (j + 1) k = if k = ino (nd l i).f3[j] then upQ l i j k + 1 else upQ l i j k := by
 unfold upQ
 rw [Qdv _ _ h]
 by_cases e : k = ino (nd l i).f3[j]
 · subst e; simp; omega
 ·
  have : ¬ ino (nd l i).f3[j] = k := fun h => e h.symm
  simp [e, this]
theorem ownQ_dir (i j k : Nat) (h : j < (nd l i).f3.length) (hi : (nd l i).f0 = 2) (hd : (nd l (ino (nd l i).f3[j])).f0 = 2) : ownQ l i (j + 1) k = if k = i then ownQ l i j k + 1 else ownQ l i j k := by
 unfold ownQ
 by_cases hk : (nd l k).f0 = 2
 ·
  rw [if_pos hk, if_pos hk]
  by_cases h1 : k = i
  ·
   subst h1
   simp only [if_neg (show ¬ k < k by omega), if_true]
   unfold dirs
   rw [Qdv _ _ h]
   simp [hd]
   omega
  · rw [if_neg h1, if_neg h1, if_neg h1]
 · rw [if_neg hk, if_neg hk, upQ_succ _ _ _ _ h, if_neg (fun e => hk (by rw [e]; exact hd)), if_neg (fun e => hk (by rw [e]; exact hi))]
theorem ownQ_file (i j k : Nat) (h : j < (nd l i).f3.length) (hd : (nd l (ino (nd l i).f3[j])).f0 ≠ 2) : ownQ l i (j + 1) k = if k = ino (nd l i).f3[j] then ownQ l i j k + 1 else ownQ l i j k := by
 unfold ownQ
 by_cases hk : (nd l k).f0 = 2
 ·
  rw [if_pos hk, if_pos hk, if_neg (show ¬ k = ino (nd l i).f3[j] from fun e => hd (by rw [← e]; exact hk))]
  by_cases h1 : k = i
  ·
   subst h1
   simp only [if_neg (show ¬ k < k by omega), if_true]
   unfold dirs
   rw [Qdv _ _ h]
   simp [hd]
  · rw [if_neg h1, if_neg h1]
 · rw [if_neg hk, if_neg hk, upQ_succ _ _ _ _ h]
end
theorem upP_le {l : List S52} (h64 : ∀ k, (nd l k).f3.length ≤ 64) (i k : Nat) : upP l i k ≤ 64 * i := by
 induction i with
 | zero => simp [upP]
 | succ i ih =>
  rw [upP_succ]
  have : cnt l i k ≤ 64 := Nat.le_trans List.countP_le_length (h64 i)
  omega
theorem upQ_le {l : List S52} (h64 : ∀ k, (nd l k).f3.length ≤ 64) (i j k : Nat) : upQ l i j k ≤ 64 * i + 64 := by
 unfold upQ
 have h1 := upP_le h64 i k
 have h2 : ((nd l i).f3.take j).countP (fun e => ino e == k) ≤ 64 := Nat.le_trans List.countP_le_length (by rw [List.length_take]; have := h64 i; omega)
 omega
theorem ownQ_le {l : List S52} (h64 : ∀ k, (nd l k).f3.length ≤ 64) (i j k : Nat) : ownQ l i j k ≤ 64 * i + 66 := by
 have hd : ∀ es : List S62, es.length ≤ 64 → dirs l es ≤ 64 := fun es he => Nat.le_trans List.countP_le_length he
 unfold ownQ
 split
 ·
  split
  · have := hd _ (h64 k); omega
  ·
   split
   · have := hd ((nd l i).f3.take j) (by rw [List.length_take]; have := h64 i; omega); omega
   · omega
 · have := upQ_le h64 i j k; omega
def Tb (B g n c : Nat) (f : Nat → Int) (W : World) : Prop := W.ownsRow B 3 1 (.slice (some ⟨g, 0, none⟩) n c) n ((tabl n f).map (Value.int .i64))
section
variable {B g n c : Nat} {f f' : Nat → Int} {W W' : World}
theorem Tb.at (h : Tb B g n c f W) {i : Nat} (hi : i < n) : W.cell? ⟨g, i, none⟩ = some (.int .i64 (f i)) ∧ W.frozen? ⟨g, i, none⟩ = false := by
 refine ⟨?_, World.ownsRow.frozenAt h i⟩
 rw [World.ownsRow.cellAt h i zq3]
 simp [tabl, hi]
theorem Tb.congr (h : Tb B g n c f W) (hf : ∀ k, k < n → f k = f' k) : Tb B g n c f' W := by
 unfold Tb
 rw [← tabl_congr hf]
 exact h
theorem Tb.put (h : Tb B g n c f W) {i : Nat} (v : Int) (hi : i < n) (hf : ∀ k, k < n → f' k = if k = i then v else f k) : Tb B g n c f' (W.setCell ⟨g, i, none⟩ (.int .i64 v)) := by
 unfold Tb
 rw [tabl_congr hf, ← set_tabl _ _ _ _ hi, List.map_set]
 exact (World.ownsRow.stored h i _).1
theorem Tb.below (h : Tb B g n c f W) (hb : Below W.heap.size W W') : Tb B g n c f W' := Qch h hb
theorem Tb.base (h : Tb B g n c f W) : B ≤ g ∧ g < W.heap.size := ⟨Qdp h g rfl, Qgl h g rfl⟩
theorem Tb.ne (h : Tb B g n c f W) {b : Nat} {cs : Array Value} {t : TypeId} (hb : W.heap[b]? = some (.cells cs t (0, 0))) (ht : t ≠ 3) : b ≠ g := fun e => by
 obtain ⟨cells, hc⟩ := Qcj h g rfl
 exact Qce hb hc ht e
theorem made_tabl (n : Nat) : (madeCells (Value.int .i64 0).cells (n * 1)).toList = (tabl n (fun _ => 0)).map (Value.int .i64) := by
 rw [← rep_tabl, List.map_replicate, Nat.mul_one]
 apply List.ext_getElem
 · simp [madeCells]
 ·
  intro j h1 h2
  simp [madeCells, Value.cells]
  rw [Nat.mod_one]
  rfl
end
def ownR (l : List S52) (i j k : Nat) : Nat := if (nd l k).f0 = 2 ∧ i < k then 2 else ownQ l i j k
theorem ownR_end (l : List S52) (i k : Nat) : ownR l i (nd l i).f3.length k = ownR l (i + 1) 0 k := by
 unfold ownR
 rw [ownQ_end, Qes]
 by_cases h : (nd l k).f0 = 2
 ·
  by_cases h1 : i + 1 < k
  · rw [if_pos ⟨h, by omega⟩, if_pos ⟨h, h1⟩]
  ·
   rw [if_neg (show ¬ ((nd l k).f0 = 2 ∧ i + 1 < k) from fun e => h1 e.2)]
   by_cases h2 : k = i + 1
   · rw [if_pos ⟨h, by omega⟩, if_pos ⟨h2, h⟩]
   · rw [if_neg (show ¬ ((nd l k).f0 = 2 ∧ i < k) from fun e => by omega), if_neg (show ¬ (k = i + 1 ∧ (nd l k).f0 = 2) from fun e => h2 e.1)]
 · rw [if_neg (fun e => h e.1), if_neg (fun e => h e.1), if_neg (fun e => h e.2)]
theorem ownR_zero (l : List S52) (k : Nat) : (ownR l 0 0 k : Int) = if (nd l k).f0 = 2 then 2 else 0 := by
 unfold ownR
 rw [Qes]
 by_cases h : (nd l k).f0 = 2
 ·
  rw [if_pos h]
  by_cases h1 : 0 < k
  · rw [if_pos ⟨h, h1⟩]; rfl
  · rw [if_neg (fun e => h1 e.2), if_pos ⟨by omega, h⟩]; rfl
 ·
  rw [if_neg h, if_neg (fun e => h e.1), if_neg (fun e => h e.2)]
  unfold ownP
  rw [if_neg h]
  rfl
theorem ownR_last (l : List S52) {k : Nat} (hk : k < l.length) : (ownR l l.length 0 k : Int) = own l k := by
 unfold ownR own
 rw [if_neg (fun e => by omega), Qes, if_neg (fun e => by omega)]
 unfold ownP
 rw [Qdj, if_pos hk]
 split <;> rfl
theorem ownR_dir {l : List S52} {i j : Nat} (h : j < (nd l i).f3.length) (hi : (nd l i).f0 = 2) (hd : (nd l (ino (nd l i).f3[j])).f0 = 2) (k : Nat) : (ownR l i (j + 1) k : Int) = if k = i then ((ownR l i j i + 1 : Nat) : Int) else (ownR l i j k : Int) := by
 unfold ownR
 rw [ownQ_dir _ _ _ _ h hi hd, if_neg (show ¬ ((nd l i).f0 = 2 ∧ i < i) from fun e => by omega)]
 by_cases e : k = i
 · subst e; rw [if_neg (fun e => by omega), if_pos rfl, if_pos rfl]
 · rw [if_neg e, if_neg e]
theorem ownR_file {l : List S52} {i j : Nat} (h : j < (nd l i).f3.length) (hd : (nd l (ino (nd l i).f3[j])).f0 ≠ 2) (k : Nat) : (ownR l i (j + 1) k : Int) = if k = ino (nd l i).f3[j] then ((ownR l i j (ino (nd l i).f3[j]) + 1 : Nat) : Int) else (ownR l i j k : Int) := by
 unfold ownR
 rw [ownQ_file _ _ _ _ h hd]
 by_cases e : k = ino (nd l i).f3[j]
 · rw [if_pos e, if_pos e, if_neg (fun x => hd (e ▸ x.1)), if_neg (fun x => hd x.1), e]
 · rw [if_neg e, if_neg e]
theorem ownR_le {l : List S52} (h64 : ∀ k, (nd l k).f3.length ≤ 64) (i j k : Nat) : ownR l i j k ≤ 64 * i + 66 := by
 unfold ownR
 split
 · omega
 · exact ownQ_le h64 i j k
set_option maxHeartbeats 8000000 in
theorem rlinks (A : Option Addr) (c : Nat) (l : List S52) (w : World) (hC : Kd.C k52 w A l.length l) (hc : l.length ≤ c) (hw : Wf l) (hl : l.length < 1000000) (h64 : ∀ k, (nd l k).f3.length ≤ 64) :
  Calls Tryz.prog 43 #[.agg #[.slice A l.length c]] w fun e w' => ∃ g c', e = .returned (.slice (some ⟨g, 0, none⟩) l.length c') ∧ Tb w.heap.size g l.length c' (own l) w' ∧ Below w.heap.size w w' := by
 have HC := am hC
 have HW := am hw
 have H64 := am h64
 clear hC hw h64
 obtain ⟨i0, hi, hz0, hz1, hz2⟩ := info_parts info3
 have hov1 : l.length ≤ maxLen := by unfold maxLen; omega
 have hov2 : i0.bytes * l.length ≤ 281474976710656 := by rw [hz2]; omega
 go_enter Tryz.func43, Tryz.ntmps43
 go_wp2_with (at_make; refine wpList_make_full _ rfl _ _ 68 rfl w.heap.size 3 i0 (.int .i64 0) 1 Tryz.underlying68 hi hz0 hz1 .i64 .i64 (l.length : Int) (l.length : Int) l.length rfl rfl rfl rfl hov2 hov1 zq14 ?_; intro w1 ho hg; rw [made_tabl, World.size_alloc] at ho; have HT1 := am (show Tb w.heap.size (w.heap.size + 1) l.length l.length (fun _ => 0) w1 from ho); have HX1 := am (Qba (Qal w (.cells #[.slice A l.length c] 26)) hg zq14); have HB1 := am (Qcu (Qaa (Below.refl w.heap.size w) _) none zq14 hg zq14); clear ho hg)
 go_loopw [4] (fun v4 wr => ∃ i : Nat, v4 = .int .i64 i ∧ i ≤ l.length ∧ Aside0 (Tb w.heap.size (w.heap.size + 1) l.length l.length (fun k => if k < i ∧ (nd l k).f0 = 2 then 2 else 0) wr) ∧ Aside0 (wr.heap[w.heap.size]? = some (.cells #[.slice A l.length c] 26 (0, 0))) ∧ Aside0 (Below w.heap.size w wr)) (fun v4 _ => l.length - (intOf v4).toNat)
 case atStart => exact ⟨0, rfl, Nat.zero_le _, ⟨HT1.out.congr (fun k _ => by rw [if_neg (fun e => by omega)])⟩, HX1, HB1⟩
 case round =>
  obtain ⟨i, rfl, hil, HT, HX, HB⟩ := hrel
  have htc := (Qab HX.out 0).trans (show _ = some (Value.slice A l.length c) from rfl)
  have htl := Qai HX.out
  by_cases hlt : i < l.length
  ·
   have hii : (i : Int) < (l.length : Int) := by omega
   obtain ⟨ad, A2, c2, A3, c3, e3, hy0, -, -, -, -, -, -, -⟩ := Qaz (Kd.C_below HC.out HB.out) (i : Int) zq3 zq3
   cases e3
   rw [Int.toNat_natCast] at hy0
   rw [show rd_T52 l (i : Int) = nd l i from rfl] at hy0
   obtain ⟨hg0, hgf⟩ := HT.out.at hlt
   rw [if_neg (fun e => by omega)] at hg0
   by_cases hk : (nd l i).f0 = 2
   ·
    have hkb : ((nd l i).f0 == 2) = true := beq_iff_eq.2 hk
    have HK := am hk
    clear hk
    go_wp2
    go_roundw
    case rel =>
     refine ⟨i + 1, rfl, by omega, ⟨HT.out.put _ hlt (fun k _ => ?_)⟩, ⟨Qam (p := ⟨w.heap.size + 1, i, none⟩) HX.out (Nat.ne_of_lt (Nat.lt_succ_self _)) _⟩, ⟨HB.out.setCell (p := ⟨w.heap.size + 1, i, none⟩) (Nat.le_succ _) _⟩⟩
     by_cases e : k = i
     · rw [if_pos e, if_pos ⟨by omega, by rw [e]; exact HK.out⟩]
     ·
      rw [if_neg e]
      by_cases h2 : k < i
      ·
       by_cases h3 : (nd l k).f0 = 2
       · rw [if_pos ⟨by omega, h3⟩, if_pos ⟨h2, h3⟩]
       · rw [if_neg (fun e => h3 e.2), if_neg (fun e => h3 e.2)]
      · rw [if_neg (fun e => by omega), if_neg (fun e => h2 e.1)]
    case measure => simp [intOf]; omega
   ·
    have hkb : ((nd l i).f0 == 2) = false := beq_eq_false_iff_ne.2 hk
    have HK := am hk
    clear hk
    go_wp2
    go_roundw
    case rel =>
     refine ⟨i + 1, rfl, by omega, ⟨HT.out.congr (fun k _ => ?_)⟩, HX, HB⟩
     by_cases e : k < i ∧ (nd l k).f0 = 2
     · rw [if_pos e, if_pos ⟨by omega, e.2⟩]
     · rw [if_neg e, if_neg (fun h => e ⟨by rcases Nat.lt_succ_iff_lt_or_eq.1 h.1 with h1 | h1; exact h1; exact absurd (h1 ▸ h.2) HK.out, h.2⟩)]
    case measure => simp [intOf]; omega
  ·
   have hie : i = l.length := by omega
   have HT2 := am (HT.out.congr (f' := fun k => (ownR l 0 0 k : Int)) (fun k hk => by
    show _ = ((ownR l 0 0 k : Nat) : Int)
    rw [ownR_zero]
    by_cases h : (nd l k).f0 = 2
    · rw [if_pos h, if_pos ⟨by omega, h⟩]
    · rw [if_neg h, if_neg (fun e => h e.2)]))
   subst hie
   have hge : ¬ ((l.length : Int) < (l.length : Int)) := Int.lt_irrefl _
   clear HT hlt
   go_wp2
   obtain ⟨wa, rfl⟩ : ∃ wa : World, wa = wr := ⟨_, rfl⟩
   clear htc htl
   go_loopw [5] (fun v5 wr => ∃ i : Nat, v5 = .int .i64 i ∧ i ≤ l.length ∧ Aside0 (Tb w.heap.size (w.heap.size + 1) l.length l.length (fun k => (ownR l i 0 k : Int)) wr) ∧ Aside0 (wr.heap[w.heap.size]? = some (.cells #[.slice A l.length c] 26 (0, 0))) ∧ Aside0 (Below w.heap.size w wr)) (fun v5 _ => l.length - (intOf v5).toNat)
   case atStart => exact ⟨0, rfl, Nat.zero_le _, HT2, HX, HB⟩
   case round =>
    obtain ⟨i, rfl, hil, HT, HX, HB⟩ := hrel
    have htc := (Qab HX.out 0).trans (show _ = some (Value.slice A l.length c) from rfl)
    have htl := Qai HX.out
    by_cases hlt : i < l.length
    ·
     have hii : (i : Int) < (l.length : Int) := by omega
     go_wp2
     obtain ⟨wb, rfl⟩ : ∃ wb : World, wb = wr := ⟨_, rfl⟩
     clear htc htl
     go_loopw [6] (fun v6 wr => ∃ j : Nat, v6 = .int .i64 j ∧ j ≤ (nd l i).f3.length ∧ Aside0 (Tb w.heap.size (w.heap.size + 1) l.length l.length (fun k => (ownR l i j k : Int)) wr) ∧ Aside0 (wr.heap[w.heap.size]? = some (.cells #[.slice A l.length c] 26 (0, 0))) ∧ Aside0 (Below w.heap.size w wr)) (fun v6 _ => (nd l i).f3.length - (intOf v6).toNat)
     case atStart => exact ⟨0, rfl, Nat.zero_le _, HT, HX, HB⟩
     case round =>
      obtain ⟨j, rfl, hj, HT, HX, HB⟩ := hrel
      have htc := (Qab HX.out 0).trans (show _ = some (Value.slice A l.length c) from rfl)
      have htl := Qai HX.out
      obtain ⟨ad, A2, c2, A3, c3, e3, hy0, -, -, hy3, -, -, hl3, hC3⟩ := Qaz (Kd.C_below HC.out HB.out) (i : Int) zq3 zq3
      cases e3
      rw [Int.toNat_natCast] at hy0 hy3
      rw [show rd_T52 l (i : Int) = nd l i from rfl] at hy0 hy3 hl3 hC3
      have h64i := H64.out i
      by_cases hlj : j < (nd l i).f3.length
      ·
       have hjj : (j : Int) < ((nd l i).f3.length : Int) := by omega
       obtain ⟨ad4, e4, hw0, hw1⟩ := Qbg hC3 (j : Int) zq3 zq3
       cases e4
       rw [Int.toNat_natCast] at hw1
       have hin := HW.out.ino_lt (List.getElem_mem hlj)
       rw [show rd_T62 (nd l i).f3 (j : Int) = (nd l i).f3[j] by simp [rd_T62, List.getD_eq_getElem?_getD, List.getElem?_eq_getElem hlj], ← hin.2.2] at hw1
       have hid : (nd l i).f0 = 2 := by
        rcases Classical.em ((nd l i).f0 = 2) with h | h
        · exact h
        · rw [HW.out.file i h] at hlj; simp at hlj
       have HD := am (ownR_dir hlj hid)
       have HF := am (ownR_file hlj)
       have hb := hin.1
       clear hw0 hin hy0 hid hC3
       generalize ino (nd l i).f3[j] = b at hw1 HD HF hb
       have hbi : (b : Int) < (l.length : Int) := by omega
       obtain ⟨ad5, A5, c5, A6, c6, e5, hx0, -, -, -, -, -, -, -⟩ := Qaz (Kd.C_below HC.out HB.out) (b : Int) zq3 zq3
       cases e5
       rw [Int.toNat_natCast] at hx0
       rw [show rd_T52 l (b : Int) = nd l b from rfl] at hx0
       by_cases hk : (nd l b).f0 = 2
       ·
        have hkb : ((nd l b).f0 == 2) = true := beq_iff_eq.2 hk
        obtain ⟨hg0, hgf⟩ := HT.out.at hlt
        have HD2 := am (HD.out hk)
        have hz := ownR_le H64.out i j i
        clear hk
        generalize ownR l i j i = z at hg0 HD2 hz
        have hzc : ((z + 1 : Nat) : Int) = (z : Int) + 1 := by omega
        rw [hzc] at HD2
        go_wp2
        go_roundw
        case rel => exact ⟨j + 1, rfl, by omega, ⟨HT.out.put _ hlt (fun k _ => HD2.out k)⟩, ⟨Qam (p := ⟨w.heap.size + 1, i, none⟩) HX.out (Nat.ne_of_lt (Nat.lt_succ_self _)) _⟩, ⟨HB.out.setCell (p := ⟨w.heap.size + 1, i, none⟩) (Nat.le_succ _) _⟩⟩
        case measure => simp [intOf]; omega
       ·
        have hkb : ((nd l b).f0 == 2) = false := beq_eq_false_iff_ne.2 hk
        obtain ⟨hg0, hgf⟩ := HT.out.at hb
        have HF2 := am (HF.out hk)
        have hz := ownR_le H64.out i j b
        clear hk
        generalize ownR l i j b = z at hg0 HF2 hz
        have hzc : ((z + 1 : Nat) : Int) = (z : Int) + 1 := by omega
        rw [hzc] at HF2
        go_wp2
        go_roundw
        case rel => exact ⟨j + 1, rfl, by omega, ⟨HT.out.put _ hb (fun k _ => HF2.out k)⟩, ⟨Qam (p := ⟨w.heap.size + 1, b, none⟩) HX.out (Nat.ne_of_lt (Nat.lt_succ_self _)) _⟩, ⟨HB.out.setCell (p := ⟨w.heap.size + 1, b, none⟩) (Nat.le_succ _) _⟩⟩
        case measure => simp [intOf]; omega
      ·
       have hje : j = (nd l i).f3.length := by omega
       have HT2 := am (HT.out.congr (f' := fun k => (ownR l (i + 1) 0 k : Int)) (fun k _ => by rw [hje, ownR_end]))
       subst hje
       have hge2 : ¬ (((nd l i).f3.length : Int) < ((nd l i).f3.length : Int)) := Int.lt_irrefl _
       clear HT hlj hy0 hC3
       go_wp2
       go_roundw
       case rel => exact ⟨i + 1, rfl, by omega, HT2, HX, HB⟩
       case measure => simp [intOf]; omega
    ·
     have hie : i = l.length := by omega
     have HT2 := am (HT.out.congr (f' := own l) (fun k hk => by rw [hie, ownR_last l hk]))
     subst hie
     clear HT hlt
     go_wp2
     go_ret
     exact ⟨_, _, rfl, HT2.out, HB.out⟩
end Go.Proofs.YtbhjggbijkjmnaaGreatDoor.PZ
end
