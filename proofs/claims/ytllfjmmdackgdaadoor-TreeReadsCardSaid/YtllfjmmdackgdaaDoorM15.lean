import Derived.Test.YtllfjmmdackgdaaDoorM14
import Derived.Test.YtllfjmmdackgdaaDoorM02
import Derived.Test.YtllfjmmdackgdaaDoorM08
import Derived.Test.YtllfjmmdackgdaaDoorM07
import Derived.Deep.RegionHeld3
import Derived.Deep.DrawnRows
import Derived.Test.YtllfjmmdackgdaaDoorM09
set_option linter.unusedVariables false
set_option linter.unusedSimpArgs false
/-! GSt -/
section
namespace Go.Proofs.YtllfjmmdackgdaaDoor.PZ
open Go.RowKit Go.Proofs.YtllfjmmdackgdaaDoorW.PrintWords Go.Proofs.YtllfjmmdackgdaaDoorW.PrintLast Go.Proofs.YtllfjmmdackgdaaDoorW.PrintMore TD
set_option maxRecDepth 100000
set_option linter.unusedVariables false
set_option linter.unusedSimpArgs false
/-- A worker in block b, and its nodes, which lie apart and above B. -/
def St (B b : Nat) (l : List S58) (rest : List Value) (w : World) : Prop := B ≤ b ∧ ∃ v, Wk w b v rest ∧ Kd.S k58 58 w B (fun k => k ≠ b) v l
theorem St.below {B b : Nat} {l : List S58} {rest : List Value} {w w1 : World} (h : St B b l rest w) (hb : Below w.heap.size w w1) : St B b l rest w1 := by
  obtain ⟨h0, v, h1, h2⟩ := h
  exact ⟨h0, v, blk_below h1 hb, Kd.S_below h2 hb⟩
theorem nd_toNat (l : List S58) (i : Nat) : l.getD (i : Int).toNat ⟨0, 0, [], []⟩ = nd l i := by rw [Int.toNat_natCast]; rfl
/-- A node's fields in memory; another row of entries, made since, may be put in place of its own, or other bytes. -/
theorem S_node {W : World} {B g n cap b : Nat} {l : List S58} (hb : b < W.heap.size) (h : Kd.S k58 58 W B (fun k => k ≠ b) (.slice (some ⟨g, 0, none⟩) n cap) l) (i : Nat) (hi : i < l.length) (hBW : B ≤ W.heap.size) :
    ∃ v2 v3, W.cell? ⟨g, i * 4, none⟩ = some (.int .i64 (nd l i).f0) ∧ W.cell? ⟨g, i * 4 + 1, none⟩ = some (.int .i64 (nd l i).f1) ∧ W.cell? ⟨g, i * 4 + 2, none⟩ = some v2 ∧ W.cell? ⟨g, i * 4 + 3, none⟩ = some v3 ∧
      Kd.R (Kd.int .u8) 5 W B (fun k => k ≠ b) v2 (nd l i).f2 ∧ Kd.R k102 102 W B (fun k => k ≠ b) v3 (nd l i).f3 ∧ (∀ j, W.frozen? ⟨g, i * 4 + j, none⟩ = false) ∧ g ≠ b ∧ B ≤ g ∧
      (∀ (w1 : World) (u : Value) (es : List S102), Below W.heap.size W w1 → Kd.R k102 102 w1 W.heap.size (fun _ => True) u es →
        Kd.S k58 58 (w1.setCell ⟨g, i * 4 + 3, none⟩ u) B (fun k => k ≠ b) (.slice (some ⟨g, 0, none⟩) n cap) (setE l i es)) ∧
      (∀ (w1 : World) (u : Value) (bs : List Int), Below W.heap.size W w1 → Kd.R (Kd.int .u8) 5 w1 W.heap.size (fun _ => True) u bs →
        Kd.S k58 58 (w1.setCell ⟨g, i * 4 + 2, none⟩ u) B (fun k => k ≠ b) (.slice (some ⟨g, 0, none⟩) n cap) (setD l i bs)) := by
  have hn := (Kd.S_reads' h).1
  have hgb : g ≠ b := (Kd.S_R h).1 g (by simp [Value.ownBlock])
  have hBg : B ≤ g := Kd.S_base h g (by simp [Value.ownBlock])
  obtain ⟨oki, c, hcl, hM, hcc, hfr, hoki, hH⟩ := Kd.S_elem h ⟨0, 0, [], []⟩ (i : Int) (by omega) (by omega)
  have HM := hM
  rw [nd_toNat] at hM
  obtain ⟨v2, v3, rfl, hd2, hd3⟩ := k58_openM hM
  rw [Int.toNat_natCast] at hcc hfr
  have hH2 := Kd.H_widen hH
  refine ⟨v2, v3, hcc 0 _ rfl, hcc 1 _ rfl, hcc 2 _ rfl, hcc 3 _ rfl, Kd.R_mono hd2 (fun k hk => (hoki k hk).1), Kd.R_mono hd3 (fun k hk => (hoki k hk).1), hfr, hgb, hBg, ?_, ?_⟩
  · intro w1 u es hbw hr
    have hd2' := Kd.R_below hd2 hbw
    obtain ⟨h2, h3⟩ := Kd.H_seg (seg := [u]) (j := 3) (Kd.H_below hH2 hbw) (by omega) (by omega) (by simp; decide) (by intro q hq; rw [List.mem_singleton] at hq; subst hq; exact (Kd.R_val hr).2)
    have hgl : g < W.heap.size := World.block_lt_of_cell? _ _ (hcc 0 _ rfl)
    have hM' : k58.M (w1.setCells g (i * 4 + 3) [u]) B (fun k => oki k ∨ k ≠ b ∧ W.heap.size ≤ k) ⟨(nd l i).f0, (nd l i).f1, (nd l i).f2, es⟩ [.int .i64 (nd l i).f0, .int .i64 (nd l i).f1, v2, u] :=
      k58_mkM _ _ _ ⟨(nd l i).f0, (nd l i).f1, (nd l i).f2, es⟩ (Kd.R_mono (Kd.R_step hd2' (fun k hk hlt => h3.block k hlt (fun he => (hoki k hk).2 (by injection he)))) (fun k hk => .inl hk)) (Kd.R_lower (Kd.R_mono (Kd.R_step (Kd.R_bound hr) (fun k hk hlt => h3.block k hlt (fun he => by injection he with he; have := hk.2.1; omega))) (fun k hk => .inr ⟨by have := hk.2.1; omega, hk.2.1⟩)) hBW)
    have h4 := Kd.H_back (okp := fun k => oki k ∨ k ≠ b ∧ W.heap.size ≤ k) h2 (x' := ⟨(nd l i).f0, (nd l i).f1, (nd l i).f2, es⟩) hM' (fun k hk => hk)
    rw [Int.toNat_natCast] at h4
    exact h4
  · intro w1 u bs hbw hr
    have hd3' := Kd.R_below hd3 hbw
    obtain ⟨h2, h3⟩ := Kd.H_seg (seg := [u]) (j := 2) (Kd.H_below hH2 hbw) (by omega) (by omega) (by simp; decide) (by intro q hq; rw [List.mem_singleton] at hq; subst hq; exact (Kd.R_val hr).2)
    have hgl : g < W.heap.size := World.block_lt_of_cell? _ _ (hcc 0 _ rfl)
    have hM' : k58.M (w1.setCells g (i * 4 + 2) [u]) B (fun k => oki k ∨ k ≠ b ∧ W.heap.size ≤ k) ⟨(nd l i).f0, (nd l i).f1, bs, (nd l i).f3⟩ [.int .i64 (nd l i).f0, .int .i64 (nd l i).f1, u, v3] :=
      k58_mkM _ _ _ ⟨(nd l i).f0, (nd l i).f1, bs, (nd l i).f3⟩ (Kd.R_lower (Kd.R_mono (Kd.R_step (Kd.R_bound hr) (fun k hk hlt => h3.block k hlt (fun he => by injection he with he; have := hk.2.1; omega))) (fun k hk => .inr ⟨by have := hk.2.1; omega, hk.2.1⟩)) hBW) (Kd.R_mono (Kd.R_step hd3' (fun k hk hlt => h3.block k hlt (fun he => (hoki k hk).2 (by injection he)))) (fun k hk => .inl hk))
    have h4 := Kd.H_back (okp := fun k => oki k ∨ k ≠ b ∧ W.heap.size ≤ k) h2 (x' := ⟨(nd l i).f0, (nd l i).f1, bs, (nd l i).f3⟩) hM' (fun k hk => hk)
    rw [Int.toNat_natCast] at h4
    exact h4
/-- What stood below B is as it was, and so is every block but workers and nodes. -/
structure BW (B : Nat) (w w' : World) : Prop where
  bel : Below B w w'
  keep : ∀ (i : Nat) (cells : Array Value) (t : TypeId), w.heap[i]? = some (Obj.cells cells t (0, 0)) → t ≠ 78 → t ≠ 58 → w'.heap[i]? = some (Obj.cells cells t (0, 0))
theorem BW.mono {B : Nat} {w W : World} (h : Below w.heap.size w W) (hB : B ≤ w.heap.size) : BW B w W := ⟨Below.mono h hB, fun i cells t hi _ _ => (h.block i (blk_lt hi)).trans hi⟩
theorem BW.refl (B : Nat) (w : World) : BW B w w := ⟨Below.refl _ _, fun _ _ _ h _ _ => h⟩
theorem BW.trans {B : Nat} {w w1 w2 : World} (h : BW B w w1) (h2 : BW B w1 w2) : BW B w w2 := ⟨h.bel.trans h2.bel, fun i cells t hi h3 h4 => h2.keep i cells t (h.keep i cells t hi h3 h4) h3 h4⟩
theorem BW.step {B : Nat} {w W w2 : World} (h : BW B w W) (h2 : Below w.heap.size W w2) (hB : B ≤ w.heap.size) : BW B w w2 := ⟨h.bel.trans (Below.mono h2 hB), fun i cells t hi h3 h4 => (h2.block i (blk_lt hi)).trans (h.keep i cells t hi h3 h4)⟩
theorem BW.drew {B : Nat} {w W : World} (h : BW B w W) : BW B w W.drew := ⟨below_drew h.bel, h.keep⟩
theorem BW.drewN {B : Nat} {w W : World} (h : BW B w W) (n : Nat) : BW B w (W.drewN n) := ⟨pw_below_drewN h.bel n, h.keep⟩
theorem BW.set {B : Nat} {w W : World} (h : BW B w W) {b : Nat} {cs : Array Value} {t : TypeId} (hb : B ≤ b) (hw : W.heap[b]? = some (Obj.cells cs t (0, 0))) (ht : t = 78 ∨ t = 58) (i : Nat) (u : Value) : BW B w (W.setCell ⟨b, i, none⟩ u) :=
  ⟨h.bel.setCell (p := ⟨b, i, none⟩) hb u, fun j cells t' hj h3 h4 => (Below.heap_setCell W ⟨b, i, none⟩ u j (fun e => by
    have h5 := h.keep j cells t' hj h3 h4
    rw [show j = b from e, hw] at h5
    injection h5 with h5
    injection h5 with _ h5 _
    rcases ht with ht | ht
    · exact h3 (h5.symm.trans ht)
    · exact h4 (h5.symm.trans ht))).trans (h.keep j cells t' hj h3 h4)⟩
theorem BW.setW {B : Nat} {w W : World} (h : BW B w W) {b : Nat} {v : Value} {rest : List Value} (hb : B ≤ b) (hw : Wk W b v rest) (i : Nat) (u : Value) : BW B w (W.setCell ⟨b, i, none⟩ u) := h.set hb hw (.inl rfl) i u
theorem BW.setN {B base : Nat} {ok : Nat → Prop} {w W : World} (h : BW B w W) {g n cap : Nat} {l : List S58} (hg : B ≤ g) (hS : Kd.S k58 58 W base ok (.slice (some ⟨g, 0, none⟩) n cap) l) (i : Nat) (u : Value) : BW B w (W.setCell ⟨g, i, none⟩ u) := by
  obtain ⟨cs, hc⟩ := Kd.S_typed hS g (by simp [Value.ownBlock])
  exact h.set hg hc (.inr rfl) i u
theorem BW.grownN {B base : Nat} {ok : Nat → Prop} {w W w2 : World} (h : BW B w W) (h2 : Below B W w2) {v : Value} {l : List S58} (hS : Kd.S k58 58 W base ok v l) (hg : W.grownBy w2 v.ownBlock) : BW B w w2 :=
  ⟨h.bel.trans h2, fun j cells t hj h3 h4 => by
    have h5 := h.keep j cells t hj h3 h4
    refine (hg.block j (blk_lt h5) (fun e => ?_)).trans h5
    obtain ⟨cs, hc⟩ := Kd.S_typed hS j e.symm
    rw [hc] at h5
    injection h5 with h5
    injection h5 with _ h5 _
    exact h4 h5.symm⟩
end Go.Proofs.YtllfjmmdackgdaaDoor.PZ
end
/-! GPut -/
section
namespace Go.Proofs.YtllfjmmdackgdaaDoor.PZ
open Go.RowKit Go.Proofs.YtllfjmmdackgdaaDoorW.PrintWords Go.Proofs.YtllfjmmdackgdaaDoorW.PrintLast Go.Proofs.YtllfjmmdackgdaaDoorW.PrintMore
attribute [local go_sem ↓] Go.wp_at_zero Go.wp_at_succ
set_option maxRecDepth 100000
set_option linter.unusedVariables false
set_option linter.unusedSimpArgs false
theorem one_C (W : World) (x : S102) : Kd.C k102 (W.alloc (.cells #[.string x.f0, .int .i64 x.f1] 102)) (some ⟨W.heap.size, 0, none⟩) 1 [x] := by
  refine ⟨rfl, by omega, fun _ => ⟨_, rfl, fun j p hj => ?_⟩⟩
  match j, hj with
  | 0, hj =>
    cases hj
    refine ⟨[.string x.f0, .int .i64 x.f1], rfl, k102_mk _ x, fun i u hu => ?_⟩
    rw [add_plain, (blk_cell (blk_new W _) _)]
    match i, hu with
    | 0, hu => cases hu; rfl
    | 1, hu => cases hu; rfl
theorem three_C {W : World} {A0 A1 A2 : Option Addr} {l0 l1 l2 : List S102} {c0 c1 c2 : Nat} (h0 : Kd.C k102 W A0 l0.length l0) (e0 : l0.length ≤ c0) (h1 : Kd.C k102 W A1 l1.length l1) (e1 : l1.length ≤ c1) (h2 : Kd.C k102 W A2 l2.length l2) (e2 : l2.length ≤ c2) (t : Nat) :
    Kd.C (Kd.slice 102 k102) (W.alloc (.cells #[.slice A0 l0.length c0, .slice A1 l1.length c1, .slice A2 l2.length c2] t)) (some ⟨W.heap.size, 0, none⟩) 3 [l0, l1, l2] := by
  have hb : Below W.heap.size W (W.alloc (.cells #[.slice A0 l0.length c0, .slice A1 l1.length c1, .slice A2 l2.length c2] t)) := below_alloc (Below.refl _ _) _
  have hc : ∀ j u, (#[Value.slice A0 l0.length c0, .slice A1 l1.length c1, .slice A2 l2.length c2] : Array Value)[j]? = some u → (W.alloc (.cells #[.slice A0 l0.length c0, .slice A1 l1.length c1, .slice A2 l2.length c2] t)).cell? ((⟨W.heap.size, 0, none⟩ : Addr).add j) = some u := fun j u hu => by
    rw [add_plain, (blk_cell (blk_new W _) _)]; exact hu
  refine ⟨rfl, by omega, fun _ => ⟨_, rfl, fun j p hj => ?_⟩⟩
  match j, hj with
  | 0, hj =>
    cases hj
    exact ⟨[.slice A0 l0.length c0], rfl, ⟨A0, c0, rfl, e0, Kd.C_below h0 hb⟩, fun i u hu => by match i, hu with | 0, hu => cases hu; exact hc 0 _ rfl⟩
  | 1, hj =>
    cases hj
    exact ⟨[.slice A1 l1.length c1], rfl, ⟨A1, c1, rfl, e1, Kd.C_below h1 hb⟩, fun i u hu => by match i, hu with | 0, hu => cases hu; exact hc 1 _ rfl⟩
  | 2, hj =>
    cases hj
    exact ⟨[.slice A2 l2.length c2], rfl, ⟨A2, c2, rfl, e2, Kd.C_below h2 hb⟩, fun i u hu => by match i, hu with | 0, hu => cases hu; exact hc 2 _ rfl⟩
theorem conc3 (ad : Addr) (l0 l1 l2 r : List S102) (W : World) (h : slices_Concat.f [l0, l1, l2] = some r) (hC : Kd.C (Kd.slice 102 k102) W (some ad) 3 [l0, l1, l2]) :
    Calls Tryd.prog 115 #[.slice (some ad) 3 3] W fun e w' => ∃ v0_ : Value, e = .returned v0_ ∧ Kd.R k102 102 w' W.heap.size (fun _ => True) v0_ r ∧ Below W.heap.size W w' :=
  slices_Concat.calls (some ad) 3 [l0, l1, l2] r W hC (Nat.le_refl _) h
theorem args_C {w1 : World} {A0 A2 : Option Addr} {l0 l2 : List S102} {c0 c2 : Nat} (h0 : Kd.C k102 w1 A0 l0.length l0) (e0 : l0.length ≤ c0) (h2 : Kd.C k102 w1 A2 l2.length l2) (e2 : l2.length ≤ c2) (n : ByteArray) (v : Int) (t : Nat) :
    Kd.C (Kd.slice 102 k102) ((w1.alloc (.cells #[.string n, .int .i64 v] 102)).alloc (.cells #[.slice A0 l0.length c0, .slice (some ⟨w1.heap.size, 0, none⟩) 1 1, .slice A2 l2.length c2] t)).drew (some ⟨w1.heap.size + 1, 0, none⟩) 3 [l0, [⟨n, v⟩], l2] := by
  have h := three_C (Kd.C_below h0 (below_alloc (Below.refl _ _) (.cells #[.string n, .int .i64 v] 102))) e0 (one_C w1 ⟨n, v⟩) (Nat.le_refl 1) (Kd.C_below h2 (below_alloc (Below.refl _ _) (.cells #[.string n, .int .i64 v] 102))) e2 t
  rw [World.size_alloc] at h
  exact h
set_option maxHeartbeats 4000000 in
theorem put_walk (A : Option Addr) (c : Nat) (l : List S102) (n : ByteArray) (v : Int) (w : World) (hr : Kd.C k102 w A l.length l) (hc : l.length ≤ c) (hs : Srt l) (hl : l.length < 1000000) :
    Calls Tryd.prog 108 #[.slice A l.length c, .agg #[.string n, .int .i64 v]] w fun e w' => ∃ v0_ : Value, e = .returned v0_ ∧ Kd.R k102 102 w' w.heap.size (fun _ => True) v0_ (putL l n v) ∧ Below w.heap.size w w' := by
  obtain ⟨i0, hi0, hz0, hz1, hz2⟩ := info_parts infoE
  have hf := find_eq n hs (by omega)
  have hfl := fI_le l n
  obtain ⟨k, hk⟩ : ∃ k, fI l n = k := ⟨_, rfl⟩
  have hcut : ∀ W : World, (Instr.slice 56 (.slice A l.length c) (some (.int .i64 (k : Int))) none none).run Tryd.prog W = .ok (.slice (if c = k then A else A.map (·.add (k * 2))) (l.drop k).length (c - k)) W := by
    intro W
    have h := cut_from (P := Tryd.prog) 56 102 .i64 Tryd.underlying56 hi0 2 hz1 A l.length c (k : Int) (by omega) (by omega) W
    rw [Int.toNat_natCast] at h
    rw [h, List.length_drop]
  have hC1 := Kd.C_drop hr (m := k) (by omega) hc
  have hC0 := Kd.C_take hr (m := k) (by omega)
  have hcut0 : ∀ W : World, (Instr.slice 56 (.slice A l.length c) none (some (.int .i64 (k : Int))) none).run Tryd.prog W = .ok (.slice A (l.take k).length c) W := by
    intro W
    have h := cut_to (P := Tryd.prog) 56 102 .i64 Tryd.underlying56 hi0 A l.length c (k : Int) (by omega) (by omega) hc W
    rw [Int.toNat_natCast] at h
    rw [h, List.length_take, Nat.min_eq_left (by omega)]
  have hcd : (l.drop k).length ≤ c - k := by rw [List.length_drop]; omega
  have hct : (l.take k).length ≤ c := by rw [List.length_take]; omega
  generalize hA1 : (if c = k then A else A.map (·.add (k * 2))) = A1 at hcut
  have hC1' : Kd.C k102 w A1 (l.drop k).length (l.drop k) := by rw [← hA1]; exact hC1
  rw [hk] at hf
  have hput : putL l n v = l.take k ++ ⟨n, v⟩ :: (if fB l n = true then l.drop (k + 1) else l.drop k) := by unfold putL; rw [hk]
  have hd1 : l.drop (k + 1) = (l.drop k).drop 1 := by rw [List.drop_drop]
  have hpos : fB l n = true → 1 ≤ (l.drop k).length := fun h => by
    obtain ⟨h2, _⟩ := fB_lt h
    rw [List.length_drop]
    omega
  rw [hd1] at hput
  have hdl : (l.drop k).length ≤ l.length := by rw [List.length_drop]; omega
  have htl : (l.take k).length ≤ l.length := by rw [List.length_take]; omega
  clear hA1 hC1
  obtain ⟨la, hla⟩ : ∃ la, l.take k = la := ⟨_, rfl⟩
  obtain ⟨lb, hlb⟩ : ∃ lb, l.drop k = lb := ⟨_, rfl⟩
  rw [hla] at hput htl hC0 hct hcut0
  rw [hlb] at hput hdl hC1' hcd hcut hpos
  have HR := Aside0.mk hr
  have HC0 := Aside0.mk hC0
  have HC1 := Aside0.mk hC1'
  have HF := Aside0.mk hf
  have HP := Aside0.mk hpos
  clear hr hC0 hC1' hf hk hla hlb hd1 hpos
  by_cases hb : fB l n = true
  · have hp1 := HP.out hb
    rw [hb] at HF hput
    rw [if_pos rfl] at hput
    have hcut2 : ∀ W : World, (Instr.slice 56 (.slice A1 lb.length (c - k)) (some (.int .i64 1)) none none).run Tryd.prog W = .ok (.slice (if c - k = 1 then A1 else A1.map (·.add (1 * 2))) (lb.drop 1).length (c - k - 1)) W := by
      intro W
      have h := cut_from (P := Tryd.prog) 56 102 .i64 Tryd.underlying56 hi0 2 hz1 A1 lb.length (c - k) 1 (by omega) (by omega) W
      rw [h, List.length_drop]
      rfl
    have hC2 := Kd.C_drop HC1.out (m := 1) (by omega) hcd
    have hce : (lb.drop 1).length ≤ c - k - 1 := by rw [List.length_drop]; omega
    have hll : (lb.drop 1).length ≤ lb.length := by rw [List.length_drop]; omega
    generalize hA2 : (if c - k = 1 then A1 else A1.map (·.add (1 * 2))) = A2 at hcut2
    have hC2' : Kd.C k102 w A2 (lb.drop 1).length (lb.drop 1) := by rw [← hA2]; exact hC2
    obtain ⟨lc, hlc⟩ : ∃ lc, lb.drop 1 = lc := ⟨_, rfl⟩
    rw [hlc] at hC2' hce hcut2 hput hll
    clear hC2 hA2 hlc
    have HC2 := Aside0.mk hC2'
    have hcat := concat3 la [⟨n, v⟩] lc (by simp only [List.length_singleton]; omega)
    rw [hput]
    have HCAT := Aside0.mk hcat
    clear hb hput hcat hC2'
    go_enter Tryd.func108, Tryd.ntmps108
    go_wp2_with (go_at_call 83; refine (dirent_Find.calls _ _ l n _ _ _ (Kd.C_below HR.out (below_alloc (Below.refl _ _) _)) hc HF.out).mono ?_; rintro e w1 ⟨rfl, hb⟩; have HB := Aside0.mk (below_step (below_alloc (Below.refl _ _) _) hb); have ht0 : w1.cell? ⟨w.heap.size, 0, none⟩ = some (.string n) := (hb.cell (by simp)).trans (by go_simp); have ht1 : w1.cell? ⟨w.heap.size, 1, none⟩ = some (.int .i64 v) := (hb.cell (by simp)).trans (by go_simp); have hlt1 : w.heap.size < w1.heap.size := World.block_lt_of_cell? _ _ ht0; clear hb)
    go_region_held3 (fun w' => w'.cell? ⟨w.heap.size, 0, none⟩ = some (.string n) ∧ w'.cell? ⟨w.heap.size, 1, none⟩ = some (.int .i64 v)) (go_keep)
      (first | (go_at_call 115; (with_reducible refine (conc3 _ la [⟨n, v⟩] lc _ _ HCAT.out ?_).mono ?_); (exact args_C (Kd.C_below HC0.out HB.out) hct (Kd.C_below HC2.out HB.out) hce n v _); rintro e w2 ⟨v0, rfl, hr, hb⟩; have HR2 := Aside0.mk hr; have HB2 := Aside0.mk hb; have hy0 := hb.cell (p := ⟨w.heap.size, 0, none⟩) (by simp; omega); have hy1 := hb.cell (p := ⟨w.heap.size, 1, none⟩) (by simp; omega); clear hr hb))
    go_wp2
    go_ret
    refine ⟨_, rfl, ?_, ?_⟩
    · exact Kd.R_lower HR2.out (by simp; omega)
    · exact below_step (below_step HB.out (below_drew1 (below_alloc (below_alloc (Below.refl _ _) _) _))) HB2.out
  · replace hb : fB l n = false := by simpa using hb
    rw [hb] at HF hput
    rw [if_neg (by decide)] at hput
    have hcat := concat3 la [⟨n, v⟩] lb (by simp only [List.length_singleton]; omega)
    rw [hput]
    have HCAT := Aside0.mk hcat
    clear hb hput hcat
    go_enter Tryd.func108, Tryd.ntmps108
    go_wp2_with (go_at_call 83; refine (dirent_Find.calls _ _ l n _ _ _ (Kd.C_below HR.out (below_alloc (Below.refl _ _) _)) hc HF.out).mono ?_; rintro e w1 ⟨rfl, hb⟩; have HB := Aside0.mk (below_step (below_alloc (Below.refl _ _) _) hb); have ht0 : w1.cell? ⟨w.heap.size, 0, none⟩ = some (.string n) := (hb.cell (by simp)).trans (by go_simp); have ht1 : w1.cell? ⟨w.heap.size, 1, none⟩ = some (.int .i64 v) := (hb.cell (by simp)).trans (by go_simp); have hlt1 : w.heap.size < w1.heap.size := World.block_lt_of_cell? _ _ ht0; clear hb)
    go_region_held3 (fun w' => w'.cell? ⟨w.heap.size, 0, none⟩ = some (.string n) ∧ w'.cell? ⟨w.heap.size, 1, none⟩ = some (.int .i64 v)) (go_keep)
      (first | (go_at_call 115; (with_reducible refine (conc3 _ la [⟨n, v⟩] lb _ _ HCAT.out ?_).mono ?_); (exact args_C (Kd.C_below HC0.out HB.out) hct (Kd.C_below HC1.out HB.out) hcd n v _); rintro e w2 ⟨v0, rfl, hr, hb⟩; have HR2 := Aside0.mk hr; have HB2 := Aside0.mk hb; have hy0 := hb.cell (p := ⟨w.heap.size, 0, none⟩) (by simp; omega); have hy1 := hb.cell (p := ⟨w.heap.size, 1, none⟩) (by simp; omega); clear hr hb))
    go_wp2
    go_ret
    refine ⟨_, rfl, ?_, ?_⟩
    · exact Kd.R_lower HR2.out (by simp; omega)
    · exact below_step (below_step HB.out (below_drew1 (below_alloc (below_alloc (Below.refl _ _) _) _))) HB2.out
end Go.Proofs.YtllfjmmdackgdaaDoor.PZ
end
/-! GMPut -/
section
namespace Go.Proofs.YtllfjmmdackgdaaDoor.PZ
open Go.RowKit Go.Proofs.YtllfjmmdackgdaaDoorW.PrintWords Go.Proofs.YtllfjmmdackgdaaDoorW.PrintLast Go.Proofs.YtllfjmmdackgdaaDoorW.PrintMore TD
attribute [local go_sem ↓] Go.wp_at_zero Go.wp_at_succ
set_option maxRecDepth 100000
set_option linter.unusedVariables false
set_option linter.unusedSimpArgs false
theorem mput_walk (B b : Nat) (l : List S58) (rest : List Value) (d : Nat) (nm : ByteArray) (x : Int) (k : Nat) (w : World) (hd : d < l.length) (hst : St B b l rest w) (ho : Ok l) (hk : k < 1000000) :
    Calls Tryd.prog 94 #[.pointer (some ⟨b, 0, none⟩), .agg #[.int .i64 d, .string nm, .int .i64 x], .int .i64 k] w fun en w' => en = .returned (.tuple #[]) ∧ St B b (putT l d nm k) rest w' ∧ BW B w w' := by
  obtain ⟨hBb, v, hw, hS⟩ := hst
  have hbl := blk_lt hw
  obtain ⟨g, cap, rfl, hBg, hgl, -⟩ := Kd.S_form hS (by omega)
  obtain ⟨v2, v3, h0, h1, h2, h3, hd2, hd3, hfr, hgb, -, hput, -⟩ := S_node hbl hS d hd (by omega)
  obtain ⟨A3, c3, rfl, hl3, hC3⟩ := Kd.R_reads hd3
  have hk0 : w.cell? ⟨b, 0, none⟩ = some (.slice (some ⟨g, 0, none⟩) l.length cap) := (blk_cell hw 0).trans rfl
  have hsm := ho.small d
  have hsr := ho.wf.srt d
  have HC := Aside0.mk hC3
  have HP := Aside0.mk hput
  have HW := Aside0.mk hw
  have HSG := Aside0.mk hS
  have HSR := Aside0.mk hsr
  have hf3 := hfr 3
  have hz0 : (0 : Int) ≤ (d : Int) := by omega
  have hz1 : (d : Int) < (l.length : Int) := by omega
  clear hS hw hd2 hd3 hC3 hput hsr ho
  go_enter Tryd.func94, Tryd.ntmps94
  go_wp2
  have hgs : w.heap.size ≠ b := by omega
  have hgt : w.heap.size ≠ g := by omega
  go_region_held3 (fun w' => w'.cell? ⟨b, 0, none⟩ = some (.slice (some ⟨g, 0, none⟩) l.length cap) ∧ w'.cell? ⟨w.heap.size, 0, none⟩ = some (.int .i64 (d : Int))) (go_keep) (fail)
  go_wp2
  have HWT := Aside0.mk (blk_new w (.cells #[.int .i64 (d : Int), .string nm, .int .i64 x] 121))
  have HB := Aside0.mk (below_drew1 (below_alloc (Below.refl w.heap.size w) (.cells #[.int .i64 (d : Int), .string nm, .int .i64 x] 121)))
  go_region_with (first | (go_at_call 108; (with_reducible refine (put_walk A3 c3 (nd l d).f3 nm k _ ?_ ?_ ?_ ?_).mono ?_); (exact Kd.C_below HC.out (by repeat (first | exact HB.out | with_reducible apply below_drew1 | with_reducible apply below_alloc))); (exact hl3); (exact HSR.out); (omega); rintro e w2 ⟨v0, rfl, hr, hb⟩; obtain ⟨A4, c4, rfl, hl4, -⟩ := Kd.R_reads hr; have HR2 := Aside0.mk hr; have HB2 := Aside0.mk (below_step (by repeat (first | exact HB.out | with_reducible apply below_drew1 | with_reducible apply below_alloc)) hb); have hy1 : w2.cell? ⟨w.heap.size, 1, none⟩ = some (.string nm) := (hb.cell (p := ⟨w.heap.size, 1, none⟩) (by simp)).trans (by go_simp); have hy3 : w2.cell? ⟨g, d * 4 + 3, none⟩ = some (.slice A3 (nd l d).f3.length c3) := (HB2.out.cell (p := ⟨g, d * 4 + 3, none⟩) hgl).trans h3; have hyf : w2.frozen? ⟨g, d * 4 + 3, none⟩ = false := (HB2.out.frozen (p := ⟨g, d * 4 + 3, none⟩) hgl).trans hf3; have HKP : ∀ v, Aside0 ((w2.setCell ⟨g, d * 4 + 3, none⟩ v).cell? ⟨w.heap.size, 1, none⟩ = some (.string nm)) := fun v => ⟨(cell_far (W := w2) (p := ⟨g, d * 4 + 3, none⟩) (a := ⟨w.heap.size, 1, none⟩) hgt v).trans hy1⟩; clear hr hb))
  all_goals go_wp2
  all_goals go_end0
  all_goals refine ⟨rfl, ⟨hBb, _, blk_far (p := ⟨g, d * 4 + 3, none⟩) (blk_below HW.out HB2.out) (Ne.symm hgb) _, HP.out w2 _ _ HB2.out (Kd.R_lower HR2.out (by simp))⟩, ?_⟩
  all_goals exact (BW.mono HB2.out (by omega)).setN hBg (Kd.S_below HSG.out HB2.out) (d * 4 + 3) _
/-- With the frame: of the blocks that were there the nodes' own alone is written. -/
theorem mcut_walk2 (B b : Nat) (l : List S58) (rest : List Value) (d : Nat) (nm : ByteArray) (x : Int) (w : World) (hd : d < l.length) (hst : St B b l rest w) (ho : Ok l) :
    Calls Tryd.prog 95 #[.pointer (some ⟨b, 0, none⟩), .agg #[.int .i64 d, .string nm, .int .i64 x]] w fun en w' => en = .returned (.tuple #[]) ∧ St B b (cutT l d nm) rest w' ∧ BW B w w' ∧ (∀ g n c, w.cell? ⟨b, 0, none⟩ = some (.slice (some ⟨g, 0, none⟩) n c) → ∀ p : Addr, p.block < w.heap.size → p.block ≠ g → w'.cell? p = w.cell? p) := by
  obtain ⟨hBb, v, hw, hS⟩ := hst
  have hbl := blk_lt hw
  obtain ⟨g, cap, rfl, hBg, hgl, -⟩ := Kd.S_form hS (by omega)
  obtain ⟨v2, v3, h0, h1, h2, h3, hd2, hd3, hfr, hgb, -, hput, -⟩ := S_node hbl hS d hd (by omega)
  obtain ⟨A3, c3, rfl, hl3, hC3⟩ := Kd.R_reads hd3
  have hk0 : w.cell? ⟨b, 0, none⟩ = some (.slice (some ⟨g, 0, none⟩) l.length cap) := (blk_cell hw 0).trans rfl
  have hsm := ho.small d
  have hsr := ho.wf.srt d
  have HC := Aside0.mk hC3
  have HP := Aside0.mk hput
  have HW := Aside0.mk hw
  have HSG := Aside0.mk hS
  have HSR := Aside0.mk hsr
  have hf3 := hfr 3
  have hz0 : (0 : Int) ≤ (d : Int) := by omega
  have hz1 : (d : Int) < (l.length : Int) := by omega
  clear hS hw hd2 hd3 hC3 hput hsr ho
  go_enter Tryd.func95, Tryd.ntmps95
  go_wp2
  have hgs : w.heap.size ≠ b := by omega
  have hgt : w.heap.size ≠ g := by omega
  go_region_held3 (fun w' => w'.cell? ⟨b, 0, none⟩ = some (.slice (some ⟨g, 0, none⟩) l.length cap) ∧ w'.cell? ⟨w.heap.size, 0, none⟩ = some (.int .i64 (d : Int))) (go_keep) (fail)
  go_wp2
  have HWT := Aside0.mk (blk_new w (.cells #[.int .i64 (d : Int), .string nm, .int .i64 x] 121))
  have HB := Aside0.mk (below_drew1 (below_alloc (Below.refl w.heap.size w) (.cells #[.int .i64 (d : Int), .string nm, .int .i64 x] 121)))
  go_region_with (first | (go_at_call 109; (with_reducible refine (dirent_Cut.calls A3 c3 (nd l d).f3 nm _ _ ?_ ?_ (cut_eq (nd l d).f3 nm ?_)).mono ?_); (exact Kd.C_below HC.out (by repeat (first | exact HB.out | with_reducible apply below_drew1 | with_reducible apply below_alloc))); (exact hl3); (omega); rintro e w2 ⟨v0, rfl, hr, hb⟩; obtain ⟨A4, c4, rfl, hl4, -⟩ := Kd.R_reads hr; have HR2 := Aside0.mk hr; have HB2 := Aside0.mk (below_step (by repeat (first | exact HB.out | with_reducible apply below_drew1 | with_reducible apply below_alloc)) hb); have hy1 : w2.cell? ⟨w.heap.size, 1, none⟩ = some (.string nm) := (hb.cell (p := ⟨w.heap.size, 1, none⟩) (by simp)).trans (by go_simp); have hy3 : w2.cell? ⟨g, d * 4 + 3, none⟩ = some (.slice A3 (nd l d).f3.length c3) := (HB2.out.cell (p := ⟨g, d * 4 + 3, none⟩) hgl).trans h3; have hyf : w2.frozen? ⟨g, d * 4 + 3, none⟩ = false := (HB2.out.frozen (p := ⟨g, d * 4 + 3, none⟩) hgl).trans hf3; have HKP : ∀ v, Aside0 ((w2.setCell ⟨g, d * 4 + 3, none⟩ v).cell? ⟨w.heap.size, 1, none⟩ = some (.string nm)) := fun v => ⟨(cell_far (W := w2) (p := ⟨g, d * 4 + 3, none⟩) (a := ⟨w.heap.size, 1, none⟩) hgt v).trans hy1⟩; clear hr hb))
  all_goals go_wp2
  all_goals go_end0
  all_goals refine ⟨rfl, ⟨hBb, _, blk_far (p := ⟨g, d * 4 + 3, none⟩) (blk_below HW.out HB2.out) (Ne.symm hgb) _, HP.out w2 _ _ HB2.out (Kd.R_lower HR2.out (by simp))⟩, (BW.mono HB2.out (by omega)).setN hBg (Kd.S_below HSG.out HB2.out) (d * 4 + 3) _, ?_⟩
  all_goals exact fun g' n' c' hg' p hp hne => (cell_far (p := ⟨g, d * 4 + 3, none⟩) (by rw [hk0] at hg'; injection hg' with hg'; injection hg' with hg'; injection hg' with hg'; injection hg' with hg'; rw [← hg'] at hne; exact hne) _).trans (HB2.out.cell hp)
theorem mcut_walk (B b : Nat) (l : List S58) (rest : List Value) (d : Nat) (nm : ByteArray) (x : Int) (w : World) (hd : d < l.length) (hst : St B b l rest w) (ho : Ok l) :
    Calls Tryd.prog 95 #[.pointer (some ⟨b, 0, none⟩), .agg #[.int .i64 d, .string nm, .int .i64 x]] w fun en w' => en = .returned (.tuple #[]) ∧ St B b (cutT l d nm) rest w' ∧ BW B w w' :=
  (mcut_walk2 B b l rest d nm x w hd hst ho).mono fun _ _ h => ⟨h.1, h.2.1, h.2.2.1⟩
end Go.Proofs.YtllfjmmdackgdaaDoor.PZ
end
/-! TO -/
section
namespace Go.Proofs.YtllfjmmdackgdaaDoor.PZ
open Go.RowKit Go.Proofs.YtllfjmmdackgdaaDoorW.PrintWords Go.Proofs.YtllfjmmdackgdaaDoorW.PrintLast Go.Proofs.YtllfjmmdackgdaaDoorW.PrintMore TD
set_option maxRecDepth 100000
set_option linter.unusedVariables false
set_option linter.unusedSimpArgs false
def rootP : ByteArray := ⟨#[47]⟩
/-- The place of a path. -/
def placeF (l : List S58) (p : ByteArray) : Nat ⊕ Int := if (splitA p).2 = 0 then wk l (splitA p).1 0 else .inr (splitA p).2
/-- The directory of a path's place, its last name, what is there. -/
def spotF (l : List S58) (p : ByteArray) : (Nat × ByteArray × Option Nat) ⊕ Int :=
  if (splitA p).2 = 0 then
    match wk l (splitA p).1.dropLast 0 with
    | .inr n => .inr n
    | .inl d => if (nd l d).f0 = 2 then .inl (d, (splitA p).1.getLastD ByteArray.empty, (look (nd l d).f3 ((splitA p).1.getLastD ByteArray.empty)).map ino) else .inr 22
  else .inr (splitA p).2
def spotV (s : Nat × ByteArray × Option Nat) : Value := .agg #[.int .i64 s.1, .string s.2.1, .int .i64 (nodeV s.2.2)]
def fullB (l : List S58) (d : Nat) : Bool := decide (64 ≤ (nd l d).f3.length)
def createF (l : List S58) (p : ByteArray) (kd : Int) : List S58 ⊕ Int :=
  if p = rootP then .inr 24 else
  match spotF l p with
  | .inr n => .inr n
  | .inl (_, _, some _) => .inr 24
  | .inl (d, nm, none) => if fullB l d = true then .inr 27 else if l.length < 56 then .inl (putT l d nm l.length ++ [⟨kd, 0, [], []⟩]) else .inr 27
def linkF (l : List S58) (p q : ByteArray) : List S58 ⊕ Int :=
  if (splitA p).2 ≠ 0 then .inr (splitA p).2 else if (splitA q).2 ≠ 0 then .inr (splitA q).2 else
  match wk l (splitA p).1 0 with
  | .inr n => .inr n
  | .inl k =>
    if (nd l k).f0 = 2 then .inr 23 else if q = rootP then .inr 24 else
    match spotF l q with
    | .inr n => .inr n
    | .inl (_, _, some _) => .inr 24
    | .inl (d, nm, none) => if (nd l k).f1 < 200 then (if fullB l d = true then .inr 27 else .inl (putT l d nm k)) else .inr 26
def unlinkF (l : List S58) (p : ByteArray) : List S58 ⊕ Int :=
  match placeF l p with
  | .inr n => .inr n
  | .inl k => if (nd l k).f0 = 2 then .inr 23 else
    match spotF l p with
    | .inr n => .inr n
    | .inl (d, nm, _) => .inl (cutT l d nm)
def rmdirF (l : List S58) (p : ByteArray) : List S58 ⊕ Int :=
  match placeF l p with
  | .inr n => .inr n
  | .inl k => if (nd l k).f0 = 2 then (if k = 0 ∨ (nd l k).f3 ≠ [] then .inr 25 else
    match spotF l p with
    | .inr n => .inr n
    | .inl (d, nm, _) => .inl (cutT l d nm)) else .inr 22
def moveF (l : List S58) (k : Nat) (a b : Nat × ByteArray × Option Nat) : List S58 ⊕ Int :=
  match b.2.2 with
  | none => if a.1 = b.1 ∨ fullB l b.1 = false then .inl (putT (cutT l a.1 a.2.1) b.1 b.2.1 k) else .inr 27
  | some j => if j = k then .inl l else
    if (nd l k).f0 = 2 ∧ (nd l j).f0 ≠ 2 then .inr 22 else if (nd l k).f0 ≠ 2 ∧ (nd l j).f0 = 2 then .inr 23 else
    if (nd l j).f3 ≠ [] then .inr 25 else .inl (putT (cutT l a.1 a.2.1) b.1 b.2.1 k)
def renameF (l : List S58) (p q : ByteArray) : List S58 ⊕ Int :=
  if (splitA p).2 ≠ 0 then .inr (splitA p).2 else if (splitA q).2 ≠ 0 then .inr (splitA q).2 else
  if p = rootP ∨ q = rootP then .inr 29 else
  match wk l (splitA p).1 0 with
  | .inr n => .inr n
  | .inl k =>
    if (nd l k).f0 = 2 ∧ q ≠ p ∧ withinA q p = true then .inr 29 else
    match spotF l p with
    | .inr n => .inr n
    | .inl a => match spotF l q with
      | .inr n => .inr n
      | .inl b => moveF l k a b
def fileF (l : List S58) (p : ByteArray) : Nat ⊕ Int :=
  match placeF l p with
  | .inr n => .inr n
  | .inl k => if (nd l k).f0 = 2 then .inr 23 else .inl k
/-- n of the bytes from at on. -/
def partF (b : List Int) (a n : Int) : List Int := (b.drop a.toNat).take n.toNat
def readF (l : List S58) (p : ByteArray) (a n : Int) : List Int ⊕ Int :=
  match fileF l p with
  | .inr e => .inr e
  | .inl k => if 0 ≤ a ∧ 0 ≤ n then .inl (partF (nd l k).f2 a n) else .inr 28
/-- Bytes, cut or with noughts behind them. -/
def sizedF (b : List Int) (n : Nat) : List Int := b.take n ++ List.replicate (n - b.length) 0
/-- x over b from a on. -/
def overF (b : List Int) (a : Nat) (x : List Int) : List Int := b.take a ++ x ++ b.drop (a + x.length)
def writeF (l : List S58) (p : ByteArray) (a : Int) (x : List Int) : List S58 ⊕ Int :=
  match fileF l p with
  | .inr e => .inr e
  | .inl k => if 0 ≤ a ∧ a ≤ 46368 ∧ (x.length : Int) ≤ 46368 - a then
      .inl (if x.length = 0 then l else setD l k (overF (sizedF (nd l k).f2 (max (nd l k).f2.length (a.toNat + x.length))) a.toNat x)) else .inr 28
def truncF (l : List S58) (p : ByteArray) (n : Int) : List S58 ⊕ Int :=
  match fileF l p with
  | .inr e => .inr e
  | .inl k => if 0 ≤ n ∧ n ≤ 46368 then .inl (setD l k (sizedF (nd l k).f2 n.toNat)) else .inr 28
def listF (l : List S58) (p : ByteArray) : List ByteArray ⊕ Int :=
  match placeF l p with
  | .inr e => .inr e
  | .inl k => if (nd l k).f0 = 2 then .inl ((nd l k).f3.map (·.f0)) else .inr 22
def res0 : S47 := ⟨0, [], [], 0, 0, 0⟩
def plain (l' : List S58 ⊕ Int) : (List S58 × S47) ⊕ Int := match l' with | .inl l => .inl (l, res0) | .inr e => .inr e
/-- What an operation makes of a right tree's nodes, ahead of their numbering. -/
def workF (l : List S58) (o : S39) : (List S58 × S47) ⊕ Int :=
  if o.f0 = 1 then plain (createF l o.f1 1)
  else if o.f0 = 2 then plain (createF l o.f1 2)
  else if o.f0 = 3 then plain (linkF l o.f1 o.f2)
  else if o.f0 = 4 then plain (unlinkF l o.f1)
  else if o.f0 = 5 then plain (rmdirF l o.f1)
  else if o.f0 = 6 then plain (renameF l o.f1 o.f2)
  else if o.f0 = 7 then (match readF l o.f1 o.f3 o.f4 with | .inl d => .inl (l, { res0 with f1 := d }) | .inr e => .inr e)
  else if o.f0 = 8 then (match writeF l o.f1 o.f3 o.f5 with | .inl l' => .inl (l', { res0 with f5 := (o.f5.length : Int) }) | .inr e => .inr e)
  else if o.f0 = 9 then plain (truncF l o.f1 o.f4)
  else if o.f0 = 10 then (match placeF l o.f1 with | .inl k => .inl (l, { res0 with f3 := (nd l k).f0, f4 := (nd l k).f1, f5 := ((nd l k).f2.length + (nd l k).f3.length : Nat) }) | .inr e => .inr e)
  else if o.f0 = 11 then (match listF l o.f1 with | .inl n => .inl (l, { res0 with f2 := n }) | .inr e => .inr e)
  else if o.f0 = 12 then .inl (l, res0)
  else if o.f0 = 13 then (match placeF l o.f1 with | .inl _ => .inl (l, res0) | .inr e => .inr e)
  else .inr 30
/-- What an operation makes of a right tree: the tree then, and the answer. -/
def doF (l : List S58) (o : S39) : List S58 × S47 := match workF l o with | .inl (l', r) => (num l', r) | .inr e => (l, { res0 with f0 := e })
def findF (l : List S58) (p : ByteArray) : Int × Int := match placeF l p with | .inl k => ((k : Int), 0) | .inr e => (0, e)
theorem spotF_inl {l : List S58} {p : ByteArray} {d : Nat} {nm : ByteArray} {o : Option Nat} (h : spotF l p = .inl (d, nm, o)) :
    ∃ q, splitA p = (q, 0) ∧ wk l q.dropLast 0 = .inl d ∧ nm = q.getLastD ByteArray.empty ∧ (nd l d).f0 = 2 ∧ d < l.length ∧ o = (look (nd l d).f3 nm).map ino := by
  unfold spotF at h
  split at h
  · rename_i h0
    split at h
    · cases h
    · rename_i d' hd
      split at h
      · rename_i h2
        injection h with h
        injection h with h1 h
        injection h with h3 h4
        subst h1
        subst h3
        exact ⟨(splitA p).1, Prod.ext rfl h0, hd, rfl, h2, Pr.lt_of_dir h2, h4.symm⟩
      · cases h
  · cases h
theorem fullB_f {l : List S58} {d : Nat} (hf : fullB l d = false) : decide (((rd_T58 l (d : Int)).f3.length : Int) ≥ 64) = false := by
  have := of_decide_eq_false hf
  refine decide_eq_false fun h => this ?_
  have h' : (64 : Int) ≤ ((nd l d).f3.length : Int) := h
  omega
theorem fullB_t {l : List S58} {d : Nat} (hf : fullB l d = true) : decide (((rd_T58 l (d : Int)).f3.length : Int) ≥ 64) = true := by
  have := of_decide_eq_true hf
  refine decide_eq_true ?_
  show (64 : Int) ≤ ((nd l d).f3.length : Int)
  omega
end Go.Proofs.YtllfjmmdackgdaaDoor.PZ
end
/-! GToAll -/
section
namespace Go.Proofs.YtllfjmmdackgdaaDoor.PZ
open Go.RowKit Go.Proofs.YtllfjmmdackgdaaDoorW.PrintWords Go.Proofs.YtllfjmmdackgdaaDoorW.PrintLast Go.Proofs.YtllfjmmdackgdaaDoorW.PrintMore TD
attribute [local go_sem ↓] Go.wp_at_zero Go.wp_at_succ
set_option maxRecDepth 100000
set_option linter.unusedVariables false
set_option linter.unusedSimpArgs false
theorem to_names (b : Nat) (p : ByteArray) (ns : List ByteArray) (n : Int) (w : World) (hp : p.size < 10000000) (hs : splitA p = (ns, n)) (hn : ¬ n = 0) :
    Calls Tryd.prog 92 #[.pointer (some ⟨b, 0, none⟩), .string p] w fun en w' => en = .panicked (wrong n) ∧ Below w.heap.size w w' := by
  have HS := Aside0.mk hs
  clear hs
  go_enter Tryd.func92, Tryd.ntmps92
  go_wp2_with (go_at_call 56; refine (names_out p ns n _ hp HS.out hn).mono ?_; rintro e w1 ⟨rfl, hb⟩)
  exact ⟨rfl, rfl, below_step (below_alloc (Below.refl _ _) _) hb⟩
theorem splitA_nil {p : ByteArray} (h : (splitA p).2 = 0) (h2 : (splitA p).1 = []) : p = rootP := by
  have h1 : (splitL p.data.toList).1 = [] := List.map_eq_nil_iff.1 h2
  have h' : (splitL p.data.toList).2 = 0 := h
  refine data_inj ?_
  show p.data.toList = [47]
  revert h1 h'
  cases p.data.toList with
  | nil => intro _ h; exact absurd h (by decide)
  | cons c r =>
    rw [splitL_cons]
    split
    · rename_i hc
      split
      · rename_i hr
        intro _ _
        rw [hc, hr]
      · split
        · intro h1 _
          obtain ⟨p, q, he⟩ := pieces_ne r
          rw [he] at h1
          cases h1
        · intro _ h; exact absurd h (by decide)
    · intro _ h; exact absurd h (by decide)
theorem splitA_root : splitA rootP = ([], 0) := rfl
/-- The method to, where the path is not the root's. -/
theorem to_walk (B b : Nat) (l : List S58) (rest : List Value) (p : ByteArray) (w : World) (hst : St B b l rest w) (ho : Ok l) (hp : p.size < 10000000) (hr : p ≠ rootP) :
    Calls Tryd.prog 92 #[.pointer (some ⟨b, 0, none⟩), .string p] w fun en w' => (match spotF l p with | .inl s => en = .returned (spotV s) | .inr n => en = .panicked (wrong n)) ∧ Below w.heap.size w w' := by
  obtain ⟨hBb, v, hw, hS⟩ := hst
  obtain ⟨A, cap, rfl, hcap, hC⟩ := Kd.S_reads hS
  by_cases h0 : (splitA p).2 = 0
  · have hne : (splitA p).1 ≠ [] := fun h => hr (splitA_nil h0 h)
    have hs : splitA p = ((splitA p).1.dropLast ++ [(splitA p).1.getLastD ByteArray.empty], 0) := by
      refine Prod.ext ?_ h0
      show (splitA p).1 = (splitA p).1.dropLast ++ [(splitA p).1.getLastD ByteArray.empty]
      have := List.dropLast_concat_getLast hne
      rw [List.getLastD_eq_getLast?, List.getLast?_eq_some_getLast hne]
      exact this.symm
    unfold spotF
    rw [if_pos h0]
    generalize (splitA p).1.dropLast = q at *
    generalize (splitA p).1.getLastD ByteArray.empty = nm at *
    cases hk : wk l q 0 with
    | inr n => exact to_out b A cap l rest p q nm n w hw hC ho hp hs hk
    | inl d =>
      dsimp only
      by_cases hd : (nd l d).f0 = 2
      · rw [if_pos hd]
        exact to_in b A cap l rest p q nm d w hw hC ho hp hs hk hd _ rfl
      · rw [if_neg hd]
        exact to_file b A cap l rest p q nm d w hw hC ho hp hs hk (beq_eq_false_iff_ne.2 hd)
  · unfold spotF
    rw [if_neg h0]
    exact to_names b p (splitA p).1 (splitA p).2 w hp rfl h0
/-- The walk to a path's place. -/
theorem place_walk (B b : Nat) (l : List S58) (rest : List Value) (An : Option Addr) (cn : Nat) (p : ByteArray) (w : World) (hst : St B b l rest w) (ho : Ok l) (hn : Kd.C Kd.string w An (splitA p).1.length (splitA p).1) (hcn : (splitA p).1.length ≤ cn) :
    Calls Tryd.prog 55 #[.pointer (some ⟨b, 0, none⟩), .slice An (splitA p).1.length cn] w fun en w' => (match wk l (splitA p).1 0 with | .inl k => en = .returned (.int .i64 k) | .inr n => en = .panicked (wrong n)) ∧ Below w.heap.size w w' := by
  obtain ⟨hBb, v, hw, hS⟩ := hst
  obtain ⟨A, cap, rfl, hcap, hC⟩ := Kd.S_reads hS
  have hlen : (splitA p).1.length < 1000000000 := by have := splitA_length p; omega
  cases hk : wk l (splitA p).1 0 with
  | inr n => exact walk_out b A cap l rest An cn (splitA p).1 n w hw hC hn hcn hlen ho hk
  | inl k => exact walk_st b A cap l rest An cn (splitA p).1 k w hw hC hn hcn hlen ho hk
theorem names_walk (p : ByteArray) (w : World) (hp : p.size < 10000000) :
    Calls Tryd.prog 56 #[.string p] w fun en w' => (if (splitA p).2 = 0 then ∃ A c, en = .returned (.slice A (splitA p).1.length c) ∧ (splitA p).1.length ≤ c ∧ Kd.C Kd.string w' A (splitA p).1.length (splitA p).1 else en = .panicked (wrong (splitA p).2)) ∧ Below w.heap.size w w' := by
  by_cases h : (splitA p).2 = 0
  · refine (names_in p (splitA p).1 w hp (Prod.ext rfl h)).mono ?_
    rintro e w1 ⟨v, rfl, hr, hb⟩
    obtain ⟨A, c, rfl, hl, hC⟩ := Kd.R_reads hr
    rw [if_pos h]
    exact ⟨⟨A, c, rfl, hl, hC⟩, hb⟩
  · refine (names_out p _ _ w hp rfl h).mono ?_
    rintro e w1 ⟨rfl, hb⟩
    rw [if_neg h]
    exact ⟨rfl, hb⟩
end Go.Proofs.YtllfjmmdackgdaaDoor.PZ
end
/-! GFull -/
section
namespace Go.Proofs.YtllfjmmdackgdaaDoor.PZ
open Go.RowKit Go.Proofs.YtllfjmmdackgdaaDoorW.PrintWords Go.Proofs.YtllfjmmdackgdaaDoorW.PrintLast Go.Proofs.YtllfjmmdackgdaaDoorW.PrintMore
set_option maxRecDepth 100000
set_option linter.unusedVariables false
set_option linter.unusedSimpArgs false
theorem full_walk (b : Nat) (A : Option Addr) (cap : Nat) (l : List S58) (rest : List Value) (k : Nat) (w : World) (hk : k < l.length) (hw : Wk w b (.slice A l.length cap) rest) (hc : Kd.C k58 w A l.length l) :
    Calls Tryd.prog 93 #[.pointer (some ⟨b, 0, none⟩), .int .i64 k] w fun en w' => en = .returned (.bool (decide (((rd_T58 l (k : Int)).f3.length : Int) ≥ 64))) ∧ w' = w := by
  have h0 : w.cell? ⟨b, 0, none⟩ = some (.slice A l.length cap) := (blk_cell hw 0).trans rfl
  obtain ⟨ad, A2, c2, A3, c3, rfl, -, -, -, hx3, -, -, -, -⟩ := at_T58 hc (k : Int) (by omega) (by omega)
  rw [Int.toNat_natCast] at hx3
  have hkl : decide ((k : Int) < (l.length : Int)) = true := decide_eq_true (by omega)
  have HC := Aside0.mk hc
  have HW := Aside0.mk hw
  clear hc hw
  go_enter Tryd.func93, Tryd.ntmps93
  go_wp2
  go_ret
  exact ⟨rfl, rfl⟩
end Go.Proofs.YtllfjmmdackgdaaDoor.PZ
end
