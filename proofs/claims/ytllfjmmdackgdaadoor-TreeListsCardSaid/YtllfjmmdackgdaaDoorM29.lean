import Derived.Test.YtllfjmmdackgdaaDoorM27
import Derived.Test.YtllfjmmdackgdaaDoorM28
set_option linter.unusedVariables false
set_option linter.unusedSimpArgs false
/-! GNumA -/
section
namespace Go.Proofs.YtllfjmmdackgdaaDoor.PZ
open Go.RowKit Go.Proofs.YtllfjmmdackgdaaDoorW.PrintWords Go.Proofs.YtllfjmmdackgdaaDoorW.PrintLast Go.Proofs.YtllfjmmdackgdaaDoorW.PrintMore TD
set_option maxRecDepth 100000
set_option linter.unusedVariables false
set_option linter.unusedSimpArgs false
/-- The map of places. -/
def placeD {H : Type} (xs : List Nat) : DataW H := xs.zipIdx.foldl (fun D (p : Nat × Nat) => D.put (.int .i64 (p.1 : Int)) (.lit (.int .i64 (p.2 : Int)))) (.map [])
theorem placeD_snoc {H : Type} (xs : List Nat) (x : Nat) : placeD (H := H) (xs ++ [x]) = (placeD xs).put (.int .i64 (x : Int)) (.lit (.int .i64 (xs.length : Int))) := by simp [placeD, List.zipIdx_append]
theorem placeD_isMap {H : Type} (xs : List Nat) : Go.Maps.IsMap (placeD (H := H) xs) := by
  have key : ∀ (xs : List (Nat × Nat)) (D : DataW H), Go.Maps.IsMap D → Go.Maps.IsMap (xs.foldl (fun D (p : Nat × Nat) => D.put (.int .i64 (p.1 : Int)) (.lit (.int .i64 (p.2 : Int)))) D) := by
    intro xs
    induction xs with
    | nil => intro D h; exact h
    | cons x r ih => intro D h; exact ih _ (h.put _ _)
  exact key _ _ Go.Maps.isMap_empty
theorem placeD_at {H : Type} (k : Nat) : ∀ (m : Nat) (xs : List Nat), xs.length = m → xs.Nodup → k ∈ xs → (placeD (H := H) xs).atKey (.int .i64 (k : Int)) (.lit (.int .i64 0)) = .lit (.int .i64 (xs.idxOf k : Int)) := by
  intro m
  induction m with
  | zero => intro xs hm hn hk; obtain rfl := List.eq_nil_of_length_eq_zero hm; cases hk
  | succ m ih =>
    intro xs hm hn hk
    rcases List.eq_nil_or_concat xs with h | ⟨r, x, h⟩
    · subst h; simp at hm
    · rw [List.concat_eq_append] at h
      subst h
      obtain ⟨h1, h2, h3⟩ := List.nodup_append.1 hn
      rw [placeD_snoc]
      by_cases e : x = k
      · subst e
        have hx : x ∉ r := fun h => h3 x h x (by simp) rfl
        rw [Go.Maps.atKey_put_same (placeD_isMap r) (by trivial), List.idxOf_append, if_neg hx]
        simp
      · have hk' : k ∈ r := by
          rcases List.mem_append.1 hk with h | h
          · exact h
          · simp at h; exact absurd h.symm e
        rw [Go.Maps.atKey_put_other (by intro h2; injection h2 with _ h2; exact e (by omega)), ih r (by simp at hm; exact hm) h1 hk', List.idxOf_append, if_pos hk']
theorem plainElem_int_inv {H : Type} {P : Program} {e : TypeId} {k : IntKind} (he : P.underlying e = some (.int k)) {v : Value} {z : DataW H × List MemPlace} {n : Int} (h : plainElem P e v = some z) (hz : z.1 = .lit (.int k n)) : v = .int k n := by
  unfold plainElem at h
  rw [he] at h
  cases v <;> simp at h
  all_goals
    obtain ⟨h1, rfl⟩ := h
    obtain ⟨rfl, -⟩ := h1
    simp at hz
    rw [hz]
theorem lookup_run {P : Program} {W : World} {t k e : TypeId} {b n : Nat} {kd : IntKind} {D : DataW Unit} (K : Go.Maps.Keyed P k) (ht : P.underlying t = some (.map k e)) (he : P.underlying e = some (.int kd)) (hz : (zeroValue e).run P W = .ok (.int kd 0) W) (hzw : (Lit.int kd 0).wf = true)
    (hown : W.ownsMap P k (plainElem P e) b n D) (key : Value) (kl : Lit) (hkey : keyOf P k key = some kl) (r : Int) (hr : D.atKey kl (.lit (.int kd 0)) = .lit (.int kd r)) :
    (Instr.lookup t (.map (some b)) key false).run P W = .ok (.int kd r) W := by
  obtain ⟨v, ps, hrun, hv⟩ := hown.lookup K ht hz (plainElem_int he hzw) hkey
  have := plainElem_int_inv he hv hr
  subst this
  exact hrun
/-! ### Entries renumbered in their own rows -/
/-- A node's entries in its own memory: where they lie; one is numbered anew. -/
theorem S_entry {W : World} {B g n cap : Nat} {ok : Nat → Prop} {l : List S58} (h : Kd.S k58 58 W B ok (.slice (some ⟨g, 0, none⟩) n cap) l) (k : Nat) (hk : k < l.length) (j : Nat) (hj : j < (nd l k).f3.length) :
    ∃ ge ce, W.cell? ⟨g, k * 4 + 3, none⟩ = some (.slice (some ⟨ge, 0, none⟩) (nd l k).f3.length ce) ∧ (nd l k).f3.length ≤ ce ∧ W.cell? ⟨ge, j * 2 + 1, none⟩ = some (.int .i64 (nd l k).f3[j].f1) ∧ W.frozen? ⟨ge, j * 2 + 1, none⟩ = false ∧ B ≤ ge ∧ ge ≠ g ∧ (∃ cells, W.heap[ge]? = some (.cells cells 102 (0, 0))) ∧
      ∀ v : Int, Kd.S k58 58 (W.setCell ⟨ge, j * 2 + 1, none⟩ (.int .i64 v)) B ok (.slice (some ⟨g, 0, none⟩) n cap) (setE l k ((nd l k).f3.set j ⟨(nd l k).f3[j].f0, v⟩)) := by
  have hn := (Kd.S_reads' h).1
  obtain ⟨oki, c, hcl, hM, hcc, hoki, hput⟩ := Kd.S_borrow h ⟨0, 0, [], []⟩ (k : Int) (by omega) (by omega)
  rw [nd_toNat] at hM
  rw [Int.toNat_natCast] at hcc
  obtain ⟨v2, v3, rfl, hd2, hd3⟩ := k58_openM hM
  obtain ⟨ge, ce, hv3, hBe, hel, hty⟩ := Kd.R_form hd3 (by omega)
  subst hv3
  have hce := (Kd.R_reads' hd3).2.1
  obtain ⟨c3, hc3, hM3, hcc3, hf3⟩ := Kd.R_elem hd3 ⟨⟨#[]⟩, 0⟩ (j : Int) (by omega) (by omega)
  rw [Int.toNat_natCast] at hcc3 hf3 hM3
  have hgj : (nd l k).f3.getD j ⟨⟨#[]⟩, 0⟩ = (nd l k).f3[j] := by rw [List.getD_eq_getElem?_getD, List.getElem?_eq_getElem hj]; rfl
  rw [hgj] at hM3
  have hcs3 : c3 = [.string (nd l k).f3[j].f0, .int .i64 (nd l k).f3[j].f1] := k102_openM hM3
  subst hcs3
  have hge : oki ge := hd3.1 ge (by simp [Value.ownBlock])
  have hne : ge ≠ g := fun e => (hoki ge hge).2 (by rw [e]; simp [Value.ownBlock])
  have hc3x := hcc 3 _ rfl
  rw [add_plain] at hc3x
  refine ⟨ge, ce, hc3x, hce, hcc3 1 _ rfl, hf3 1, hBe, hne, hty, fun v => ?_⟩
  obtain ⟨h2, h3⟩ := Kd.R_seg hd3 (j : Int) (by omega) (by omega) (c := [.string (nd l k).f3[j].f0, .int .i64 (nd l k).f3[j].f1]) (seg := [.int .i64 v]) (j := 1) (x' := ⟨(nd l k).f3[j].f0, v⟩) (okp := fun _ => False) rfl (by rw [Int.toNat_natCast]; exact hcc3) (Nat.le_refl 2) (k102_mkM _ _ _ ⟨(nd l k).f3[j].f0, v⟩) (fun _ h => h.elim)
  rw [Int.toNat_natCast] at h2 h3
  have h4 := hput (x' := ⟨(nd l k).f0, (nd l k).f1, (nd l k).f2, (nd l k).f3.set j ⟨(nd l k).f3[j].f0, v⟩⟩) h3 (fun q hq => by injection hq with hq; rw [← hq]; exact hge)
    (k58_mkM _ _ _ ⟨(nd l k).f0, (nd l k).f1, (nd l k).f2, (nd l k).f3.set j ⟨(nd l k).f3[j].f0, v⟩⟩ (Kd.R_mono (Kd.R_over' (v := .slice (some ⟨ge, 0, none⟩) (nd l k).f3.length ce) hd2 (by rintro q hq; simp [Value.ownBlock] at hq; rw [← hq]; exact hty) (by decide) (by simpa [Value.ownBlock] using h3)) (fun _ hk => hk)) h2)
  rw [Int.toNat_natCast] at h4
  exact h4
/-! ### A row of cells picked out of another row -/
/-- The cells of a node. -/
def cellsAt (w : World) (g k : Nat) : List Value := [(w.cell? ⟨g, k * 4, none⟩).getD undef, (w.cell? ⟨g, k * 4 + 1, none⟩).getD undef, (w.cell? ⟨g, k * 4 + 2, none⟩).getD undef, (w.cell? ⟨g, k * 4 + 3, none⟩).getD undef]
theorem S_cells {W : World} {B g n cap : Nat} {ok : Nat → Prop} {l : List S58} (h : Kd.S k58 58 W B ok (.slice (some ⟨g, 0, none⟩) n cap) l) (k : Nat) (hk : k < l.length) :
    W.cell? ⟨g, k * 4, none⟩ = some (.int .i64 (nd l k).f0) ∧ W.cell? ⟨g, k * 4 + 1, none⟩ = some (.int .i64 (nd l k).f1) ∧ (∃ A2 c2, W.cell? ⟨g, k * 4 + 2, none⟩ = some (.slice A2 (nd l k).f2.length c2)) ∧ (∃ A3 c3, W.cell? ⟨g, k * 4 + 3, none⟩ = some (.slice A3 (nd l k).f3.length c3)) := by
  have hn := (Kd.S_reads' h).1
  obtain ⟨oki, c, hcl, hM, hcc, hfr, hoki, hH⟩ := Kd.S_elem h ⟨0, 0, [], []⟩ (k : Int) (by omega) (by omega)
  rw [nd_toNat] at hM
  rw [Int.toNat_natCast] at hcc
  obtain ⟨v2, v3, rfl, hd2, hd3⟩ := k58_openM hM
  obtain ⟨A2, c2, rfl⟩ := Kd.R_slice hd2
  obtain ⟨A3, c3, rfl⟩ := Kd.R_slice hd3
  exact ⟨hcc 0 _ rfl, hcc 1 _ rfl, ⟨A2, c2, hcc 2 _ rfl⟩, ⟨A3, c3, hcc 3 _ rfl⟩⟩
theorem S_pick {W : World} {B B' g n cap : Nat} {ok ok' : Nat → Prop} {l : List S58} (h : Kd.S k58 58 W B ok (.slice (some ⟨g, 0, none⟩) n cap) l) {vo : Value} {m : List Nat} (hm : m.Nodup) (hlt : ∀ k ∈ m, k < l.length)
    (hr : Kd.R (Kd.raw 4) 58 W B' ok' vo (m.map (cellsAt W g))) (hB : B ≤ B') : Kd.S k58 58 W B (fun k => ok k ∨ ok' k) vo (m.map (nd l)) := by
  have hn := (Kd.S_reads' h).1
  obtain ⟨h0, inner, ho, hi⟩ := hr
  have hS := h
  obtain ⟨f, hf⟩ := hS
  have hty := own_typed ho
  refine ⟨fun b => m.idxOf (f b), fun k hk => .inr (h0 k hk), inner, ?_, ?_, fun j p hj => ?_⟩
  · rw [List.length_zipIdx, List.length_map]
    rw [List.length_map] at ho
    exact own_less ho hB
  · rw [List.length_zipIdx, List.length_map]
    have := hi.1
    rw [List.length_map] at this
    exact this
  · rw [List.getElem?_zipIdx, Nat.zero_add, List.getElem?_map] at hj
    cases hx : m[j]? with
    | none => rw [hx] at hj; cases hj
    | some k =>
      rw [hx] at hj
      injection hj with hj
      subst hj
      have hkm := List.mem_of_getElem? hx
      have hkl := hlt k hkm
      have hc := hi.2 j (cellsAt W g k) (by rw [List.getElem?_map, hx]; rfl)
      obtain ⟨c, hcl, hM, hcc, -⟩ := Kd.R_elem hf ((⟨0, 0, [], []⟩ : S58), k) (k : Int) (by omega) (by omega)
      rw [Int.toNat_natCast] at hM hcc
      have hz : l.zipIdx.getD k ((⟨0, 0, [], []⟩ : S58), k) = (nd l k, k) := by
        rw [List.getD_eq_getElem?_getD, List.getElem?_zipIdx, List.getElem?_eq_getElem hkl, nd_get hkl]
        simp
      rw [hz] at hM
      have hcs : (inner.drop (j * 4)).take 4 = c := by
        have e1 : (inner.drop (j * 4)).take 4 = cellsAt W g k := hc.1
        rw [e1]
        obtain ⟨a0, a1, a2, a3, rfl⟩ : ∃ a0 a1 a2 a3, c = [a0, a1, a2, a3] := by
          match c, hcl with
          | [a0, a1, a2, a3], _ => exact ⟨_, _, _, _, rfl⟩
        have q0 : W.cell? ⟨g, k * 4, none⟩ = some a0 := hcc 0 _ rfl
        have q1 : W.cell? ⟨g, k * 4 + 1, none⟩ = some a1 := hcc 1 _ rfl
        have q2 : W.cell? ⟨g, k * 4 + 2, none⟩ = some a2 := hcc 2 _ rfl
        have q3 : W.cell? ⟨g, k * 4 + 3, none⟩ = some a3 := hcc 3 _ rfl
        unfold cellsAt
        rw [q0, q1, q2, q3]
        rfl
      show k58.M W B _ (nd l k) ((inner.drop (j * 4)).take 4)
      rw [hcs]
      have hM2 := k58.M_bound (show k58.M W B _ (nd l k) c from hM)
      refine k58.M_mono (fun b hb => ?_) hM2
      obtain ⟨⟨⟨hb1, hb2⟩, hb3⟩, hb4, hb5, q, hq, cells, hcells⟩ := hb
      refine ⟨⟨.inl hb1, fun he => ?_⟩, ?_⟩
      · obtain ⟨cells', hc'⟩ := hty b he.symm
        rw [hcells] at hc'
        injection hc' with hc'
        injection hc' with _ hc' _
        subst hc'
        exact absurd hq (by decide)
      · show m.idxOf (f b) = j
        rw [show f b = k from hb3]
        have hje := (List.getElem?_eq_some_iff.1 hx).2
        have h1 := List.getElem_idxOf (List.idxOf_lt_length_of_mem hkm)
        exact (List.getElem_inj hm).1 (h1.trans hje.symm)
/-- A node's number of links. -/
theorem S_links {W : World} {B g n cap : Nat} {ok : Nat → Prop} {l : List S58} (h : Kd.S k58 58 W B ok (.slice (some ⟨g, 0, none⟩) n cap) l) (k : Nat) (hk : k < l.length) :
    W.frozen? ⟨g, k * 4 + 1, none⟩ = false ∧ ∀ v : Int, Kd.S k58 58 (W.setCell ⟨g, k * 4 + 1, none⟩ (.int .i64 v)) B ok (.slice (some ⟨g, 0, none⟩) n cap) (l.set k ⟨(nd l k).f0, v, (nd l k).f2, (nd l k).f3⟩) := by
  have hn := (Kd.S_reads' h).1
  obtain ⟨oki, c, hcl, hM, hcc, hfr, hoki, hH⟩ := Kd.S_elem h ⟨0, 0, [], []⟩ (k : Int) (by omega) (by omega)
  rw [nd_toNat] at hM
  rw [Int.toNat_natCast] at hcc hfr
  obtain ⟨v2, v3, rfl, hd2, hd3⟩ := k58_openM hM
  refine ⟨hfr 1, fun v => ?_⟩
  obtain ⟨h2, h3⟩ := Kd.H_seg (seg := [.int .i64 v]) (j := 1) hH (by omega) (by omega) (Nat.le_of_ble_eq_true rfl) (by intro q hq; rw [List.mem_singleton] at hq; subst hq; rfl)
  rw [Int.toNat_natCast] at h2 h3
  have h4 := Kd.H_back (okp := oki) h2 (x' := ⟨(nd l k).f0, v, (nd l k).f2, (nd l k).f3⟩) (k58_mkM _ _ _ ⟨(nd l k).f0, v, (nd l k).f2, (nd l k).f3⟩ (Kd.R_step hd2 (fun b hb hlt => h3.block b hlt (fun he => (hoki b hb).2 (by injection he)))) (Kd.R_step hd3 (fun b hb hlt => h3.block b hlt (fun he => (hoki b hb).2 (by injection he))))) (fun _ hk => hk)
  rw [Int.toNat_natCast] at h4
  exact h4
end Go.Proofs.YtllfjmmdackgdaaDoor.PZ
end
