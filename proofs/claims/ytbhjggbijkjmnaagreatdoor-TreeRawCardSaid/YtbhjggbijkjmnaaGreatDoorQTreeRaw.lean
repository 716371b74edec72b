/- What the statement TreeRawCardSaid alone wants beside the common texts M..: the walk of the law's own Go function and its plain facts. No condition but those in the theorems. -/
import Derived.Test.YtbhjggbijkjmnaaGreatDoorM02
import Derived.Test.YtbhjggbijkjmnaaGreatDoorM35
import Derived.Test.YtbhjggbijkjmnaaGreatDoorM36
import Derived.Test.YtbhjggbijkjmnaaGreatDoorM34
import Derived.Deep.RegionHeld3
set_option linter.unusedVariables false
set_option linter.unusedSimpArgs false
section
namespace Go.Proofs.YtbhjggbijkjmnaaGreatDoor.OpenO
open Go.RowKit Go.ChangeShapes Go.WideShapes Go.Deep Go.Joins Go.ChangeAt Go.Proofs.YtbhjggbijkjmnaaGreatDoorW.PrintWords Go.Proofs.YtbhjggbijkjmnaaGreatDoor.PZ
set_option linter.unusedVariables false
set_option maxRecDepth 100000
theorem array6 {α : Type} {cs : Array α} (h : cs.size = 6) : ∃ c0 c1 c2 c3 c4 c5, cs = #[c0, c1, c2, c3, c4, c5] := by
 obtain ⟨l⟩ := cs
 match l, h with
 | [c0, c1, c2, c3, c4, c5], _ => exact ⟨c0, c1, c2, c3, c4, c5, rfl⟩
section
variable {H : Type} {enc : TypeId × Value → H} {P : Program} {w : World} {base : Nat} {spare : Nat → Bool} {held : Bool}
theorem open_agg_n {r : Reach} {b0 : Nat} {t : TypeId} {fs : Array Field} {v : Value} {d : DataW H} {p : List MemPlace} (hs : P.underlying t = some (.struct fs)) (hone : oneCellFields P fs = true) (hC : P.cellsOf t = fs.size)
  (hv : Value.okWide P w r b0 t v) (h : DataW.Trod enc P w base spare held t v d p) :
  ∃ (cs : Array Value) (n : Nat), v = .agg cs ∧ cs.size = fs.size ∧ ∀ (j : Nat) (f : Field), fs[j]? = some f → ∃ (u : Value) (y : DataW H × List MemPlace), cs[j]? = some u ∧ DataW.trod enc P w base spare held n f.type [u] = some y := by
 obtain ⟨cs, rfl, hsz⟩ := okWide_struct hs hv
 obtain ⟨fuel, hf⟩ := h
 obtain ⟨ys, n, hn, hy, hlen, hyl, hF⟩ := DataW.trod_struct hs hf
 refine ⟨cs, n, rfl, hsz.trans hC, fun j f hj => ?_⟩
 obtain ⟨ho, hk⟩ := hone_of hone j f hj
 have hjl : j < fs.size := (Array.getElem?_eq_some_iff.1 hj).1
 have hjc : j < cs.size := by omega
 have h1 := hF j f hj
 rw [ho, hk] at h1
 have hcl : (Value.agg cs).cells.toList = cs.toList := rfl
 have hone' : (cs.toList.drop j).take 1 = [cs[j]'hjc] := by
  rw [List.drop_eq_getElem_cons (by simpa using hjc)]
  rfl
 rw [hcl, hone'] at h1
 have hys : ys[j]? = some (ys[j]'(by omega)) := List.getElem?_eq_getElem (by omega)
 exact ⟨_, _, Array.getElem?_eq_getElem hjc, h1.trans hys⟩
end
section
variable {H : Type} {enc : TypeId × Value → H} {w : World} {base : Nat} {spare : Nat → Bool} {held : Bool}
theorem op_open {r : Reach} {b0 : Nat} {v : Value} {d : DataW H} {ps : List MemPlace} (hv : Value.okWide Tryz.prog w r b0 31 v) (h : DataW.Trod enc Tryz.prog w base spare held 31 v d ps) :
  ∃ (k : Int) (p q : ByteArray) (a n : Int) (A : Option Addr) (c : Nat) (l : List Int), v = .agg #[.int .i64 k, .string p, .string q, .int .i64 a, .int .i64 n, .slice A l.length c] ∧ l.length ≤ c ∧ Kd.C (Kd.int .u8) w A l.length l := by
 obtain ⟨cs, m, rfl, hsz, hF⟩ := open_agg_n Tryz.underlying31 (by kernel_rfl) (by kernel_rfl) hv h
 obtain ⟨c0, c1, c2, c3, c4, c5, rfl⟩ := array6 hsz
 obtain ⟨u0, y0, h0, ht0⟩ := hF 0 _ rfl
 obtain ⟨u1, y1, h1, ht1⟩ := hF 1 _ rfl
 obtain ⟨u2, y2, h2, ht2⟩ := hF 2 _ rfl
 obtain ⟨u3, y3, h3, ht3⟩ := hF 3 _ rfl
 obtain ⟨u4, y4, h4, ht4⟩ := hF 4 _ rfl
 obtain ⟨u5, y5, h5, ht5⟩ := hF 5 _ rfl
 obtain rfl := Option.some.inj h0
 obtain rfl := Option.some.inj h1
 obtain rfl := Option.some.inj h2
 obtain rfl := Option.some.inj h3
 obtain rfl := Option.some.inj h4
 obtain rfl := Option.some.inj h5
 obtain ⟨k0, e0, -, -⟩ := DataW.trod_int Tryz.underlying3 ht0
 obtain ⟨s1, e1, -, -⟩ := DataW.trod_string Tryz.underlying9 ht1
 obtain ⟨s2, e2, -, -⟩ := DataW.trod_string Tryz.underlying9 ht2
 obtain ⟨k3, e3, -, -⟩ := DataW.trod_int Tryz.underlying3 ht3
 obtain ⟨k4, e4, -, -⟩ := DataW.trod_int Tryz.underlying3 ht4
 obtain ⟨A5, c5, d5, rfl, hl5, hC5⟩ := bytes_cell ht5
 simp only [List.cons.injEq, and_true] at e0 e1 e2 e3 e4
 subst e0; subst e1; subst e2; subst e3; subst e4
 exact ⟨k0, s1, s2, k3, k4, A5, c5, d5, rfl, hl5, hC5⟩
end
end Go.Proofs.YtbhjggbijkjmnaaGreatDoor.OpenO
end
section
namespace Go.Proofs.YtbhjggbijkjmnaaGreatDoor.OpenO
open Go.RowKit Go.ChangeShapes Go.WideShapes Go.Deep Go.Joins Go.ChangeAt Go.Proofs.YtbhjggbijkjmnaaGreatDoorW.PrintWords Go.Proofs.YtbhjggbijkjmnaaGreatDoor.PZ
set_option linter.unusedVariables false
set_option maxRecDepth 100000
section
variable {H : Type} {enc : TypeId × Value → H} {w : World} {base : Nat} {spare : Nat → Bool} {held : Bool}
theorem row_of {α : Type} {d : Kd α} {x : Addr} {len : Nat} (hm : len ≤ 9223372036854775807) (Q : α → Prop) (z : α) (hex : ∀ i, ∃ y : α, i < len → Q y ∧ ∃ cs, d.K w y cs ∧ cs.length = d.sz ∧ ∀ q u, cs[q]? = some u → w.cell? (x.add (i * d.sz + q)) = some u) :
  ∃ l : List α, l.length = len ∧ Kd.C d w (some x) len l ∧ ∀ y ∈ l, Q y := by
 refine ⟨(List.range len).map (fun i => Classical.choose (hex i)), by simp, ?_, fun y hy => ?_⟩
 rotate_left
 ·
  obtain ⟨i, hi, rfl⟩ := List.mem_map.1 hy
  exact (Classical.choose_spec (hex i) (List.mem_range.1 hi)).1
 refine ⟨by simp, hm, fun h0 => ⟨x, rfl, fun i p hp => ?_⟩⟩
 have hlt : i < len := by
  rcases Nat.lt_or_ge i len with h | h
  · exact h
  · rw [List.getElem?_eq_none (by simpa using h)] at hp; cases hp
 rw [List.getElem?_map, List.getElem?_eq_getElem (by simpa using hlt)] at hp
 simp only [List.getElem_range, Option.map_some, Option.some.injEq] at hp
 subst hp
 obtain ⟨-, cs, h1, h2, h3⟩ := Classical.choose_spec (hex i) hlt
 exact ⟨cs, h2, h1, h3⟩
theorem Qfr {P : Program} {e : TypeId} : ∀ {ds : List (DataW H)} {d : DataW H}, d ∈ ds → ∀ n ∈ d.weights P e, n ∈ DataW.weightsAll P e ds
 | x :: r, d, hd, n, hn => by
  simp only [DataW.weightsAll, List.mem_append]
  rcases List.mem_cons.1 hd with rfl | hd
  · exact Or.inl hn
  · exact Or.inr (Qfr hd n hn)
theorem Qfa {P : Program} {t : TypeId} {fs : Array Field} {parts : List (DataW H)} (ht : P.underlying t = some (.struct fs)) {j : Nat} {f : TypeId} {d : DataW H} (hf : (fs.toList.map (·.type))[j]? = some f) (hd : parts[j]? = some d) : ∀ n ∈ d.weights P f, n ∈ (DataW.agg parts).weights P t := by
 intro n hn
 simp only [DataW.weights, ht]
 exact DataW.weights_mem_each hf hd n hn
theorem Qgz {P : Program} {t e : TypeId} {elems spare : List (DataW H)} (ht : P.underlying t = some (.slice e)) {d : DataW H} (hd : d ∈ elems) : ∀ n ∈ d.weights P e, n ∈ (DataW.slice elems spare).weights P t := by
 intro n hn
 simp only [DataW.weights, ht, List.mem_cons, List.mem_append]
 exact Or.inr (Or.inl (Qfr hd n hn))
theorem Qfu {P : Program} {t e : TypeId} {elems spare : List (DataW H)} (ht : P.underlying t = some (.slice e)) : (elems.length + spare.length) * P.bytesOf e ∈ (DataW.slice elems spare).weights P t := by
 simp only [DataW.weights, ht, List.mem_cons]
 exact Or.inl trivial
theorem entries_cell {fuel : Nat} {v : Value} {y : DataW H × List MemPlace} (h : DataW.trod enc Tryz.prog w base spare held fuel 50 [v] = some y) (hs : ∀ n ∈ y.1.weights Tryz.prog 50, n ≤ reachBytes) :
  ∃ (A : Option Addr) (c : Nat) (d : List S62), v = .slice A d.length c ∧ d.length ≤ c ∧ Kd.C k62 w A d.length d ∧ d.length ≤ reachBytes ∧ ∀ z ∈ d, z.f0.size ≤ reachBytes := by
 rcases open_slice_fields (fs := _) Tryz.underlying50 Tryz.underlying62 (by kernel_rfl) (by kernel_rfl) h with ⟨hcs, _⟩ | ⟨x, l, c, m, D, Pl, hcs, hb, hl, hm, hmm, hx, hi⟩
 ·
  simp only [List.cons.injEq, and_true] at hcs
  subst hcs
  exact ⟨none, 0, [], rfl, Nat.le_refl _, Kd.C_nil _ _, Nat.zero_le _, fun z hz => by cases hz⟩
 ·
  simp only [List.cons.injEq, and_true] at hcs
  subst hcs
  subst hx
  have hlm : l ≤ m := by rw [hmm]; split <;> omega
  have hlr : l ≤ reachBytes := by
   have z := hs _ (Qfu Tryz.underlying50)
   rw [show Tryz.prog.bytesOf 62 = 24 from by kernel_rfl, List.length_map, List.length_range] at z
   omega
  obtain ⟨d, hd, hC, hQ⟩ := row_of (d := k62) (w := w) (x := x) (len := l) (by simp only [maxLen] at hm; omega) (fun z : S62 => z.f0.size ≤ reachBytes) z62 (fun i => by
   by_cases hil : i < l
   ·
    obtain ⟨ys, n, hD, _, hyl, hfi⟩ := hi i (by omega)
    obtain ⟨v0, y0, hc0, hy0, ht0⟩ := hfi 0 _ rfl
    obtain ⟨v1, y1, hc1, hy1, ht1⟩ := hfi 1 _ rfl
    obtain ⟨s0, e0, rfl, -⟩ := DataW.trod_string Tryz.underlying9 ht0
    obtain ⟨k1, e1, -, -⟩ := DataW.trod_int Tryz.underlying3 ht1
    simp only [List.cons.injEq, and_true] at e0 e1
    subst e0; subst e1
    have hz : s0.size ≤ reachBytes := by
     refine hs _ (Qgz Tryz.underlying50 (List.mem_map_of_mem (List.mem_range.2 hil)) _ ?_)
     rw [hD]
     refine Qfa Tryz.underlying62 (j := 0) rfl (by rw [List.getElem?_map, hy0]; rfl) _ ?_
     simp only [DataW.weights, List.mem_cons]
     exact Or.inl (by simp)
    refine ⟨⟨s0, k1⟩, fun _ => ⟨hz, _, k62_mk w ⟨s0, k1⟩, rfl, fun q u hu => ?_⟩⟩
    match q, hu with
    | 0, hu => cases hu; exact hc0
    | 1, hu => cases hu; exact hc1
   · exact ⟨z62, fun h => absurd h hil⟩)
  subst hd
  exact ⟨some x, c, d, rfl, hl, hC, hlr, hQ⟩
theorem bytes_sized {fuel : Nat} {v : Value} {y : DataW H × List MemPlace} (h : DataW.trod enc Tryz.prog w base spare held fuel 29 [v] = some y) (hs : ∀ n ∈ y.1.weights Tryz.prog 29, n ≤ reachBytes) :
  ∃ (A : Option Addr) (c : Nat) (d : List Int), v = .slice A d.length c ∧ d.length ≤ c ∧ Kd.C (Kd.int .u8) w A d.length d ∧ d.length ≤ reachBytes := by
 obtain ⟨A, c, d, rfl, hl, hC⟩ := bytes_cell h
 refine ⟨A, c, d, rfl, hl, hC, ?_⟩
 rcases open_ints Tryz.underlying29 Tryz.underlying5 (by kernel_rfl) h with ⟨hcs, _⟩ | ⟨a, l, c', zs, hcs, _, hl', hm, hz, hx, hcell, hwz⟩
 ·
  simp only [List.cons.injEq, and_true, Value.slice.injEq] at hcs
  rw [hcs.2.1]
  exact Nat.zero_le _
 ·
  simp only [List.cons.injEq, and_true, Value.slice.injEq] at hcs
  subst hx
  have z := hs _ (Qfu Tryz.underlying29)
  have hlz : l ≤ zs.length := by rw [hz]; split <;> omega
  rw [show Tryz.prog.bytesOf 5 = 1 from by kernel_rfl] at z
  simp only [lits, List.length_map, List.length_take, List.length_drop] at z
  omega
def NodeOk (x : S52) : Prop := x.f2.length ≤ reachBytes ∧ x.f3.length ≤ reachBytes ∧ ∀ z ∈ x.f3, z.f0.size ≤ reachBytes
theorem nodes_cell {fuel : Nat} {v : Value} {y : DataW H × List MemPlace} (h : DataW.trod enc Tryz.prog w base spare held fuel 24 [v] = some y) (hs : ∀ n ∈ y.1.weights Tryz.prog 24, n ≤ reachBytes) :
  ∃ (A : Option Addr) (c : Nat) (d : List S52), v = .slice A d.length c ∧ d.length ≤ c ∧ Kd.C k52 w A d.length d ∧ d.length ≤ reachBytes ∧ ∀ x ∈ d, NodeOk x := by
 rcases open_slice_fields (fs := _) Tryz.underlying24 Tryz.underlying52 (by kernel_rfl) (by kernel_rfl) h with ⟨hcs, _⟩ | ⟨x, l, c, m, D, Pl, hcs, hb, hl, hm, hmm, hx, hi⟩
 ·
  simp only [List.cons.injEq, and_true] at hcs
  subst hcs
  exact ⟨none, 0, [], rfl, Nat.le_refl _, Kd.C_nil _ _, Nat.zero_le _, fun z hz => by cases hz⟩
 ·
  simp only [List.cons.injEq, and_true] at hcs
  subst hcs
  subst hx
  have hlm : l ≤ m := by rw [hmm]; split <;> omega
  have hlr : l ≤ reachBytes := by
   have z := hs _ (Qfu Tryz.underlying24)
   rw [show Tryz.prog.bytesOf 52 = 64 from by kernel_rfl, List.length_map, List.length_range] at z
   omega
  obtain ⟨d, hd, hC, hQ⟩ := row_of (d := k52) (w := w) (x := x) (len := l) (by simp only [maxLen] at hm; omega) NodeOk z52 (fun i => by
   by_cases hil : i < l
   ·
    obtain ⟨ys, n, hD, _, hyl, hfi⟩ := hi i (by omega)
    obtain ⟨v0, y0, hc0, hy0, ht0⟩ := hfi 0 _ rfl
    obtain ⟨v1, y1, hc1, hy1, ht1⟩ := hfi 1 _ rfl
    obtain ⟨v2, y2, hc2, hy2, ht2⟩ := hfi 2 _ rfl
    obtain ⟨v3, y3, hc3, hy3, ht3⟩ := hfi 3 _ rfl
    obtain ⟨k0, e0, -, -⟩ := DataW.trod_int Tryz.underlying3 ht0
    obtain ⟨k1, e1, -, -⟩ := DataW.trod_int Tryz.underlying3 ht1
    have hw := Qgz (P := Tryz.prog) (spare := (List.range (m - l)).map fun j => D (l + j)) Tryz.underlying24 (List.mem_map_of_mem (f := D) (List.mem_range.2 hil))
    rw [hD] at hw
    obtain ⟨A2, c2, d2, rfl, hl2, hC2, hq2⟩ := bytes_sized ht2 (fun n hn => hs _ (hw _ (Qfa Tryz.underlying52 (j := 2) rfl (by rw [List.getElem?_map, hy2]; rfl) _ hn)))
    obtain ⟨A3, c3, d3, rfl, hl3, hC3, hq3⟩ := entries_cell ht3 (fun n hn => hs _ (hw _ (Qfa Tryz.underlying52 (j := 3) rfl (by rw [List.getElem?_map, hy3]; rfl) _ hn)))
    simp only [List.cons.injEq, and_true] at e0 e1
    subst e0; subst e1
    refine ⟨⟨k0, k1, d2, d3⟩, fun _ => ⟨⟨hq2, hq3⟩, _, k52_mk w ⟨k0, k1, d2, d3⟩ hl2 hC2 hl3 hC3, rfl, fun q u hu => ?_⟩⟩
    match q, hu with
    | 0, hu => cases hu; exact hc0
    | 1, hu => cases hu; exact hc1
    | 2, hu => cases hu; exact hc2
    | 3, hu => cases hu; exact hc3
   · exact ⟨z52, fun h => absurd h hil⟩)
  subst hd
  exact ⟨some x, c, d, rfl, hl, hC, hlr, hQ⟩
theorem array1 {α : Type} {cs : Array α} (h : cs.size = 1) : ∃ c0, cs = #[c0] := by
 obtain ⟨l⟩ := cs
 match l, h with
 | [c0], _ => exact ⟨c0, rfl⟩
theorem open_agg_w {P : Program} {r : Reach} {b0 : Nat} {t : TypeId} {fs : Array Field} {v : Value} {d : DataW H} {p : List MemPlace} (hs : P.underlying t = some (.struct fs)) (hone : oneCellFields P fs = true) (hC : P.cellsOf t = fs.size)
  (hv : Value.okWide P w r b0 t v) (h : DataW.Trod enc P w base spare held t v d p) :
  ∃ (cs : Array Value) (n : Nat) (parts : List (DataW H)), v = .agg cs ∧ d = .agg parts ∧ cs.size = fs.size ∧ ∀ (j : Nat) (f : Field), fs[j]? = some f → ∃ (u : Value) (y : DataW H × List MemPlace), cs[j]? = some u ∧ parts[j]? = some y.1 ∧ DataW.trod enc P w base spare held n f.type [u] = some y := by
 obtain ⟨cs, rfl, hsz⟩ := okWide_struct hs hv
 obtain ⟨fuel, hf⟩ := h
 obtain ⟨ys, n, hn, hy, hlen, hyl, hF⟩ := DataW.trod_struct hs hf
 simp only [Prod.mk.injEq] at hy
 refine ⟨cs, n, _, rfl, hy.1, hsz.trans hC, fun j f hj => ?_⟩
 obtain ⟨ho, hk⟩ := hone_of hone j f hj
 have hjl : j < fs.size := (Array.getElem?_eq_some_iff.1 hj).1
 have hjc : j < cs.size := by omega
 have h1 := hF j f hj
 rw [ho, hk] at h1
 have hcl : (Value.agg cs).cells.toList = cs.toList := rfl
 have hone' : (cs.toList.drop j).take 1 = [cs[j]'hjc] := by
  rw [List.drop_eq_getElem_cons (by simpa using hjc)]
  rfl
 rw [hcl, hone'] at h1
 have hys : ys[j]? = some (ys[j]'(by omega)) := List.getElem?_eq_getElem (by omega)
 exact ⟨_, _, Array.getElem?_eq_getElem hjc, by rw [List.getElem?_map, hys]; rfl, h1.trans hys⟩
theorem tree_open {r : Reach} {b0 : Nat} {v : Value} {d : DataW H} {ps : List MemPlace} (hv : Value.okWide Tryz.prog w r b0 26 v) (h : DataW.Trod enc Tryz.prog w base spare held 26 v d ps) (hs : ∀ n ∈ d.weights Tryz.prog 26, n ≤ reachBytes) :
  ∃ (A : Option Addr) (c : Nat) (l : List S52), v = .agg #[.slice A l.length c] ∧ l.length ≤ c ∧ Kd.C k52 w A l.length l ∧ l.length ≤ reachBytes ∧ ∀ x ∈ l, NodeOk x := by
 obtain ⟨cs, m, parts, rfl, rfl, hsz, hF⟩ := open_agg_w Tryz.underlying26 (by kernel_rfl) (by kernel_rfl) hv h
 obtain ⟨c0, rfl⟩ := array1 hsz
 obtain ⟨u0, y0, h0, hp0, ht0⟩ := hF 0 _ rfl
 obtain rfl := Option.some.inj h0
 obtain ⟨A, c, l, rfl, hl, hC, hlr, hQ⟩ := nodes_cell ht0 (fun n hn => hs _ (Qfa Tryz.underlying26 (j := 0) rfl hp0 _ hn))
 exact ⟨A, c, l, rfl, hl, hC, hlr, hQ⟩
end
end Go.Proofs.YtbhjggbijkjmnaaGreatDoor.OpenO
end
section
namespace Go.Proofs.YtbhjggbijkjmnaaGreatDoor.PZ
open Go.RowKit Go.Proofs.YtbhjggbijkjmnaaGreatDoorW.PrintWords Go.Proofs.YtbhjggbijkjmnaaGreatDoorW.PrintLast Go.Proofs.YtbhjggbijkjmnaaGreatDoorW.PrintMore Go.Proofs.YtbhjggbijkjmnaaGreatDoor.B Go.Proofs.YtbhjggbijkjmnaaGreatDoor.Ord TD
set_option maxRecDepth 100000
theorem Qff {w w' : World} {r : List S52 × S37} {e : Ending} (h : Handed w r e w') : DoneQ w r e w' := by
 obtain ⟨A1, c1, A2, c2, A3, c3, h0, h1, h2, h3, h4, h5, h6, h7⟩ := h
 exact ⟨A1, c1, A2, c2, A3, c3, h0, ⟨h1, h2, h3, h4, h5, h6⟩, h7⟩
section
variable {A : Option Addr} {c : Nat} {l : List S52} {o : S31} {Ad : Option Addr} {cd : Nat} {w : World}
theorem do_any (hr : Kd.C k52 w A l.length l) (hc : l.length ≤ c) (hn : l.length ≤ 3000) (hm : ∀ k, (nd l k).f2.length ≤ 3000 ∧ (nd l k).f3.length ≤ 3000) (hrd : Kd.C (Kd.int .u8) w Ad o.f5.length o.f5) (hcd : o.f5.length ≤ cd) (hp : o.f1.size ≤ 1000) (hq : o.f2.size ≤ 1000) :
  Calls Tryz.prog 11 #[.agg #[.slice A l.length c], .agg #[.int .i64 o.f0, .string o.f1, .string o.f2, .int .i64 o.f3, .int .i64 o.f4, .slice Ad o.f5.length cd]] w fun e w' => DoneQ w (doG l o) e w' := by
 unfold doG
 cases hb : Qbd l with
 | true => exact (do_ok A c l o Ad cd w hr hc hrd hcd ((Qci l).1 hb) zq3 zq3).mono fun e w' h => Qff h
 | false => exact (do_bad A c l o Ad cd w hr hc zq3 (fun k => by have := hm k; omega) hb).mono fun e w' h => Qff h
theorem rdo_any (hr : Kd.C k52 w A l.length l) (hc : l.length ≤ c) (hn : l.length ≤ 3000) (hm : ∀ k, (nd l k).f2.length ≤ 3000 ∧ (nd l k).f3.length ≤ 3000) (hrd : Kd.C (Kd.int .u8) w Ad o.f5.length o.f5) (hcd : o.f5.length ≤ cd) (hp : o.f1.size ≤ 1000) (hq : o.f2.size ≤ 1000) :
  Calls Tryz.prog 12 #[.agg #[.slice A l.length c], .agg #[.int .i64 o.f0, .string o.f1, .string o.f2, .int .i64 o.f3, .int .i64 o.f4, .slice Ad o.f5.length cd]] w fun e w' => DoneQ w (doG l o) e w' := by
 unfold doG
 cases hb : Qbd l with
 | true => exact (rdo_ok A c l o Ad cd w hr hc ((Qci l).1 hb) zq3 zq3 hrd hcd).mono fun e w' h => Qff h
 | false => exact (rdo_bad A c l o Ad cd w hr hc zq3 (fun k => by have := hm k; omega) hb).mono fun e w' h => Qff h
theorem find_any (p : ByteArray) (hr : Kd.C k52 w A l.length l) (hc : l.length ≤ c) (hn : l.length ≤ 3000) (hm : ∀ k, (nd l k).f2.length ≤ 3000 ∧ (nd l k).f3.length ≤ 3000) (hp : p.size ≤ 1000) :
  Calls Tryz.prog 17 #[.agg #[.slice A l.length c], .string p] w fun e w' => e = .returned (.tuple #[.int .i64 (findG l p).1, .int .i64 (findG l p).2]) ∧ Below w.heap.size w w' := by
 unfold findG
 cases hb : Qbd l with
 | true => exact find_ok A c l p w hr hc ((Qci l).1 hb) zq3
 | false => exact find_bad A c l p w hr hc zq3 (fun k => by have := hm k; omega) hb
theorem doG_small (l : List S52) (o : S31) : (doG l o).1.length < 1000000000000 ∧ (∀ k, (nd (doG l o).1 k).f2.length < 1000000000000 ∧ (nd (doG l o).1 k).f3.length < 1000000000000) ∧ (doG l o).2.f1.length ≤ 46368 ∧ (doG l o).2.f2.length ≤ 64 := by
 unfold doG
 cases hb : Qbd l with
 | true =>
  have ht := (Qci l).1 hb
  exact ⟨(Qdo (do_rt ht o)).1, (Qdo (do_rt ht o)).2, do_small ht o⟩
 | false =>
  rw [if_neg zq9]
  exact ⟨(by decide : (0 : Nat) < 1000000000000), fun k => by rw [Qbr (Nat.zero_le _)]; exact ⟨(by decide : (0 : Nat) < 1000000000000), (by decide : (0 : Nat) < 1000000000000)⟩, Nat.zero_le _, Nat.zero_le _⟩
end
def Wd (l : List S52) (i : Nat) (n : Int) : Prop := (i : Int) ≤ n ∧ ∀ k, k < i → ((nd l k).f2.length : Int) ≤ n ∧ ((nd l k).f3.length : Int) ≤ n
theorem wsum {n d : Int} {most : Int} (h0 : 0 ≤ n) (h1 : n ≤ most) (hm : most ≤ 1000000) (d0 : 0 ≤ d) (d1 : d < 1000000000000000) : wrap64 (n + wrap64 (1 + d)) = n + 1 + d := by
 unfold wrap64
 omega
theorem Wd.next {l : List S52} {i : Nat} {n m : Int} {x : S52} (h : Wd l i n) (hx : nd l i = x) (h0 : 0 ≤ n) (hm : n + 1 + x.f2.length + x.f3.length ≤ m) : Wd l (i + 1) m := by
 refine ⟨by have := h.1; omega, fun k hk => ?_⟩
 by_cases hki : k < i
 ·
  have := h.2 k hki
  omega
 ·
  have e : k = i := by omega
  rw [e, hx]
  omega
set_option maxHeartbeats 2000000 in
theorem weigh_bound (A : Option Addr) (c : Nat) (l : List S52) (most : Int) (w : World) (hr : Kd.C k52 w A l.length l) (hc : l.length ≤ c) (hn : l.length < 1000000000000000) (hm : ∀ k, (nd l k).f2.length < 1000000000000000 ∧ (nd l k).f3.length < 1000000000000000 ∧ ∀ j : Nat, (rd_T62 (nd l k).f3 (j : Int)).f0.size < 1000000000000000) (hmo : 0 ≤ most ∧ most ≤ 1000000) :
  Calls Tryz.prog 16 #[.agg #[.slice A l.length c], .int .i64 most] w fun e w' => (∃ n, e = .returned (.int .i64 n) ∧ (n ≤ most → Wd l l.length n)) ∧ Below w.heap.size w w' := by
 have HR := am hr
 have HM := am hm
 have hbx : (box1 w A l.length c).cell? ⟨w.heap.size, 0, none⟩ = some (.slice A l.length c) := (Qab (Qal w (.cells #[.slice A l.length c] 26)) 0).trans rfl
 have HB := am (show Below w.heap.size w (box1 w A l.length c) from Qaa (Below.refl _ _) _)
 clear hr hm
 go_enter Tryz.func16, Tryz.ntmps16
 go_wp2
 go_loopw [5, 6] (fun v5 v6 wr => wr = box1 w A l.length c ∧ ∃ (n : Int) (i : Nat), i ≤ l.length ∧ Aside0 (0 ≤ n ∧ (n ≤ most → Wd l i n)) ∧ v5 = .int .i64 n ∧ v6 = .int .i64 i) (fun _ v6 _ => l.length - (intOf v6).toNat)
 case atStart => exact ⟨rfl, 0, 0, Nat.zero_le _, ⟨Int.le_refl _, fun _ => ⟨Int.le_refl _, fun k hk => absurd hk (Nat.not_lt_zero _)⟩⟩, rfl, rfl⟩
 case round =>
  obtain ⟨rfl, n, i, hi, HI, rfl, rfl⟩ := hrel
  by_cases hlt : i < l.length
  ·
   have hii : (i : Int) < (l.length : Int) := by omega
   cases hbn : decide (n ≤ most) with
   | false =>
    go_wp2
    go_ret
    exact ⟨⟨_, rfl, fun h => absurd h (of_decide_eq_false hbn)⟩, HB.out⟩
   | true =>
    obtain ⟨ad, A2, c2, A3, c3, rfl, hx0, hx1, hx2, hx3, hl2, hC2, hl3, hC3⟩ := Qaz HR.out (i : Int) zq3 zq3
    rw [Int.toNat_natCast] at hx0 hx1 hx2 hx3
    have hmk := HM.out i
    rw [show nd l i = rd_T52 l (i : Int) from rfl] at hmk
    obtain ⟨x, hxe⟩ : ∃ x, rd_T52 l (i : Int) = x := ⟨_, rfl⟩
    have HXE := am (show nd l i = x from hxe)
    rw [hxe] at hx0 hx1 hx2 hx3 hl2 hC2 hl3 hC3 hmk
    clear hxe
    replace hx2 := (HB.out.cell (World.block_lt_of_cell? w _ hx2)).trans hx2
    replace hx3 := (HB.out.cell (World.block_lt_of_cell? w _ hx3)).trans hx3
    have HC3 := am (Kd.C_below hC3 HB.out)
    have HMK := am hmk
    have HBN := am (of_decide_eq_true hbn)
    have hq3 := hmk.2.1
    clear hx0 hx1 hC2 hC3 hl2 hmk
    go_wp2
    go_loopw [5, 7] (fun v5 v7 wq => wq = box1 w (some ad) l.length c ∧ ∃ (m : Int) (k : Nat), k ≤ x.f3.length ∧ Aside0 (n + 1 + x.f2.length + k ≤ m) ∧ v5 = .int .i64 m ∧ v7 = .int .i64 k) (fun _ v7 _ => x.f3.length - (intOf v7).toNat)
    case atStart => exact ⟨rfl, _, 0, Nat.zero_le _, ⟨by rw [wsum HI.out.1 HBN.out hmo.2 (Int.natCast_nonneg _) (by have := HMK.out.1; omega)]; omega⟩, rfl, rfl⟩
    case round =>
     obtain ⟨rfl, m, k, hk, HJ, rfl, rfl⟩ := hrel
     by_cases hkt : k < x.f3.length
     ·
      have hkk : (k : Int) < (x.f3.length : Int) := by omega
      cases hbm : decide (m ≤ most) with
      | false =>
       go_wp2
       go_roundw
       case rel => exact ⟨trivial, m, i + 1, by omega, ⟨by have := HI.out.1; have := HJ.out; omega, fun h => absurd h (of_decide_eq_false hbm)⟩, rfl, rfl⟩
       case measure => simp [intOf]; omega
      | true =>
       obtain ⟨ed, rfl, hy0, hy1⟩ := Qbg HC3.out (k : Int) zq3 zq3
       rw [Int.toNat_natCast] at hy0 hy1
       have HY := am (HMK.out.2.2 k)
       generalize rd_T62 x.f3 (k : Int) = y at hy0 hy1 HY
       clear hy1
       go_wp2
       go_roundw
       case rel => exact ⟨trivial, _, k + 1, by omega, ⟨by rw [wsum (by have := HI.out.1; have := HJ.out; omega) (of_decide_eq_true hbm) hmo.2 (Int.natCast_nonneg _) (by have := HY.out; omega)]; have := HJ.out; omega⟩, rfl, rfl⟩
       case measure => simp [intOf]; omega
     ·
      have hke : k = x.f3.length := by omega
      subst hke
      go_wp2
      go_roundw
      case rel => exact ⟨trivial, m, i + 1, by omega, ⟨by have := HI.out.1; have := HJ.out; omega, fun h => Wd.next (HI.out.2 HBN.out) HXE.out HI.out.1 HJ.out⟩, rfl, rfl⟩
      case measure => simp [intOf]; omega
  ·
   have hie : i = l.length := by omega
   subst hie
   go_wp2
   go_ret
   exact ⟨⟨_, rfl, HI.out.2⟩, HB.out⟩
theorem rd_f3 (d : List S62) (j : Nat) : rd_T62 d (j : Int) = d.getD j z62 := rfl
theorem nd_ok {l : List S52} (hw : ∀ x ∈ l, OpenO.NodeOk x) (k : Nat) : (nd l k).f2.length < 1000000000000000 ∧ (nd l k).f3.length < 1000000000000000 ∧ ∀ j : Nat, (rd_T62 (nd l k).f3 (j : Int)).f0.size < 1000000000000000 := by
 by_cases hk : k < l.length
 ·
  have h := hw (nd l k) (by
   rw [nd, List.getD_eq_getElem?_getD, List.getElem?_eq_getElem hk]
   exact List.getElem_mem hk)
  simp only [OpenO.NodeOk, reachBytes] at h
  refine ⟨by omega, by omega, fun j => ?_⟩
  by_cases hj : j < (nd l k).f3.length
  ·
   have hz := h.2.2 (rd_T62 (nd l k).f3 (j : Int)) (by
    rw [rd_f3, List.getD_eq_getElem?_getD, List.getElem?_eq_getElem hj]
    exact List.getElem_mem hj)
   omega
  ·
   rw [rd_f3, List.getD_eq_getElem?_getD, List.getElem?_eq_none zq3]
   decide
 ·
  rw [Qbr zq3]
  refine ⟨by decide, by decide, fun j => ?_⟩
  rw [rd_f3, show (dN.f3 : List S62) = [] from rfl, List.getD_nil]
  decide
theorem wd_small {l : List S52} {n : Int} (h : Wd l l.length n) (hn : n ≤ 3000) : l.length ≤ 3000 ∧ ∀ k, (nd l k).f2.length ≤ 3000 ∧ (nd l k).f3.length ≤ 3000 := by
 refine ⟨by have := h.1; omega, fun k => ?_⟩
 by_cases hk : k < l.length
 ·
  have := h.2 k hk
  omega
 ·
  rw [Qbr zq3]
  exact ⟨by decide, by decide⟩
structure SA (w : World) (bt bo : Nat) (l : List S52) (o : S31) (A Ad : Option Addr) (c cd : Nat) (W : World) : Prop where
 t : Hold bt l A c W
 x : HoldP bo o Ad cd W
 bel : Below w.heap.size w W
theorem SA.below {w W W' : World} {bt bo : Nat} {l : List S52} {o : S31} {A Ad : Option Addr} {c cd : Nat} (h : SA w bt bo l o A Ad c cd W) (hb : Below W.heap.size W W') : SA w bt bo l o A Ad c cd W' := ⟨h.t.below hb, h.x.below hb, Qa h.bel hb⟩
theorem sa_start {A Ad : Option Addr} {c cd : Nat} {l : List S52} {o : S31} {w : World} (hr : Kd.C k52 w A l.length l) (hc : l.length ≤ c) (hrd : Kd.C (Kd.int .u8) w Ad o.f5.length o.f5) (hcd : o.f5.length ≤ cd) :
  SA w w.heap.size (w.heap.size + 1) l o A Ad c cd ((w.alloc (.cells #[.slice A l.length c] 26)).alloc (.cells #[.int .i64 o.f0, .string o.f1, .string o.f2, .int .i64 o.f3, .int .i64 o.f4, .slice Ad o.f5.length cd] 31)) :=
 have hb : Below w.heap.size w ((w.alloc (.cells #[.slice A l.length c] 26)).alloc (.cells #[.int .i64 o.f0, .string o.f1, .string o.f2, .int .i64 o.f3, .int .i64 o.f4, .slice Ad o.f5.length cd] 31)) := Qaa (Qaa (Below.refl _ _) _) _
 ⟨⟨Qaj (Qal w _) _, hc, Kd.C_below hr hb⟩, ⟨Qfh w _ _, hcd, Kd.C_below hrd hb⟩, hb⟩
structure SR (w : World) (bt b5 b8 : Nat) (l X : List S52) (r : S37) (A A4 A8 B1 B2 : Option Addr) (c c4 c8 e1 e2 : Nat) (W : World) : Prop where
 t : Hold bt l A c W
 own : Hold b5 l A4 c4 W
 nx : Hold b8 X A8 c8 W
 ra : HoldR (b8 + 1) r B1 e1 B2 e2 W
 bel : Below w.heap.size w W
theorem SR.below {w W W' : World} {bt b5 b8 : Nat} {l X : List S52} {r : S37} {A A4 A8 B1 B2 : Option Addr} {c c4 c8 e1 e2 : Nat} (h : SR w bt b5 b8 l X r A A4 A8 B1 B2 c c4 c8 e1 e2 W) (hb : Below W.heap.size W W') : SR w bt b5 b8 l X r A A4 A8 B1 B2 c c4 c8 e1 e2 W' := ⟨h.t.below hb, h.own.below hb, h.nx.below hb, h.ra.below hb, Qa h.bel hb⟩
theorem sr_mk {w W W' : World} {bt bo b5 b8 : Nat} {l X : List S52} {o : S31} {r : S37} {A Ad A4 A8 B1 B2 : Option Addr} {c cd c4 c8 e1 e2 : Nat} (h : SA w bt bo l o A Ad c cd W) (ho : Hold b5 l A4 c4 W) (hh : Hold b8 X A8 c8 W ∧ HoldR (b8 + 1) r B1 e1 B2 e2 W) (hb : Below W.heap.size W W') : SR w bt b5 b8 l X r A A4 A8 B1 B2 c c4 c8 e1 e2 W' :=
 SR.below ⟨h.t, ho, hh.1, hh.2, h.bel⟩ hb
structure SRR (w : World) (bt b5 b8 b10 : Nat) (l X : List S52) (r : S37) (A A4 A8 A10 B1 B2 D1 D2 : Option Addr) (c c4 c8 c10 e1 e2 g1 g2 : Nat) (W : World) : Prop where
 s : SR w bt b5 b8 l X r A A4 A8 B1 B2 c c4 c8 e1 e2 W
 al : Hold b10 X A10 c10 W
 rb : HoldR (b10 + 1) r D1 g1 D2 g2 W
theorem SRR.below {w W W' : World} {bt b5 b8 b10 : Nat} {l X : List S52} {r : S37} {A A4 A8 A10 B1 B2 D1 D2 : Option Addr} {c c4 c8 c10 e1 e2 g1 g2 : Nat} (h : SRR w bt b5 b8 b10 l X r A A4 A8 A10 B1 B2 D1 D2 c c4 c8 c10 e1 e2 g1 g2 W) (hb : Below W.heap.size W W') : SRR w bt b5 b8 b10 l X r A A4 A8 A10 B1 B2 D1 D2 c c4 c8 c10 e1 e2 g1 g2 W' := ⟨h.s.below hb, h.al.below hb, h.rb.below hb⟩
theorem SRR.loads {w W : World} {bt b5 b8 b10 : Nat} {l X : List S52} {r : S37} {A A4 A8 A10 B1 B2 D1 D2 : Option Addr} {c c4 c8 c10 e1 e2 g1 g2 : Nat} (h : SRR w bt b5 b8 b10 l X r A A4 A8 A10 B1 B2 D1 D2 c c4 c8 c10 e1 e2 g1 g2 W) : W.cell? ⟨bt, 0, none⟩ = some (.slice A l.length c) ∧ W.cell? ⟨b5, 0, none⟩ = some (.slice A4 l.length c4) ∧ W.cell? ⟨b8, 0, none⟩ = some (.slice A8 X.length c8) ∧ W.cell? ⟨b10, 0, none⟩ = some (.slice A10 X.length c10) ∧ W.cell? ⟨b8 + 1, 0, none⟩ = some (.int .i64 r.f0) ∧ W.cell? ⟨b8 + 1, 1, none⟩ = some (.slice B1 r.f1.length e1) ∧ W.cell? ⟨b8 + 1, 2, none⟩ = some (.slice B2 r.f2.length e2) ∧ W.cell? ⟨b8 + 1, 3, none⟩ = some (.int .i64 r.f3) ∧ W.cell? ⟨b8 + 1, 4, none⟩ = some (.int .i64 r.f4) ∧ W.cell? ⟨b8 + 1, 5, none⟩ = some (.int .i64 r.f5) ∧ W.cell? ⟨b10 + 1, 0, none⟩ = some (.int .i64 r.f0) ∧ W.cell? ⟨b10 + 1, 1, none⟩ = some (.slice D1 r.f1.length g1) ∧ W.cell? ⟨b10 + 1, 2, none⟩ = some (.slice D2 r.f2.length g2) ∧ W.cell? ⟨b10 + 1, 3, none⟩ = some (.int .i64 r.f3) ∧ W.cell? ⟨b10 + 1, 4, none⟩ = some (.int .i64 r.f4) ∧ W.cell? ⟨b10 + 1, 5, none⟩ = some (.int .i64 r.f5) :=
 ⟨h.s.t.cell, h.s.own.cell, h.s.nx.cell, h.al.cell, h.s.ra.cells.1, h.s.ra.cells.2.1, h.s.ra.cells.2.2.1, h.s.ra.cells.2.2.2.1, h.s.ra.cells.2.2.2.2.1, h.s.ra.cells.2.2.2.2.2.1, h.rb.cells.1, h.rb.cells.2.1, h.rb.cells.2.2.1, h.rb.cells.2.2.2.1, h.rb.cells.2.2.2.2.1, h.rb.cells.2.2.2.2.2.1⟩
set_option maxHeartbeats 16000000 in
theorem raw_walk (A : Option Addr) (c : Nat) (l : List S52) (o : S31) (Ad : Option Addr) (cd : Nat) (w : World) (hr : Kd.C k52 w A l.length l) (hc : l.length ≤ c) (hn : l.length ≤ reachBytes) (hw : ∀ x ∈ l, OpenO.NodeOk x) (hrd : Kd.C (Kd.int .u8) w Ad o.f5.length o.f5) (hcd : o.f5.length ≤ cd) :
  Calls Tryz.prog 4 #[.agg #[.slice A l.length c], .agg #[.int .i64 o.f0, .string o.f1, .string o.f2, .int .i64 o.f3, .int .i64 o.f4, .slice Ad o.f5.length cd]] w fun e w' => e = .returned (.bool true) ∧ Below w.heap.size w w' := by
 have HW := am hw
 have HN := am (show l.length < 1000000000000000 by simp only [reachBytes] at hn; omega)
 have H0 := am (sa_start hr hc hrd hcd)
 obtain ⟨⟨X, r⟩, hX⟩ : ∃ R, doG l o = R := ⟨_, rfl⟩
 have HX := am hX
 clear hX
 clear hr hrd hw hn
 go_enter Tryz.func4, Tryz.ntmps4
 go_upto_region 5 with (first
  | (go_at_call 5; (with_reducible refine (alive_walk _).mono ?_); rintro e w1 ⟨rfl, hb⟩; have H1 := am (H0.out.below hb); clear hb; obtain ⟨t0, t1⟩ := H1.out.t.cells; obtain ⟨x0, x1, x2, x3, x4, x5, x6⟩ := H1.out.x.cells)
  | (go_at_call 16; (with_reducible refine (weigh_bound A c l 3000 _ H1.out.t.rows hc HN.out (nd_ok HW.out) zq9).mono ?_); rintro e w2 ⟨⟨n, rfl, hn⟩, hb⟩; have HD := am hn; have H2 := am (H1.out.below hb); clear hb hn; clear t0 t1 x0 x1 x2 x3 x4 x5 x6; obtain ⟨t0, t1⟩ := H2.out.t.cells; obtain ⟨x0, x1, x2, x3, x4, x5, x6⟩ := H2.out.x.cells; cases hbn : decide (3000 < n))
  | (go_at_call 8; (with_reducible refine (long_walk o Ad cd _).mono ?_); rintro e w3 ⟨⟨q, rfl, hq⟩, hb⟩; have HL := am hq; have H3 := am (H2.out.below (Qa zq1 hb)); clear hb hq; clear t0 t1 x0 x1 x2 x3 x4 x5 x6; obtain ⟨t0, t1⟩ := H3.out.t.cells; obtain ⟨x0, x1, x2, x3, x4, x5, x6⟩ := H3.out.x.cells; cases q))
 all_goals try (go_wp2; go_ret; first | exact ⟨rfl, H3.out.bel⟩ | exact ⟨rfl, H2.out.bel⟩)
 have hs := wd_small (HD.out (by have := of_decide_eq_false hbn; omega)) (by have := of_decide_eq_false hbn; omega)
 have HS := am hs.2
 have hl3 := hs.1
 have hlo := HL.out trivial
 clear HW HN H0 H1 H2 HD HL hs
 go_upto_region 6 with (go_at_call 10; (with_reducible refine (Qdi A c l _ H3.out.t.rows hc zq3 (fun k => by have := HS.out k; omega)).mono ?_); rintro en w4 ⟨u, rfl, hs, hb⟩; obtain ⟨A4, c4, hu, h41, h42⟩ := Kd.S_reads hs; subst hu; have HC4 := am (And.intro h41 h42); have H4 := am (H3.out.below hb); clear hs hb h41 h42; clear t0 t1 x0 x1 x2 x3 x4 x5 x6)
 have HO5 := am (show Hold w4.heap.size l A4 c4 (w4.alloc (.cells #[.slice A4 l.length c4] 26)) from ⟨Qal w4 _, HC4.out.1, Kd.C_alloc HC4.out.2 _⟩)
 have H5 := am (H4.out.below (Qaa (Below.refl _ _) (.cells #[.slice A4 l.length c4] 26)))
 clear HC4 H4 H3
 generalize w4.alloc (.cells #[.slice A4 l.length c4] 26) = w5 at *
 generalize w4.heap.size = b5 at *
 obtain ⟨t0, t1⟩ := H5.out.t.cells; obtain ⟨x0, x1, x2, x3, x4, x5, x6⟩ := H5.out.x.cells
 obtain ⟨o0, o1⟩ := HO5.out.cells
 go_upto_region 9 with (first
  | (go_at_call 17; (with_reducible refine (find_any o.f1 HO5.out.rows HO5.out.cap hl3 HS.out hlo.1).mono ?_); rintro en w6 ⟨rfl, hb⟩; have H6 := am (H5.out.below hb); have HO6 := am (HO5.out.below hb); clear hb; clear t0 t1 x0 x1 x2 x3 x4 x5 x6; clear o0 o1; obtain ⟨t0, t1⟩ := H6.out.t.cells; obtain ⟨x0, x1, x2, x3, x4, x5, x6⟩ := H6.out.x.cells; obtain ⟨o0, o1⟩ := HO6.out.cells)
  | (go_at_call 18; (with_reducible refine (rfind_ok A c l o.f1 _ H6.out.t.rows hc zq3 (fun k => by have := HS.out k; omega) zq3).mono ?_); rintro en w7 ⟨rfl, hb⟩; have H7 := am (H6.out.below hb); have HO7 := am (HO6.out.below hb); clear hb; clear t0 t1 x0 x1 x2 x3 x4 x5 x6; clear o0 o1; obtain ⟨t0, t1⟩ := H7.out.t.cells; obtain ⟨x0, x1, x2, x3, x4, x5, x6⟩ := H7.out.x.cells; obtain ⟨o0, o1⟩ := HO7.out.cells)
  | (go_at_call 11; (with_reducible refine (do_any HO7.out.rows HO7.out.cap hl3 HS.out H7.out.x.rows H7.out.x.cap hlo.1 hlo.2.1).mono ?_); rw [HX.out]; rintro en w8 ⟨A8, c8, B1, e1, B2, e2, rfl, hh, hb⟩; have HH8 := am hh; have H8 := am (H7.out.below hb); have HO8 := am (HO7.out.below hb); clear hb hh; clear t0 t1 x0 x1 x2 x3 x4 x5 x6; clear o0 o1))
 have hb9 : Below w8.heap.size w8 ((w8.alloc (treeO A8 X.length c8)).alloc (resO r B1 e1 B2 e2)) := Qaa (Qaa (Below.refl _ _) _) _
 have HW9 := am (HH8.out.laid (Below.refl _ _))
 have H9 := am (H8.out.below hb9)
 have HO9 := am (HO8.out.below hb9)
 clear hb9 HH8 H5 HO5 H6 HO6 H7 HO7 H8 HO8
 change Code.wp _ _ _ _ ((w8.alloc (treeO A8 X.length c8)).alloc (resO r B1 e1 B2 e2))
 generalize (w8.alloc (treeO A8 X.length c8)).alloc (resO r B1 e1 B2 e2) = w9 at *
 generalize w8.heap.size = b8 at *
 obtain ⟨t0, t1⟩ := H9.out.t.cells; obtain ⟨x0, x1, x2, x3, x4, x5, x6⟩ := H9.out.x.cells
 go_upto_region 10 with (go_at_call 12; (with_reducible refine (rdo_any H9.out.t.rows hc hl3 HS.out H9.out.x.rows H9.out.x.cap hlo.1 hlo.2.1).mono ?_); rw [HX.out]; rintro en w10 ⟨A10, c10, D1, g1, D2, g2, rfl, hh, hb⟩; have HH10 := am hh; have H10 := am (sr_mk H9.out HO9.out HW9.out hb); clear hb hh H9 HO9 HW9; clear t0 t1 x0 x1 x2 x3 x4 x5 x6; )
 have hb9 : Below w10.heap.size w10 ((w10.alloc (treeO A10 X.length c10)).alloc (resO r D1 g1 D2 g2)) := Qaa (Qaa (Below.refl _ _) _) _
 have HW11 := am (HH10.out.laid (Below.refl _ _))
 have H11 := am (H10.out.below hb9)
 clear hb9 HH10 H10
 change Code.wp _ _ _ _ ((w10.alloc (treeO A10 X.length c10)).alloc (resO r D1 g1 D2 g2))
 generalize (w10.alloc (treeO A10 X.length c10)).alloc (resO r D1 g1 D2 g2) = w11 at *
 generalize w10.heap.size = b10 at *
 have hz := doG_small l o
 rw [HX.out] at hz
 have HZ := am hz
 clear hz
 have H := am (SRR.mk H11.out HW11.out.1 HW11.out.2)
 clear H11 HW11
 obtain ⟨t0, t1⟩ := H.out.s.t.cells; obtain ⟨o0, o1⟩ := H.out.s.own.cells; obtain ⟨n0, n1⟩ := H.out.s.nx.cells; obtain ⟨l0, l1⟩ := H.out.al.cells; obtain ⟨a0, a1, a2, a3, a4, a5, a6⟩ := H.out.s.ra.cells; obtain ⟨d0, d1, d2, d3, d4, d5, d6⟩ := H.out.rb.cells
 clear HX
 obtain ⟨q, hq⟩ : ∃ q, Qbd l = q := ⟨_, rfl⟩
 have HQ := am hq
 clear hq
 generalize findG l o.f1 = fp
 obtain ⟨f, g⟩ := fp
 clear t0 t1 o0 o1 n0 n1 l0 l1 a0 a1 a2 a3 a4 a5 a6 d0 d1 d2 d3 d4 d5 d6
 have hff : (f == f) = true := beq_self_eq_true f
 have hgg : (g == g) = true := beq_self_eq_true g
 have hqq : (q == q) = true := beq_self_eq_true q
 go_region_held3 (fun w' => w'.cell? ⟨w.heap.size, 0, none⟩ = some (.slice A l.length c) ∧ w'.cell? ⟨b5, 0, none⟩ = some (.slice A4 l.length c4) ∧ w'.cell? ⟨b8, 0, none⟩ = some (.slice A8 X.length c8) ∧ w'.cell? ⟨b10, 0, none⟩ = some (.slice A10 X.length c10) ∧ w'.cell? ⟨b8 + 1, 0, none⟩ = some (.int .i64 r.f0) ∧ w'.cell? ⟨b8 + 1, 1, none⟩ = some (.slice B1 r.f1.length e1) ∧ w'.cell? ⟨b8 + 1, 2, none⟩ = some (.slice B2 r.f2.length e2) ∧ w'.cell? ⟨b8 + 1, 3, none⟩ = some (.int .i64 r.f3) ∧ w'.cell? ⟨b8 + 1, 4, none⟩ = some (.int .i64 r.f4) ∧ w'.cell? ⟨b8 + 1, 5, none⟩ = some (.int .i64 r.f5) ∧ w'.cell? ⟨b10 + 1, 0, none⟩ = some (.int .i64 r.f0) ∧ w'.cell? ⟨b10 + 1, 1, none⟩ = some (.slice D1 r.f1.length g1) ∧ w'.cell? ⟨b10 + 1, 2, none⟩ = some (.slice D2 r.f2.length g2) ∧ w'.cell? ⟨b10 + 1, 3, none⟩ = some (.int .i64 r.f3) ∧ w'.cell? ⟨b10 + 1, 4, none⟩ = some (.int .i64 r.f4) ∧ w'.cell? ⟨b10 + 1, 5, none⟩ = some (.int .i64 r.f5))
  (first | ((refine (SRR.below H.out ?_).loads); (repeat (first | exact Below.refl _ _ | with_reducible apply Qac | with_reducible apply Qad)); done) | ((refine (SRR.below Ha.out ?_).loads); (repeat (first | exact Below.refl _ _ | with_reducible apply Qac | with_reducible apply Qad)); done) | ((refine (SRR.below Hb.out ?_).loads); (repeat (first | exact Below.refl _ _ | with_reducible apply Qac | with_reducible apply Qad)); done) | ((refine (SRR.below Hc.out ?_).loads); (repeat (first | exact Below.refl _ _ | with_reducible apply Qac | with_reducible apply Qad)); done) | ((refine (SRR.below Hd.out ?_).loads); (repeat (first | exact Below.refl _ _ | with_reducible apply Qac | with_reducible apply Qad)); done) | ((refine (SRR.below He.out ?_).loads); (repeat (first | exact Below.refl _ _ | with_reducible apply Qac | with_reducible apply Qad)); done))
  (first
  | (go_at_call 19; (with_reducible refine (Qd A4 c4 l _ H.out.s.own.cap (Kd.C_below H.out.s.own.rows zq5) zq3 (fun k => by have := HS.out k; omega)).mono ?_); rintro e wa ⟨rfl, hb⟩; rw [HQ.out]; have Ha := am (H.out.below (Qa zq5 hb)); clear hb)
  | (go_at_call 20; (with_reducible refine (rright A c l _ (Kd.C_below Ha.out.s.t.rows zq5) hc zq3 (fun k => by have := HS.out k; omega)).mono ?_); rintro e wb ⟨rfl, hb⟩; rw [HQ.out]; have Hb := am (Ha.out.below (Qa zq5 hb)); clear hb)
  | (go_at_call 14; (with_reducible refine (Qdx A8 c8 X A10 c10 X _ (Kd.C_below Hb.out.s.nx.rows zq5) Hb.out.s.nx.cap (Kd.C_below Hb.out.al.rows zq5) Hb.out.al.cap HZ.out.1 HZ.out.2.1).mono ?_); rintro en wc ⟨⟨q, rfl, hq⟩, hb⟩; obtain rfl : q = true := hq.2 rfl; clear hq; have Hc := am (Hb.out.below (Qa zq5 hb)); clear hb)
  | (go_at_call 13; (with_reducible refine (Qfx B1 e1 B2 e2 r D1 g1 D2 g2 r _ (Kd.C_below Hc.out.s.ra.rows1 zq5) Hc.out.s.ra.cap1 (Kd.C_below Hc.out.s.ra.rows2 zq5) Hc.out.s.ra.cap2 (Kd.C_below Hc.out.rb.rows1 zq5) Hc.out.rb.cap1 (Kd.C_below Hc.out.rb.rows2 zq5) Hc.out.rb.cap2 (by have := HZ.out; omega) (by have := HZ.out; omega)).mono ?_); rintro en wd ⟨⟨q, rfl, hq⟩, hb⟩; obtain rfl : q = true := hq.2 rfl; clear hq; have Hd := am (Hc.out.below (Qa zq5 hb)); clear hb)
  | (go_at_call 14; (with_reducible refine (Qdx A4 c4 l A c l _ (Kd.C_below Hd.out.s.own.rows zq5) Hd.out.s.own.cap (Kd.C_below Hd.out.s.t.rows zq5) hc zq3 (fun k => by have := HS.out k; omega)).mono ?_); rintro en we ⟨⟨q, rfl, hq⟩, hb⟩; obtain rfl : q = true := hq.2 rfl; clear hq; have He := am (Hd.out.below (Qa zq5 hb)); clear hb))
 all_goals (go_wp2; go_ret; exact ⟨rfl, (He.out.below zq5).s.bel⟩)
theorem raw_row (A : Option Addr) (c : Nat) (l : List S52) (a : Int) (p q : ByteArray) (x n : Int) (Ad : Option Addr) (cd : Nat) (d : List Int) (w : World) (hr : Kd.C k52 w A l.length l) (hc : l.length ≤ c) (hn : l.length ≤ reachBytes) (hw : ∀ x ∈ l, OpenO.NodeOk x) (hrd : Kd.C (Kd.int .u8) w Ad d.length d) (hcd : d.length ≤ cd) :
  Calls Tryz.prog 4 #[.agg #[.slice A l.length c], .agg #[.int .i64 a, .string p, .string q, .int .i64 x, .int .i64 n, .slice Ad d.length cd]] w fun e w' => e = .returned (.bool true) ∧ Below w.heap.size w w' :=
 raw_walk A c l ⟨a, p, q, x, n, d⟩ Ad cd w hr hc hn hw hrd hcd
end Go.Proofs.YtbhjggbijkjmnaaGreatDoor.PZ
end
