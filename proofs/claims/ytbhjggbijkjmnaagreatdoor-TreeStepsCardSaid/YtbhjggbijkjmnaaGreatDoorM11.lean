import Derived.Test.YtbhjggbijkjmnaaGreatDoorM09
import Derived.Test.YtbhjggbijkjmnaaGreatDoorM10
import Derived.Lib.Join
import Derived.Test.YtbhjggbijkjmnaaGreatDoorM07
import Derived.Test.YtbhjggbijkjmnaaGreatDoorM06
import Derived.Test.YtbhjggbijkjmnaaGreatDoorM08
import Derived.Test.YtbhjggbijkjmnaaGreatDoorM05
import Derived.Deep.RegionHeld3
import Derived.Deep.DrawnRows
import Derived.RegionTactic
set_option linter.unusedVariables false
set_option linter.unusedSimpArgs false
section
namespace Go.Proofs.YtbhjggbijkjmnaaGreatDoor.PZ
open Go.RowKit Go.Proofs.YtbhjggbijkjmnaaGreatDoorW.PrintWords Go.Proofs.YtbhjggbijkjmnaaGreatDoorW.PrintLast Go.Proofs.YtbhjggbijkjmnaaGreatDoorW.PrintMore Go.Proofs.YtbhjggbijkjmnaaGreatDoor.B Go.Proofs.YtbhjggbijkjmnaaGreatDoor.Ord TD
set_option maxRecDepth 100000
def chk (out : List (List UInt8)) : List (List UInt8) → Option (List (List UInt8))
 | [] => some out
 | p :: ps => if nameL p = true then (if out.length = 8 then none else chk (out ++ [p]) ps) else none
theorem chk_eq : ∀ (ps out : List (List UInt8)), out.length ≤ 8 → chk out ps = if (ps.all nameL && decide (out.length + ps.length ≤ 8)) = true then some (out ++ ps) else none
 | [], out, h => by
  unfold chk
  rw [if_pos (by simp [h])]
  simp
 | p :: ps, out, h => by
  unfold chk
  by_cases h1 : nameL p = true
  ·
   rw [if_pos h1]
   by_cases h2 : out.length = 8
   · rw [if_pos h2, if_neg zq20]
   ·
    rw [if_neg h2, chk_eq ps (out ++ [p]) zq20]
    rw [List.all_cons, h1, Bool.true_and, List.length_append, List.length_cons, List.length_cons, List.length_nil]
    rw [show out.length + (0 + 1) + ps.length = out.length + (ps.length + 1) by omega]
    simp
  · rw [if_neg h1, if_neg (by simp [h1])]
theorem chk_right (ps : List (List UInt8)) : chk [] ps = if Qgk ps = true then some ps else none := by
 rw [chk_eq ps [] zq14]
 unfold Qgk
 rw [Bool.and_comm]
 simp
def ansS (o : Option (List (List UInt8))) : List ByteArray × Int := match o with
 | some ps => (ps.map mk, 0)
 | none => ([], 20)
theorem str_app (cur : List UInt8) : strOfNums (bytesOf (mk cur)) = mk cur := by
 apply data_inj
 rw [strOfNums_data, bytesOf, List.map_map]
 conv => rhs; rw [← List.map_id (mk cur).data.toList]
 apply List.map_congr_left
 intro x _
 show UInt8.ofNat ((x.toNat : Int)).toNat = x
 simp
theorem bytes_snoc (cur : List UInt8) (c : UInt8) : bytesOf (mk cur) ++ [(c.toNat : Int)] = bytesOf (mk (cur ++ [c])) := by
 unfold bytesOf
 rw [Qdl, Qdl]
 simp
theorem bytes_nil : bytesOf (mk []) = [] := rfl
theorem ref_l0 (s : ByteArray) (hs : s.size < 10000000) : ∀ (d i : Nat) (out : List (List UInt8)) (cur : List UInt8), i ≤ s.size → s.size - i = d → out.length ≤ 8 → cur.length ≤ i →
  ∃ K, ∀ k, K ≤ k → moraineref10_Split.l0 k s (out.map mk) (bytesOf (mk cur)) (i : Int) = some (ansS (chk out (ahead cur (pieces (s.data.toList.drop i))))) := by
 intro d
 induction d with
 | zero =>
  intro i out cur hi hd ho hc
  obtain ⟨Kn, hn⟩ := name_ev (mk cur)
  have e1 : s.data.toList.drop i = [] := List.drop_of_length_le (by rw [Qay]; omega)
  have e2 : ahead cur (pieces ([] : List UInt8)) = [cur] := by simp [pieces, ahead]
  have hil : ¬ (i : Int) < (s.size : Int) := by omega
  have hil2 : (i : Int) ≤ (s.size : Int) := by omega
  have hil3 : ¬ wrap64 ((i : Int) + 1) ≤ (s.size : Int) := by rw [w6 zq3 zq3]; omega
  have hom : (out.map mk).length = out.length := List.length_map ..
  rw [e1, e2]
  refine ⟨Kn + 3, fun k hk => ?_⟩
  obtain ⟨m, rfl⟩ : ∃ m, k = m + 3 := ⟨k - 3, by omega⟩
  rw [moraineref10_Split.l0, if_pos hil2, if_neg hil, moraineref10_Split.j2, if_neg Bool.false_ne_true, str_app, show moraineref10_Name.f (m + 1) (mk cur) = some (nameB (mk cur)) from hn _ zq3, Option.bind_some, nameB_L, Qdl]
  unfold chk
  by_cases h1 : nameL cur = true
  ·
   rw [if_pos h1, if_pos h1]
   by_cases h8 : out.length = 8
   ·
    rw [if_pos h8, if_pos (by rw [hom]; omega)]
    rfl
   ·
    rw [if_neg h8, if_neg (by rw [hom]; omega), if_pos (by rw [hom]; omega), moraineref10_Split.l0, if_neg hil3]
    unfold chk
    show some (out.map mk ++ [mk cur], (0 : Int)) = some ((out ++ [cur]).map mk, 0)
    rw [List.map_append]
    rfl
  ·
   rw [if_neg h1, if_neg h1]
   rfl
 | succ d ih =>
  intro i out cur hi hd ho hc
  have hil : i < s.data.toList.length := by rw [Qay]; omega
  have e1 : s.data.toList.drop i = s.data.toList[i] :: s.data.toList.drop (i + 1) := List.drop_eq_getElem_cons hil
  have hbt := bt_at s i hil
  have hil1 : (i : Int) < (s.size : Int) := by omega
  have hil2 : (i : Int) ≤ (s.size : Int) := by omega
  have hil0 : (0 : Int) ≤ (i : Int) := by omega
  have hw : wrap64 ((i : Int) + 1) = ((i + 1 : Nat) : Int) := (w6 zq3 zq3).trans zq3
  have hom : (out.map mk).length = out.length := List.length_map ..
  have hcl : (bytesOf (mk cur)).length = cur.length := by rw [bytesOf_length, mk_size]
  generalize hb : s.data.toList[i] = b at e1 hbt
  by_cases h47 : b = 47
  ·
   -- a name ends
   obtain ⟨Kn, hn⟩ := name_ev (mk cur)
   have ep : ahead cur (pieces (b :: s.data.toList.drop (i + 1))) = cur :: pieces (s.data.toList.drop (i + 1)) := by
    conv => lhs; unfold pieces
    rw [if_pos h47]
    simp [ahead]
   have hne : (bt s (i : Int) != 47) = false := by rw [hbt, h47]; rfl
   rw [e1, ep]
   unfold chk
   by_cases h1 : nameL cur = true
   ·
    rw [if_pos h1]
    by_cases h8 : out.length = 8
    ·
     rw [if_pos h8]
     refine ⟨Kn + 3, fun k hk => ?_⟩
     obtain ⟨m, rfl⟩ : ∃ m, k = m + 3 := ⟨k - 3, by omega⟩
     rw [moraineref10_Split.l0, if_pos hil2, if_pos hil1, if_pos hil0, hne, moraineref10_Split.j2, if_neg Bool.false_ne_true, str_app, show moraineref10_Name.f (m + 1) (mk cur) = some (nameB (mk cur)) from hn _ zq3, Option.bind_some, nameB_L, Qdl, if_pos h1, if_pos (by rw [hom]; omega)]
     rfl
    ·
     rw [if_neg h8]
     obtain ⟨K, hK⟩ := ih (i + 1) (out ++ [cur]) [] zq3 zq3 zq20 zq14
     refine ⟨K + Kn + 3, fun k hk => ?_⟩
     obtain ⟨m, rfl⟩ : ∃ m, k = m + 3 := ⟨k - 3, by omega⟩
     have hq := hK (m + 1) zq3
     clear hK ih
     rw [ahead_nil, bytes_nil, List.map_append, List.map_cons, List.map_nil] at hq
     rw [moraineref10_Split.l0, if_pos hil2, if_pos hil1, if_pos hil0, hne, moraineref10_Split.j2, if_neg Bool.false_ne_true, str_app, show moraineref10_Name.f (m + 1) (mk cur) = some (nameB (mk cur)) from hn _ zq3, Option.bind_some, nameB_L, Qdl, if_pos h1, if_neg (by rw [hom]; omega), if_pos (by rw [hom]; omega), hw]
     exact hq
   ·
    rw [if_neg h1]
    refine ⟨Kn + 3, fun k hk => ?_⟩
    obtain ⟨m, rfl⟩ : ∃ m, k = m + 3 := ⟨k - 3, by omega⟩
    rw [moraineref10_Split.l0, if_pos hil2, if_pos hil1, if_pos hil0, hne, moraineref10_Split.j2, if_neg Bool.false_ne_true, str_app, show moraineref10_Name.f (m + 1) (mk cur) = some (nameB (mk cur)) from hn _ zq3, Option.bind_some, nameB_L, Qdl, if_neg h1]
    rfl
  ·
   have ep := ahead_step cur b (s.data.toList.drop (i + 1)) h47
   have hne : (bt s (i : Int) != 47) = true := by
    rw [hbt, bne_iff_ne]
    intro e
    apply h47
    apply UInt8.toNat_inj.1
    show b.toNat = 47
    omega
   rw [e1, ep]
   obtain ⟨K, hK⟩ := ih (i + 1) out (cur ++ [b]) zq3 zq3 ho zq20
   refine ⟨K + 2, fun k hk => ?_⟩
   obtain ⟨m, rfl⟩ : ∃ m, k = m + 2 := ⟨k - 2, by omega⟩
   have hq := hK m zq3
   clear hK ih
   rw [← bytes_snoc] at hq
   rw [moraineref10_Split.l0, if_pos hil2, if_pos hil1, if_pos hil0, hne, moraineref10_Split.j2, if_pos rfl, if_pos hil0, if_pos hil1, if_pos (by rw [hcl]; omega), hw, hbt]
   exact hq
theorem Qcx (a : ByteArray) (ha : a.size < 10000000) : Ev (fun k => moraineref10_Split.f k a) (Qah a) := by
 have hsl := Qay a
 unfold Qah
 match hd : a.data.toList with
 | [] =>
  rw [hd, List.length_nil] at hsl
  refine ⟨1, fun k hk => ?_⟩
  obtain ⟨m, rfl⟩ : ∃ m, k = m + 1 := ⟨k - 1, by omega⟩
  show moraineref10_Split.f (m + 1) a = _
  unfold moraineref10_Split.f
  rw [if_pos zq3, moraineref10_Split.j0, if_pos rfl]
  rfl
 | c :: r =>
  rw [hd, List.length_cons] at hsl
  rw [Qea]
  have h0 : ¬ (a.size : Int) = 0 := by omega
  have h1 : (0 : Int) < (a.size : Int) := by omega
  have hbt := bt_at a 0 (by rw [hd]; simp)
  have hb0 : bt a 0 = (c.toNat : Int) := by
   rw [show (0 : Int) = ((0 : Nat) : Int) by rfl, hbt]
   simp only [hd, List.getElem_cons_zero]
  by_cases hc : c = 47
  ·
   rw [if_pos hc]
   have hne : (bt a 0 != 47) = false := by rw [hb0, hc]; rfl
   by_cases hr : r = []
   ·
    rw [if_pos hr]
    refine ⟨1, fun k hk => ?_⟩
    obtain ⟨m, rfl⟩ : ∃ m, k = m + 1 := ⟨k - 1, by omega⟩
    show moraineref10_Split.f (m + 1) a = _
    unfold moraineref10_Split.f
    rw [if_neg h0, if_pos h1, hne, moraineref10_Split.j0, if_neg Bool.false_ne_true, Option.bind_some, if_pos (by rw [Qb, hd, hr, hc])]
    rfl
   ·
    rw [if_neg hr]
    obtain ⟨K, hK⟩ := ref_l0 a zq3 (a.size - 1) 1 [] [] zq3 zq3 zq14 zq14
    refine ⟨K + 1, fun k hk => ?_⟩
    obtain ⟨m, rfl⟩ : ∃ m, k = m + 1 := ⟨k - 1, by omega⟩
    have hq := hK m zq3
    clear hK
    rw [ahead_nil, bytes_nil, hd, List.map_nil] at hq
    show moraineref10_Split.f (m + 1) a = _
    unfold moraineref10_Split.f
    rw [if_neg h0, if_pos h1, hne, moraineref10_Split.j0, if_neg Bool.false_ne_true, Option.bind_some, if_neg (by rw [Qb, hd]; intro e; injection e with _ e; exact hr e)]
    refine hq.trans ?_
    show some (ansS (chk [] (pieces r))) = _
    rw [chk_right]
    by_cases hq : Qgk (pieces r) = true
    · rw [if_pos hq, if_pos hq]; rfl
    · rw [if_neg hq, if_neg hq]; rfl
  ·
   rw [if_neg hc]
   have hne : (bt a 0 != 47) = true := by
    rw [hb0, bne_iff_ne]
    intro e
    apply hc
    apply UInt8.toNat_inj.1
    show c.toNat = 47
    omega
   refine ⟨1, fun k hk => ?_⟩
   obtain ⟨m, rfl⟩ : ∃ m, k = m + 1 := ⟨k - 1, by omega⟩
   show moraineref10_Split.f (m + 1) a = _
   unfold moraineref10_Split.f
   rw [if_neg h0, if_pos h1, hne, moraineref10_Split.j0, if_pos rfl]
   rfl
theorem rdS (l : List ByteArray) (i : Nat) (h : i < l.length) : rdOf ByteArray.empty l (i : Int) = l[i] := by
 unfold rdOf
 simp [List.getD_eq_getElem?_getD, List.getElem?_eq_getElem h]
theorem Qbi (a : ByteArray) : (Qah a).1.length ≤ 8 := by
 unfold Qah
 rw [List.length_map]
 unfold Qfp
 split
 · simp
 ·
  split
  ·
   split
   · simp
   ·
    split
    ·
     rename_i h
     unfold Qgk at h
     simp only [Bool.and_eq_true, decide_eq_true_eq] at h
     exact h.1
    · simp
  · simp
theorem Qeh {α : Type} {x y : List α} {i : Nat} (hx : i < x.length) (hy : i < y.length) : x.drop i = y.drop i ↔ x[i] = y[i] ∧ x.drop (i + 1) = y.drop (i + 1) := by
 rw [List.drop_eq_getElem_cons hx, List.drop_eq_getElem_cons hy, List.cons.injEq]
theorem equal_l0 (x y : List ByteArray) (hl : x.length < 1000000000) (he : x.length = y.length) : ∀ (d i : Nat), i ≤ x.length → x.length - i = d → ∃ K, ∀ k, K ≤ k → slices_Equal.l0 k x y (x.length : Int) (i : Int) = some (decide (x.drop i = y.drop i)) := by
 intro d
 induction d with
 | zero =>
  intro i hi hd
  refine ⟨1, fun k hk => ?_⟩
  obtain ⟨m, rfl⟩ : ∃ m, k = m + 1 := ⟨k - 1, by omega⟩
  rw [slices_Equal.l0, if_neg zq3, List.drop_of_length_le zq3, List.drop_of_length_le zq3]
  rfl
 | succ d ih =>
  intro i hi hd
  obtain ⟨K, hK⟩ := ih (i + 1) zq3 zq3
  have hw : wrap64 ((i : Int) + 1) = ((i + 1 : Nat) : Int) := (w6 zq3 zq3).trans zq3
  have hix : i < x.length := by omega
  have hiy : i < y.length := by omega
  have h1 : (i : Int) < (x.length : Int) := by omega
  have h3 : (i : Int) < (y.length : Int) := by omega
  have h2 : (0 : Int) ≤ (i : Int) := by omega
  refine ⟨K + 1, fun k hk => ?_⟩
  obtain ⟨m, rfl⟩ : ∃ m, k = m + 1 := ⟨k - 1, by omega⟩
  rw [slices_Equal.l0, if_pos h1, if_pos h2, if_pos h1, if_pos h3, rdS x i hix, rdS y i hiy, hw, hK m zq3]
  by_cases h : x[i] = y[i]
  ·
   rw [if_pos (by rw [h])]
   congr 1
   rw [decide_eq_decide, Qeh hix hiy]
   simp [h]
  ·
   rw [if_neg (fun e => h (Qax e))]
   congr 1
   symm
   rw [decide_eq_false_iff_not, Qeh hix hiy]
   exact fun e => h e.1
theorem equal_ev (x y : List ByteArray) (hl : x.length < 1000000000) : Ev (fun k => slices_Equal.f k x y) (decide (x = y)) := by
 by_cases he : x.length = y.length
 ·
  obtain ⟨K, hK⟩ := equal_l0 x y hl he x.length 0 zq3 zq3
  refine ⟨K, fun k hk => ?_⟩
  show slices_Equal.f k x y = _
  unfold slices_Equal.f
  rw [if_pos (by rw [he])]
  exact hK k hk
 ·
  refine ⟨0, fun k _ => ?_⟩
  show slices_Equal.f k x y = _
  unfold slices_Equal.f
  rw [if_neg zq3]
  congr 1
  symm
  rw [decide_eq_false_iff_not]
  exact fun e => he (by rw [e])
def withB (x y : List ByteArray) : Bool := decide (y.length ≤ x.length) && decide (x.take y.length = y)
def Qbt (a b : ByteArray) : Bool := decide ((Qah a).2 = 0) && (decide ((Qah b).2 = 0) && withB (Qah a).1 (Qah b).1)
theorem path_within_ev (a b : ByteArray) (ha : a.size < 10000000) (hb : b.size < 10000000) : Ev (fun k => path_Within.f k a b) (Qbt a b) := by
 obtain ⟨K1, h1⟩ := Qdw a ha
 obtain ⟨K2, h2⟩ := Qdw b hb
 have l1 := Qbi a
 have l2 := Qbi b
 obtain ⟨K3, h3⟩ := equal_ev ((Qah a).1.take (Qah b).1.length) (Qah b).1 (by rw [List.length_take]; omega)
 refine ⟨K1 + K2 + K3, fun k hk => ?_⟩
 show path_Within.f k a b = _
 unfold path_Within.f Qbt
 rw [show path_Split.f k a = some (Qah a) from h1 k zq3, Option.bind_some, show path_Split.f k b = some (Qah b) from h2 k zq3, Option.bind_some]
 by_cases e1 : (Qah a).2 = 0
 ·
  rw [if_pos e1, decide_eq_true e1, Bool.true_and]
  by_cases e2 : (Qah b).2 = 0
  ·
   rw [if_pos e2, decide_eq_true e2, Bool.true_and]
   unfold withB
   by_cases e3 : (Qah b).1.length ≤ (Qah a).1.length
   ·
    rw [if_pos zq3, if_pos zq3, decide_eq_true e3, Bool.true_and, Int.toNat_natCast, show slices_Equal.f k ((Qah a).1.take (Qah b).1.length) (Qah b).1 = _ from h3 k zq3]
    rfl
   · rw [if_neg zq3, decide_eq_false e3]; rfl
  · rw [if_neg e2, decide_eq_false e2]; rfl
 · rw [if_neg e1, decide_eq_false e1]; rfl
theorem Qg (a : ByteArray) (h : (Qah a).2 = 0) : Qf (Qah a).1 = true := by
 unfold Qah at h ⊢
 show Qf ((Qfp a.data.toList).1.map mk) = true
 rw [right_L]
 change (Qfp a.data.toList).2 = 0 at h
 match hd : a.data.toList with
 | [] => rfl
 | c :: r =>
  rw [hd, Qea] at h
  rw [Qea]
  by_cases h1 : c = 47
  ·
   rw [if_pos h1] at h ⊢
   by_cases h2 : r = []
   · rw [if_pos h2]; rfl
   ·
    rw [if_neg h2] at h ⊢
    by_cases h3 : Qgk (pieces r) = true
    · rw [if_pos h3]; exact h3
    · rw [if_neg h3]; rfl
  · rw [if_neg h1]; rfl
section
attribute [local go_sem ↓] Go.wp_at_zero Go.wp_at_succ
theorem any_end {P : Program} {md : Region.Mode} {a : Act} {w : World} {G : Prop} (h : wpAny P md (List.toArray ([] : List Oper)) (fun _ _ _ => G) 0 #[] a w) : G := h.2
theorem bcell {W w1 : World} (hb : Below W.heap.size W w1) : (∀ b o, b < W.heap.size → w1.cell? ⟨b, o, none⟩ = W.cell? ⟨b, o, none⟩) ∧ (∀ b o, b < W.heap.size → w1.frozen? ⟨b, o, none⟩ = W.frozen? ⟨b, o, none⟩) :=
 ⟨fun b o h => hb.cell (p := ⟨b, o, none⟩) h, fun b o h => hb.frozen (p := ⟨b, o, none⟩) h⟩
theorem Qds {P : Program} {fn : Func} {p : Tmp} {ty : TypeId} (h : fn.results = #[.cell p ty]) (tmps : Array Value) (w : World) (g : Nat) (t : TypeId) (cs : Array Value) (fr : Nat × Nat) (d : TypeDesc)
  (hp : tmps.getD p undef = .pointer (some ⟨g, 0, none⟩)) (hg : w.heap[g]? = some (.cells cs t fr))
  (hu : P.underlying ty = some d) (hd : (match d with | .struct _ | .array _ _ => true | _ => false) = true) (hi : (P.info? ty).map (·.size) = some cs.size) :
  (results fn tmps).run P w = .ok (.agg cs) w := by
 have hp' : tmps[p]?.getD undef = .pointer (some ⟨g, 0, none⟩) := by simpa using hp
 simp [results, h, hp', asAddr, run_loadVar_row w g t ty cs fr d hg hu hd hi]
theorem names_in (p : ByteArray) (l : List ByteArray) (w : World) (hp : p.size < 10000000) (h : Qah p = (l, 0)) :
  Calls Tryz.prog 34 #[.string p] w fun en w' => ∃ v, en = .returned v ∧ Kd.R Kd.string 9 w' w.heap.size (fun _ => True) v l ∧ Below w.heap.size w w' := by
 obtain ⟨k, hk⟩ := (Qdw p hp).rounds
 rw [h] at hk
 exact names_ok k p l w hk
theorem names_out (p : ByteArray) (l : List ByteArray) (n : Int) (w : World) (hp : p.size < 10000000) (h : Qah p = (l, n)) (hn : ¬ n = 0) :
  Calls Tryz.prog 34 #[.string p] w fun en w' => en = .panicked (wrong n) ∧ Below w.heap.size w w' := by
 obtain ⟨k, hk⟩ := (Qdw p hp).rounds
 rw [h] at hk
 exact names_bad k p l n w hk hn
structure Ok (l : List S52) : Prop where
 wf : Wf l
 small : ∀ k, (nd l k).f3.length < 100000
 len : l.length < 100000
theorem walk_st (b : Nat) (A : Option Addr) (cap : Nat) (l : List S52) (rest : List Value) (An : Option Addr) (cn : Nat) (ns : List ByteArray) (k : Nat) (w : World) (hw : Wk w b (.slice A l.length cap) rest) (hc : Kd.C k52 w A l.length l) (hn : Kd.C Kd.string w An ns.length ns) (hcn : ns.length ≤ cn) (hlen : ns.length < 1000000000) (ho : Ok l) (h : wk l ns 0 = .inl k) :
  Calls Tryz.prog 33 #[.pointer (some ⟨b, 0, none⟩), .slice An ns.length cn] w fun en w' => en = .returned (.int .i64 k) ∧ Below w.heap.size w w' :=
 (walk_walk b A cap l rest An cn ns _ w hw hc hn hcn hlen (walkF_eq ho.wf (fun k => by have := ho.small k; omega) ns 0 ho.wf.pos)).mono fun e w' he => by
  rw [h] at he
  exact he
theorem walk_out (b : Nat) (A : Option Addr) (cap : Nat) (l : List S52) (rest : List Value) (An : Option Addr) (cn : Nat) (ns : List ByteArray) (k : Int) (w : World) (hw : Wk w b (.slice A l.length cap) rest) (hc : Kd.C k52 w A l.length l) (hn : Kd.C Kd.string w An ns.length ns) (hcn : ns.length ≤ cn) (hlen : ns.length < 1000000000) (ho : Ok l) (h : wk l ns 0 = .inr k) :
  Calls Tryz.prog 33 #[.pointer (some ⟨b, 0, none⟩), .slice An ns.length cn] w fun en w' => en = .panicked (wrong k) ∧ Below w.heap.size w w' :=
 (walk_walk b A cap l rest An cn ns _ w hw hc hn hcn hlen (walkF_eq ho.wf (fun k => by have := ho.small k; omega) ns 0 ho.wf.pos)).mono fun e w' he => by
  rw [h] at he
  exact he
set_option maxHeartbeats 4000000 in
theorem to_in (b : Nat) (A : Option Addr) (cap : Nat) (l : List S52) (rest : List Value) (p : ByteArray) (q : List ByteArray) (nm : ByteArray) (d : Nat) (w : World) (hw : Wk w b (.slice A l.length cap) rest) (hc : Kd.C k52 w A l.length l) (ho : Ok l) (hp : p.size < 10000000)
  (hs : Qah p = (q ++ [nm], 0)) (h : wk l q 0 = .inl d) (hd : (nd l d).f0 = 2) (o : Option Nat) (hlo : (look (nd l d).f3 nm).map ino = o) :
  Calls Tryz.prog 74 #[.pointer (some ⟨b, 0, none⟩), .string p] w fun en w' => en = .returned (.agg #[.int .i64 d, .string nm, .int .i64 (nodeV o)]) ∧ Below w.heap.size w w' := by
 have HC := am hc
 have HW := am hw
 have HO := am ho
 have HS := am hs
 have HE := am h
 have hql : q.length ≤ 8 := by
  have := Qbi p
  rw [hs] at this
  simp at this
  omega
 have hdl := wk_lt ho.wf ho.wf.pos h
 have HLO := am hlo
 clear hc hw ho hs h hlo
 go_enter Tryz.func74, Tryz.ntmps74
 go_wp2_with (go_at_call 34; refine (names_in p _ _ hp HS.out).mono ?_; rintro e w1 ⟨v1, rfl, hr, hb⟩; obtain ⟨A1, c1, rfl, hl1, hC1⟩ := Kd.R_reads hr; have HC1 := am hC1; have HB := am (Qa (Qaa (Below.refl _ _) _) hb); have HR4 := am (Qaf (Qal w (.cells #[.int .i64 0, .string ⟨#[]⟩, .int .i64 0] 92)) hb); clear hr hC1 hb)
 have hCq : Kd.C Kd.string w1 A1 q.length q := by
  have h := Kd.C_take HC1.out (m := q.length) zq14
  rw [List.take_left] at h
  exact h
 obtain ⟨a1, e, hx⟩ := Kd.at_string HC1.out (q.length : Int) zq3 zq30
 subst e
 have hrd : rdOf ByteArray.empty (q ++ [nm]) (q.length : Int) = nm := by simp [rdOf, List.getD_eq_getElem?_getD]
 rw [Int.toNat_natCast, hrd] at hx
 have hxl := World.block_lt_of_cell? _ _ hx
 have hws := IntKind.wrap_i64
 have hw1 : IntKind.i64.wrap ((q.length : Int) + 1 - 1) = (q.length : Int) := by rw [IntKind.wrap_i64]; omega
 have hw2 : IntKind.i64.wrap (q.length : Int) = (q.length : Int) := by rw [IntKind.wrap_i64]; omega
 have hz0 : (0 : Int) ≤ (q.length : Int) := by omega
 have hz1 : (q.length : Int) ≤ (c1 : Int) := by simp at hl1; omega
 have hz2 : (q.length : Int) < (q.length : Int) + 1 := by omega
 have hqc : q.length ≤ c1 := by omega
 have HCQ := am hCq
 have hfar : (a1.add q.length).block ≠ w1.heap.size := by omega
 have hWb : b < w.heap.size := Qai HW.out
 clear hCq hrd hws
 go_region_held3 (fun w' => w'.cell? (a1.add q.length) = some (.string nm)) (first | go_keep | (rw [cell_far hfar, cell_far hfar, cell_far hfar]; go_keep))
  (first | (go_at_call 33; (with_reducible refine (walk_st b A cap l rest (some a1) c1 q d _ ?_ ?_ ?_ ?_ ?_ ?_ ?_).mono ?_); (exact Qaf HW.out zq12); (exact Kd.C_below HC.out zq12); (exact Kd.C_below HCQ.out zq8); (exact hqc); (omega); (exact HO.out); (exact HE.out); rintro e w2 ⟨rfl, hb⟩; have HB2 := am (Qa zq12 hb); have hx2 := hb.cell (p := a1.add q.length) zq20; obtain ⟨hbc, hbf⟩ := bcell hb; have hbw := hb; clear hb))
 ·
  have hk3 := Qal w2 (.cells #[.int .i64 (d : Int), .string nm, .int .i64 (-1)] 92)
  have hB3 := Qaa HB2.out (.cells #[.int .i64 (d : Int), .string nm, .int .i64 (-1)] 92)
  have HR5 := am (Qaj (Qaf HR4.out (Qa (Qad (Below.refl w1.heap.size w1)) hbw)) (.cells #[.int .i64 (d : Int), .string nm, .int .i64 (-1)] 92))
  have HGS : Aside0 (w.heap.size ≤ w2.heap.size) := ⟨HB2.out.size⟩
  have HGN : Aside0 (w2.heap.size ≠ w.heap.size) := ⟨by have := Qai (Qaf HR4.out (Qa (Qad (Below.refl w1.heap.size w1)) hbw)); omega⟩
  clear hbc hbf hx2 hbw
  generalize w2.alloc (.cells #[.int .i64 (d : Int), .string nm, .int .i64 (-1)] 92) = w3 at *
  generalize w2.heap.size = g at *
  have HB3 := am hB3
  have HK3 := am hk3
  have hg0 := Qab hk3 0
  have hg1 := Qab hk3 1
  have hg2 := Qab hk3 2
  simp only [List.getElem?_toArray, List.getElem?_cons_zero, List.getElem?_cons_succ] at hg0 hg1 hg2
  have hW3 : Wk w3 b (.slice A l.length cap) rest := Qaf HW.out hB3
  have hC3 := Kd.C_below HC.out hB3
  clear hk3
  obtain ⟨ad, A2, c2, A3, c3, e, -, -, -, hx3, -, -, hl3, hCe⟩ := Qaz HC.out (d : Int) zq3 zq3
  subst e
  rw [Int.toNat_natCast] at hx3
  have hrd : rd_T52 l (d : Int) = nd l d := rfl
  rw [hrd] at hx3 hl3 hCe
  have hal0 : (ad.add (d * 4)).block < w.heap.size := World.block_lt_of_cell? w ⟨(ad.add (d * 4)).block, (ad.add (d * 4)).off + 3, none⟩ hx3
  have HCW := am hCe
  replace hx3 := (hB3.cell (p := ⟨(ad.add (d * 4)).block, (ad.add (d * 4)).off + 3, none⟩) hal0).trans hx3
  replace hCe := Kd.C_below hCe hB3
  have h0 : w3.cell? ⟨b, 0, none⟩ = some (.slice (some ad) l.length cap) := (Qab hW3 0).trans rfl
  have hdb : ((rd_T52 l (d : Int)).f0 == 2) = true := beq_iff_eq.2 hd
  have hd0 : (0 : Int) ≤ (d : Int) := by omega
  have hd1 : (d : Int) < (l.length : Int) := by omega
  have HW3 := am hW3
  have HC3 := am hC3
  have HCE := am hCe
  have HL3 := am hl3
  have hsm := HO.out.small d
  have hsr := HO.out.wf.srt d
  have HSR := am hsr
  have hgl : g < w3.heap.size := Qai HK3.out
  have hbl3 : b < w3.heap.size := Qai HW3.out
  have hal3 := World.block_lt_of_cell? _ _ hx3
  clear hW3 hC3 hrd hl3 hCe hsr hB3
  go_wp2_with (first | (go_at_call 65; refine (Qei b _ cap l rest d _ hdl HW3.out HC3.out).mono ?_; rintro e w4 ⟨rfl, hw4⟩; subst w4) | (go_at_call 64; refine (Qau 22 _).mono ?_; rintro e w4 ⟨rfl, hw4⟩; subst w4))
  go_region_held3 (fun w' => w'.cell? ⟨b, 0, none⟩ = some (.slice (some ad) l.length cap) ∧ w'.cell? ⟨g, 0, none⟩ = some (.int .i64 (d : Int)) ∧ w'.cell? ⟨g, 1, none⟩ = some (.string nm) ∧ w'.cell? ⟨(ad.add (d * 4)).block, (ad.add (d * 4)).off + 3, none⟩ = some (.slice A3 (nd l d).f3.length c3)) (first | go_keep | (exact ⟨(hbc _ _ hbl3).trans h0, (hbc _ _ hgl).trans hg0, (hbc _ _ hgl).trans hg1, (hbc _ _ hal3).trans hx3⟩))
   (first | (go_at_call 66; (with_reducible refine (dirent_Find.calls A3 c3 (nd l d).f3 nm _ _ _ ?_ ?_ (find_eq nm HSR.out zq3)).mono ?_); (exact Kd.C_below HCE.out zq8); (exact HL3.out); rintro e w5 ⟨rfl, hb⟩; obtain ⟨hbc, hbf⟩ := bcell hb; have HB5 := am hb; clear hb))
  have hB5 : Below w3.heap.size w3 w5 := Qa (Qad (Below.refl w3.heap.size w3)) HB5.out
  have hk5 := Qaf HK3.out hB5
  have hr5 := Qaf HR5.out hB5
  have HBF := am (Qa HB3.out hB5)
  have hg0' := Qab hk5 0
  have hg1' := Qab hk5 1
  have hg2' := Qab hk5 2
  have hr0' := Qab hr5 0
  have hr1' := Qab hr5 1
  have hr2' := Qab hr5 2
  simp only [List.getElem?_toArray, List.getElem?_cons_zero, List.getElem?_cons_succ] at hg0' hg1' hg2' hr0' hr1' hr2'
  have hgz0 := Qag hk5 0
  have hgz1 := Qag hk5 1
  have hgz2 := Qag hk5 2
  have hrz0 := Qag hr5 0
  have hrz1 := Qag hr5 1
  have hrz2 := Qag hr5 2
  have h05 := (hB5.cell hbl3).trans h0
  have hx5 := (hB5.cell (p := ⟨(ad.add (d * 4)).block, (ad.add (d * 4)).off + 3, none⟩) hal3).trans hx3
  have hgs : w.heap.size ≤ g := HGS.out
  have hgn : g ≠ w.heap.size := HGN.out
  cases hfb : fB (nd l d).f3 nm with
  | false =>
   have hlk := HLO.out
   rw [Qfq HSR.out hfb] at hlk
   have hon : o = none := hlk.symm
   subst hon
   clear hbc hbf h0 hx3 hg0 hg1 hg2 hlk
   have HR6 := am (Qap (Qap (Qap hr5 0 (.int .i64 (d : Int)) rfl) 1 (.string nm) rfl) 2 (.int .i64 (-1)) rfl)
   go_wp2
   refine bodyPost_ret (Qds rfl _ _ w.heap.size 92 _ (0, 0) _ rfl HR6.out Tryz.underlying92 rfl zq15) rfl ⟨rfl, ?_⟩
   exact ((HBF.out.setCell (p := ⟨w.heap.size, 0, none⟩) (Nat.le_refl _) _).setCell (p := ⟨w.heap.size, 1, none⟩) (Nat.le_refl _) _).setCell (p := ⟨w.heap.size, 2, none⟩) (Nat.le_refl _) _
  | true =>
   obtain ⟨hfl, hlk⟩ := Qha HSR.out hfb
   have hlk2 := HLO.out
   rw [hlk] at hlk2
   obtain ⟨k, hk⟩ : ∃ k, fI (nd l d).f3 nm = k := ⟨_, rfl⟩
   have hon : o = some (ino (nd l d).f3[fI (nd l d).f3 nm]) := hlk2.symm
   have hrde := Qft (nd l d).f3 _ hfl
   have hino := HO.out.wf.ino_lt (List.getElem_mem hfl)
   obtain ⟨a3, e, -, hz1⟩ := Qbg HCW.out ((fI (nd l d).f3 nm : Nat) : Int) zq3 zq3
   subst e
   rw [hrde, ← hino.2.2, Int.toNat_natCast] at hz1
   generalize (nd l d).f3[fI (nd l d).f3 nm] = en at hon hz1
   subst hon
   have hk0 : (0 : Int) ≤ ((fI (nd l d).f3 nm : Nat) : Int) := by omega
   have hk1 : ((fI (nd l d).f3 nm : Nat) : Int) < ((nd l d).f3.length : Int) := by omega
   rw [hk] at hk0 hk1 hz1 ⊢
   have hzl : (a3.add (k * 2)).block < w.heap.size := World.block_lt_of_cell? w ⟨(a3.add (k * 2)).block, (a3.add (k * 2)).off + 1, none⟩ hz1
   replace hz1 := (HBF.out.cell (p := ⟨(a3.add (k * 2)).block, (a3.add (k * 2)).off + 1, none⟩) hzl).trans hz1
   have hgn3 : (a3.add (k * 2)).block ≠ g := by omega
   have hbg : b ≠ g := by omega
   have hgn4 : (ad.add (d * 4)).block ≠ g := by omega
   have HR6 := am (Qap (Qap (Qap (Qam hr5 (p := ⟨g, 2, none⟩) (Ne.symm hgn) (.int .i64 (ino en : Int))) 0 (.int .i64 (d : Int)) rfl) 1 (.string nm) rfl) 2 (.int .i64 (ino en : Int)) rfl)
   have HKP : Aside0 ((w5.setCell ⟨g, 2, none⟩ (.int .i64 (ino en : Int))).drew.cell? ⟨b, 0, none⟩ = some (.slice (some ad) l.length cap) ∧ (w5.setCell ⟨g, 2, none⟩ (.int .i64 (ino en : Int))).drew.cell? ⟨g, 0, none⟩ = some (.int .i64 (d : Int)) ∧ (w5.setCell ⟨g, 2, none⟩ (.int .i64 (ino en : Int))).drew.cell? ⟨(ad.add (d * 4)).block, (ad.add (d * 4)).off + 3, none⟩ = some (.slice (some a3) (nd l d).f3.length c3) ∧ (w5.setCell ⟨g, 2, none⟩ (.int .i64 (ino en : Int))).drew.cell? ⟨(a3.add (k * 2)).block, (a3.add (k * 2)).off + 1, none⟩ = some (.int .i64 (ino en : Int))) :=
    ⟨(cell_far (W := w5) (p := ⟨g, 2, none⟩) (a := ⟨b, 0, none⟩) hbg _).trans h05, (World.cell?_setCell_other w5 ⟨g, 2, none⟩ ⟨g, 0, none⟩ _ zq14).trans hg0', (cell_far (W := w5) (p := ⟨g, 2, none⟩) (a := ⟨(ad.add (d * 4)).block, (ad.add (d * 4)).off + 3, none⟩) hgn4 _).trans hx5, (cell_far (W := w5) (p := ⟨g, 2, none⟩) (a := ⟨(a3.add (k * 2)).block, (a3.add (k * 2)).off + 1, none⟩) hgn3 _).trans hz1⟩
   clear hbc hbf h0 hx3 hg0 hg1 hg2 hlk hlk2 hrde hino hk hfl
   go_wp2
   go_region_held3 (fun w' => w'.cell? ⟨b, 0, none⟩ = some (.slice (some ad) l.length cap) ∧ w'.cell? ⟨g, 0, none⟩ = some (.int .i64 (d : Int)) ∧ w'.cell? ⟨(ad.add (d * 4)).block, (ad.add (d * 4)).off + 3, none⟩ = some (.slice (some a3) (nd l d).f3.length c3) ∧ w'.cell? ⟨(a3.add (k * 2)).block, (a3.add (k * 2)).off + 1, none⟩ = some (.int .i64 (ino en : Int)))
    (first | exact HKP.out | go_keep) (fail)
   go_wp2
   refine bodyPost_ret (Qds rfl _ _ w.heap.size 92 _ (0, 0) _ rfl HR6.out Tryz.underlying92 rfl zq15) rfl ⟨rfl, ?_⟩
   exact (((Qad (HBF.out.setCell (p := ⟨g, 2, none⟩) hgs _)).setCell (p := ⟨w.heap.size, 0, none⟩) (Nat.le_refl _) _).setCell (p := ⟨w.heap.size, 1, none⟩) (Nat.le_refl _) _).setCell (p := ⟨w.heap.size, 2, none⟩) (Nat.le_refl _) _
 ·
  have hk2 := Qaf (Qat (Qal w1 (.cells #[.int .i64 0, .string ⟨#[]⟩, .int .i64 0] 92))) hbw
  have hk3 : (((w2.setCell ⟨w1.heap.size, 0, none⟩ (.int .i64 (d : Int))).setCell ⟨w1.heap.size, 1, none⟩ (.string nm)).setCell ⟨w1.heap.size, 2, none⟩ (.int .i64 (-1))).heap[w1.heap.size]? = some (.cells #[.int .i64 (d : Int), .string nm, .int .i64 (-1)] 92 (0, 0)) := Qap (Qap (Qap hk2 0 (.int .i64 (d : Int)) rfl) 1 (.string nm) rfl) 2 (.int .i64 (-1)) rfl
  have HGS : Aside0 (w.heap.size ≤ w1.heap.size) := ⟨HB.out.size⟩
  have HGN : Aside0 (w1.heap.size ≠ w.heap.size) := ⟨by have := Qai HR4.out; omega⟩
  have hB3 := ((HB2.out.setCell (p := ⟨w1.heap.size, 0, none⟩) HGS.out (.int .i64 (d : Int))).setCell (p := ⟨w1.heap.size, 1, none⟩) HGS.out (.string nm)).setCell (p := ⟨w1.heap.size, 2, none⟩) HGS.out (.int .i64 (-1))
  have hr5 := Qaf HR4.out (Qa (Qad (Qaa (Below.refl w1.heap.size w1) _)) hbw)
  have HR5 := am (Qam (p := ⟨w1.heap.size, 2, none⟩) (Qam (p := ⟨w1.heap.size, 1, none⟩) (Qam (p := ⟨w1.heap.size, 0, none⟩) hr5 (Ne.symm HGN.out) (.int .i64 (d : Int))) (Ne.symm HGN.out) (.string nm)) (Ne.symm HGN.out) (.int .i64 (-1)))
  clear hbc hbf hx2 hbw hk2 hr5
  generalize ((w2.setCell ⟨w1.heap.size, 0, none⟩ (.int .i64 (d : Int))).setCell ⟨w1.heap.size, 1, none⟩ (.string nm)).setCell ⟨w1.heap.size, 2, none⟩ (.int .i64 (-1)) = w3 at *
  generalize w1.heap.size = g at *
  have HB3 := am hB3
  have HK3 := am hk3
  have hg0 := Qab hk3 0
  have hg1 := Qab hk3 1
  have hg2 := Qab hk3 2
  simp only [List.getElem?_toArray, List.getElem?_cons_zero, List.getElem?_cons_succ] at hg0 hg1 hg2
  have hW3 : Wk w3 b (.slice A l.length cap) rest := Qaf HW.out hB3
  have hC3 := Kd.C_below HC.out hB3
  clear hk3
  obtain ⟨ad, A2, c2, A3, c3, e, -, -, -, hx3, -, -, hl3, hCe⟩ := Qaz HC.out (d : Int) zq3 zq3
  subst e
  rw [Int.toNat_natCast] at hx3
  have hrd : rd_T52 l (d : Int) = nd l d := rfl
  rw [hrd] at hx3 hl3 hCe
  have hal0 : (ad.add (d * 4)).block < w.heap.size := World.block_lt_of_cell? w ⟨(ad.add (d * 4)).block, (ad.add (d * 4)).off + 3, none⟩ hx3
  have HCW := am hCe
  replace hx3 := (hB3.cell (p := ⟨(ad.add (d * 4)).block, (ad.add (d * 4)).off + 3, none⟩) hal0).trans hx3
  replace hCe := Kd.C_below hCe hB3
  have h0 : w3.cell? ⟨b, 0, none⟩ = some (.slice (some ad) l.length cap) := (Qab hW3 0).trans rfl
  have hdb : ((rd_T52 l (d : Int)).f0 == 2) = true := beq_iff_eq.2 hd
  have hd0 : (0 : Int) ≤ (d : Int) := by omega
  have hd1 : (d : Int) < (l.length : Int) := by omega
  have HW3 := am hW3
  have HC3 := am hC3
  have HCE := am hCe
  have HL3 := am hl3
  have hsm := HO.out.small d
  have hsr := HO.out.wf.srt d
  have HSR := am hsr
  have hgl : g < w3.heap.size := Qai HK3.out
  have hbl3 : b < w3.heap.size := Qai HW3.out
  have hal3 := World.block_lt_of_cell? _ _ hx3
  clear hW3 hC3 hrd hl3 hCe hsr hB3
  go_wp2_with (first | (go_at_call 65; refine (Qei b _ cap l rest d _ hdl HW3.out HC3.out).mono ?_; rintro e w4 ⟨rfl, hw4⟩; subst w4) | (go_at_call 64; refine (Qau 22 _).mono ?_; rintro e w4 ⟨rfl, hw4⟩; subst w4))
  go_region_held3 (fun w' => w'.cell? ⟨b, 0, none⟩ = some (.slice (some ad) l.length cap) ∧ w'.cell? ⟨g, 0, none⟩ = some (.int .i64 (d : Int)) ∧ w'.cell? ⟨g, 1, none⟩ = some (.string nm) ∧ w'.cell? ⟨(ad.add (d * 4)).block, (ad.add (d * 4)).off + 3, none⟩ = some (.slice A3 (nd l d).f3.length c3)) (first | go_keep | (exact ⟨(hbc _ _ hbl3).trans h0, (hbc _ _ hgl).trans hg0, (hbc _ _ hgl).trans hg1, (hbc _ _ hal3).trans hx3⟩))
   (first | (go_at_call 66; (with_reducible refine (dirent_Find.calls A3 c3 (nd l d).f3 nm _ _ _ ?_ ?_ (find_eq nm HSR.out zq3)).mono ?_); (exact Kd.C_below HCE.out zq8); (exact HL3.out); rintro e w5 ⟨rfl, hb⟩; obtain ⟨hbc, hbf⟩ := bcell hb; have HB5 := am hb; clear hb))
  have hB5 : Below w3.heap.size w3 w5 := Qa (Qad (Below.refl w3.heap.size w3)) HB5.out
  have hk5 := Qaf HK3.out hB5
  have hr5 := Qaf HR5.out hB5
  have HBF := am (Qa HB3.out hB5)
  have hg0' := Qab hk5 0
  have hg1' := Qab hk5 1
  have hg2' := Qab hk5 2
  have hr0' := Qab hr5 0
  have hr1' := Qab hr5 1
  have hr2' := Qab hr5 2
  simp only [List.getElem?_toArray, List.getElem?_cons_zero, List.getElem?_cons_succ] at hg0' hg1' hg2' hr0' hr1' hr2'
  have hgz0 := Qag hk5 0
  have hgz1 := Qag hk5 1
  have hgz2 := Qag hk5 2
  have hrz0 := Qag hr5 0
  have hrz1 := Qag hr5 1
  have hrz2 := Qag hr5 2
  have h05 := (hB5.cell hbl3).trans h0
  have hx5 := (hB5.cell (p := ⟨(ad.add (d * 4)).block, (ad.add (d * 4)).off + 3, none⟩) hal3).trans hx3
  have hgs : w.heap.size ≤ g := HGS.out
  have hgn : g ≠ w.heap.size := HGN.out
  cases hfb : fB (nd l d).f3 nm with
  | false =>
   have hlk := HLO.out
   rw [Qfq HSR.out hfb] at hlk
   have hon : o = none := hlk.symm
   subst hon
   clear hbc hbf h0 hx3 hg0 hg1 hg2 hlk
   have HR6 := am (Qap (Qap (Qap hr5 0 (.int .i64 (d : Int)) rfl) 1 (.string nm) rfl) 2 (.int .i64 (-1)) rfl)
   go_wp2
   refine bodyPost_ret (Qds rfl _ _ w.heap.size 92 _ (0, 0) _ rfl HR6.out Tryz.underlying92 rfl zq15) rfl ⟨rfl, ?_⟩
   exact ((HBF.out.setCell (p := ⟨w.heap.size, 0, none⟩) (Nat.le_refl _) _).setCell (p := ⟨w.heap.size, 1, none⟩) (Nat.le_refl _) _).setCell (p := ⟨w.heap.size, 2, none⟩) (Nat.le_refl _) _
  | true =>
   obtain ⟨hfl, hlk⟩ := Qha HSR.out hfb
   have hlk2 := HLO.out
   rw [hlk] at hlk2
   obtain ⟨k, hk⟩ : ∃ k, fI (nd l d).f3 nm = k := ⟨_, rfl⟩
   have hon : o = some (ino (nd l d).f3[fI (nd l d).f3 nm]) := hlk2.symm
   have hrde := Qft (nd l d).f3 _ hfl
   have hino := HO.out.wf.ino_lt (List.getElem_mem hfl)
   obtain ⟨a3, e, -, hz1⟩ := Qbg HCW.out ((fI (nd l d).f3 nm : Nat) : Int) zq3 zq3
   subst e
   rw [hrde, ← hino.2.2, Int.toNat_natCast] at hz1
   generalize (nd l d).f3[fI (nd l d).f3 nm] = en at hon hz1
   subst hon
   have hk0 : (0 : Int) ≤ ((fI (nd l d).f3 nm : Nat) : Int) := by omega
   have hk1 : ((fI (nd l d).f3 nm : Nat) : Int) < ((nd l d).f3.length : Int) := by omega
   rw [hk] at hk0 hk1 hz1 ⊢
   have hzl : (a3.add (k * 2)).block < w.heap.size := World.block_lt_of_cell? w ⟨(a3.add (k * 2)).block, (a3.add (k * 2)).off + 1, none⟩ hz1
   replace hz1 := (HBF.out.cell (p := ⟨(a3.add (k * 2)).block, (a3.add (k * 2)).off + 1, none⟩) hzl).trans hz1
   have hgn3 : (a3.add (k * 2)).block ≠ g := by omega
   have hbg : b ≠ g := by omega
   have hgn4 : (ad.add (d * 4)).block ≠ g := by omega
   have HR6 := am (Qap (Qap (Qap (Qam hr5 (p := ⟨g, 2, none⟩) (Ne.symm hgn) (.int .i64 (ino en : Int))) 0 (.int .i64 (d : Int)) rfl) 1 (.string nm) rfl) 2 (.int .i64 (ino en : Int)) rfl)
   have HKP : Aside0 ((w5.setCell ⟨g, 2, none⟩ (.int .i64 (ino en : Int))).drew.cell? ⟨b, 0, none⟩ = some (.slice (some ad) l.length cap) ∧ (w5.setCell ⟨g, 2, none⟩ (.int .i64 (ino en : Int))).drew.cell? ⟨g, 0, none⟩ = some (.int .i64 (d : Int)) ∧ (w5.setCell ⟨g, 2, none⟩ (.int .i64 (ino en : Int))).drew.cell? ⟨(ad.add (d * 4)).block, (ad.add (d * 4)).off + 3, none⟩ = some (.slice (some a3) (nd l d).f3.length c3) ∧ (w5.setCell ⟨g, 2, none⟩ (.int .i64 (ino en : Int))).drew.cell? ⟨(a3.add (k * 2)).block, (a3.add (k * 2)).off + 1, none⟩ = some (.int .i64 (ino en : Int))) :=
    ⟨(cell_far (W := w5) (p := ⟨g, 2, none⟩) (a := ⟨b, 0, none⟩) hbg _).trans h05, (World.cell?_setCell_other w5 ⟨g, 2, none⟩ ⟨g, 0, none⟩ _ zq14).trans hg0', (cell_far (W := w5) (p := ⟨g, 2, none⟩) (a := ⟨(ad.add (d * 4)).block, (ad.add (d * 4)).off + 3, none⟩) hgn4 _).trans hx5, (cell_far (W := w5) (p := ⟨g, 2, none⟩) (a := ⟨(a3.add (k * 2)).block, (a3.add (k * 2)).off + 1, none⟩) hgn3 _).trans hz1⟩
   clear hbc hbf h0 hx3 hg0 hg1 hg2 hlk hlk2 hrde hino hk hfl
   go_wp2
   go_region_held3 (fun w' => w'.cell? ⟨b, 0, none⟩ = some (.slice (some ad) l.length cap) ∧ w'.cell? ⟨g, 0, none⟩ = some (.int .i64 (d : Int)) ∧ w'.cell? ⟨(ad.add (d * 4)).block, (ad.add (d * 4)).off + 3, none⟩ = some (.slice (some a3) (nd l d).f3.length c3) ∧ w'.cell? ⟨(a3.add (k * 2)).block, (a3.add (k * 2)).off + 1, none⟩ = some (.int .i64 (ino en : Int)))
    (first | exact HKP.out | go_keep) (fail)
   go_wp2
   refine bodyPost_ret (Qds rfl _ _ w.heap.size 92 _ (0, 0) _ rfl HR6.out Tryz.underlying92 rfl zq15) rfl ⟨rfl, ?_⟩
   exact (((Qad (HBF.out.setCell (p := ⟨g, 2, none⟩) hgs _)).setCell (p := ⟨w.heap.size, 0, none⟩) (Nat.le_refl _) _).setCell (p := ⟨w.heap.size, 1, none⟩) (Nat.le_refl _) _).setCell (p := ⟨w.heap.size, 2, none⟩) (Nat.le_refl _) _
end
def rootP : ByteArray := ⟨#[47]⟩
def Qav (l : List S52) (p : ByteArray) : Nat ⊕ Int := if (Qah p).2 = 0 then wk l (Qah p).1 0 else .inr (Qah p).2
def spotF (l : List S52) (p : ByteArray) : (Nat × ByteArray × Option Nat) ⊕ Int :=
 if (Qah p).2 = 0 then
  match wk l (Qah p).1.dropLast 0 with
  | .inr n => .inr n
  | .inl d => if (nd l d).f0 = 2 then .inl (d, (Qah p).1.getLastD ByteArray.empty, (look (nd l d).f3 ((Qah p).1.getLastD ByteArray.empty)).map ino) else .inr 22
 else .inr (Qah p).2
def spotV (s : Nat × ByteArray × Option Nat) : Value := .agg #[.int .i64 s.1, .string s.2.1, .int .i64 (nodeV s.2.2)]
def fullB (l : List S52) (d : Nat) : Bool := decide (64 ≤ (nd l d).f3.length)
def Qdc (l : List S52) (p : ByteArray) (kd : Int) : List S52 ⊕ Int :=
 if p = rootP then .inr 24 else
 match spotF l p with
 | .inr n => .inr n
 | .inl (_, _, some _) => .inr 24
 | .inl (d, nm, none) => if fullB l d = true then .inr 27 else if l.length < 56 then .inl (putT l d nm l.length ++ [⟨kd, 0, [], []⟩]) else .inr 27
def linkF (l : List S52) (p q : ByteArray) : List S52 ⊕ Int :=
 if (Qah p).2 ≠ 0 then .inr (Qah p).2 else if (Qah q).2 ≠ 0 then .inr (Qah q).2 else
 match wk l (Qah p).1 0 with
 | .inr n => .inr n
 | .inl k =>
  if (nd l k).f0 = 2 then .inr 23 else if q = rootP then .inr 24 else
  match spotF l q with
  | .inr n => .inr n
  | .inl (_, _, some _) => .inr 24
  | .inl (d, nm, none) => if (nd l k).f1 < 200 then (if fullB l d = true then .inr 27 else .inl (putT l d nm k)) else .inr 26
def Qek (l : List S52) (p : ByteArray) : List S52 ⊕ Int :=
 match Qav l p with
 | .inr n => .inr n
 | .inl k => if (nd l k).f0 = 2 then .inr 23 else
  match spotF l p with
  | .inr n => .inr n
  | .inl (d, nm, _) => .inl (cutT l d nm)
def Qgq (l : List S52) (p : ByteArray) : List S52 ⊕ Int :=
 match Qav l p with
 | .inr n => .inr n
 | .inl k => if (nd l k).f0 = 2 then (if k = 0 ∨ (nd l k).f3 ≠ [] then .inr 25 else
  match spotF l p with
  | .inr n => .inr n
  | .inl (d, nm, _) => .inl (cutT l d nm)) else .inr 22
def moveF (l : List S52) (k : Nat) (a b : Nat × ByteArray × Option Nat) : List S52 ⊕ Int :=
 match b.2.2 with
 | none => if a.1 = b.1 ∨ fullB l b.1 = false then .inl (putT (cutT l a.1 a.2.1) b.1 b.2.1 k) else .inr 27
 | some j => if j = k then .inl l else
  if (nd l k).f0 = 2 ∧ (nd l j).f0 ≠ 2 then .inr 22 else if (nd l k).f0 ≠ 2 ∧ (nd l j).f0 = 2 then .inr 23 else
  if (nd l j).f3 ≠ [] then .inr 25 else .inl (putT (cutT l a.1 a.2.1) b.1 b.2.1 k)
def Qbz (l : List S52) (p q : ByteArray) : List S52 ⊕ Int :=
 if (Qah p).2 ≠ 0 then .inr (Qah p).2 else if (Qah q).2 ≠ 0 then .inr (Qah q).2 else
 if p = rootP ∨ q = rootP then .inr 29 else
 match wk l (Qah p).1 0 with
 | .inr n => .inr n
 | .inl k =>
  if (nd l k).f0 = 2 ∧ q ≠ p ∧ Qbt q p = true then .inr 29 else
  match spotF l p with
  | .inr n => .inr n
  | .inl a => match spotF l q with
   | .inr n => .inr n
   | .inl b => moveF l k a b
def fileF (l : List S52) (p : ByteArray) : Nat ⊕ Int :=
 match Qav l p with
 | .inr n => .inr n
 | .inl k => if (nd l k).f0 = 2 then .inr 23 else .inl k
def partF (b : List Int) (a n : Int) : List Int := (b.drop a.toNat).take n.toNat
def readF (l : List S52) (p : ByteArray) (a n : Int) : List Int ⊕ Int :=
 match fileF l p with
 | .inr e => .inr e
 | .inl k => if 0 ≤ a ∧ 0 ≤ n then .inl (partF (nd l k).f2 a n) else .inr 28
def Qcq (b : List Int) (n : Nat) : List Int := b.take n ++ List.replicate (n - b.length) 0
def overF (b : List Int) (a : Nat) (x : List Int) : List Int := b.take a ++ x ++ b.drop (a + x.length)
def Qfz (l : List S52) (p : ByteArray) (a : Int) (x : List Int) : List S52 ⊕ Int :=
 match fileF l p with
 | .inr e => .inr e
 | .inl k => if 0 ≤ a ∧ a ≤ 46368 ∧ (x.length : Int) ≤ 46368 - a then
   .inl (if x.length = 0 then l else setD l k (overF (Qcq (nd l k).f2 (max (nd l k).f2.length (a.toNat + x.length))) a.toNat x)) else .inr 28
def Qgo (l : List S52) (p : ByteArray) (n : Int) : List S52 ⊕ Int :=
 match fileF l p with
 | .inr e => .inr e
 | .inl k => if 0 ≤ n ∧ n ≤ 46368 then .inl (setD l k (Qcq (nd l k).f2 n.toNat)) else .inr 28
def listF (l : List S52) (p : ByteArray) : List ByteArray ⊕ Int :=
 match Qav l p with
 | .inr e => .inr e
 | .inl k => if (nd l k).f0 = 2 then .inl ((nd l k).f3.map (·.f0)) else .inr 22
def res0 : S37 := ⟨0, [], [], 0, 0, 0⟩
def plain (l' : List S52 ⊕ Int) : (List S52 × S37) ⊕ Int := match l' with | .inl l => .inl (l, res0) | .inr e => .inr e
def workF (l : List S52) (o : S31) : (List S52 × S37) ⊕ Int :=
 if o.f0 = 1 then plain (Qdc l o.f1 1)
 else if o.f0 = 2 then plain (Qdc l o.f1 2)
 else if o.f0 = 3 then plain (linkF l o.f1 o.f2)
 else if o.f0 = 4 then plain (Qek l o.f1)
 else if o.f0 = 5 then plain (Qgq l o.f1)
 else if o.f0 = 6 then plain (Qbz l o.f1 o.f2)
 else if o.f0 = 7 then (match readF l o.f1 o.f3 o.f4 with | .inl d => .inl (l, { res0 with f1 := d }) | .inr e => .inr e)
 else if o.f0 = 8 then (match Qfz l o.f1 o.f3 o.f5 with | .inl l' => .inl (l', { res0 with f5 := (o.f5.length : Int) }) | .inr e => .inr e)
 else if o.f0 = 9 then plain (Qgo l o.f1 o.f4)
 else if o.f0 = 10 then (match Qav l o.f1 with | .inl k => .inl (l, { res0 with f3 := (nd l k).f0, f4 := (nd l k).f1, f5 := ((nd l k).f2.length + (nd l k).f3.length : Nat) }) | .inr e => .inr e)
 else if o.f0 = 11 then (match listF l o.f1 with | .inl n => .inl (l, { res0 with f2 := n }) | .inr e => .inr e)
 else if o.f0 = 12 then .inl (l, res0)
 else if o.f0 = 13 then (match Qav l o.f1 with | .inl _ => .inl (l, res0) | .inr e => .inr e)
 else .inr 30
def doF (l : List S52) (o : S31) : List S52 × S37 := match workF l o with | .inl (l', r) => (num l', r) | .inr e => (l, { res0 with f0 := e })
def findF (l : List S52) (p : ByteArray) : Int × Int := match Qav l p with | .inl k => ((k : Int), 0) | .inr e => (0, e)
theorem Qbb {l : List S52} {p : ByteArray} {d : Nat} {nm : ByteArray} {o : Option Nat} (h : spotF l p = .inl (d, nm, o)) :
  ∃ q, Qah p = (q, 0) ∧ wk l q.dropLast 0 = .inl d ∧ nm = q.getLastD ByteArray.empty ∧ (nd l d).f0 = 2 ∧ d < l.length ∧ o = (look (nd l d).f3 nm).map ino := by
 unfold spotF at h
 split at h
 ·
  rename_i h0
  split at h
  · cases h
  ·
   rename_i d' hd
   split at h
   ·
    rename_i h2
    injection h with h
    injection h with h1 h
    injection h with h3 h4
    subst h1
    subst h3
    exact ⟨(Qah p).1, Prod.ext rfl h0, hd, rfl, h2, Pr.lt_of_dir h2, h4.symm⟩
   · cases h
 · cases h
theorem fullB_f {l : List S52} {d : Nat} (hf : fullB l d = false) : decide (((rd_T52 l (d : Int)).f3.length : Int) ≥ 64) = false := by
 have := of_decide_eq_false hf
 refine decide_eq_false fun h => this ?_
 have h' : (64 : Int) ≤ ((nd l d).f3.length : Int) := h
 omega
theorem fullB_t {l : List S52} {d : Nat} (hf : fullB l d = true) : decide (((rd_T52 l (d : Int)).f3.length : Int) ≥ 64) = true := by
 have := of_decide_eq_true hf
 refine decide_eq_true ?_
 show (64 : Int) ≤ ((nd l d).f3.length : Int)
 omega
end Go.Proofs.YtbhjggbijkjmnaaGreatDoor.PZ
end
