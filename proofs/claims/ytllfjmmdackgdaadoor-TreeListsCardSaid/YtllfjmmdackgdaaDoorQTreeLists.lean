/- What the statement TreeListsCardSaid alone wants beside the common texts M..: the walk of the law's own Go function and its plain facts. No condition but those in the theorems. -/
import Derived.Test.YtllfjmmdackgdaaDoorM00
import Derived.Test.YtllfjmmdackgdaaDoorM01
import Derived.Test.YtllfjmmdackgdaaDoorM02
import Derived.Test.YtllfjmmdackgdaaDoorM03
import Derived.Test.YtllfjmmdackgdaaDoorM04
import Derived.Test.YtllfjmmdackgdaaDoorM05
import Derived.Test.YtllfjmmdackgdaaDoorM06
import Derived.Test.YtllfjmmdackgdaaDoorM07
import Derived.Test.YtllfjmmdackgdaaDoorM08
import Derived.Test.YtllfjmmdackgdaaDoorM09
import Derived.Test.YtllfjmmdackgdaaDoorM10
import Derived.Test.YtllfjmmdackgdaaDoorM11
import Derived.Test.YtllfjmmdackgdaaDoorM12
import Derived.Test.YtllfjmmdackgdaaDoorM13
import Derived.Test.YtllfjmmdackgdaaDoorM14
import Derived.Test.YtllfjmmdackgdaaDoorM15
import Derived.Test.YtllfjmmdackgdaaDoorM16
import Derived.Test.YtllfjmmdackgdaaDoorM17
import Derived.Test.YtllfjmmdackgdaaDoorM18
import Derived.Test.YtllfjmmdackgdaaDoorM19
import Derived.Test.YtllfjmmdackgdaaDoorM20
import Derived.Test.YtllfjmmdackgdaaDoorM21
import Derived.Test.YtllfjmmdackgdaaDoorM22
import Derived.Test.YtllfjmmdackgdaaDoorM23
import Derived.Test.YtllfjmmdackgdaaDoorM24
import Derived.Test.YtllfjmmdackgdaaDoorM25
import Derived.Test.YtllfjmmdackgdaaDoorM26
import Derived.Test.YtllfjmmdackgdaaDoorM27
import Derived.Test.YtllfjmmdackgdaaDoorM28
import Derived.Test.YtllfjmmdackgdaaDoorM29
import Derived.Test.YtllfjmmdackgdaaDoorM30
import Derived.Test.YtllfjmmdackgdaaDoorM31
import Derived.Test.YtllfjmmdackgdaaDoorM32
import Derived.Test.YtllfjmmdackgdaaDoorM33
import Derived.Test.YtllfjmmdackgdaaDoorM34
import Derived.Test.YtllfjmmdackgdaaDoorM35
import Derived.Test.YtllfjmmdackgdaaDoorM36
import Derived.Test.YtllfjmmdackgdaaDoorM37
import Derived.Test.YtllfjmmdackgdaaDoorM38
import Derived.Test.YtllfjmmdackgdaaDoorM39
import Derived.Lib.Join
set_option linter.unusedVariables false
set_option linter.unusedSimpArgs false
/-! GStr -/
section
namespace Go.Proofs.YtllfjmmdackgdaaDoor.PZ
open Go.RowKit Go.Proofs.YtllfjmmdackgdaaDoorW.PrintWords Go.Proofs.YtllfjmmdackgdaaDoorW.PrintLast Go.Proofs.YtllfjmmdackgdaaDoorW.PrintMore
set_option linter.unusedVariables false
theorem cell_spot {w : World} {a : Addr} {v : Value} (h : w.cell? a = some v) : a.spot = none := by
  unfold World.cell? at h
  split at h
  · by_cases hs : a.spot.isSome = true
    · rw [if_pos hs] at h; cases h
    · simpa using hs
  · cases h
def joinB (l : List ByteArray) (s : ByteArray) : List UInt8 := Lib.join (l.map (·.data.toList)) s.data.toList
def strings_Join.f (l0 : List ByteArray) (a1 : ByteArray) : Option ByteArray := if l0.length < 1000000000000 ∧ (joinB l0 a1).length < 100000000000000 then some ⟨(joinB l0 a1).toArray⟩ else none
theorem strings_Join.calls (A0 : Option Addr) (c0 : Nat) (l0 : List ByteArray) (a1 : ByteArray) (r : ByteArray) (w : World) (hr0 : Kd.C Kd.string w A0 l0.length l0) (hc0 : l0.length ≤ c0) (h : strings_Join.f l0 a1 = some r) :
    Calls Tryd.prog 40 #[.slice A0 l0.length c0, .string a1] w fun e w' => e = .returned (.string r) ∧ Below w.heap.size w w' := by
  unfold strings_Join.f at h
  by_cases hn : l0.length < 1000000000000 ∧ (joinB l0 a1).length < 100000000000000
  · rw [if_pos hn] at h
    cases h
    obtain ⟨h1, h2⟩ := hn
    by_cases h0 : l0 = []
    · subst h0
      refine (Tryd.strings_Join_none A0 c0 a1 w).mono ?_
      rintro e w' ⟨rfl, rfl⟩
      exact ⟨rfl, Below.refl _ _⟩
    · have hpos : 0 < l0.length := List.length_pos_iff.2 h0
      obtain ⟨ad, e, hx⟩ := Kd.at_string hr0 0 (by omega) (by omega)
      subst e
      have hcells : ∀ (j : Nat) x, l0[j]? = some x → w.cell? (ad.add j) = some (.string x) := by
        intro j x hj
        obtain ⟨hjl, hjx⟩ := List.getElem?_eq_some_iff.1 hj
        obtain ⟨ad2, e2, hx2⟩ := Kd.at_string hr0 (j : Int) (by omega) (by omega)
        cases e2
        rw [Int.toNat_natCast] at hx2
        rw [hx2]
        unfold rdOf
        simp [List.getD_eq_getElem?_getD, hj]
      rw [show (0 : Int).toNat = 0 from rfl] at hx
      have e0 : ad.add 0 = ad := by unfold Addr.add; rw [if_pos rfl]
      rw [e0] at hx
      have hsp := cell_spot hx
      obtain ⟨bk, o, sp⟩ := ad
      simp only at hsp
      subst hsp
      have hcells2 : ∀ (j : Nat) x, l0[j]? = some x → w.cell? ⟨bk, o + j, none⟩ = some (.string x) := by
        intro j x hj
        have := hcells j x hj
        unfold Addr.add at this
        by_cases h0 : j = 0
        · subst h0
          rw [if_pos rfl] at this
          exact this
        · rw [if_neg h0] at this
          exact this
      exact Tryd.strings_Join bk o c0 l0 a1 w hcells2 (World.block_lt_of_cell? w _ hx) (by omega) hc0 (by unfold joinB at h2; omega)
  · rw [if_neg hn] at h
    cases h
end Go.Proofs.YtllfjmmdackgdaaDoor.PZ
end
/-! PZx4 -/
section
namespace Go.Proofs.YtllfjmmdackgdaaDoor.PZ
open Go.RowKit Go.Proofs.YtllfjmmdackgdaaDoorW.PrintWords Go.Proofs.YtllfjmmdackgdaaDoorW.PrintLast Go.Proofs.YtllfjmmdackgdaaDoorW.PrintMore
attribute [local go_sem] max2_int min2_int max_two min_two max_three min_three max_four min_four   -- for this text's walks alone
set_option linter.unusedVariables false
set_option linter.unusedSimpArgs false
def path_Join.f (l0 : List ByteArray) : Option (ByteArray × Int) := (path_right.f l0).bind fun t194 => (if t194 = true then ((strings_Join.f l0 (⟨#[47]⟩ : ByteArray)).bind fun t195 => (if 1 + t195.size ≤ 9223372036854775807 then (some ((⟨#[47]⟩ : ByteArray) ++ t195, 0)) else (none))) else (some ((⟨#[]⟩ : ByteArray), 20)))
set_option maxHeartbeats 8000000 in
set_option maxRecDepth 100000 in
theorem path_Join.calls (A0 : Option Addr) (c0 : Nat) (l0 : List ByteArray) (r1 : ByteArray) (r2 : Int) (w : World) (hr0 : Kd.C Kd.string w A0 l0.length l0) (hc0 : l0.length ≤ c0) (h : path_Join.f l0 = some (r1, r2)) :
    Calls Tryd.prog 22 #[.slice A0 l0.length c0] w fun e w' => e = .returned (.tuple #[.string r1, .int .i64 r2]) ∧ Below w.heap.size w w' := by
  have HR0 := Aside0.mk hr0
  have HC0 := Aside0.mk hc0
  clear hr0 hc0
  have HB := Aside0.mk (Below.refl w.heap.size w)
  have H : ((path_right.f l0).bind fun t194 => (if t194 = true then ((strings_Join.f l0 (⟨#[47]⟩ : ByteArray)).bind fun t195 => (if 1 + t195.size ≤ 9223372036854775807 then (some ((⟨#[47]⟩ : ByteArray) ++ t195, 0)) else (none))) else (some ((⟨#[]⟩ : ByteArray), 20)))) = some (r1, r2) := h
  clear h
  replace H := Option.bind_eq_some_iff.mp H
  obtain ⟨t194, A20, H⟩ := H
  replace H : (if t194 = true then ((strings_Join.f l0 (⟨#[47]⟩ : ByteArray)).bind fun t195 => (if 1 + t195.size ≤ 9223372036854775807 then (some ((⟨#[47]⟩ : ByteArray) ++ t195, 0)) else (none))) else (some ((⟨#[]⟩ : ByteArray), 20))) = some (r1, r2) := H
  have A2 := Aside0.mk A20
  clear A20
  by_cases c3 : t194 = true
  · subst c3
    have H1 : ((strings_Join.f l0 (⟨#[47]⟩ : ByteArray)).bind fun t195 => (if 1 + t195.size ≤ 9223372036854775807 then (some ((⟨#[47]⟩ : ByteArray) ++ t195, 0)) else (none))) = some (r1, r2) := by rw [if_pos rfl] at H; exact H
    clear H
    have H := H1
    clear H1
    replace H := Option.bind_eq_some_iff.mp H
    obtain ⟨t195, A40, H⟩ := H
    replace H : (if 1 + t195.size ≤ 9223372036854775807 then (some ((⟨#[47]⟩ : ByteArray) ++ t195, 0)) else (none)) = some (r1, r2) := H
    have A4 := Aside0.mk A40
    clear A40
    by_cases c5 : 1 + t195.size ≤ 9223372036854775807
    · rw [if_pos c5] at H
      have c5b0 := eq_true c5
      have c5b1 : decide (1 + t195.size ≤ 9223372036854775807) = true := decide_eq_true c5
      try have c5b2 : (9223372036854775807 < 1 + t195.size) = False := eq_false (Nat.not_lt.2 c5)
      simp only [Option.some.injEq, Prod.mk.injEq] at H
      obtain ⟨rfl, rfl⟩ := H
      go_enter Tryd.func22, Tryd.ntmps22
      go_wp2_with (first | ((with_reducible refine gate_callee (f := 38) rfl ?_); refine goesL_ (some 5) rfl rfl Tryd.func38 (by kernel_rfl) rfl #[.slice A0 l0.length c0] rfl (by (try simp only [List.map_toArray, List.map_cons, List.map_nil]); first | done | rfl | (simp only [List.length_drop, List.length_take]; rfl)) ?_; (with_reducible refine (path_right.calls _ _ l0 true _ ?side1 ?side2 A2.out).mono ?_); (case side1 => repeat (first | exact HR0.out | (with_reducible refine Kd.C_alloc ?_ _) | (with_reducible refine Kd.C_drewN ?_ _) | (with_reducible refine Kd.C_drew ?_))); (case side2 => exact HC0.out); rintro e w6 ⟨rfl, hb⟩; refine ⟨_, rfl, ?_⟩; have n0_ := Aside0.mk (below_step (by repeat (first | (with_reducible first | exact HB.out | apply below_alloc | apply pw_below_drewN | apply below_drew1) | exact HB.out)) hb); clear HB; have HB := n0_; clear n0_; (try clear hb); (try clear hb2); (try clear hk); (try clear hi)) | ((with_reducible refine gate_callee (f := 40) rfl ?_); refine goesL_ (some 8) rfl rfl Tryd.func40 (by kernel_rfl) rfl #[.slice A0 l0.length c0, .string (⟨#[47]⟩ : ByteArray)] rfl (by (try simp only [List.map_toArray, List.map_cons, List.map_nil]); first | done | rfl | (simp only [List.length_drop, List.length_take]; rfl)) ?_; (with_reducible refine (strings_Join.calls _ _ l0 (⟨#[47]⟩ : ByteArray) t195 _ ?side1 ?side2 A4.out).mono ?_); (case side1 => repeat (first | exact (Kd.C_below HR0.out HB.out) | (with_reducible refine Kd.C_alloc ?_ _) | (with_reducible refine Kd.C_drewN ?_ _) | (with_reducible refine Kd.C_drew ?_))); (case side2 => exact HC0.out); rintro e w7 ⟨rfl, hb⟩; refine ⟨_, rfl, ?_⟩; have n0_ := Aside0.mk (below_step (by repeat (first | (with_reducible first | exact HB.out | apply below_alloc | apply pw_below_drewN | apply below_drew1) | exact HB.out)) hb); clear HB; have HB := n0_; clear n0_; (try clear hb); (try clear hb2); (try clear hk); (try clear hi)))
      go_ret2
      exact ⟨by first | rfl | (simp [errW_none, errW_some] <;> rfl) | (simp [*, errW_none, errW_some] <;> rfl), by repeat (first | (with_reducible first | exact HB.out | apply below_alloc | apply pw_below_drewN | apply below_drew1) | exact HB.out)⟩
    · rw [if_neg c5] at H
      exact absurd H (by simp)
  · replace c3 := Bool.eq_false_iff.mpr c3
    subst c3
    have H1 : (some ((⟨#[]⟩ : ByteArray), 20)) = some (r1, r2) := by rw [if_neg (show ¬ (false = true) by decide)] at H; exact H
    clear H
    have H := H1
    clear H1
    simp only [Option.some.injEq, Prod.mk.injEq] at H
    obtain ⟨rfl, rfl⟩ := H
    go_enter Tryd.func22, Tryd.ntmps22
    go_wp2_with (first | ((with_reducible refine gate_callee (f := 38) rfl ?_); refine goesL_ (some 5) rfl rfl Tryd.func38 (by kernel_rfl) rfl #[.slice A0 l0.length c0] rfl (by (try simp only [List.map_toArray, List.map_cons, List.map_nil]); first | done | rfl | (simp only [List.length_drop, List.length_take]; rfl)) ?_; (with_reducible refine (path_right.calls _ _ l0 false _ ?side1 ?side2 A2.out).mono ?_); (case side1 => repeat (first | exact HR0.out | (with_reducible refine Kd.C_alloc ?_ _) | (with_reducible refine Kd.C_drewN ?_ _) | (with_reducible refine Kd.C_drew ?_))); (case side2 => exact HC0.out); rintro e w8 ⟨rfl, hb⟩; refine ⟨_, rfl, ?_⟩; have n0_ := Aside0.mk (below_step (by repeat (first | (with_reducible first | exact HB.out | apply below_alloc | apply pw_below_drewN | apply below_drew1) | exact HB.out)) hb); clear HB; have HB := n0_; clear n0_; (try clear hb); (try clear hb2); (try clear hk); (try clear hi)))
    go_ret2
    exact ⟨by first | rfl | (simp [errW_none, errW_some] <;> rfl) | (simp [*, errW_none, errW_some] <;> rfl), by repeat (first | (with_reducible first | exact HB.out | apply below_alloc | apply pw_below_drewN | apply below_drew1) | exact HB.out)⟩
end Go.Proofs.YtllfjmmdackgdaaDoor.PZ
end
/-! LW -/
section
namespace Go.Proofs.YtllfjmmdackgdaaDoor.PZ
open Go.RowKit Go.Proofs.YtllfjmmdackgdaaDoorW.PrintWords Go.Proofs.YtllfjmmdackgdaaDoorW.PrintLast Go.Proofs.YtllfjmmdackgdaaDoorW.PrintMore Go.Proofs.YtllfjmmdackgdaaDoor.Ord Go.Proofs.YtllfjmmdackgdaaDoor.B
theorem nameL_slash {l : List UInt8} (h : nameL l = true) : 47 ∉ l := by
  unfold nameL at h
  simp only [Bool.and_eq_true, List.all_eq_true] at h
  intro hm
  have := h.2 47 hm
  simp [okC] at this
theorem nameL_ne {l : List UInt8} (h : nameL l = true) : l ≠ [] := by
  intro e
  rw [e] at h
  simp [nameL] at h
theorem nameL_length {l : List UInt8} (h : nameL l = true) : l.length ≤ 12 := by
  unfold nameL at h
  simp only [Bool.and_eq_true, decide_eq_true_eq] at h
  exact h.1.2
theorem rightL_iff (ps : List (List UInt8)) : rightL ps = true ↔ ps.length ≤ 8 ∧ ∀ p ∈ ps, nameL p = true := by
  unfold rightL
  simp only [Bool.and_eq_true, decide_eq_true_eq, List.all_eq_true]
theorem tail_cons (y : List UInt8) (r : List (List UInt8)) : Lib.joinTail [47] (y :: r) = 47 :: (y ++ Lib.joinTail [47] r) := rfl
theorem tail_length : ∀ (r : List (List UInt8)), (∀ p ∈ r, nameL p = true) → (Lib.joinTail [47] r).length ≤ 13 * r.length
  | [], _ => by simp [Lib.joinTail]
  | y :: r, h => by
    have h1 := nameL_length (h y (List.mem_cons_self ..))
    have h2 := tail_length r (fun p hp => h p (List.mem_cons_of_mem _ hp))
    rw [tail_cons, List.length_cons, List.length_append, List.length_cons]
    omega
theorem pieces_join : ∀ (r : List (List UInt8)) (x : List UInt8), 47 ∉ x → (∀ p ∈ r, nameL p = true) → pieces (x ++ Lib.joinTail [47] r) = x :: r
  | [], x, hx, _ => by
    have e : Lib.joinTail [47] ([] : List (List UInt8)) = [] := rfl
    rw [e, List.append_nil, pieces_none _ hx]
  | y :: r, x, hx, h => by
    rw [tail_cons, pieces_cut _ _ hx, pieces_join r y (nameL_slash (h y (List.mem_cons_self ..))) (fun p hp => h p (List.mem_cons_of_mem _ hp))]
theorem split_join (ps : List (List UInt8)) (h : rightL ps = true) : splitL (47 :: Lib.join ps [47]) = (ps, 0) := by
  rw [splitL_cons, if_pos rfl]
  obtain ⟨h1, h2⟩ := (rightL_iff ps).1 h
  match ps, h, h1, h2 with
  | [], _, _, _ => rw [Lib.join_nil, if_pos rfl]
  | x :: r, h, h1, h2 =>
    have hx := h2 x (List.mem_cons_self ..)
    rw [Lib.join_cons, if_neg (by intro e; exact nameL_ne hx (List.append_eq_nil_iff.1 e).1), pieces_join r x (nameL_slash hx) (fun p hp => h2 p (List.mem_cons_of_mem _ hp)), if_pos h]
theorem join_length (ps : List (List UInt8)) (h : rightL ps = true) : (Lib.join ps [47]).length ≤ 200 := by
  obtain ⟨h1, h2⟩ := (rightL_iff ps).1 h
  match ps, h1, h2 with
  | [], _, _ => rw [Lib.join_nil]; simp
  | x :: r, h1, h2 =>
    have hx := nameL_length (h2 x (List.mem_cons_self ..))
    have ht := tail_length r (fun p hp => h2 p (List.mem_cons_of_mem _ hp))
    rw [Lib.join_cons, List.length_append]
    rw [List.length_cons] at h1
    omega
theorem map_mk (l : List ByteArray) : (l.map (·.data.toList)).map mk = l := by
  rw [List.map_map]
  conv => rhs; rw [← List.map_id l]
  apply List.map_congr_left
  intro x _
  exact mk_self x
theorem rightN_L (l : List ByteArray) : rightN l = rightL (l.map (·.data.toList)) := by rw [← right_L, map_mk]
/-- The path of names. -/
def joinS (l : List ByteArray) : ByteArray := mk (47 :: Lib.join (l.map (·.data.toList)) [47])
def joinA (l : List ByteArray) : ByteArray × Int := if rightN l = true then (joinS l, 0) else (mk [], 20)
theorem joinS_size (l : List ByteArray) (h : rightN l = true) : (joinS l).size ≤ 201 := by
  rw [rightN_L] at h
  have := join_length _ h
  unfold joinS
  rw [mk_size, List.length_cons]
  omega
theorem split_joinS (l : List ByteArray) (h : rightN l = true) : splitA (joinS l) = (l, 0) := by
  rw [rightN_L] at h
  unfold splitA joinS
  rw [mk_data, split_join _ h, map_mk]
theorem path_join_eq (l : List ByteArray) (hl : l.length < 1000000000) : path_Join.f l = some (joinA l) := by
  unfold path_Join.f joinA
  rw [right_ok l (by omega), Option.bind_some]
  by_cases h : rightN l = true
  · have h2 := h
    rw [rightN_L] at h2
    have hj := join_length _ h2
    have e : joinB l ⟨#[47]⟩ = Lib.join (l.map (·.data.toList)) [47] := rfl
    rw [if_pos h, if_pos h]
    unfold strings_Join.f
    rw [e, if_pos ⟨by omega, by omega⟩, Option.bind_some]
    have hz : (⟨(Lib.join (l.map (·.data.toList)) [47]).toArray⟩ : ByteArray).size ≤ 200 := by
      show (mk _).size ≤ 200
      rw [mk_size]; exact hj
    rw [if_pos (by omega)]
    congr 2
  · rw [if_neg h, if_neg h]; rfl
end Go.Proofs.YtllfjmmdackgdaaDoor.PZ
end
/-! TL -/
section
namespace Go.Proofs.YtllfjmmdackgdaaDoor.PZ
open Go.RowKit Go.Proofs.YtllfjmmdackgdaaDoorW.PrintWords Go.Proofs.YtllfjmmdackgdaaDoorW.PrintLast Go.Proofs.YtllfjmmdackgdaaDoorW.PrintMore Go.Proofs.YtllfjmmdackgdaaDoor.Ord Go.Proofs.YtllfjmmdackgdaaDoor.B TD
set_option maxRecDepth 100000
set_option linter.unusedVariables false
set_option linter.unusedSimpArgs false
/-- The names in a directory are those at which something is; they rise. -/
theorem listed {l : List S58} {p d : ByteArray} {ds ns : List ByteArray} {nm : ByteArray} (h : Rt l) (hc : listF l d = .inl ns) (hd : splitA d = (ds, 0)) (hp : splitA p = (ds ++ [nm], 0)) :
    ((∃ j, placeF l p = .inl j) ↔ nm ∈ ns) ∧ ns.Pairwise (fun a b => lts a b = true) := by
  unfold listF placeF at hc
  rw [hd, if_pos rfl] at hc
  dsimp only at hc
  split at hc
  · cases hc
  · rename_i k hk
    split at hc
    · rename_i h2
      injection hc with hc
      subst hc
      refine ⟨?_, ?_⟩
      · unfold placeF
        rw [hp, if_pos rfl]
        dsimp only
        rw [wk_append, hk]
        dsimp only
        unfold wk
        rw [if_pos h2, List.mem_map]
        constructor
        · rintro ⟨j, hj⟩
          cases hl : look (nd l k).f3 nm with
          | none => rw [hl] at hj; cases hj
          | some e => exact ⟨e, look_some hl⟩
        · rintro ⟨e, he, hen⟩
          have hl := (look_iff (h.pr.wf.srt k)).2 ⟨he, hen⟩
          rw [hl]
          exact ⟨ino e, rfl⟩
      · rw [List.pairwise_map]
        exact h.pr.wf.srt k
    · cases hc
end Go.Proofs.YtllfjmmdackgdaaDoor.PZ
end
/-! TLawB -/
section
namespace Go.Proofs.YtllfjmmdackgdaaDoor.PZ
open Go.RowKit Go.Proofs.YtllfjmmdackgdaaDoorW.PrintWords Go.Proofs.YtllfjmmdackgdaaDoorW.PrintLast Go.Proofs.YtllfjmmdackgdaaDoorW.PrintMore TD
set_option maxRecDepth 100000
/-- The names in a directory. -/
theorem do_list {l : List S58} (h : Rt l) (p : ByteArray) : doF l ⟨11, p, ⟨#[]⟩, 0, 0, []⟩ = (match listF l p with | .inl ns => (l, { res0 with f2 := ns }) | .inr e => (l, { res0 with f0 := e })) := by
  cases hr : listF l p with
  | inl d => rw [do_in (l' := l) (r := { res0 with f2 := d }) (by show (match listF l p with | .inl d => _ | .inr e => _) = _; rw [hr]), h.num]
  | inr e => rw [do_out (e := e) (by show (match listF l p with | .inl d => _ | .inr e => _) = _; rw [hr])]
theorem list_err {l : List S58} {p : ByteArray} {e : Int} (h : listF l p = .inr e) : e ≠ 0 := by
  unfold listF at h
  split at h
  · rename_i hk; injection h with h; rw [← h]; exact place_err hk
  · split at h
    · cases h
    · injection h with h; rw [← h]; decide
theorem lists_law {l : List S58} (h : Rt l) (d : ByteArray) :
    ((doF l ⟨11, d, ⟨#[]⟩, 0, 0, []⟩).2.f0 ≠ 0 → (doF l ⟨11, d, ⟨#[]⟩, 0, 0, []⟩).2.f2 = []) ∧
    ((doF l ⟨11, d, ⟨#[]⟩, 0, 0, []⟩).2.f0 = 0 → (splitA d).2 = 0 ∧ (doF l ⟨11, d, ⟨#[]⟩, 0, 0, []⟩).2.f2.length ≤ 64 ∧ (doF l ⟨11, d, ⟨#[]⟩, 0, 0, []⟩).2.f2.Pairwise (fun a b => lts a b = true) ∧
      ∀ p nm, splitA p = ((splitA d).1 ++ [nm], 0) → ((findF l p).2 = 0 ↔ nm ∈ (doF l ⟨11, d, ⟨#[]⟩, 0, 0, []⟩).2.f2)) := by
  rw [do_list h]
  cases hc : listF l d with
  | inr e => exact ⟨fun _ => rfl, fun h0 => absurd h0 (list_err hc)⟩
  | inl ns =>
    dsimp only
    refine ⟨fun h0 => absurd rfl h0, fun _ => ?_⟩
    have h0 : (splitA d).2 = 0 := by
      unfold listF placeF at hc
      split at hc
      · cases hc
      · rename_i k hk
        by_cases h0 : (splitA d).2 = 0
        · exact h0
        · rw [if_neg h0] at hk; cases hk
    have hd : splitA d = ((splitA d).1, 0) := Prod.ext rfl h0
    have hns : ns.length ≤ 64 := by
      unfold listF at hc
      split at hc
      · cases hc
      · split at hc
        · injection hc with hc
          rw [← hc, List.length_map]
          exact h.pr.ents _
        · cases hc
    have hpw : ns.Pairwise (fun a b => lts a b = true) := by
      unfold listF at hc
      split at hc
      · cases hc
      · split at hc
        · injection hc with hc
          rw [← hc, List.pairwise_map]
          exact h.pr.wf.srt _
        · cases hc
    refine ⟨h0, hns, hpw, fun p nm hp => ?_⟩
    have hl := (listed h hc hd hp).1
    rw [← hl]
    constructor
    · intro hf
      cases hq : placeF l p with
      | inl j => exact ⟨j, rfl⟩
      | inr e => rw [find_e hq] at hf; exact absurd hf (place_err hq)
    · rintro ⟨j, hj⟩
      rw [find_k hj]
end Go.Proofs.YtllfjmmdackgdaaDoor.PZ
end
/-! TLawC -/
section
namespace Go.Proofs.YtllfjmmdackgdaaDoor.PZ
open Go.RowKit Go.Proofs.YtllfjmmdackgdaaDoorW.PrintWords Go.Proofs.YtllfjmmdackgdaaDoorW.PrintLast Go.Proofs.YtllfjmmdackgdaaDoorW.PrintMore Go.Proofs.YtllfjmmdackgdaaDoor.Ord TD
set_option maxRecDepth 100000
theorem rightN_len {l : List ByteArray} (h : rightN l = true) : l.length ≤ 8 := by
  unfold rightN at h
  exact of_decide_eq_true (Bool.and_eq_true_iff.1 h).1
theorem split_len {p : ByteArray} {ns : List ByteArray} {es : Int} (h : splitA p = (ns, es)) (h0 : es = 0) : ns.length ≤ 8 := by
  have h1 := splitA_right p (by rw [h]; exact h0)
  rw [h] at h1
  exact rightN_len h1
theorem join_split {l : List ByteArray} {p : ByteArray} {e : Int} (h : joinA l = (p, e)) (h0 : e = 0) : splitA p = (l, 0) ∧ p.size ≤ 201 := by
  unfold joinA at h
  by_cases hr : rightN l = true
  · rw [if_pos hr] at h
    injection h with h1 h2
    rw [← h1]
    exact ⟨split_joinS l hr, joinS_size l hr⟩
  · rw [if_neg hr] at h
    injection h with h1 h2
    rw [h0] at h2
    exact absurd h2 (by decide)
theorem rdOf_get (l : List ByteArray) (k : Nat) (hk : k < l.length) : rdOf ByteArray.empty l (k : Int) = l[k] := by
  show l.getD k ByteArray.empty = l[k]
  rw [List.getD_eq_getElem?_getD, List.getElem?_eq_getElem hk]
  rfl
/-- Is a text among texts? -/
def hasB (l : List ByteArray) (q : ByteArray) : Bool := l.any fun x => x.toList == q.toList
theorem hasB_iff (l : List ByteArray) (q : ByteArray) : hasB l q = true ↔ q ∈ l := by
  unfold hasB
  rw [List.any_eq_true]
  constructor
  · rintro ⟨x, hx, h⟩
    rw [← bytes_ext (beq_iff_eq.1 h)]
    exact hx
  · intro h
    exact ⟨q, h, beq_iff_eq.2 rfl⟩
theorem mem_step (l : List ByteArray) (q : ByteArray) (k : Nat) (hk : k < l.length) : hasB (l.take (k + 1)) q = (hasB (l.take k) q || ((rdOf ByteArray.empty l (k : Int)).toList == q.toList)) := by
  rw [List.take_add_one, List.getElem?_eq_getElem hk, rdOf_get l k hk]
  unfold hasB
  rw [List.any_append]
  simp
theorem pw_step (l : List ByteArray) (h : l.Pairwise (fun a b => lts a b = true)) (k : Nat) (h0 : 0 < k) (hk : k < l.length) : Op.bytesLess (rdOf ByteArray.empty l ((k - 1 : Nat) : Int)).toList (rdOf ByteArray.empty l (k : Int)).toList = true := by
  have h1 := List.pairwise_iff_getElem.1 h (k - 1) k (by omega) hk (by omega)
  rw [rdOf_get l (k - 1) (by omega), rdOf_get l k hk]
  exact h1
theorem join_call (A : Option Addr) (n c : Nat) (l : List ByteArray) (hn : n = l.length) (P : ByteArray) (e : Int) (w : World) (hr : Kd.C Kd.string w A l.length l) (hc : l.length ≤ c) (hl : l.length < 1000000000) (h : joinA l = (P, e)) :
    Calls Tryd.prog 22 #[.slice A n c] w fun en w' => en = .returned (.tuple #[.string P, .int .i64 e]) ∧ Below w.heap.size w w' := by
  subst hn
  exact path_Join.calls A c l P e w hr hc ((path_join_eq l hl).trans (by rw [h]))
end Go.Proofs.YtllfjmmdackgdaaDoor.PZ
end
/-! GLTreeLists -/
section
namespace Go.Proofs.YtllfjmmdackgdaaDoor.PZ
open Go.RowKit Go.Proofs.YtllfjmmdackgdaaDoorW.PrintWords Go.Proofs.YtllfjmmdackgdaaDoorW.PrintLast Go.Proofs.YtllfjmmdackgdaaDoorW.PrintMore Go.Proofs.YtllfjmmdackgdaaDoor.B Go.Proofs.YtllfjmmdackgdaaDoor.Ord TD
set_option maxRecDepth 100000
set_option linter.unusedVariables false
set_option linter.unusedSimpArgs false
set_option maxHeartbeats 8000000 in
theorem lists_walk (A : Option Addr) (c : Nat) (ops : List S39) (p q : ByteArray) (w : World) (hr : Kd.C k39 w A ops.length ops) (hc : ops.length ≤ c) :
    Calls Tryd.prog 14 #[.slice A ops.length c, .string p, .string q] w fun e w' => e = .returned (.bool true) ∧ Below w.heap.size w w' := by
  have HR := Aside0.mk hr
  clear hr
  by_cases hp : 1000 < p.size
  · have hpb : decide (1000 < (p.size : Int)) = true := decide_eq_true (by omega)
    have hpc : decide (1000 < p.size) = true := decide_eq_true hp
    clear hp
    go_enter Tryd.func14, Tryd.ntmps14
    go_wp2_with (first | (go_at_call 26; (with_reducible refine (alive_walk _).mono ?_); rintro e w1 ⟨rfl, hb⟩; have HB1 := Aside0.mk (below_step (w := w) (by repeat (first | exact Below.refl _ _ | with_reducible apply pw_below_drewN | with_reducible apply below_drew1 | with_reducible apply below_alloc)) hb); clear hb) | (go_at_call 27; (with_reducible refine (made_walk A c ops _ (Kd.C_below HR.out HB1.out) hc).mono ?_); rintro e w2 ⟨l, Al, cl, b, rfl, ht, hcl, hC, hb⟩; have HT := Aside0.mk ht; have HH := Aside0.mk (And.intro hcl hC); clear ht hcl hC; have HB2 := Aside0.mk (below_step (w := w) (by repeat (first | exact HB1.out | with_reducible apply pw_below_drewN | with_reducible apply below_drew1 | with_reducible apply below_alloc)) hb); clear hb; cases b))
    all_goals (go_ret; exact ⟨rfl, by repeat (first | exact HB2.out | with_reducible apply pw_below_drewN | with_reducible apply below_drew1 | with_reducible apply below_alloc)⟩)
  have hpb : decide (1000 < (p.size : Int)) = false := decide_eq_false (by omega)
  have hpc : decide (1000 < p.size) = false := decide_eq_false hp
  have hp' := Aside0.mk (Nat.le_of_not_lt hp)
  clear hp
  by_cases hq : 1000 < q.size
  · have hqb : decide (1000 < (q.size : Int)) = true := decide_eq_true (by omega)
    have hqc : decide (1000 < q.size) = true := decide_eq_true hq
    clear hq
    go_enter Tryd.func14, Tryd.ntmps14
    go_wp2_with (first | (go_at_call 26; (with_reducible refine (alive_walk _).mono ?_); rintro e w1 ⟨rfl, hb⟩; have HB1 := Aside0.mk (below_step (w := w) (by repeat (first | exact Below.refl _ _ | with_reducible apply pw_below_drewN | with_reducible apply below_drew1 | with_reducible apply below_alloc)) hb); clear hb) | (go_at_call 27; (with_reducible refine (made_walk A c ops _ (Kd.C_below HR.out HB1.out) hc).mono ?_); rintro e w2 ⟨l, Al, cl, b, rfl, ht, hcl, hC, hb⟩; have HT := Aside0.mk ht; have HH := Aside0.mk (And.intro hcl hC); clear ht hcl hC; have HB2 := Aside0.mk (below_step (w := w) (by repeat (first | exact HB1.out | with_reducible apply pw_below_drewN | with_reducible apply below_drew1 | with_reducible apply below_alloc)) hb); clear hb; cases b))
    all_goals (go_ret; exact ⟨rfl, by repeat (first | exact HB2.out | with_reducible apply pw_below_drewN | with_reducible apply below_drew1 | with_reducible apply below_alloc)⟩)
  have hqb : decide (1000 < (q.size : Int)) = false := decide_eq_false (by omega)
  have hqc : decide (1000 < q.size) = false := decide_eq_false hq
  have hq' := Aside0.mk (Nat.le_of_not_lt hq)
  clear hq
  obtain ⟨K, hK⟩ := (path_split_ev p (by have := hp'.out; omega)).rounds
  obtain ⟨ns, es, hsp⟩ : ∃ ns es, splitA p = (ns, es) := ⟨_, _, rfl⟩
  rw [hsp] at hK
  have HK := Aside0.mk hK
  have HSP := Aside0.mk hsp
  obtain ⟨P, eP, hj⟩ : ∃ P eP, joinA (ns ++ [q]) = (P, eP) := ⟨_, _, rfl⟩
  have HJ := Aside0.mk hj
  clear hK hsp hj
  go_enter Tryd.func14, Tryd.ntmps14
  go_wp2_with (first
    | (go_at_call 26; (with_reducible refine (alive_walk _).mono ?_); rintro e w1 ⟨rfl, hb⟩; have HB1 := Aside0.mk (below_step (w := w) (by repeat (first | exact Below.refl _ _ | with_reducible apply pw_below_drewN | with_reducible apply below_drew1 | with_reducible apply below_alloc)) hb); clear hb)
    | (go_at_call 27; (with_reducible refine (made_walk A c ops _ (Kd.C_below HR.out HB1.out) hc).mono ?_); rintro e w2 ⟨l, Al, cl, b, rfl, ht, hcl, hC, hb⟩; have HT := Aside0.mk ht; have HH := Aside0.mk (And.intro hcl hC); clear ht hcl hC; have HB2 := Aside0.mk (below_step (w := w) (by repeat (first | exact HB1.out | with_reducible apply pw_below_drewN | with_reducible apply below_drew1 | with_reducible apply below_alloc)) hb); clear hb; cases b)
    | (go_at_call 29; (with_reducible refine (do_call0 Al l.length cl l rfl 11 p ⟨#[]⟩ 0 0 _ (Kd.C_below HH.out.2 (by repeat (first | exact Below.refl _ _ | with_reducible apply pw_below_drewN | with_reducible apply below_drew1 | with_reducible apply below_alloc))) HH.out.1 HT.out (by have := hp'.out; omega) (by decide)).mono ?_); rintro e w3 h; generalize hs : doF l ⟨11, p, ⟨#[]⟩, 0, 0, []⟩ = s at h; obtain ⟨x3, r3⟩ := s; have S3 := Aside0.mk hs; clear hs; obtain ⟨A3, c3, B3, b3, C3, d3, rfl, hh, hb⟩ := h; have HH3 := Aside0.mk hh; clear hh; have t_3 := Aside0.mk (show Hold w2.heap.size l Al cl w3 from (show Hold w2.heap.size l Al cl (w2.alloc (.cells #[.slice Al l.length cl] 42)) from ⟨blk_new w2 _, HH.out.1, Kd.C_alloc HH.out.2 _⟩).below (below_step (by repeat (first | exact Below.refl _ _ | with_reducible apply pw_below_drewN | with_reducible apply below_drew1 | with_reducible apply below_alloc)) hb)); have HB3 := Aside0.mk (below_step (w := w) (by repeat (first | exact HB2.out | with_reducible apply pw_below_drewN | with_reducible apply below_drew1 | with_reducible apply below_alloc)) hb); obtain ⟨ht, htl⟩ := t_3.out.cells; clear hb)
    | (go_at_call 16; (with_reducible refine (path_Split.calls K p ns es _ HK.out).mono ?_); rintro e w4 ⟨v4, rfl, hr4, hb⟩; obtain ⟨A4, c4, hv4⟩ := Kd.R_slice hr4; subst hv4; have HO4 := Aside0.mk hr4; have HX4 := Aside0.mk hb; clear hr4; have t_4 := Aside0.mk (t_3.out.below (below_step (by repeat (first | exact Below.refl _ _ | with_reducible apply pw_below_drewN | with_reducible apply below_drew1 | with_reducible apply below_alloc)) hb)); have r_4 := Aside0.mk (HH3.out.laid hb).2; have HB4 := Aside0.mk (below_step (w := w) (by repeat (first | exact HB3.out | with_reducible apply pw_below_drewN | with_reducible apply below_drew1 | with_reducible apply below_alloc)) hb); have HLAW := Aside0.mk (show (r3.f0 ≠ 0 → r3.f2 = []) ∧ (r3.f0 = 0 → es = 0 ∧ r3.f2.length ≤ 64 ∧ r3.f2.Pairwise (fun a b => lts a b = true) ∧ ∀ P nm, splitA P = (ns ++ [nm], 0) → ((findF l P).2 = 0 ↔ nm ∈ r3.f2)) by have h := lists_law HT.out p; rw [HSP.out, S3.out] at h; exact h); clear ht htl; obtain ⟨hr0, hr1, hr2, hr3, hr4, hr5, hr6⟩ := r_4.out.cells; have hrp := Nat.lt_of_succ_lt hr6; clear hb; cases hzb : (r3.f0 != 0); (have z1 : (es != 0) = false := bne_eq_false_iff_eq.mpr (HLAW.out.2 (bne_eq_false_iff_eq.1 hzb)).1); (have HN8 := Aside0.mk (split_len HSP.out (bne_eq_false_iff_eq.1 z1))); rotate_left; (have z2 : ((r3.f2.length : Int) == 0) = true := (by rw [HLAW.out.1 (bne_iff_ne.1 hzb)]; rfl)))
    | ((with_reducible refine gate_builtin (b := .append) (xs := #[.tmp 61, .tmp 63]) rfl ?_); at_builtin; refine Kd.R_append Kd.string (w0 := _) _ rfl (.tmp 61) (.tmp 63) 23 9 (.string ⟨#[]⟩) 16 rfl Tryd.underlying23 info9 rfl (by decide) (by omega) (.slice A4 ns.length c4) ns q [.string q] (fun _ => True) (fun _ => False) rfl rfl ?aP (fun _ hk => hk.elim) (fun _ _ => trivial) HO4.out HX4.out ?aS ?aL ?_; (case aP => exact rfl); (case aS => exact HX4.out.size); (case aL => have := HN8.out; omega); intro v5 w5 ho hb hg hat; clear hg hat; obtain ⟨A5, c5, hv5, hc5, hC5⟩ := Kd.R_reads ho; subst hv5; have HC5 := Aside0.mk hC5; have HCC5 := Aside0.mk hc5; clear ho hC5 hc5; have t_5 := Aside0.mk (t_3.out.below (below_step (by repeat (first | exact Below.refl _ _ | with_reducible apply pw_below_drewN | with_reducible apply below_drew1 | with_reducible apply below_alloc)) hb)); have r_5 := Aside0.mk (HH3.out.laid hb).2; have HB5 := Aside0.mk (below_step (w := w) (by repeat (first | exact HB3.out | with_reducible apply pw_below_drewN | with_reducible apply below_drew1 | with_reducible apply below_alloc)) hb); clear hr0 hr1 hr2 hr3 hr4 hr5 hr6 hrp; clear hb)
    | (go_at_call 22; (with_reducible refine (join_call A5 (ns.length + 1) c5 (ns ++ [q]) (by rw [List.length_append, List.length_singleton]) P eP _ (Kd.C_below HC5.out (by repeat (first | exact Below.refl _ _ | with_reducible apply pw_below_drewN | with_reducible apply below_drew1 | with_reducible apply below_alloc))) HCC5.out (by rw [List.length_append, List.length_singleton]; have := HN8.out; omega) HJ.out).mono ?_); rintro e w6 ⟨rfl, hb⟩; have t_6 := Aside0.mk (t_5.out.below (below_step (by repeat (first | exact Below.refl _ _ | with_reducible apply pw_below_drewN | with_reducible apply below_drew1 | with_reducible apply below_alloc)) hb)); have r_6 := Aside0.mk (r_5.out.below (below_step (by repeat (first | exact Below.refl _ _ | with_reducible apply pw_below_drewN | with_reducible apply below_drew1 | with_reducible apply below_alloc)) hb)); have HB6 := Aside0.mk (below_step (w := w) (by repeat (first | exact HB5.out | with_reducible apply pw_below_drewN | with_reducible apply below_drew1 | with_reducible apply below_alloc)) hb); obtain ⟨ht, htl⟩ := t_6.out.cells; clear hb; cases y1 : (eP != 0); (have HPP := Aside0.mk (join_split HJ.out (bne_eq_false_iff_eq.1 y1))); rotate_left; skip)
    | (go_at_call 32; (with_reducible refine (find_ok Al cl l P _ (Kd.C_below t_6.out.rows (by repeat (first | exact Below.refl _ _ | with_reducible apply pw_below_drewN | with_reducible apply below_drew1 | with_reducible apply below_alloc))) t_6.out.cap HT.out (by have := HPP.out.2; omega)).mono ?_); rintro e w7 ⟨rfl, hb⟩; generalize hs : findF l P = s; obtain ⟨k7, e7⟩ := s; have S7 := Aside0.mk hs; clear hs; dsimp only; have t_7 := Aside0.mk (t_6.out.below (below_step (by repeat (first | exact Below.refl _ _ | with_reducible apply pw_below_drewN | with_reducible apply below_drew1 | with_reducible apply below_alloc)) hb)); have r_7 := Aside0.mk (r_6.out.below (below_step (by repeat (first | exact Below.refl _ _ | with_reducible apply pw_below_drewN | with_reducible apply below_drew1 | with_reducible apply below_alloc)) hb)); have HB7 := Aside0.mk (below_step (w := w) (by repeat (first | exact HB6.out | with_reducible apply pw_below_drewN | with_reducible apply below_drew1 | with_reducible apply below_alloc)) hb); clear ht htl; obtain ⟨hr0, hr1, hr2, hr3, hr4, hr5, hr6⟩ := r_7.out.cells; have hrp := Nat.lt_of_succ_lt hr6; clear hb))
  all_goals first
    | (go_ret; refine ⟨rfl, ?_⟩; (repeat (first | exact HB7.out | with_reducible apply pw_below_drewN | with_reducible apply below_drew1 | with_reducible apply below_alloc)); done)
    | (go_ret; refine ⟨rfl, ?_⟩; (repeat (first | exact HB6.out | with_reducible apply pw_below_drewN | with_reducible apply below_drew1 | with_reducible apply below_alloc)); done)
    | (go_ret; refine ⟨rfl, ?_⟩; (repeat (first | exact HB4.out | with_reducible apply pw_below_drewN | with_reducible apply below_drew1 | with_reducible apply below_alloc)); done)
    | (go_ret; refine ⟨rfl, ?_⟩; (repeat (first | exact HB2.out | with_reducible apply pw_below_drewN | with_reducible apply below_drew1 | with_reducible apply below_alloc)); done)
    | skip
  have hl2 := HLAW.out.2 (bne_eq_false_iff_eq.1 hzb)
  have hl64 := hl2.2.1
  have HPW := Aside0.mk hl2.2.2.1
  have HIFF := Aside0.mk (show e7 = 0 ↔ q ∈ r3.f2 by have h := hl2.2.2.2 P q HPP.out.1; rw [S7.out] at h; exact h)
  clear hl2 HLAW
  go_loopw [16, 17] (fun v16 v17 wr => ∃ k : Nat, k ≤ r3.f2.length ∧ v16 = .bool (hasB (r3.f2.take k) q) ∧ v17 = .int .i64 k ∧ Aside0 (HoldR (w3.heap.size + 1) r3 B3 b3 C3 d3 wr) ∧ Aside0 (Below w.heap.size w wr)) (fun v16 v17 _ => r3.f2.length - (intOf v17).toNat)
  case atStart => exact ⟨0, by omega, rfl, rfl, r_7, HB7⟩
  case round =>
    obtain ⟨k, hk, rfl, rfl, HR2, HB⟩ := hrel
    obtain ⟨g0, g1, g2, g3, g4, g5, g6⟩ := HR2.out.cells
    clear g0 g1 g3 g4 g5
    by_cases hlt : k < r3.f2.length
    · have hlti : (k : Int) < (r3.f2.length : Int) := by omega
      have hms := mem_step r3.f2 q k hlt
      have hpw : 0 < k → Op.bytesLess (rdOf ByteArray.empty r3.f2 ((k - 1 : Nat) : Int)).toList (rdOf ByteArray.empty r3.f2 (k : Int)).toList = true := fun h0 => pw_step r3.f2 HPW.out k h0 hlt
      obtain ⟨ad, rfl, hx⟩ := Kd.at_string HR2.out.rows2 (k : Int) (by omega) hlti
      rw [Int.toNat_natCast] at hx
      generalize rdOf ByteArray.empty r3.f2 (k : Int) = x at hx hms hpw
      have HQ : ∃ b, (x.toList == q.toList) = b := ⟨_, rfl⟩
      obtain ⟨bq, hbq⟩ := HQ
      rw [hbq] at hms
      generalize hasB (r3.f2.take k) q = bm at hms ⊢
      have HMS := Aside0.mk hms
      clear hms
      rcases Nat.eq_zero_or_pos k with k0 | k0
      · have k0b : decide (0 < (k : Int)) = false := decide_eq_false (by omega)
        have k0c : decide (0 < k) = false := decide_eq_false (by omega)
        clear hpw k0
        cases bm <;> cases bq <;> (
          go_wp2
          go_quiet (fail)
          go_wp2
          go_roundw
          case rel => exact ⟨k + 1, by omega, by rw [HMS.out]; rfl, rfl, ⟨HR2.out.below (by repeat (first | exact Below.refl _ _ | with_reducible apply pw_below_drewN | with_reducible apply below_drew1 | with_reducible apply below_alloc))⟩, ⟨by repeat (first | exact HB.out | with_reducible apply pw_below_drewN | with_reducible apply below_drew1 | with_reducible apply below_alloc)⟩⟩
          case measure => simp [intOf]; omega)
      · have k0b : decide (0 < (k : Int)) = true := decide_eq_true (by omega)
        have k0c : decide (0 < k) = true := decide_eq_true k0
        have k1n : (k : Int) - 1 = ((k - 1 : Nat) : Int) := by omega
        have k1l : ((k - 1 : Nat) : Int) < (r3.f2.length : Int) := by omega
        have k10 : 0 ≤ ((k - 1 : Nat) : Int) := by omega
        have hlb := hpw k0
        obtain ⟨ad', e', hy⟩ := Kd.at_string HR2.out.rows2 ((k - 1 : Nat) : Int) (by omega) k1l
        cases e'
        rw [Int.toNat_natCast] at hy
        generalize rdOf ByteArray.empty r3.f2 ((k - 1 : Nat) : Int) = y at hy hlb
        clear hpw
        cases bm <;> cases bq <;> (
          go_wp2
          go_quiet (fail)
          go_wp2
          go_roundw
          case rel => exact ⟨k + 1, by omega, by rw [HMS.out]; rfl, rfl, ⟨HR2.out.below (by repeat (first | exact Below.refl _ _ | with_reducible apply pw_below_drewN | with_reducible apply below_drew1 | with_reducible apply below_alloc))⟩, ⟨by repeat (first | exact HB.out | with_reducible apply pw_below_drewN | with_reducible apply below_drew1 | with_reducible apply below_alloc)⟩⟩
          case measure => simp [intOf]; omega)
    · have hke : k = r3.f2.length := by omega
      have hfin : hasB (r3.f2.take k) q = (e7 == 0) := by
        rw [hke, List.take_length, Bool.eq_iff_iff, hasB_iff, beq_iff_eq]
        exact HIFF.out.symm
      rw [hfin]
      cases he : (e7 == 0) <;> (
        go_wp2
        go_ret
        exact ⟨rfl, HB.out⟩)
end Go.Proofs.YtllfjmmdackgdaaDoor.PZ
end
