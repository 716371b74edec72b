import Derived.Test.YtbhjggbijkjmnaaGreatDoorM05
import Derived.Test.YtbhjggbijkjmnaaGreatDoorM02
import Derived.Test.YtbhjggbijkjmnaaGreatDoorM03
set_option linter.unusedVariables false
set_option linter.unusedSimpArgs false
section
namespace Go.Proofs.YtbhjggbijkjmnaaGreatDoor.PZ
open Go.RowKit Go.Proofs.YtbhjggbijkjmnaaGreatDoorW.PrintWords Go.Proofs.YtbhjggbijkjmnaaGreatDoorW.PrintLast Go.Proofs.YtbhjggbijkjmnaaGreatDoorW.PrintMore Go.Proofs.YtbhjggbijkjmnaaGreatDoor.B Go.Proofs.YtbhjggbijkjmnaaGreatDoor.Ord TD
set_option maxRecDepth 100000
theorem Qha {es : List S62} (hs : Srt es) {n : ByteArray} (h : fB es n = true) : ∃ hl : fI es n < es.length, look es n = some es[fI es n] := by
 obtain ⟨hl, h2⟩ := fB_lt h
 exact ⟨hl, (look_iff hs).2 ⟨List.getElem_mem hl, h2⟩⟩
theorem Qfq {es : List S62} (hs : Srt es) {n : ByteArray} (h : fB es n = false) : look es n = none := by
 rw [Qfv]
 intro e he hn
 obtain ⟨i, hi, rfl⟩ := List.getElem_of_mem he
 rcases Nat.lt_trichotomy i (fI es n) with h1 | h1 | h1
 ·
  obtain ⟨_, h2⟩ := fI_lt es i h1
  rw [hn, nlt_self] at h2
  cases h2
 ·
  subst h1
  unfold fB at h
  rw [List.getElem?_eq_getElem hi] at h
  have h2 : (es[fI es n].f0.toList == n.toList) = false := h
  rw [hn] at h2
  simp at h2
 ·
  have h2 := hs.lt h1 hi
  rw [hn] at h2
  have h3 := fI_at (l := es) (n := n) zq3
  rw [h3] at h2
  cases h2
theorem walkF_eq {l : List S52} (hw : Wf l) (hm : ∀ k, (nd l k).f3.length < 1000000000000) (ns : List ByteArray) : ∀ at_, at_ < l.length → walkF l ns at_ = some (wk l ns at_) := by
 induction ns with
 | nil => intro at_ _; rfl
 | cons n ns ih =>
  intro at_ ha
  rw [walkF, wk, if_pos ha]
  have hr : rd_T52 l (at_ : Int) = nd l at_ := rfl
  rw [hr]
  by_cases hd : (nd l at_).f0 = 2
  ·
   rw [if_pos hd, if_pos hd, find_eq n (hw.srt at_) (hm at_)]
   simp only [Option.bind_some]
   cases h : fB (nd l at_).f3 n with
   | true =>
    obtain ⟨hl, h2⟩ := Qha (hw.srt at_) h
    have hi := hw.ino_lt (List.getElem_mem hl)
    have hrd := Qft (nd l at_).f3 _ hl
    rw [if_pos rfl, h2, hrd, if_pos ⟨by omega, by omega, by omega⟩]
    exact ih _ hi.1
   | false =>
    rw [if_neg zq9, Qfq (hw.srt at_) h]
  · rw [if_neg hd, if_neg hd]
theorem wk_lt {l : List S52} (hw : Wf l) {ns : List ByteArray} : ∀ {at_ k : Nat}, at_ < l.length → wk l ns at_ = .inl k → k < l.length := by
 induction ns with
 | nil => intro at_ k h0 hk; cases hk; exact h0
 | cons n ns ih =>
  intro at_ k h0 hk
  rw [wk] at hk
  split at hk
  ·
   split at hk
   ·
    rename_i e he
    exact ih (hw.ino_lt (Qdg he).1).1 hk
   · cases hk
  · cases hk
def nodeV : Option Nat → Int
 | some k => (k : Int)
 | none => -1
theorem Qec (a0 : ByteArray) (w : World) :
  Calls Tryz.prog 71 #[.string a0] w fun e w' => e = .returned (.bool (nameB a0)) ∧ w' = w := by
 by_cases h1 : a0.toList.isEmpty = true
 ·
  have hr : nameB a0 = false := by simp [nameB, h1]
  rw [hr]; clear hr
  have h1b : (a0.toList == ([] : List UInt8)) = true := by simpa using h1
  go_enter Tryz.func71, Tryz.ntmps71
  go_wp2
  go_ret
  exact ⟨rfl, rfl⟩
 ·
  replace h1 : a0.toList.isEmpty = false := by simpa using h1
  by_cases h2 : (a0.toList == [46]) = true
  ·
   have hr : nameB a0 = false := by simp [nameB, h2]
   rw [hr]; clear hr
   go_enter Tryz.func71, Tryz.ntmps71
   go_wp2
   go_ret
   exact ⟨rfl, rfl⟩
  ·
   replace h2 : (a0.toList == [46]) = false := by simpa using h2
   by_cases h3 : (a0.toList == [46, 46]) = true
   ·
    have hr : nameB a0 = false := by simp [nameB, h3]
    rw [hr]; clear hr
    go_enter Tryz.func71, Tryz.ntmps71
    go_wp2
    go_ret
    exact ⟨rfl, rfl⟩
   ·
    replace h3 : (a0.toList == [46, 46]) = false := by simpa using h3
    have hr : nameB a0 = (decide (a0.size ≤ 12) && decide (Lib.indexByte a0.data.toList 0 < 0) && decide (Lib.indexByte a0.data.toList 47 < 0)) := by
     simp [nameB, h1, h2, h3]
    rw [hr]; clear hr
    by_cases h4 : a0.size ≤ 12
    ·
     have h4b : decide (a0.size ≤ 12) = true := by simpa using h4
     have h4c : decide ((a0.size : Int) ≤ 12) = true := by simp; omega
     by_cases h5 : Lib.indexByte a0.data.toList 0 < 0
     ·
      have h5b : decide (Lib.indexByte a0.data.toList 0 < 0) = true := by simpa using h5
      go_enter Tryz.func71, Tryz.ntmps71
      go_wp2_with (go_at_call 92; refine (Tryz.strings_IndexByte _ _ _).mono ?_; rintro e w' ⟨rfl, rfl⟩)
      go_ret
      exact ⟨by first | (simp [h4, h5]; done) | (simp [h4]; omega), rfl⟩
     ·
      have h5b : decide (Lib.indexByte a0.data.toList 0 < 0) = false := by simpa using h5
      go_enter Tryz.func71, Tryz.ntmps71
      go_wp2_with (go_at_call 92; refine (Tryz.strings_IndexByte _ _ _).mono ?_; rintro e w' ⟨rfl, rfl⟩)
      go_ret
      exact ⟨by first | (simp [h4, h5]; done) | (simp [h4]; omega), rfl⟩
    ·
     have h4b : decide (a0.size ≤ 12) = false := by simpa using h4
     have h4c : decide ((a0.size : Int) ≤ 12) = false := by simp; omega
     go_enter Tryz.func71, Tryz.ntmps71
     go_wp2_with (go_at_call 92; refine (Tryz.strings_IndexByte _ _ _).mono ?_; rintro e w' ⟨rfl, rfl⟩)
     go_ret
     exact ⟨by simp [h4], rfl⟩
def Qcs (l : List ByteArray) (k : Nat) : Int :=
 if k < l.length then (if nameB (rdOf ByteArray.empty l (k : Int)) = true then Qcs l (k + 1) else (k : Int)) else -1
termination_by l.length - k
decreasing_by omega
theorem rpr_walk (x : ByteArray) (w : World) :
  Calls Tryz.prog 103 #[.string x] w fun e w' => e = .returned (.bool (!nameB x)) ∧ w' = w := by
 go_enter Tryz.func103, Tryz.ntmps103
 go_wp2_with (go_at_call 71; refine (Qec x _).mono ?_; rintro e w' ⟨rfl, rfl⟩)
 go_ret
 exact ⟨rfl, rfl⟩
set_option maxHeartbeats 1000000 in
theorem bad_walk (A0 : Option Addr) (c0 : Nat) (l0 : List ByteArray) (w : World) (hr0 : Kd.C Kd.string w A0 l0.length l0) (hc0 : l0.length ≤ c0) (hn : l0.length < 1000000000000) :
  Calls Tryz.prog 113 #[.slice A0 l0.length c0, .func (.func 103) #[] #[]] w fun e w' => e = .returned (.int .i64 (Qcs l0 0)) ∧ Below w.heap.size w w' := by
 have HR0 := am hr0
 clear hr0
 go_enter Tryz.func113, Tryz.ntmps113
 go_wp2
 go_loopw [5, 8] (fun v5 v8 wr => ∃ k : Nat, k ≤ l0.length ∧ v8 = .int .i64 k ∧ Aside0 (Qcs l0 k = Qcs l0 0) ∧ Aside0 (Below w.heap.size w wr)) (fun v5 v8 _ => l0.length - (intOf v8).toNat)
 case atStart => exact ⟨0, Nat.zero_le _, rfl, ⟨rfl⟩, ⟨Below.refl _ _⟩⟩
 case round =>
  obtain ⟨k, hk, rfl, HE, HB⟩ := hrel
  by_cases hlt : k < l0.length
  ·
   obtain ⟨ad, e, hx0⟩ := Kd.at_string HR0.out (k : Int) zq3 zq3
   cases e
   rw [Int.toNat_natCast] at hx0
   generalize hX : rdOf ByteArray.empty l0 (k : Int) = x at hx0
   replace hx0 := (HB.out.cell (World.block_lt_of_cell? w _ hx0)).trans hx0
   by_cases hp : nameB x = true
   ·
    have HE2 := am (HE.out.symm.trans (by rw [Qcs, if_pos hlt, hX, if_pos hp] : Qcs l0 k = Qcs l0 (k + 1)))
    have hp2 : (!nameB x) = false := by rw [hp]; rfl
    clear hX
    go_wp2_with (go_at_call 103; refine (rpr_walk x _).mono ?_; rintro e w' ⟨rfl, rfl⟩)
    go_roundw
    case rel => exact ⟨k + 1, by omega, rfl, ⟨HE2.out.symm⟩, HB⟩
    case measure => simp [intOf]; omega
   ·
    replace hp : nameB x = false := by simpa using hp
    have HQ := am (HE.out.symm.trans (by rw [Qcs, if_pos hlt, hX, if_neg (by rw [hp]; decide)] : Qcs l0 k = (k : Int)))
    have hp2 : (!nameB x) = true := by rw [hp]; rfl
    clear hX
    go_wp2_with (go_at_call 103; refine (rpr_walk x _).mono ?_; rintro e w' ⟨rfl, rfl⟩)
    go_ret
    exact ⟨by rw [HQ.out]; rfl, HB.out⟩
  ·
   have hkl : k = l0.length := by omega
   subst hkl
   have HQ := am (HE.out.symm.trans (by rw [Qcs, if_neg zq3] : Qcs l0 l0.length = (-1 : Int)))
   go_wp2
   go_ret
   exact ⟨by rw [HQ.out]; rfl, HB.out⟩
theorem bad_all (l : List ByteArray) : ∀ (d k : Nat), l.length - k = d → (Qcs l k < 0 ↔ (l.drop k).all nameB = true) := by
 intro d
 induction d with
 | zero =>
  intro k hd
  rw [Qcs, if_neg zq3, List.drop_of_length_le zq3]
  simp
 | succ d ih =>
  intro k hd
  have hkl : k < l.length := by omega
  have e2 : l.drop k = l[k] :: l.drop (k + 1) := List.drop_eq_getElem_cons hkl
  have r : rdOf ByteArray.empty l (k : Int) = l[k] := by
   unfold rdOf
   simp [List.getD_eq_getElem?_getD, List.getElem?_eq_getElem hkl]
  rw [Qcs, if_pos hkl, r, e2, List.all_cons]
  by_cases h : nameB l[k] = true
  ·
   rw [if_pos h, h, Bool.true_and]
   exact ih (k + 1) zq3
  ·
   rw [if_neg h]
   have : nameB l[k] = false := by simpa using h
   rw [this]
   simp
def Qf (l : List ByteArray) : Bool := decide (l.length ≤ 8) && l.all nameB
def path_right.f (l0 : List ByteArray) : Option Bool := if l0.length < 1000000000000 then some (Qf l0) else none
theorem contains_walk (A0 : Option Addr) (c0 : Nat) (l0 : List ByteArray) (w : World) (hr0 : Kd.C Kd.string w A0 l0.length l0) (hc0 : l0.length ≤ c0) (hn : l0.length < 1000000000000) :
  Calls Tryz.prog 102 #[.slice A0 l0.length c0, .func (.func 103) #[] #[]] w fun e w' => e = .returned (.bool (decide (Qcs l0 0 ≥ 0))) ∧ Below w.heap.size w w' := by
 have HR0 := am hr0
 clear hr0
 go_enter Tryz.func102, Tryz.ntmps102
 go_wp2_with (go_at_call 113; refine (bad_walk _ _ l0 _ HR0.out hc0 hn).mono ?_; rintro e w' ⟨rfl, hb⟩; have HB := am hb; clear hb)
 go_ret
 exact ⟨rfl, HB.out⟩
theorem path_right.calls (A0 : Option Addr) (c0 : Nat) (l0 : List ByteArray) (r : Bool) (w : World) (hr0 : Kd.C Kd.string w A0 l0.length l0) (hc0 : l0.length ≤ c0) (h : path_right.f l0 = some r) :
  Calls Tryz.prog 90 #[.slice A0 l0.length c0] w fun e w' => e = .returned (.bool r) ∧ Below w.heap.size w w' := by
 unfold path_right.f at h
 by_cases hn : l0.length < 1000000000000
 ·
  rw [if_pos hn] at h
  obtain rfl := Option.some.inj h
  clear h
  have HR0 := am hr0
  clear hr0
  by_cases h8 : l0.length ≤ 8
  ·
   have h8b : decide ((l0.length : Int) ≤ 8) = true := decide_eq_true zq3
   have hq : Qf l0 = !decide (Qcs l0 0 ≥ 0) := by
    unfold Qf
    rw [decide_eq_true h8, Bool.true_and, Bool.eq_iff_iff]
    have := bad_all l0 l0.length 0 zq3
    rw [List.drop_zero] at this
    rw [← this]
    simp
   rw [hq]
   clear hq
   go_enter Tryz.func90, Tryz.ntmps90
   go_wp2_with (go_at_call 102; refine (contains_walk _ _ l0 _ HR0.out hc0 hn).mono ?_; rintro e w' ⟨rfl, hb⟩; have HB := am hb; clear hb)
   go_ret
   exact ⟨rfl, HB.out⟩
  ·
   have h8b : decide ((l0.length : Int) ≤ 8) = false := decide_eq_false zq3
   have hq : Qf l0 = false := by unfold Qf; rw [decide_eq_false h8]; rfl
   rw [hq]
   clear hq
   go_enter Tryz.func90, Tryz.ntmps90
   go_wp2
   go_ret
   exact ⟨rfl, Below.refl _ _⟩
 ·
  rw [if_neg hn] at h
  cases h
def oneB (s : ByteArray) : Option UInt8 := match s.data.toList with
 | [c] => some c
 | _ => none
theorem oneB_eq {s : ByteArray} {c : UInt8} (h : oneB s = some c) : s = ⟨#[c]⟩ := by
 unfold oneB at h
 split at h
 ·
  rename_i hl
  cases h
  obtain ⟨a⟩ := s
  congr 1
  exact Array.toList_inj.1 hl
 · cases h
def strings_Index.f (a0 a1 : ByteArray) : Option Int := (oneB a1).bind fun c => some (Lib.indexByte a0.data.toList c)
def strings_Count.f (a0 a1 : ByteArray) : Option Int := (oneB a1).bind fun c => some (Lib.countByte a0.data.toList c)
def strings_explode.f (a0 : ByteArray) (a1 : Int) : Option (List ByteArray) := none
theorem strings_Index.calls (a0 a1 : ByteArray) (r : Int) (w : World) (h : strings_Index.f a0 a1 = some r) :
  Calls Tryz.prog 112 #[.string a0, .string a1] w fun e w' => e = .returned (.int .i64 r) ∧ Drawn0 w w' := by
 obtain ⟨c, hc, hr⟩ := Option.bind_eq_some_iff.mp h
 cases hr
 rw [oneB_eq hc]
 refine (Tryz.strings_Index_one a0 c w).mono ?_
 rintro e w' ⟨rfl, rfl⟩
 exact ⟨rfl, Drawn0.refl _⟩
theorem strings_Count.calls (a0 a1 : ByteArray) (r : Int) (w : World) (h : strings_Count.f a0 a1 = some r) :
  Calls Tryz.prog 111 #[.string a0, .string a1] w fun e w' => e = .returned (.int .i64 r) ∧ Drawn0 w w' := by
 obtain ⟨c, hc, hr⟩ := Option.bind_eq_some_iff.mp h
 cases hr
 rw [oneB_eq hc]
 refine (Tryz.strings_Count_one a0 c w).mono ?_
 rintro e w' ⟨rfl, rfl⟩
 exact ⟨rfl, Drawn0.refl _⟩
theorem strings_explode.calls (a0 : ByteArray) (a1 : Int) (r : List ByteArray) (w : World) (h : strings_explode.f a0 a1 = some r) :
  Calls Tryz.prog 110 #[.string a0, .int .i64 a1] w fun e w' => ∃ v0_ : Value, e = .returned (v0_) ∧ Kd.R Kd.string 9 w' w.heap.size (fun _ => True) v0_ r ∧ Below w.heap.size w w' := by cases h
end Go.Proofs.YtbhjggbijkjmnaaGreatDoor.PZ
end
