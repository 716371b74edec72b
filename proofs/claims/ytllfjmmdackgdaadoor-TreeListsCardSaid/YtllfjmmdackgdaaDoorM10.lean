import Derived.Test.YtllfjmmdackgdaaDoorM09
import Derived.Test.YtllfjmmdackgdaaDoorM07
import Derived.Test.YtllfjmmdackgdaaDoorM05
import Derived.Test.YtllfjmmdackgdaaDoorM06
set_option linter.unusedVariables false
set_option linter.unusedSimpArgs false
/-! GWalk -/
section
namespace Go.Proofs.YtllfjmmdackgdaaDoor.PZ
open Go.RowKit Go.Proofs.YtllfjmmdackgdaaDoorW.PrintWords Go.Proofs.YtllfjmmdackgdaaDoorW.PrintLast Go.Proofs.YtllfjmmdackgdaaDoorW.PrintMore
set_option maxRecDepth 100000
set_option linter.unusedVariables false
set_option linter.unusedSimpArgs false
/-- Where names lead from a place on: inl: there; inr: what is wrong. -/
def walkF (l : List S58) : List ByteArray → Nat → Option (Nat ⊕ Int)
  | [], a => some (.inl a)
  | n :: r, a => if a < l.length then
      (if (rd_T58 l (a : Int)).f0 = 2 then (dirent_Find.f (rd_T58 l (a : Int)).f3 n).bind fun q =>
        if q.2 = true then (if 0 ≤ q.1 ∧ q.1 < ((rd_T58 l (a : Int)).f3.length : Int) ∧ 0 ≤ (rd_T102 (rd_T58 l (a : Int)).f3 q.1).f1 then walkF l r (rd_T102 (rd_T58 l (a : Int)).f3 q.1).f1.toNat else none) else some (.inr 21)
      else some (.inr 22)) else none
/-- How the call ends. -/
def Goes (res : Nat ⊕ Int) (en : Ending) : Prop := match res with
  | .inl k => en = .returned (.int .i64 k)
  | .inr e => en = .panicked (wrong e)
set_option maxHeartbeats 4000000 in
theorem walk_walk (b : Nat) (A : Option Addr) (cap : Nat) (l : List S58) (rest : List Value) (An : Option Addr) (cn : Nat) (ns : List ByteArray) (res : Nat ⊕ Int) (w : World) (hw : Wk w b (.slice A l.length cap) rest) (hc : Kd.C k58 w A l.length l) (hn : Kd.C Kd.string w An ns.length ns) (hcn : ns.length ≤ cn) (hlen : ns.length < 1000000000) (h : walkF l ns 0 = some res) :
    Calls Tryd.prog 55 #[.pointer (some ⟨b, 0, none⟩), .slice An ns.length cn] w fun en w' => Goes res en ∧ Below w.heap.size w w' := by
  have HC := Aside0.mk hc
  have HW := Aside0.mk hw
  have HN := Aside0.mk hn
  have HE0 := Aside0.mk h
  clear hc hw hn h
  go_enter Tryd.func55, Tryd.ntmps55
  go_wp2
  go_loopw [5, 7, 8, 9, 12] (fun v5 v7 v8 v9 v12 wr => ∃ i a : Nat, v5 = .int .i64 a ∧ v12 = .int .i64 i ∧ i ≤ ns.length ∧ Aside0 (walkF l (ns.drop i) a = some res) ∧ Aside0 (Below w.heap.size w wr)) (fun v5 v7 v8 v9 v12 _ => ns.length - (intOf v12).toNat)
  case atStart => exact ⟨0, 0, rfl, rfl, Nat.zero_le _, ⟨HE0.out⟩, ⟨Below.refl _ _⟩⟩
  case round =>
    obtain ⟨i, a, rfl, rfl, hi, HE, HB⟩ := hrel
    by_cases hlt : i < ns.length
    · obtain ⟨ad, e, hx0⟩ := Kd.at_string HN.out (i : Int) (by omega) (by omega)
      cases e
      rw [Int.toNat_natCast] at hx0
      have e2 : ns.drop i = rdOf ByteArray.empty ns (i : Int) :: ns.drop (i + 1) := by
        rw [List.drop_eq_getElem_cons hlt]
        congr 1
        unfold rdOf
        simp [List.getD_eq_getElem?_getD, List.getElem?_eq_getElem hlt]
      have hE := HE.out
      rw [e2, walkF] at hE
      clear e2
      generalize hX : rdOf ByteArray.empty ns (i : Int) = nm at hx0 hE
      clear hX
      replace hx0 := (HB.out.cell (World.block_lt_of_cell? w _ hx0)).trans hx0
      have hwr : Wk wr b (.slice A l.length cap) rest := (HB.out.block b (blk_lt HW.out)).trans HW.out
      have hcr := Kd.C_below HC.out HB.out
      have HWr := Aside0.mk hwr
      have HCr := Aside0.mk hcr
      clear hwr hcr
      by_cases ha : a < l.length
      · rw [if_pos ha] at hE
        by_cases hk : (rd_T58 l (a : Int)).f0 = 2
        · rw [if_pos hk] at hE
          obtain ⟨⟨q1, q2⟩, hq, hE2⟩ := Option.bind_eq_some_iff.mp hE
          have hdb : ((rd_T58 l (a : Int)).f0 == 2) = true := beq_iff_eq.2 hk
          obtain ⟨ad2, A2, c2, A3, c3, e3, -, -, -, hy3, -, -, hl3, hC3⟩ := at_T58 HCr.out (a : Int) (by omega) (by omega)
          subst e3
          rw [Int.toNat_natCast] at hy3
          have hal : decide ((a : Int) < (l.length : Int)) = true := decide_eq_true (by omega)
          have H0 : wr.cell? ⟨b, 0, none⟩ = some (.slice (some ad2) l.length cap) := (blk_cell HWr.out 0).trans rfl
          have hbl : b < w.heap.size := blk_lt HW.out
          by_cases hq2 : q2 = true
          · subst hq2
            rw [if_pos rfl] at hE2
            by_cases hr : 0 ≤ q1 ∧ q1 < ((rd_T58 l (a : Int)).f3.length : Int) ∧ 0 ≤ (rd_T102 (rd_T58 l (a : Int)).f3 q1).f1
            · rw [if_pos hr] at hE2
              obtain ⟨hr0, hr1, hr2⟩ := hr
              have HE2 := Aside0.mk hE2
              clear hE2 hE
              obtain ⟨qn, rfl⟩ : ∃ qn : Nat, q1 = qn := ⟨q1.toNat, by omega⟩
              obtain ⟨ad4, e4, hz0, hz1⟩ := at_T102 hC3 (qn : Int) (by omega) (by omega)
              subst e4
              rw [Int.toNat_natCast] at hz0 hz1
              clear hz0
              obtain ⟨ino, hino⟩ : ∃ ino : Nat, (rd_T102 (rd_T58 l (a : Int)).f3 (qn : Int)).f1 = ino := ⟨(rd_T102 (rd_T58 l (a : Int)).f3 (qn : Int)).f1.toNat, by omega⟩
              rw [hino] at hz1
              have HE3 : Aside0 (walkF l (ns.drop (i + 1)) ino = some res) := ⟨by have := HE2.out; rw [hino, Int.toNat_natCast] at this; exact this⟩
              have hql : decide ((qn : Int) < ((rd_T58 l (a : Int)).f3.length : Int)) = true := decide_eq_true hr1
              have HQ := Aside0.mk hq
              have HC3 := Aside0.mk hC3
              have HL3 := Aside0.mk hl3
              clear hq hC3 hl3 HE2 hino hr2
              go_wp2_with (first | (go_at_call 82; refine (dir_walk b _ cap l rest a _ ha HWr.out HCr.out).mono ?_; rintro e w1 ⟨rfl, rfl⟩) | (go_at_call 83; refine (dirent_Find.calls _ c3 _ nm qn true _ HC3.out HL3.out HQ.out).mono ?_; rintro e w1 ⟨rfl, hb⟩; have HB2 := Aside0.mk hb; clear hb; have H1 := (HB2.out.cell (World.block_lt_of_cell? _ _ H0)).trans H0; have hy4 := (HB2.out.cell (World.block_lt_of_cell? _ _ hy3)).trans hy3; have hz4 := (HB2.out.cell (World.block_lt_of_cell? _ _ hz1)).trans hz1) | (go_at_call 81; refine (need_ok 22 _).mono ?_; rintro e w2 ⟨rfl, rfl⟩) | (go_at_call 81; refine (need_ok 21 _).mono ?_; rintro e w2 ⟨rfl, rfl⟩))
              go_roundw
              case rel => exact ⟨i + 1, ino, rfl, by simp, by omega, HE3, ⟨below_step HB.out HB2.out⟩⟩
              case measure => simp [intOf]; omega
            · rw [if_neg hr] at hE2
              cases hE2
          · rw [if_neg hq2] at hE2
            obtain rfl := Option.some.inj hE2
            replace hq2 : q2 = false := by simpa using hq2
            subst hq2
            clear hE hE2
            have HQ := Aside0.mk hq
            have HC3 := Aside0.mk hC3
            have HL3 := Aside0.mk hl3
            clear hq hC3 hl3
            go_wp2_with (first | (go_at_call 82; refine (dir_walk b _ cap l rest a _ ha HWr.out HCr.out).mono ?_; rintro e w1 ⟨rfl, rfl⟩) | (go_at_call 83; refine (dirent_Find.calls A3 c3 _ nm q1 false _ HC3.out HL3.out HQ.out).mono ?_; rintro e w1 ⟨rfl, hb⟩; have HB2 := Aside0.mk hb; clear hb) | (go_at_call 81; refine (need_ok 22 _).mono ?_; rintro e w2 ⟨rfl, rfl⟩) | (go_at_call 81; refine (need_bad 21 _).mono ?_; rintro e w2 ⟨rfl, rfl⟩))
            exact ⟨rfl, rfl, below_step HB.out HB2.out⟩
        · rw [if_neg hk] at hE
          obtain rfl := Option.some.inj hE
          clear hE
          have hdb : ((rd_T58 l (a : Int)).f0 == 2) = false := beq_eq_false_iff_ne.2 hk
          go_wp2_with (first | (go_at_call 82; refine (dir_walk b A cap l rest a _ ha HWr.out HCr.out).mono ?_; rintro e w1 ⟨rfl, rfl⟩) | (go_at_call 81; refine (need_bad 22 _).mono ?_; rintro e w1 ⟨rfl, rfl⟩))
          exact ⟨rfl, rfl, HB.out⟩
      · rw [if_neg ha] at hE
        cases hE
    · have hil : i = ns.length := by omega
      subst hil
      have hE := HE.out
      rw [List.drop_length, walkF] at hE
      obtain rfl := Option.some.inj hE
      clear hE
      go_wp2
      go_ret
      exact ⟨rfl, HB.out⟩
end Go.Proofs.YtllfjmmdackgdaaDoor.PZ
end
/-! TP -/
section
namespace Go.Proofs.YtllfjmmdackgdaaDoor.PZ
open Go.RowKit Go.Proofs.YtllfjmmdackgdaaDoorW.PrintWords Go.Proofs.YtllfjmmdackgdaaDoorW.PrintLast Go.Proofs.YtllfjmmdackgdaaDoorW.PrintMore Go.Proofs.YtllfjmmdackgdaaDoor.Ord Go.Proofs.YtllfjmmdackgdaaDoor.B TD
set_option linter.unusedVariables false
set_option linter.unusedSimpArgs false
theorem look_hit {es : List S102} (hs : Srt es) {n : ByteArray} (h : fB es n = true) : ∃ hl : fI es n < es.length, look es n = some es[fI es n] := by
  obtain ⟨hl, h2⟩ := fB_lt h
  exact ⟨hl, (look_iff hs).2 ⟨List.getElem_mem hl, h2⟩⟩
theorem look_miss {es : List S102} (hs : Srt es) {n : ByteArray} (h : fB es n = false) : look es n = none := by
  rw [look_none]
  intro e he hn
  obtain ⟨i, hi, rfl⟩ := List.getElem_of_mem he
  rcases Nat.lt_trichotomy i (fI es n) with h1 | h1 | h1
  · obtain ⟨_, h2⟩ := fI_lt es i h1
    rw [hn, nlt_self] at h2
    cases h2
  · subst h1
    unfold fB at h
    rw [List.getElem?_eq_getElem hi] at h
    have h2 : (es[fI es n].f0.toList == n.toList) = false := h
    rw [hn] at h2
    simp at h2
  · have h2 := hs.lt h1 hi
    rw [hn] at h2
    have h3 := fI_at (l := es) (n := n) (by omega)
    rw [h3] at h2
    cases h2
theorem walkF_eq {l : List S58} (hw : Wf l) (hm : ∀ k, (nd l k).f3.length < 1000000000000) (ns : List ByteArray) : ∀ at_, at_ < l.length → walkF l ns at_ = some (wk l ns at_) := by
  induction ns with
  | nil => intro at_ _; rfl
  | cons n ns ih =>
    intro at_ ha
    rw [walkF, wk, if_pos ha]
    have hr : rd_T58 l (at_ : Int) = nd l at_ := rfl
    rw [hr]
    by_cases hd : (nd l at_).f0 = 2
    · rw [if_pos hd, if_pos hd, find_eq n (hw.srt at_) (hm at_)]
      simp only [Option.bind_some]
      cases h : fB (nd l at_).f3 n with
      | true =>
        obtain ⟨hl, h2⟩ := look_hit (hw.srt at_) h
        have hi := hw.ino_lt (List.getElem_mem hl)
        have hrd := rd_nat (nd l at_).f3 _ hl
        rw [if_pos rfl, h2, hrd, if_pos ⟨by omega, by omega, by omega⟩]
        exact ih _ hi.1
      | false =>
        rw [if_neg (by decide), look_miss (hw.srt at_) h]
    · rw [if_neg hd, if_neg hd]
theorem wk_lt {l : List S58} (hw : Wf l) {ns : List ByteArray} : ∀ {at_ k : Nat}, at_ < l.length → wk l ns at_ = .inl k → k < l.length := by
  induction ns with
  | nil => intro at_ k h0 hk; cases hk; exact h0
  | cons n ns ih =>
    intro at_ k h0 hk
    rw [wk] at hk
    split at hk
    · split at hk
      · rename_i e he
        exact ih (hw.ino_lt (look_some he).1).1 hk
      · cases hk
    · cases hk
def nodeV : Option Nat → Int
  | some k => (k : Int)
  | none => -1
end Go.Proofs.YtllfjmmdackgdaaDoor.PZ
end
/-! GName -/
section
namespace Go.Proofs.YtllfjmmdackgdaaDoor.PZ
open Go.RowKit Go.Proofs.YtllfjmmdackgdaaDoorW.PrintWords Go.Proofs.YtllfjmmdackgdaaDoorW.PrintLast Go.Proofs.YtllfjmmdackgdaaDoorW.PrintMore Go.Proofs.YtllfjmmdackgdaaDoor.B
set_option linter.unusedVariables false
set_option linter.unusedSimpArgs false
theorem name_walk (a0 : ByteArray) (w : World) :
    Calls Tryd.prog 18 #[.string a0] w fun e w' => e = .returned (.bool (nameB a0)) ∧ w' = w := by
  by_cases h1 : a0.toList.isEmpty = true
  · have hr : nameB a0 = false := by simp [nameB, h1]
    rw [hr]; clear hr
    have h1b : (a0.toList == ([] : List UInt8)) = true := by simpa using h1
    go_enter Tryd.func18, Tryd.ntmps18
    go_wp2
    go_ret
    exact ⟨rfl, rfl⟩
  · replace h1 : a0.toList.isEmpty = false := by simpa using h1
    by_cases h2 : (a0.toList == [46]) = true
    · have hr : nameB a0 = false := by simp [nameB, h2]
      rw [hr]; clear hr
      go_enter Tryd.func18, Tryd.ntmps18
      go_wp2
      go_ret
      exact ⟨rfl, rfl⟩
    · replace h2 : (a0.toList == [46]) = false := by simpa using h2
      by_cases h3 : (a0.toList == [46, 46]) = true
      · have hr : nameB a0 = false := by simp [nameB, h3]
        rw [hr]; clear hr
        go_enter Tryd.func18, Tryd.ntmps18
        go_wp2
        go_ret
        exact ⟨rfl, rfl⟩
      · replace h3 : (a0.toList == [46, 46]) = false := by simpa using h3
        have hr : nameB a0 = (decide (a0.size ≤ 12) && decide (Lib.indexByte a0.data.toList 0 < 0) && decide (Lib.indexByte a0.data.toList 47 < 0)) := by
          simp [nameB, h1, h2, h3]
        rw [hr]; clear hr
        by_cases h4 : a0.size ≤ 12
        · have h4b : decide (a0.size ≤ 12) = true := by simpa using h4
          have h4c : decide ((a0.size : Int) ≤ 12) = true := by simp; omega
          by_cases h5 : Lib.indexByte a0.data.toList 0 < 0
          · have h5b : decide (Lib.indexByte a0.data.toList 0 < 0) = true := by simpa using h5
            go_enter Tryd.func18, Tryd.ntmps18
            go_wp2_with (go_at_call 39; refine (Tryd.strings_IndexByte _ _ _).mono ?_; rintro e w' ⟨rfl, rfl⟩)
            go_ret
            exact ⟨by first | (simp [h4, h5]; done) | (simp [h4]; omega), rfl⟩
          · have h5b : decide (Lib.indexByte a0.data.toList 0 < 0) = false := by simpa using h5
            go_enter Tryd.func18, Tryd.ntmps18
            go_wp2_with (go_at_call 39; refine (Tryd.strings_IndexByte _ _ _).mono ?_; rintro e w' ⟨rfl, rfl⟩)
            go_ret
            exact ⟨by first | (simp [h4, h5]; done) | (simp [h4]; omega), rfl⟩
        · have h4b : decide (a0.size ≤ 12) = false := by simpa using h4
          have h4c : decide ((a0.size : Int) ≤ 12) = false := by simp; omega
          go_enter Tryd.func18, Tryd.ntmps18
          go_wp2_with (go_at_call 39; refine (Tryd.strings_IndexByte _ _ _).mono ?_; rintro e w' ⟨rfl, rfl⟩)
          go_ret
          exact ⟨by simp [h4], rfl⟩
end Go.Proofs.YtllfjmmdackgdaaDoor.PZ
end
/-! GRight -/
section
namespace Go.Proofs.YtllfjmmdackgdaaDoor.PZ
open Go.RowKit Go.Proofs.YtllfjmmdackgdaaDoorW.PrintWords Go.Proofs.YtllfjmmdackgdaaDoorW.PrintLast Go.Proofs.YtllfjmmdackgdaaDoorW.PrintMore Go.Proofs.YtllfjmmdackgdaaDoor.B
set_option linter.unusedVariables false
set_option linter.unusedSimpArgs false
/-- The first that is no name. -/
def badFrom (l : List ByteArray) (k : Nat) : Int :=
  if k < l.length then (if nameB (rdOf ByteArray.empty l (k : Int)) = true then badFrom l (k + 1) else (k : Int)) else -1
termination_by l.length - k
decreasing_by omega
theorem rpr_walk (x : ByteArray) (w : World) :
    Calls Tryd.prog 60 #[.string x] w fun e w' => e = .returned (.bool (!nameB x)) ∧ w' = w := by
  go_enter Tryd.func60, Tryd.ntmps60
  go_wp2_with (go_at_call 18; refine (name_walk x _).mono ?_; rintro e w' ⟨rfl, rfl⟩)
  go_ret
  exact ⟨rfl, rfl⟩
set_option maxHeartbeats 1000000 in
theorem bad_walk (A0 : Option Addr) (c0 : Nat) (l0 : List ByteArray) (w : World) (hr0 : Kd.C Kd.string w A0 l0.length l0) (hc0 : l0.length ≤ c0) (hn : l0.length < 1000000000000) :
    Calls Tryd.prog 88 #[.slice A0 l0.length c0, .func (.func 60) #[] #[]] w fun e w' => e = .returned (.int .i64 (badFrom l0 0)) ∧ Below w.heap.size w w' := by
  have HR0 := Aside0.mk hr0
  clear hr0
  go_enter Tryd.func88, Tryd.ntmps88
  go_wp2
  go_loopw [5, 8] (fun v5 v8 wr => ∃ k : Nat, k ≤ l0.length ∧ v8 = .int .i64 k ∧ Aside0 (badFrom l0 k = badFrom l0 0) ∧ Aside0 (Below w.heap.size w wr)) (fun v5 v8 _ => l0.length - (intOf v8).toNat)
  case atStart => exact ⟨0, Nat.zero_le _, rfl, ⟨rfl⟩, ⟨Below.refl _ _⟩⟩
  case round =>
    obtain ⟨k, hk, rfl, HE, HB⟩ := hrel
    by_cases hlt : k < l0.length
    · obtain ⟨ad, e, hx0⟩ := Kd.at_string HR0.out (k : Int) (by omega) (by omega)
      cases e
      rw [Int.toNat_natCast] at hx0
      generalize hX : rdOf ByteArray.empty l0 (k : Int) = x at hx0
      replace hx0 := (HB.out.cell (World.block_lt_of_cell? w _ hx0)).trans hx0
      by_cases hp : nameB x = true
      · have HE2 := Aside0.mk (HE.out.symm.trans (by rw [badFrom, if_pos hlt, hX, if_pos hp] : badFrom l0 k = badFrom l0 (k + 1)))
        have hp2 : (!nameB x) = false := by rw [hp]; rfl
        clear hX
        go_wp2_with (go_at_call 60; refine (rpr_walk x _).mono ?_; rintro e w' ⟨rfl, rfl⟩)
        go_roundw
        case rel => exact ⟨k + 1, by omega, rfl, ⟨HE2.out.symm⟩, HB⟩
        case measure => simp [intOf]; omega
      · replace hp : nameB x = false := by simpa using hp
        have HQ := Aside0.mk (HE.out.symm.trans (by rw [badFrom, if_pos hlt, hX, if_neg (by rw [hp]; decide)] : badFrom l0 k = (k : Int)))
        have hp2 : (!nameB x) = true := by rw [hp]; rfl
        clear hX
        go_wp2_with (go_at_call 60; refine (rpr_walk x _).mono ?_; rintro e w' ⟨rfl, rfl⟩)
        go_ret
        exact ⟨by rw [HQ.out]; rfl, HB.out⟩
    · have hkl : k = l0.length := by omega
      subst hkl
      have HQ := Aside0.mk (HE.out.symm.trans (by rw [badFrom, if_neg (by omega)] : badFrom l0 l0.length = (-1 : Int)))
      go_wp2
      go_ret
      exact ⟨by rw [HQ.out]; rfl, HB.out⟩
theorem bad_all (l : List ByteArray) : ∀ (d k : Nat), l.length - k = d → (badFrom l k < 0 ↔ (l.drop k).all nameB = true) := by
  intro d
  induction d with
  | zero =>
    intro k hd
    rw [badFrom, if_neg (by omega), List.drop_of_length_le (by omega)]
    simp
  | succ d ih =>
    intro k hd
    have hkl : k < l.length := by omega
    have e2 : l.drop k = l[k] :: l.drop (k + 1) := List.drop_eq_getElem_cons hkl
    have r : rdOf ByteArray.empty l (k : Int) = l[k] := by
      unfold rdOf
      simp [List.getD_eq_getElem?_getD, List.getElem?_eq_getElem hkl]
    rw [badFrom, if_pos hkl, r, e2, List.all_cons]
    by_cases h : nameB l[k] = true
    · rw [if_pos h, h, Bool.true_and]
      exact ih (k + 1) (by omega)
    · rw [if_neg h]
      have : nameB l[k] = false := by simpa using h
      rw [this]
      simp
def rightN (l : List ByteArray) : Bool := decide (l.length ≤ 8) && l.all nameB
def path_right.f (l0 : List ByteArray) : Option Bool := if l0.length < 1000000000000 then some (rightN l0) else none
theorem contains_walk (A0 : Option Addr) (c0 : Nat) (l0 : List ByteArray) (w : World) (hr0 : Kd.C Kd.string w A0 l0.length l0) (hc0 : l0.length ≤ c0) (hn : l0.length < 1000000000000) :
    Calls Tryd.prog 59 #[.slice A0 l0.length c0, .func (.func 60) #[] #[]] w fun e w' => e = .returned (.bool (decide (badFrom l0 0 ≥ 0))) ∧ Below w.heap.size w w' := by
  have HR0 := Aside0.mk hr0
  clear hr0
  go_enter Tryd.func59, Tryd.ntmps59
  go_wp2_with (go_at_call 88; refine (bad_walk _ _ l0 _ HR0.out hc0 hn).mono ?_; rintro e w' ⟨rfl, hb⟩; have HB := Aside0.mk hb; clear hb)
  go_ret
  exact ⟨rfl, HB.out⟩
theorem path_right.calls (A0 : Option Addr) (c0 : Nat) (l0 : List ByteArray) (r : Bool) (w : World) (hr0 : Kd.C Kd.string w A0 l0.length l0) (hc0 : l0.length ≤ c0) (h : path_right.f l0 = some r) :
    Calls Tryd.prog 38 #[.slice A0 l0.length c0] w fun e w' => e = .returned (.bool r) ∧ Below w.heap.size w w' := by
  unfold path_right.f at h
  by_cases hn : l0.length < 1000000000000
  · rw [if_pos hn] at h
    obtain rfl := Option.some.inj h
    clear h
    have HR0 := Aside0.mk hr0
    clear hr0
    by_cases h8 : l0.length ≤ 8
    · have h8b : decide ((l0.length : Int) ≤ 8) = true := decide_eq_true (by omega)
      have hq : rightN l0 = !decide (badFrom l0 0 ≥ 0) := by
        unfold rightN
        rw [decide_eq_true h8, Bool.true_and, Bool.eq_iff_iff]
        have := bad_all l0 l0.length 0 (by omega)
        rw [List.drop_zero] at this
        rw [← this]
        simp
      rw [hq]
      clear hq
      go_enter Tryd.func38, Tryd.ntmps38
      go_wp2_with (go_at_call 59; refine (contains_walk _ _ l0 _ HR0.out hc0 hn).mono ?_; rintro e w' ⟨rfl, hb⟩; have HB := Aside0.mk hb; clear hb)
      go_ret
      exact ⟨rfl, HB.out⟩
    · have h8b : decide ((l0.length : Int) ≤ 8) = false := decide_eq_false (by omega)
      have hq : rightN l0 = false := by unfold rightN; rw [decide_eq_false h8]; rfl
      rw [hq]
      clear hq
      go_enter Tryd.func38, Tryd.ntmps38
      go_wp2
      go_ret
      exact ⟨rfl, Below.refl _ _⟩
  · rw [if_neg hn] at h
    cases h
end Go.Proofs.YtllfjmmdackgdaaDoor.PZ
end
/-! GStr -/
section
namespace Go.Proofs.YtllfjmmdackgdaaDoor.PZ
open Go.RowKit Go.Proofs.YtllfjmmdackgdaaDoorW.PrintWords Go.Proofs.YtllfjmmdackgdaaDoorW.PrintLast Go.Proofs.YtllfjmmdackgdaaDoorW.PrintMore
set_option linter.unusedVariables false
def oneB (s : ByteArray) : Option UInt8 := match s.data.toList with
  | [c] => some c
  | _ => none
theorem oneB_eq {s : ByteArray} {c : UInt8} (h : oneB s = some c) : s = ⟨#[c]⟩ := by
  unfold oneB at h
  split at h
  · rename_i hl
    cases h
    obtain ⟨a⟩ := s
    congr 1
    exact Array.toList_inj.1 hl
  · cases h
def strings_Index.f (a0 a1 : ByteArray) : Option Int := (oneB a1).bind fun c => some (Lib.indexByte a0.data.toList c)
def strings_Count.f (a0 a1 : ByteArray) : Option Int := (oneB a1).bind fun c => some (Lib.countByte a0.data.toList c)
def strings_explode.f (a0 : ByteArray) (a1 : Int) : Option (List ByteArray) := none
theorem strings_Index.calls (a0 a1 : ByteArray) (r : Int) (w : World) (h : strings_Index.f a0 a1 = some r) :
    Calls Tryd.prog 87 #[.string a0, .string a1] w fun e w' => e = .returned (.int .i64 r) ∧ Drawn0 w w' := by
  obtain ⟨c, hc, hr⟩ := Option.bind_eq_some_iff.mp h
  cases hr
  rw [oneB_eq hc]
  refine (Tryd.strings_Index_one a0 c w).mono ?_
  rintro e w' ⟨rfl, rfl⟩
  exact ⟨rfl, Drawn0.refl _⟩
theorem strings_Count.calls (a0 a1 : ByteArray) (r : Int) (w : World) (h : strings_Count.f a0 a1 = some r) :
    Calls Tryd.prog 86 #[.string a0, .string a1] w fun e w' => e = .returned (.int .i64 r) ∧ Drawn0 w w' := by
  obtain ⟨c, hc, hr⟩ := Option.bind_eq_some_iff.mp h
  cases hr
  rw [oneB_eq hc]
  refine (Tryd.strings_Count_one a0 c w).mono ?_
  rintro e w' ⟨rfl, rfl⟩
  exact ⟨rfl, Drawn0.refl _⟩
theorem strings_explode.calls (a0 : ByteArray) (a1 : Int) (r : List ByteArray) (w : World) (h : strings_explode.f a0 a1 = some r) :
    Calls Tryd.prog 85 #[.string a0, .int .i64 a1] w fun e w' => ∃ v0_ : Value, e = .returned (v0_) ∧ Kd.R Kd.string 9 w' w.heap.size (fun _ => True) v0_ r ∧ Below w.heap.size w w' := by cases h
end Go.Proofs.YtllfjmmdackgdaaDoor.PZ
end
