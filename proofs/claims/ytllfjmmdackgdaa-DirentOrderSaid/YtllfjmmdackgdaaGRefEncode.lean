/- The walk of moraineref11.Encode. -/
import Derived.Test.YtllfjmmdackgdaaPZx0
import Derived.Test.YtllfjmmdackgdaaPZx5
import Derived.Deep.RegionHeld3
import Derived.Deep.AppendLies
import Derived.StillTactics
import Derived.WalkSpells
import Derived.Laws.Pointers
namespace Go.Proofs.Ytllfjmmdackgdaa.PZ
open Go.RowKit Go.Proofs.YtllfjmmdackgdaaW.PrintWords Go.Proofs.YtllfjmmdackgdaaW.PrintLast Go.Proofs.YtllfjmmdackgdaaW.PrintMore
set_option linter.unusedVariables false
set_option linter.unusedSimpArgs false

def encRef (x : S24) : List Int := [x.f1 % 256, 0, (x.f0.size : Int) % 256]
def refGo : List S24 → List Int → Option (List Int)
  | [], out => some out
  | x :: r, out => if out.length + x.f0.size < 1000000000000 then refGo r ((out ++ encRef x) ++ bytesOf x.f0) else none
def moraineref11_Encode.f (k : Nat) (l0 : List S24) : Option (List Int × Bool) :=
  (moraineref11_Right.f k l0).bind fun t => if t = true then (refGo l0 []).bind fun b => some (b, true) else some ([], false)
theorem moraineref11_Encode.mono : ∀ a0 k, LeO (moraineref11_Encode.f k a0) (moraineref11_Encode.f (k + 1) a0) := by
  intro a0 k
  unfold moraineref11_Encode.f
  refine LeO.bind (moraineref11_Right.mono _ _) (fun t => ?_)
  exact LeO.refl _

set_option maxHeartbeats 4000000 in
theorem ref_encode_walk (k : Nat) (A0 : Option Addr) (c0 : Nat) (l0 : List S24) (res : List Int) (w : World) (hr0 : Kd.C k24 w A0 l0.length l0) (hc0 : l0.length ≤ c0) (hn : l0.length < 1000000000000) (ht : moraineref11_Right.f k l0 = some true) (he : refGo l0 [] = some res) :
    Calls Try.prog 20 #[.slice A0 l0.length c0] w fun e w' => ∃ v0_ : Value, e = .returned (.tuple #[v0_, .bool true]) ∧ Kd.R (Kd.int .u8) 5 w' w.heap.size (fun _ => True) v0_ res ∧ Below w.heap.size w w' := by
  have hu := Try.underlying24
  have HR0 := Aside0.mk hr0
  have HT := Aside0.mk ht
  have HE := Aside0.mk he
  clear hr0 ht he
  go_enter Try.func20, Try.ntmps20
  go_wp2_with (first
    | (go_at_call 34; refine (moraineref11_Right.calls k _ _ l0 true _ HR0.out hc0 HT.out).mono ?_; rintro e w1 ⟨rfl, hb⟩; have HB0 := Aside0.mk hb; clear hb)
    | ((with_reducible refine gate_dst (N := 9) rfl ?_); refine Kd.R_lit (Kd.int .u8) _ 5 ?hg (N := 9) ?hd (xs := ([] : List Int)) (inner := []) (ok := fun _ => True) (okp := fun _ => True) ?hr ?hp (fun _ hk => hk) trivial (Below.refl _ _) (Nat.le_refl _) (by simp) ?_; (case hd => rfl); (case hg => rfl); (case hr => first | (go_simp; done) | (go_simp; rfl)); (case hp => exact (Reps.none _ _)); intro v9 w9 ho hb hg_ hnew_; clear hg_ hnew_; have HO := Aside0.mk ho; have HB := Aside0.mk hb; clear hb ho))
  go_loopw [4, 5] (fun v4 v5 wr => ∃ (j : Nat) (out : List Int), j ≤ l0.length ∧ v5 = .int .i64 j ∧ Aside0 (refGo (l0.drop j) out = some res) ∧ Aside0 (Kd.R (Kd.int .u8) 5 wr w.heap.size (fun _ => True) v4 out) ∧ Aside0 (Below w.heap.size w wr)) (fun v4 v5 _ => l0.length - (intOf v5).toNat)
  case atStart => exact ⟨0, [], Nat.zero_le _, rfl, ⟨HE.out⟩, ⟨Kd.R_lower HO.out HB0.out.size⟩, ⟨HB0.out.trans (HB.out.mono HB0.out.size)⟩⟩
  case round =>
    clear HB HE HO
    obtain ⟨j, out, hj, rfl, HE, HO, HB⟩ := hrel
    by_cases hlt : j < l0.length
    · obtain ⟨ad, e, hx0, hx1⟩ := at_T24 HR0.out (j : Int) (by omega) (by omega)
      cases e
      rw [Int.toNat_natCast] at hx0 hx1
      have HLW := Aside0.mk (World.block_lt_of_cell? w _ hx0)
      replace hx0 := (HB.out.cell (World.block_lt_of_cell? w _ hx0)).trans hx0
      replace hx1 := (HB.out.cell (World.block_lt_of_cell? w _ hx1)).trans hx1
      have hE2 := HE.out
      rw [List.drop_eq_getElem_cons hlt] at hE2
      have hq : rd_T24 l0 (j : Int) = l0[j] := by unfold rd_T24; simp [List.getD_eq_getElem?_getD, List.getElem?_eq_getElem hlt]
      rw [hq] at hx0 hx1
      clear hq
      generalize l0[j] = x at hx0 hx1 hE2
      unfold refGo at hE2
      by_cases hl : out.length + x.f0.size < 1000000000000
      · rw [if_pos hl] at hE2
        have HE3 := Aside0.mk hE2
        have HL := Aside0.mk hl
        clear hE2 hl
        have hjb : decide ((j : Int) < l0.length) = true := decide_eq_true (by omega)
        go_wp2
        obtain ⟨i0, hi0, hz0, hz1, hz2⟩ := info_parts info5
        have hown := Kd.own_of_R HO.out
        have HOWN := Aside0.mk hown
        clear hown
        have lg : (ad.add (j * 2)).block < wr.heap.size := World.block_lt_of_cell? wr _ hx0
        have lg0 : (ad.add (j * 2)).block < w.heap.size := HLW.out
        have ag : u4.ownBlock ≠ some (ad.add (j * 2)).block := fun h => by have := Kd.R_base HO.out _ h; omega
        go_region_held3 (fun w' => w'.cell? (ad.add (j * 2)) = some (.string x.f0) ∧ w'.cell? ⟨(ad.add (j * 2)).block, (ad.add (j * 2)).off + 1, none⟩ = some (.int .i64 x.f1))
          (first
            | go_keep
            | (go_split_ands
               refine ⟨?_, ?_⟩
               · (rw [hgrow.cell_far _ (by simp; omega) (Ne.symm ag)]; assumption)
               · (refine (hgrow.cell_far ⟨(ad.add (j * 2)).block, (ad.add (j * 2)).off + 1, none⟩ (by simp; omega) (Ne.symm ag)).trans ?_; assumption)))
          ((refine step_append_lies _ (by rfl) _ _ _ (by rfl) w.heap.size 5 i0 _ 1 1 Try.underlying34 hi0 hz0 hz1 hz2 rfl (by omega) u4 out.length _ (by rfl) ((HOWN.out.alloc _).drew)
              ⟨wr.heap.size, 0, none⟩ 3 3 [.int .u8 (x.f1 % 256), .int .u8 0, .int .u8 ((x.f0.size : Int) % 256)] (by rfl) (by rfl) (World.news_of_block (cs := #[.int .u8 (x.f1 % 256), .int .u8 0, .int .u8 ((x.f0.size : Int) % 256)]) (t := 5) (fr := (0, 0)) (heap_alloc_new wr _)) (by simp [Value.oneCell'])
              (by omega) (by have := HL.out; unfold maxLen; omega) (by have := HL.out; omega) (by simp; exact Nat.le_trans HB.out.size (Nat.le_succ _)) (wr.heap.size + 1) (by simp) ?_; intro gg cap w1 hown1 hgrow hat hlt))
        have HO2 := Aside0.mk (show w1.ownsRow w.heap.size 5 1 (.slice (some ⟨gg, 0, none⟩) (out.length + 3) cap) (out ++ encRef x).length (nums .u8 (out ++ encRef x)) by
          have e1 : (out ++ encRef x).length = out.length + 3 := by rw [List.length_append]; rfl
          rw [e1, nums_append]
          exact hown1)
        have HB2 := Aside0.mk (pw_below_grown (below_drew (below_alloc HB.out _)) _ (by simp; exact Nat.le_trans HB.out.size (Nat.le_succ _)) hgrow (fun k hk => Kd.R_base HO.out k hk))
        have hy0 : w1.cell? (ad.add (j * 2)) = some (.string x.f0) := (hgrow.cell_far _ (by simp; omega) (Ne.symm ag)).trans (Lib.cell?_alloc_some (W := wr) _ hx0)
        clear hown1 hgrow hat hlt HOWN hi0 hz0 hz1 hz2 hx0 hx1 lg ag lg0
        go_wp2_with (first
          | ((with_reducible refine gate_builtin (b := .append) (xs := #[.tmp 32, .tmp 37]) rfl ?_); at_builtin; refine print_append_str (w0 := w) w.heap.size rfl (.tmp 32) (.tmp 37) 34 9 5 rfl Try.underlying34 Try.underlying9 info5 _ (out ++ encRef x) x.f0 rfl rfl HO2.out HB2.out HB2.out.size ?aL ?_; (case aL => have := HL.out; rw [List.length_append]; show out.length + 3 + _ ≤ _; omega); intro v4 w4 ho0 hbb hg; have ho := Kd.R_of_own (h1 := fun _ => rfl) (ok := fun _ => True) ho0 (fun _ _ => trivial); have HO4 := Aside0.mk ho; have HB5 := Aside0.mk hbb; clear ho0 ho hbb hg))
        go_roundw
        case rel => exact ⟨j + 1, _, by omega, rfl, HE3, ⟨HO4.out⟩, HB5⟩
        case measure => simp [intOf]; omega
      · rw [if_neg hl] at hE2
        cases hE2
    · have hjl : j = l0.length := by omega
      subst hjl
      have hE2 := HE.out
      rw [List.drop_length] at hE2
      obtain rfl := Option.some.inj hE2
      clear hE2
      go_wp2
      refine bodyPost_ret (v := .tuple #[u4, .bool true]) (by simp [results, Try.results20, go_sem]) rfl ⟨_, rfl, HO.out, HB.out⟩

theorem ref_encode_no (k : Nat) (A0 : Option Addr) (c0 : Nat) (l0 : List S24) (w : World) (hr0 : Kd.C k24 w A0 l0.length l0) (hc0 : l0.length ≤ c0) (ht : moraineref11_Right.f k l0 = some false) :
    Calls Try.prog 20 #[.slice A0 l0.length c0] w fun e w' => ∃ v0_ : Value, e = .returned (.tuple #[v0_, .bool false]) ∧ Kd.R (Kd.int .u8) 5 w' w.heap.size (fun _ => True) v0_ [] ∧ Below w.heap.size w w' := by
  have HR0 := Aside0.mk hr0
  have HT := Aside0.mk ht
  clear hr0 ht
  go_enter Try.func20, Try.ntmps20
  go_wp2_with (go_at_call 34; refine (moraineref11_Right.calls k _ _ l0 false _ HR0.out hc0 HT.out).mono ?_; rintro e w1 ⟨rfl, hb⟩; have HB := Aside0.mk hb; clear hb)
  go_ret2
  exact ⟨_, rfl, Kd.R_nil _ _ _ _ _, HB.out⟩

theorem moraineref11_Encode.calls (k : Nat) (A0 : Option Addr) (c0 : Nat) (l0 : List (S24)) (r1 : List Int) (r2 : Bool) (w : World) (hr0 : Kd.C k24 w A0 l0.length l0) (hc0 : l0.length ≤ c0) (h : moraineref11_Encode.f k l0 = some (r1, r2)) :
    Calls Try.prog 20 #[.slice A0 l0.length c0] w fun e w' => ∃ v0_ : Value, e = .returned (.tuple #[v0_, .bool r2]) ∧ Kd.R (Kd.int .u8) 5 w' w.heap.size (fun _ => True) v0_ r1 ∧ Below w.heap.size w w' := by
  unfold moraineref11_Encode.f at h
  obtain ⟨t, ht, h⟩ := Option.bind_eq_some_iff.mp h
  cases t with
  | true =>
    rw [if_pos rfl] at h
    obtain ⟨b, hb, h⟩ := Option.bind_eq_some_iff.mp h
    cases h
    by_cases hn : l0.length < 1000000000000
    · exact ref_encode_walk k A0 c0 l0 _ w hr0 hc0 hn ht hb
    · unfold moraineref11_Right.f at ht
      rw [if_pos (by omega)] at ht
      cases ht
  | false =>
    rw [if_neg (by decide)] at h
    cases h
    exact ref_encode_no k A0 c0 l0 w hr0 hc0 ht
end Go.Proofs.Ytllfjmmdackgdaa.PZ
