/- The walk of moraineref11.Decode. -/
import Derived.Test.YtllfjmmdackgdaaPZx0
import Derived.Test.YtllfjmmdackgdaaPZx5
import Derived.Deep.RegionHeld3
import Derived.Deep.AppendLies
import Derived.StillTactics
import Derived.WalkSpells
import Derived.Laws.Pointers
namespace Go.Proofs.Ytllfjmmdackgdaa.PZ
open Go.RowKit Go.Proofs.YtllfjmmdackgdaaW.PrintWords Go.Proofs.YtllfjmmdackgdaaW.PrintLast Go.Proofs.YtllfjmmdackgdaaW.PrintMore
set_option linter.unusedVariables false
set_option linter.unusedSimpArgs false

/-- The loop: none: outside of what is told here; some none: no entries; some (some out): the entries at its end. -/
def decGo (b : List Int) (i : Nat) (out : List S24) : Option (Option (List S24)) :=
  if i < b.length then
    if b.length < i + 3 then some none
    else if 0 ≤ rd b ((i + 2 : Nat) : Int) ∧ rd b ((i + 2 : Nat) : Int) ≤ 255 ∧ 0 ≤ rd b (i : Int) ∧ rd b (i : Int) ≤ 255 ∧ 0 ≤ rd b ((i + 1 : Nat) : Int) ∧ rd b ((i + 1 : Nat) : Int) ≤ 255 then
      if (b.length : Int) - i - 3 < rd b ((i + 2 : Nat) : Int) then some none
      else if 64 < out.length then some none
      else decGo b (i + (3 + (rd b ((i + 2 : Nat) : Int)).toNat)) (out ++ [⟨strOfNums ((b.take (i + 3 + (rd b ((i + 2 : Nat) : Int)).toNat)).drop (i + 3)), rd b (i : Int) + 256 * rd b ((i + 1 : Nat) : Int)⟩])
    else none
  else some (some out)
termination_by b.length - i
decreasing_by omega

def moraineref11_Decode.f (k : Nat) (l0 : List Int) : Option (List S24 × Bool) :=
  if l0.length < 1000000000000 then (decGo l0 0 []).bind fun o => match o with
    | none => some ([], false)
    | some out => (moraineref11_Right.f k out).bind fun t => if t = true then some (out, true) else some ([], false)
  else none
theorem moraineref11_Decode.mono : ∀ a0 k, LeO (moraineref11_Decode.f k a0) (moraineref11_Decode.f (k + 1) a0) := by
  intro a0 k
  unfold moraineref11_Decode.f
  refine LeO.ite ?_ (LeO.refl _)
  refine LeO.bind (LeO.refl _) (fun o => ?_)
  cases o with
  | none => exact LeO.refl _
  | some out => exact LeO.bind (moraineref11_Right.mono _ _) (fun _ => LeO.refl _)

/-- What the call answers behind the loop. -/
def DecPost (k : Nat) (o : Option (List S24)) (r1 : List S24) (r2 : Bool) : Prop :=
  (match o with
    | none => some ([], false)
    | some out => (moraineref11_Right.f k out).bind fun t => if t = true then some (out, true) else some ([], false)) = some (r1, r2)

set_option maxHeartbeats 4000000 in
theorem ref_decode_walk (k : Nat) (A0 : Option Addr) (c0 : Nat) (l0 : List Int) (r1 : List S24) (r2 : Bool) (o : Option (List S24)) (w : World) (hr0 : Kd.C (Kd.int .u8) w A0 l0.length l0) (hc0 : l0.length ≤ c0) (hn : l0.length < 1000000000000) (hg : decGo l0 0 [] = some o) (hp : DecPost k o r1 r2) :
    Calls Try.prog 23 #[.slice A0 l0.length c0] w fun e w' => ∃ v0_ : Value, e = .returned (.tuple #[v0_, .bool r2]) ∧ Kd.R k24 24 w' w.heap.size (fun _ => True) v0_ r1 ∧ Below w.heap.size w w' := by
  have hu := Try.underlying24
  have HR0 := Aside0.mk hr0
  have HG := Aside0.mk hg
  have HPo := Aside0.mk hp
  clear hr0 hg hp
  go_enter Try.func23, Try.ntmps23
  go_wp2_with (first
    | ((with_reducible refine gate_dst (N := 7) rfl ?_); refine Kd.R_lit k24 _ 24 ?hg (N := 7) ?hd (xs := ([] : List S24)) (inner := []) (ok := fun _ => True) (okp := fun _ => True) ?hr ?hp (fun _ hk => hk) trivial (Below.refl _ _) (Nat.le_refl _) (by simp) ?_; (case hd => rfl); (case hg => rfl); (case hr => first | (go_simp; done) | (go_simp; rfl)); (case hp => exact (Reps.none _ _)); intro v9 w9 ho hb hg_ hnew_; clear hg_ hnew_; have HO := Aside0.mk ho; have HB := Aside0.mk hb; clear hb ho))
  go_loopw [4, 5] (fun v4 v5 wr => ∃ (i : Nat) (out : List S24), v5 = .int .i64 i ∧ i ≤ l0.length ∧ Aside0 (decGo l0 i out = some o) ∧ Aside0 (Kd.R k24 24 wr w.heap.size (fun _ => True) v4 out) ∧ Aside0 (Below w.heap.size w wr)) (fun v4 v5 _ => l0.length - (intOf v5).toNat)
  case atStart => exact ⟨0, [], rfl, Nat.zero_le _, HG, HO, HB⟩
  case round =>
    clear HB HG HO
    obtain ⟨i, out, rfl, hil, HG, HO, HB⟩ := hrel
    by_cases hlt : i < l0.length
    · have hjb : decide ((i : Int) < l0.length) = true := decide_eq_true (by omega)
      have hG := HG.out
      rw [decGo, if_pos hlt] at hG
      by_cases h3 : l0.length < i + 3
      · rw [if_pos h3] at hG
        obtain rfl := Option.some.inj hG
        have HQ := HPo.out
        unfold DecPost at HQ
        cases HQ
        have h3b : decide ((l0.length : Int) - i < 3) = true := decide_eq_true (by omega)
        clear hG
        go_wp2
        go_ret2
        exact ⟨_, rfl, Kd.R_nil _ _ _ _ _, HB.out⟩
      · rw [if_neg h3] at hG
        have h3b : decide ((l0.length : Int) - i < 3) = false := decide_eq_false (by omega)
        by_cases hby : 0 ≤ rd l0 ((i + 2 : Nat) : Int) ∧ rd l0 ((i + 2 : Nat) : Int) ≤ 255 ∧ 0 ≤ rd l0 (i : Int) ∧ rd l0 (i : Int) ≤ 255 ∧ 0 ≤ rd l0 ((i + 1 : Nat) : Int) ∧ rd l0 ((i + 1 : Nat) : Int) ≤ 255
        · rw [if_pos hby] at hG
          obtain ⟨b1, b2, b3, b4, b5, b6⟩ := hby
          obtain ⟨m2, hm2⟩ : ∃ m2 : Nat, (i : Int) + 2 = m2 := ⟨i + 2, by omega⟩
          have hm2e : i + 2 = m2 := by omega
          have hm2l : m2 < l0.length := by omega
          rw [hm2e] at hG b1 b2
          have HM2 := Aside0.mk hm2e
          clear hm2e
          obtain ⟨ad, e, hx2⟩ := Kd.at_int HR0.out (m2 : Int) (by omega) (by omega)
          cases e
          obtain ⟨ad', e, hx0⟩ := Kd.at_int HR0.out (i : Int) (by omega) (by omega)
          injection e with e; subst e
          obtain ⟨ad', e, hx1⟩ := Kd.at_int HR0.out ((i + 1 : Nat) : Int) (by omega) (by omega)
          injection e with e; subst e
          rw [Int.toNat_natCast] at hx0 hx1 hx2
          have HC0 := Aside0.mk hx0
          have HC1 := Aside0.mk hx1
          replace hx2 := (HB.out.cell (World.block_lt_of_cell? w _ hx2)).trans hx2
          clear hx0 hx1
          generalize hN : rd l0 (m2 : Int) = n at *
          by_cases h4 : (l0.length : Int) - i - 3 < n
          · rw [if_pos h4] at hG
            obtain rfl := Option.some.inj hG
            have HQ := HPo.out
            unfold DecPost at HQ
            cases HQ
            have h4b : decide ((l0.length : Int) - i - 3 < n) = true := decide_eq_true (by omega)
            clear hG hN
            go_wp2
            go_ret2
            exact ⟨_, rfl, Kd.R_nil _ _ _ _ _, HB.out⟩
          · rw [if_neg h4] at hG
            have h4b : decide ((l0.length : Int) - i - 3 < n) = false := decide_eq_false (by omega)
            obtain ⟨A4, c4, rfl⟩ := Kd.R_slice HO.out
            by_cases h5 : 64 < out.length
            · rw [if_pos h5] at hG
              obtain rfl := Option.some.inj hG
              have HQ := HPo.out
              unfold DecPost at HQ
              cases HQ
              have h5b : decide (64 < (out.length : Int)) = true := decide_eq_true (by omega)
              have h5c : decide (64 < out.length) = true := decide_eq_true (by omega)
              clear hG hN
              go_wp2
              go_ret2
              exact ⟨_, rfl, Kd.R_nil _ _ _ _ _, HB.out⟩
            · rw [if_neg h5] at hG
              have h5b : decide (64 < (out.length : Int)) = false := decide_eq_false (by omega)
              have h5c : decide (64 < out.length) = false := decide_eq_false (by omega)
              have HG2 := Aside0.mk hG
              clear hG hN
              go_wp2
              obtain ⟨m1, hm1⟩ : ∃ m1 : Nat, (i : Int) + 1 = m1 := ⟨i + 1, by omega⟩
              obtain ⟨m3, hm3⟩ : ∃ m3 : Nat, (i : Int) + 3 = m3 := ⟨i + 3, by omega⟩
              obtain ⟨m4, hm4⟩ : ∃ m4 : Nat, (m3 : Int) + n = m4 := ⟨m3 + n.toNat, by omega⟩
              have hm1e : i + 1 = m1 := by omega
              have hm3e : i + 3 = m3 := by omega
              have hm4e : m3 + n.toNat = m4 := by omega
              have hl1 : m1 < l0.length := by omega
              have hl4 : m4 ≤ l0.length := by omega
              have hl34 : m3 ≤ m4 := by omega
              have hG2 := HG2.out
              have hC1 := HC1.out
              rw [hm1e, hm3e, hm4e] at hG2
              rw [hm1e] at hC1 b5 b6
              clear HG2 HC1
              generalize rd l0 (i : Int) = x0 at *
              generalize rd l0 (m1 : Int) = x1 at *
              obtain ⟨ys, hys⟩ : ∃ ys, ys = (l0.take m4).drop m3 := ⟨_, rfl⟩
              rw [← hys] at hG2
              obtain ⟨i0, hi0, hz0, hz1, hz2⟩ := info_parts info5
              obtain ⟨A', hcut0, hrd, hlc⟩ := print_mid_of (P := Try.prog) (Value.int .u8) (0 : Int) 34 5 .i64 .i64 Try.underlying34 hi0 hz1 (some ad) c0 l0 (m3 : Int) (m4 : Int) (by omega) (by omega) (by omega) hc0
              simp only [Int.toNat_natCast] at hcut0 hrd hlc
              rw [← hys] at hcut0 hrd hlc
              clear hys
              have HK := Aside0.mk (show ∀ W', Below w.heap.size w W' → W'.cell? (ad.add i) = some (.int .u8 x0) ∧ W'.cell? (ad.add m1) = some (.int .u8 x1) ∧ (convert 34 9 (.slice A' ys.length (c0 - m3))).run Try.prog W' = .ok (.string (strOfNums ys)) W' from fun W' hb => ⟨(hb.cell (World.block_lt_of_cell? w _ HC0.out)).trans HC0.out, (hb.cell (World.block_lt_of_cell? w _ hC1)).trans hC1, string_of_reads (P := Try.prog) Try.underlying34 Try.underlying5 Try.underlying9 (hrd W' (Kd.reads_of_C (h1 := fun _ => rfl) (Kd.C_below HR0.out hb)))⟩)
              have ev3 : IntKind.i64.wrap ((i : Int) + 3) = m3 := (IntWalk.i64_in _ (by omega)).trans hm3
              have ev1 : IntKind.i64.wrap ((i : Int) + 1) = m1 := (IntWalk.i64_in _ (by omega)).trans hm1
              have ev4 : IntKind.i64.wrap ((m3 : Int) + n) = m4 := (IntWalk.i64_in _ (by omega)).trans hm4
              have ex0 : IntKind.i64.wrap x0 = x0 := IntWalk.i64_in _ (by omega)
              have ex1 : IntKind.i64.wrap x1 = x1 := IntWalk.i64_in _ (by omega)
              have ex2 : IntKind.i64.wrap (256 * x1) = 256 * x1 := IntWalk.i64_in _ (by omega)
              have ex3 : IntKind.i64.wrap (x0 + 256 * x1) = x0 + 256 * x1 := IntWalk.i64_in _ (by omega)
              obtain ⟨hk0, hk1, hk2⟩ := HK.out wr HB.out
              obtain ⟨j0, hj0, hy0, hy1, hy2⟩ := info_parts info24
              obtain ⟨h00, inner, hown, hrep⟩ := Kd.R_drew (Kd.R_alloc HO.out (.cells #[.string (strOfNums ys), .int .i64 (x0 + 256 * x1)] 24))
              have HREP := Aside0.mk hrep
              have HOWN := Aside0.mk hown
              have HL5 := Aside0.mk (show out.length ≤ 64 by omega)
              clear hown hrep hi0 hz0 hz1 hz2 hrd hlc hm1 hm3 hm4 hm2 hm1e hm3e hm4e
              go_region_held3 (fun w' => w'.cell? (ad.add i) = some (.int .u8 x0) ∧ w'.cell? (ad.add m1) = some (.int .u8 x1) ∧ (convert 34 9 (.slice A' ys.length (c0 - m3))).run Try.prog w' = .ok (.string (strOfNums ys)) w')
                (first
                  | (exact HK.out _ (by first | exact HB.out | exact below_drew HB.out | exact below_alloc HB.out _ | exact below_drew (below_alloc HB.out _)))
                  | (exact HK.out _ (pw_below_grown (below_drew (below_alloc HB.out _)) _ (by simp; exact Nat.le_trans HB.out.size (Nat.le_succ _)) hgrow (fun k hk => Kd.R_base HO.out k hk))))
                ((refine step_append_lies _ (by rfl) _ _ _ (by rfl) w.heap.size 24 j0 _ 2 24 Try.underlying22 hj0 hy0 hy1 hy2 rfl (by omega) (.slice A4 out.length c4) out.length inner (by rfl) HOWN.out
                    ⟨wr.heap.size, 0, none⟩ 1 1 [.string (strOfNums ys), .int .i64 (x0 + 256 * x1)] (by rfl) (by rfl) (World.news_of_block (cs := #[.string (strOfNums ys), .int .i64 (x0 + 256 * x1)]) (t := 24) (fr := (0, 0)) (heap_alloc_new wr _)) (by simp [Value.oneCell'])
                    (by omega) (by have := HL5.out; unfold maxLen; omega) (by have := HL5.out; omega) (by simp; exact Nat.le_trans HB.out.size (Nat.le_succ _)) (wr.heap.size + 1) (by simp) ?_; intro gg cap w1 hown1 hgrow hat hlt2))
              have HO2 := Aside0.mk (Kd.R_appended (d := k24) (okp := fun _ => False) (p := ⟨strOfNums ys, x0 + 256 * x1⟩) (v1 := .slice (some ⟨gg, 0, none⟩) (out.length + 1) cap) h00 HREP.out (k24_mkM _ _ _ (⟨strOfNums ys, x0 + 256 * x1⟩ : S24)) (fun _ h => h.elim) (fun _ _ => trivial) hown1 hgrow (by rcases hat with h | h; (· exact Or.inl h.symm); (· exact Or.inr ⟨gg, rfl, by subst h; simp⟩)))
              have HB2 := Aside0.mk (pw_below_grown (below_drew (below_alloc HB.out _)) _ (by simp; exact Nat.le_trans HB.out.size (Nat.le_succ _)) hgrow (fun k hk => Kd.R_base HO.out k hk))
              have HG3 := Aside0.mk hG2
              have HI := Aside0.mk (show (i : Int) + (3 + n) ≤ 9223372036854775807 by omega)
              have HI2 := Aside0.mk (show i + (3 + n.toNat) ≤ l0.length by omega)
              have hn3 : 3 + n ≤ 300 := by omega
              have hi3 : (i : Int) + (3 + n) ≤ 1000000000000 := by omega
              clear hown1 hgrow hat hlt2 hG2 hk0 hk1 hk2 hcut0 ev3 ev1 ev4 ex0 ex1 ex2 ex3 hj0 hy0 hy1 hy2 hC1
              go_wp2
              go_roundw
              case rel => exact ⟨i + (3 + n.toNat), _, by rw [Int.natCast_add, Int.natCast_add, Int.toNat_of_nonneg b1]; rfl, HI2.out, HG3, HO2, HB2⟩
              case measure => simp [intOf]; omega
        · rw [if_neg hby] at hG
          cases hG
    · have hjl : i = l0.length := by omega
      subst hjl
      have hG := HG.out
      rw [decGo, if_neg (by omega)] at hG
      obtain rfl := Option.some.inj hG
      clear hG
      have HQ := HPo.out
      unfold DecPost at HQ
      obtain ⟨t, ht, hq⟩ := Option.bind_eq_some_iff.mp HQ
      have HT := Aside0.mk ht
      obtain ⟨A4, c4, rfl⟩ := Kd.R_slice HO.out
      obtain ⟨-, hc4, hC4⟩ := Kd.R_reads' HO.out
      clear HQ ht
      cases t with
      | true =>
        rw [if_pos rfl] at hq
        cases hq
        go_wp2_with (go_at_call 34; refine (moraineref11_Right.calls k _ _ r1 true _ hC4 hc4 HT.out).mono ?_; rintro e w1 ⟨rfl, hb⟩; have HB2 := Aside0.mk hb; clear hb)
        refine bodyPost_ret (v := .tuple #[.slice A4 r1.length c4, .bool true]) (by simp [results, Try.results23, go_sem]) rfl ⟨_, rfl, Kd.R_below HO.out HB2.out, below_step HB.out HB2.out⟩
      | false =>
        rw [if_neg (by decide)] at hq
        cases hq
        go_wp2_with (go_at_call 34; refine (moraineref11_Right.calls k _ _ out false _ hC4 hc4 HT.out).mono ?_; rintro e w1 ⟨rfl, hb⟩; have HB2 := Aside0.mk hb; clear hb)
        go_ret2
        exact ⟨_, rfl, Kd.R_nil _ _ _ _ _, below_step HB.out HB2.out⟩

theorem moraineref11_Decode.calls (k : Nat) (A0 : Option Addr) (c0 : Nat) (l0 : List Int) (r1 : List (S24)) (r2 : Bool) (w : World) (hr0 : Kd.C (Kd.int .u8) w A0 l0.length l0) (hc0 : l0.length ≤ c0) (h : moraineref11_Decode.f k l0 = some (r1, r2)) :
    Calls Try.prog 23 #[.slice A0 l0.length c0] w fun e w' => ∃ v0_ : Value, e = .returned (.tuple #[v0_, .bool r2]) ∧ Kd.R k24 24 w' w.heap.size (fun _ => True) v0_ r1 ∧ Below w.heap.size w w' := by
  unfold moraineref11_Decode.f at h
  by_cases hn : l0.length < 1000000000000
  · rw [if_pos hn] at h
    obtain ⟨o, ho, h⟩ := Option.bind_eq_some_iff.mp h
    exact ref_decode_walk k A0 c0 l0 r1 r2 o w hr0 hc0 hn ho h
  · rw [if_neg hn] at h
    cases h
end Go.Proofs.Ytllfjmmdackgdaa.PZ
