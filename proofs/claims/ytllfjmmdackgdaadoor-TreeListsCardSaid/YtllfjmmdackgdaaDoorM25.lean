import Derived.Test.YtllfjmmdackgdaaDoorM24
import Derived.Deep.RegionLaw
import Derived.Deep.AppendLies
set_option linter.unusedVariables false
set_option linter.unusedSimpArgs false
/-! GList -/
section
namespace Go.Proofs.YtllfjmmdackgdaaDoor.PZ
open Go.RowKit Go.Proofs.YtllfjmmdackgdaaDoorW.PrintWords Go.Proofs.YtllfjmmdackgdaaDoorW.PrintLast Go.Proofs.YtllfjmmdackgdaaDoorW.PrintMore Go.Proofs.YtllfjmmdackgdaaDoor.Ord TD
attribute [local go_sem ↓] Go.wp_at_zero Go.wp_at_succ
set_option maxRecDepth 100000
set_option linter.unusedVariables false
set_option linter.unusedSimpArgs false
section
variable {P : Program} {ops : Array Oper} {o : Oper} {a : Act} {Q : Exit → Act → World → Prop} {Kc : Act → World → Prop} {α : Type}
/-- Kd.R_append_step at a world and an address told by equations. -/
theorem R_append_step2 (d : Kd α) {w0 W V : World} (base : Nat) (hw : Region.wanted o (yielded ops a.tmps) = true) (s x : Operand) (t e : TypeId) (z : Value) (bytes : Nat)
    (ho : o.op = .call { callee := .builtin .append, args := #[s, x], argTypes := #[t, t] })
    (ht : P.underlying t = some (.slice e)) (hinfo : (P.info? e).map (fun i => (i.zero, i.size, i.bytes)) = some (some z, d.sz, bytes)) (hz : z.cells.size = d.sz) (hs0 : 0 < d.sz) (hb0 : 0 < bytes)
    (v : Value) (xs : List α) (p : α) (cs : List Value) (ok okp : Nat → Prop) (g : Nat) (hg : W.heap.size = g) (hV : V = W.alloc (.cells cs.toArray e)) (hs : a.eval s = v) (hx : a.eval x = .slice (some ⟨g, 0, none⟩) 1 1) (hp : d.M W base okp p cs) (hokp : ∀ k, okp k → ok k ∧ some k ≠ v.ownBlock) (hfresh : ∀ k, W.heap.size ≤ k → ok k)
    (HO : d.R e W base ok v xs) (HB : Below base w0 W) (hbase : base ≤ W.heap.size) (hl : (xs.length + 1) * bytes ≤ 140737488355328)
    (h : ∀ v1 w1, d.R e w1 base ok v1 (xs ++ [p]) → Below base w0 w1 → W.grownBy w1 v.ownBlock → (v1.ownBlock = v.ownBlock ∨ ∃ b, v1.ownBlock = some b ∧ W.heap.size ≤ b) → Kc (a.put o.dst v1) w1) :
    if Region.wanted o (yielded ops a.tmps) = true then Oper.wp P o a V Kc Q else Kc (a.put o.dst undef) V := by
  subst hV hg
  exact Kd.R_append_step d base hw s x t e z bytes ho ht hinfo hz hs0 hb0 v xs p cs ok okp hs hx hp hokp hfresh HO HB hbase hl h
end
set_option maxHeartbeats 4000000 in
theorem list_walk (B b : Nat) (l : List S58) (x y z0 z1 z2 z3 z4 : Value) (p : ByteArray) (rs : List Value) (w : World) (hst : St B b l (x :: .string p :: y :: z0 :: z1 :: z2 :: z3 :: z4 :: .slice none 0 0 :: rs) w) (ho : Ok l) (hp : p.size < 10000000) :
    Calls Tryd.prog 78 #[.pointer (some ⟨b, 0, none⟩)] w fun en w' => (match listF l p with
      | .inl ns => en = .returned (.tuple #[]) ∧ ∃ vn, St B b l (x :: .string p :: y :: z0 :: z1 :: z2 :: z3 :: z4 :: vn :: rs) w' ∧ Kd.R Kd.string 9 w' B (fun k => k ≠ b) vn ns
      | .inr e => en = .panicked (wrong e)) ∧ BW B w w' := by
  have hbl : b < w.heap.size := by obtain ⟨_, v, h, _⟩ := hst; exact blk_lt h
  have hBb : B ≤ b := hst.1
  have hBw : B ≤ w.heap.size := by omega
  have hk2 : w.cell? ⟨b, 2, none⟩ = some (.string p) := by obtain ⟨_, v, h, _⟩ := hst; exact (blk_cell h 2).trans rfl
  have HST := Aside0.mk hst
  have HO := Aside0.mk ho
  have HB := Aside0.mk (Below.refl w.heap.size w)
  obtain ⟨hBb', v, hw, hS⟩ := hst
  obtain ⟨g, cap, rfl, hBg, hgl, -⟩ := Kd.S_form hS ho.wf.pos
  have HW := Aside0.mk hw
  have HS := Aside0.mk hS
  clear hw hS ho
  unfold listF placeF
  by_cases h0 : (splitA p).2 = 0
  · rw [if_pos h0]
    cases hk : wk l (splitA p).1 0 with
    | inr n =>
      dsimp only
      have HK := Aside0.mk hk
      clear hk
      go_enter Tryd.func78, Tryd.ntmps78
      go_wp2_with (first
        | (go_at_call 56; (with_reducible refine (names_walk p _ hp).mono ?_); rintro e w1 ⟨h1, hb⟩; rw [if_pos h0] at h1; obtain ⟨An, cn, rfl, hcn, hCn⟩ := h1; have HCN := Aside0.mk hCn; clear hCn; have n0_ := Aside0.mk (below_step (by repeat (first | exact HB.out | with_reducible apply below_drew1 | with_reducible apply below_alloc | with_reducible apply pw_below_drewN)) hb); clear HB hb; have HB := n0_; clear n0_; have hk2_ := (HB.out.cell (p := ⟨b, 2, none⟩) hbl).trans hk2)
        | (go_at_call 55; (with_reducible refine (place_walk B b l _ An cn p _ (St.below HST.out (by repeat (first | exact HB.out | with_reducible apply below_drew1 | with_reducible apply below_alloc | with_reducible apply pw_below_drewN))) HO.out HCN.out hcn).mono ?_); rintro e w2 ⟨h1, hb⟩; rw [HK.out] at h1; subst h1; have n0_ := Aside0.mk (below_step (by repeat (first | exact HB.out | with_reducible apply below_drew1 | with_reducible apply below_alloc | with_reducible apply pw_below_drewN)) hb); clear HB hb; have HB := n0_; clear n0_; have hk2_ := (HB.out.cell (p := ⟨b, 2, none⟩) hbl).trans hk2; exact ⟨rfl, rfl, BW.mono (by repeat (first | exact HB.out | with_reducible apply below_drew1 | with_reducible apply below_alloc | with_reducible apply pw_below_drewN)) hBw⟩))
    | inl k =>
      dsimp only
      have hkl : k < l.length := wk_lt HO.out.wf HO.out.wf.pos hk
      have HK := Aside0.mk hk
      clear hk
      cases hd : ((nd l k).f0 == 2) with
      | false =>
        rw [if_neg (beq_eq_false_iff_ne.1 hd)]
        dsimp only
        go_enter Tryd.func78, Tryd.ntmps78
        go_wp2_with (first
          | (go_at_call 56; (with_reducible refine (names_walk p _ hp).mono ?_); rintro e w1 ⟨h1, hb⟩; rw [if_pos h0] at h1; obtain ⟨An, cn, rfl, hcn, hCn⟩ := h1; have HCN := Aside0.mk hCn; clear hCn; have n0_ := Aside0.mk (below_step (by repeat (first | exact HB.out | with_reducible apply below_drew1 | with_reducible apply below_alloc | with_reducible apply pw_below_drewN)) hb); clear HB hb; have HB := n0_; clear n0_; have hk2_ := (HB.out.cell (p := ⟨b, 2, none⟩) hbl).trans hk2)
          | (go_at_call 55; (with_reducible refine (place_walk B b l _ An cn p _ (St.below HST.out (by repeat (first | exact HB.out | with_reducible apply below_drew1 | with_reducible apply below_alloc | with_reducible apply pw_below_drewN))) HO.out HCN.out hcn).mono ?_); rintro e w2 ⟨h1, hb⟩; rw [HK.out] at h1; subst h1; have n0_ := Aside0.mk (below_step (by repeat (first | exact HB.out | with_reducible apply below_drew1 | with_reducible apply below_alloc | with_reducible apply pw_below_drewN)) hb); clear HB hb; have HB := n0_; clear n0_; have hk2_ := (HB.out.cell (p := ⟨b, 2, none⟩) hbl).trans hk2)
          | (go_at_call 82; (with_reducible refine (mdir_walk B b l _ k _ hkl (St.below HST.out (by repeat (first | exact HB.out | with_reducible apply below_drew1 | with_reducible apply below_alloc | with_reducible apply pw_below_drewN))) hd).mono ?_); rintro e w9 ⟨rfl, h9⟩; subst w9)
          | (go_at_call 81; (with_reducible refine (need_bad 22 _).mono ?_); rintro e w9 ⟨rfl, h9⟩; subst w9; exact ⟨rfl, rfl, BW.mono (by repeat (first | exact HB.out | with_reducible apply below_drew1 | with_reducible apply below_alloc | with_reducible apply pw_below_drewN)) hBw⟩))
      | true =>
        rw [if_pos (beq_iff_eq.1 hd)]
        dsimp only
        have hz0 : (0 : Int) ≤ (k : Int) := by omega
        have hz1 : (k : Int) < (l.length : Int) := by omega
        have hsm := HO.out.small k
        go_enter Tryd.func78, Tryd.ntmps78
        go_wp2_with (first
          | (go_at_call 56; (with_reducible refine (names_walk p _ hp).mono ?_); rintro e w1 ⟨h1, hb⟩; rw [if_pos h0] at h1; obtain ⟨An, cn, rfl, hcn, hCn⟩ := h1; have HCN := Aside0.mk hCn; clear hCn; have n0_ := Aside0.mk (below_step (by repeat (first | exact HB.out | with_reducible apply below_drew1 | with_reducible apply below_alloc | with_reducible apply pw_below_drewN)) hb); clear HB hb; have HB := n0_; clear n0_; have hk2_ := (HB.out.cell (p := ⟨b, 2, none⟩) hbl).trans hk2)
          | (go_at_call 55; (with_reducible refine (place_walk B b l _ An cn p _ (St.below HST.out (by repeat (first | exact HB.out | with_reducible apply below_drew1 | with_reducible apply below_alloc | with_reducible apply pw_below_drewN))) HO.out HCN.out hcn).mono ?_); rintro e w2 ⟨h1, hb⟩; rw [HK.out] at h1; subst h1; have n0_ := Aside0.mk (below_step (by repeat (first | exact HB.out | with_reducible apply below_drew1 | with_reducible apply below_alloc | with_reducible apply pw_below_drewN)) hb); clear HB hb; have HB := n0_; clear n0_; have hk2_ := (HB.out.cell (p := ⟨b, 2, none⟩) hbl).trans hk2; have HW1 := Aside0.mk (blk_below HW.out HB.out); have HS1 := Aside0.mk (Kd.S_below HS.out HB.out); have hbl1 := blk_lt HW1.out; have hB1 : B ≤ w2.heap.size := (by omega); obtain ⟨v2, v3, -, -, -, hx3, -, hR3, -, hgb, -, -, -⟩ := S_node hbl1 HS1.out k hkl hB1; obtain ⟨A3, c3, rfl, hl3, -⟩ := Kd.R_reads hR3; have HR3 := Aside0.mk hR3; have hy0 : w2.cell? ⟨b, 0, none⟩ = some (.slice (some ⟨g, 0, none⟩) l.length cap) := (blk_cell HW1.out 0).trans rfl; clear hR3)
          | (go_at_call 82; (with_reducible refine (mdir_walk B b l _ k _ hkl (St.below HST.out (by repeat (first | exact HB.out | with_reducible apply below_drew1 | with_reducible apply below_alloc | with_reducible apply pw_below_drewN))) hd).mono ?_); rintro e w9 ⟨rfl, h9⟩; subst w9)
          | (go_at_call 81; (with_reducible refine (need_ok _ _).mono ?_); rintro e w9 ⟨rfl, h9⟩; subst w9))
        go_loopw [4, 27] (fun v4 v27 wr => ∃ (j : Nat) (vn : Value), v27 = .int .i64 j ∧ j ≤ (nd l k).f3.length ∧ Aside0 (Wk wr b (.slice (some ⟨g, 0, none⟩) l.length cap) (x :: .string p :: y :: z0 :: z1 :: z2 :: z3 :: z4 :: vn :: rs)) ∧ Aside0 (Kd.R Kd.string 9 wr w.heap.size (fun k => k ≠ b) vn (((nd l k).f3.take j).map (·.f0))) ∧ Aside0 (Kd.S k58 58 wr B (fun k => k ≠ b) (.slice (some ⟨g, 0, none⟩) l.length cap) l) ∧ Aside0 (Kd.R k102 102 wr B (fun k => k ≠ b) (.slice A3 (nd l k).f3.length c3) (nd l k).f3) ∧ Aside0 (BW B w wr)) (fun v4 v27 _ => (nd l k).f3.length - (intOf v27).toNat)
        case atStart => exact ⟨0, _, rfl, Nat.zero_le _, ⟨HW1.out⟩, ⟨Kd.R_nil _ _ _ _ _⟩, ⟨HS1.out⟩, ⟨HR3.out⟩, ⟨BW.mono HB.out hBw⟩⟩
        case round =>
          obtain ⟨j, vn, rfl, hj, HWr, HRn, HSr, HEr, HBr⟩ := hrel
          by_cases hlt : j < (nd l k).f3.length
          · obtain ⟨An', nn, cn', rfl⟩ := R_any HRn.out
            obtain ⟨a3, e, hx0, hx1⟩ := at_T102 (Kd.R_reads' HEr.out).2.2 (j : Int) (by omega) (by omega)
            subst e
            rw [rd_nat _ j hlt, Int.toNat_natCast] at hx0 hx1
            have hy9 : wr.cell? ⟨b, 9, none⟩ = some (.slice An' nn cn') := (blk_cell HWr.out 9).trans rfl
            have hf9 : wr.frozen? ⟨b, 9, none⟩ = false := blk_frozen HWr.out 9
            have hj0 : (0 : Int) ≤ (j : Int) := by omega
            have hj1 : (j : Int) < ((nd l k).f3.length : Int) := by omega
            have hbr := blk_lt HWr.out
            have hlen0 : ((nd l k).f3.take j).length ≤ 100000 := by rw [List.length_take]; omega
            have hrd : ((nd l k).f3.take (j + 1)).map (·.f0) = ((nd l k).f3.take j).map (·.f0) ++ [(nd l k).f3[j].f0] := by rw [List.take_succ_eq_append_getElem hlt, List.map_append]; rfl
            have HRD := Aside0.mk hrd
            clear hrd
            generalize hE : (nd l k).f3[j] = en at hx0 hx1 HRD
            have HRW := Aside0.mk (Kd.R_drew (Kd.R_alloc HRn.out (.cells #[.string en.f0, .int .i64 en.f1] 102)))
            have HWW := Aside0.mk (blk_drew (blk_alloc HWr.out (.cells #[.string en.f0, .int .i64 en.f1] 102)))
            have HSW := Aside0.mk (Kd.S_drew (Kd.S_alloc HSr.out (.cells #[.string en.f0, .int .i64 en.f1] 102)))
            have HEW := Aside0.mk (Kd.R_drew (Kd.R_alloc HEr.out (.cells #[.string en.f0, .int .i64 en.f1] 102)))
            have HBW := Aside0.mk (below_drew1 (below_alloc (Below.refl wr.heap.size wr) (.cells #[.string en.f0, .int .i64 en.f1] 102)))
            have hNB : ∀ i, (wr.alloc (.cells #[.string en.f0, .int .i64 en.f1] 102)).drew.heap.size ≤ i → i ≠ b := fun i hi => by have := HBW.out.size; omega
            have hBS : w.heap.size ≤ (wr.alloc (.cells #[.string en.f0, .int .i64 en.f1] 102)).drew.heap.size := by have := HBW.out.size; have := HBr.out.bel.size; omega
            have hLen : ((((nd l k).f3.take j).map (·.f0)).length + 1) * 16 ≤ 140737488355328 := by rw [List.length_map]; omega
            have HSZ : Aside0 ((wr.alloc (.cells #[.string en.f0, .int .i64 en.f1] 102)).drew.heap.size = wr.heap.size + 1) := ⟨by simp⟩
            have HNN := Aside0.mk hNB
            have HBS := Aside0.mk hBS
            have HLL := Aside0.mk hLen
            have hnn : nn = (((nd l k).f3.take j).map (·.f0)).length := (Kd.R_reads' HRn.out).1
            have HNL := Aside0.mk hnn
            clear hNB hBS hLen hnn hE
            have hkE : ∀ w4, (wr.alloc (.cells #[.string en.f0, .int .i64 en.f1] 102)).drew.grownBy w4 (Value.slice An' nn cn').ownBlock → w4.cell? ⟨wr.heap.size, 0, none⟩ = some (.string en.f0) := fun w4 hg => (hg.cell_far ⟨wr.heap.size, 0, none⟩ (by rw [HSZ.out]; exact Nat.lt_succ_self _) (fun he => Nat.lt_irrefl _ (Kd.R_lt HRn.out _ he.symm))).trans (by go_simp)
            have HKE := Aside0.mk hkE
            clear hkE
            have hbne : wr.heap.size ≠ b := by omega
            go_wp2
            go_region_law ((refine R_append_step2 Kd.string (w0 := (wr.alloc (.cells #[.string en.f0, .int .i64 en.f1] 102)).drew) (W := (wr.alloc (.cells #[.string en.f0, .int .i64 en.f1] 102)).drew) w.heap.size (by rfl) (.tmp 36) (.tmp 39) 23 9 (.string ⟨#[]⟩) 16 (by rfl) Tryd.underlying23 info9 (by rfl) (by decide) (by omega) (.slice An' nn cn') (((nd l k).f3.take j).map (·.f0)) en.f0 [.string en.f0] (fun i => i ≠ b) (fun _ => False) (wr.heap.size + 1) HSZ.out (by rfl) (by rfl) (by rfl) (by rfl) (fun _ h => h.elim) HNN.out HRW.out (Below.refl _ _) HBS.out HLL.out ?_; intro v4 w4 ho hbb hg hat; obtain ⟨A4, n4, c4, rfl⟩ := R_any ho; have HO4 := Aside0.mk ho; have HB4 := Aside0.mk hbb; have HW4 := Aside0.mk (blk_grown HWW.out hg (fun h => HRW.out.1 b h.symm rfl)); have HS4 := Aside0.mk (Kd.S_over' HSW.out (Kd.R_typed HRW.out) (by decide) hg); have HE4 := Aside0.mk (Kd.R_over' HEW.out (Kd.R_typed HRW.out) (by decide) hg); have hk9 : w4.cell? ⟨b, 9, none⟩ = some (.slice An' nn cn') := (blk_cell HW4.out 9).trans rfl; have hz9 := blk_frozen HW4.out 9; have hkE4 := HKE.out w4 hg; clear ho hbb hg hat))
            all_goals go_wp2
            all_goals
              go_roundw
              case rel => exact ⟨j + 1, _, by go_num, by omega, ⟨Wk.set HW4.out 8 _⟩, ⟨by rw [HRD.out]; exact Kd.R_far (p := ⟨b, 9, none⟩) HO4.out (fun k hk => hk) _⟩, ⟨Kd.S_far (p := ⟨b, 9, none⟩) HS4.out (fun k hk => hk) _⟩, ⟨Kd.R_far (p := ⟨b, 9, none⟩) HE4.out (fun k hk => hk) _⟩, ⟨((HBr.out.trans (BW.mono HBW.out (by omega))).step HB4.out hBw).setW hBb HW4.out 9 _⟩⟩
              case measure => simp [intOf]; omega
          · have hjl : j = (nd l k).f3.length := by omega
            subst hjl
            have hge : ¬ (((nd l k).f3.length : Int) < ((nd l k).f3.length : Int)) := Int.lt_irrefl _
            have HRN := HRn.out
            rw [List.take_length] at HRN
            have HRN2 := Aside0.mk HRN
            clear HRN
            go_wp2
            go_end0
            exact ⟨⟨rfl, _, ⟨hBb, _, HWr.out, HSr.out⟩, Kd.R_lower HRN2.out hBw⟩, HBr.out⟩
  · rw [if_neg h0]
    dsimp only
    go_enter Tryd.func78, Tryd.ntmps78
    go_wp2_with (first
      | (go_at_call 56; (with_reducible refine (names_walk p _ hp).mono ?_); rintro e w1 ⟨h1, hb⟩; rw [if_neg h0] at h1; subst h1; have n0_ := Aside0.mk (below_step (by repeat (first | exact HB.out | with_reducible apply below_drew1 | with_reducible apply below_alloc | with_reducible apply pw_below_drewN)) hb); clear HB hb; have HB := n0_; clear n0_; have hk2_ := (HB.out.cell (p := ⟨b, 2, none⟩) hbl).trans hk2; exact ⟨rfl, rfl, BW.mono (by repeat (first | exact HB.out | with_reducible apply below_drew1 | with_reducible apply below_alloc | with_reducible apply pw_below_drewN)) hBw⟩))
end Go.Proofs.YtllfjmmdackgdaaDoor.PZ
end
