import Derived.Test.YtllfjmmdackgdaaDoorM16
import Derived.Test.YtllfjmmdackgdaaDoorM17
import Derived.Test.YtllfjmmdackgdaaDoorM18
import Derived.Test.YtllfjmmdackgdaaDoorM22
import Derived.Test.YtllfjmmdackgdaaDoorM23
import Derived.Test.YtllfjmmdackgdaaDoorM25
set_option linter.unusedVariables false
set_option linter.unusedSimpArgs false
/-! GRun -/
section
namespace Go.Proofs.YtllfjmmdackgdaaDoor.PZ
open Go.RowKit Go.Proofs.YtllfjmmdackgdaaDoorW.PrintWords Go.Proofs.YtllfjmmdackgdaaDoorW.PrintLast Go.Proofs.YtllfjmmdackgdaaDoorW.PrintMore Go.Proofs.YtllfjmmdackgdaaDoor.Ord TD
attribute [local go_sem ↓] Go.wp_at_zero Go.wp_at_succ
set_option maxRecDepth 100000
set_option linter.unusedVariables false
set_option linter.unusedSimpArgs false
/-- An operation in a worker's fields. -/
def opV (o : S39) (Ad : Option Addr) (cd : Nat) (rest : List Value) : List Value := .int .i64 o.f0 :: .string o.f1 :: .string o.f2 :: .int .i64 o.f3 :: .int .i64 o.f4 :: .slice Ad o.f5.length cd :: rest
def zeroR : List Value := [.int .i64 0, .slice none 0 0, .slice none 0 0, .int .i64 0, .int .i64 0, .int .i64 0]
/-- What run leaves. -/
def RunPost (B b : Nat) (o : S39) (Ad : Option Addr) (cd : Nat) (w : World) (X : (List S58 × S47) ⊕ Int) (en : Ending) (w' : World) : Prop :=
  (match X with
    | .inl (l', r) => en = .returned (.tuple #[]) ∧ r.f0 = 0 ∧ ∃ vd vn, St B b l' (opV o Ad cd [.int .i64 0, vd, vn, .int .i64 r.f3, .int .i64 r.f4, .int .i64 r.f5]) w' ∧ Kd.R (Kd.int .u8) 5 w' B (fun k => k ≠ b) vd r.f1 ∧ Kd.R Kd.string 9 w' B (fun k => k ≠ b) vn r.f2
    | .inr e => en = .panicked (wrong e)) ∧ BW B w w'
theorem runpost_bad {B b : Nat} {o : S39} {Ad : Option Addr} {cd : Nat} {w : World} {m : Int} {w' : World} (hb : BW B w w') : RunPost B b o Ad cd w (.inr m) (.panicked (wrong m)) w' := ⟨rfl, hb⟩
theorem runpost_ok {B b : Nat} {o : S39} {Ad : Option Addr} {cd : Nat} {w : World} {l' : List S58} {r : S47} {w' : World} {vd vn : Value} (h0 : r.f0 = 0) (hs : St B b l' (opV o Ad cd [.int .i64 0, vd, vn, .int .i64 r.f3, .int .i64 r.f4, .int .i64 r.f5]) w') (h1 : Kd.R (Kd.int .u8) 5 w' B (fun k => k ≠ b) vd r.f1) (h2 : Kd.R Kd.string 9 w' B (fun k => k ≠ b) vn r.f2) (hb : BW B w w') :
    RunPost B b o Ad cd w (.inl (l', r)) (.returned (.tuple #[])) w' := ⟨⟨rfl, h0, vd, vn, hs, h1, h2⟩, hb⟩
theorem workF_bad {l : List S58} {o : S39} (h : ∀ c : Int, 1 ≤ c → c ≤ 13 → o.f0 ≠ c) : workF l o = .inr 30 := by
  unfold workF
  rw [if_neg (h 1 (by omega) (by omega)), if_neg (h 2 (by omega) (by omega)), if_neg (h 3 (by omega) (by omega)), if_neg (h 4 (by omega) (by omega)), if_neg (h 5 (by omega) (by omega)), if_neg (h 6 (by omega) (by omega)), if_neg (h 7 (by omega) (by omega)), if_neg (h 8 (by omega) (by omega)), if_neg (h 9 (by omega) (by omega)), if_neg (h 10 (by omega) (by omega)), if_neg (h 11 (by omega) (by omega)), if_neg (h 12 (by omega) (by omega)), if_neg (h 13 (by omega) (by omega))]
set_option maxHeartbeats 4000000 in
theorem run_1 (B b : Nat) (l : List S58) (o : S39) (Ad : Option Addr) (cd : Nat) (w : World) (hst : St B b l (opV o Ad cd zeroR) w) (ho : Ok l) (hp : o.f1.size < 10000000) (hq : o.f2.size < 10000000) (hd : ∀ k, (nd l k).f2.length < 1000000000) (hxc : o.f5.length ≤ cd) (hx : ∀ w', Below B w w' → Kd.C (Kd.int .u8) w' Ad o.f5.length o.f5) (hk : o.f0 = 1) :
    Calls Tryd.prog 46 #[.pointer (some ⟨b, 0, none⟩)] w fun en w' => RunPost B b o Ad cd w (workF l o) en w' := by
  obtain ⟨k0, p, q, a, n, xs⟩ := o
  dsimp only at hk hp hq hxc hx
  subst hk
  have hk1 : w.cell? ⟨b, 1, none⟩ = some (.int .i64 1) := by obtain ⟨_, v, h, _⟩ := hst; exact (blk_cell h 1).trans rfl
  dsimp only [opV, zeroR] at hst
  have HST := Aside0.mk hst
  have HO := Aside0.mk ho
  have HD := Aside0.mk hd
  have HX := Aside0.mk hx
  clear hst ho hd hx
  have hwf : workF l ⟨1, p, q, a, n, xs⟩ = plain (createF l p 1) := rfl
  rw [hwf]
  clear hwf
  cases hX : createF l p 1 with
  | inr m =>
    have HXX := Aside0.mk hX
    clear hX
    go_enter Tryd.func46, Tryd.ntmps46
    go_wp2_with (go_at_call 69; (with_reducible refine (create_walk B b l _ p _ 1 _ HST.out HO.out hp).mono ?_); rintro e w1 h1; rw [HXX.out] at h1; obtain ⟨h1, hb⟩ := h1; dsimp only at h1; subst h1; exact ⟨rfl, runpost_bad hb⟩)
  | inl l' =>
    have HXX := Aside0.mk hX
    clear hX
    go_enter Tryd.func46, Tryd.ntmps46
    go_wp2_with (go_at_call 69; (with_reducible refine (create_walk B b l _ p _ 1 _ HST.out HO.out hp).mono ?_); rintro e w1 h1; rw [HXX.out] at h1; obtain ⟨h1, hb⟩ := h1; dsimp only at h1; obtain ⟨rfl, hs⟩ := h1; have HS := Aside0.mk hs; have HB := Aside0.mk hb; clear hs hb)
    go_end0
    exact runpost_ok rfl HS.out (Kd.R_nil _ _ _ _ _) (Kd.R_nil _ _ _ _ _) HB.out
set_option maxHeartbeats 4000000 in
theorem run_2 (B b : Nat) (l : List S58) (o : S39) (Ad : Option Addr) (cd : Nat) (w : World) (hst : St B b l (opV o Ad cd zeroR) w) (ho : Ok l) (hp : o.f1.size < 10000000) (hq : o.f2.size < 10000000) (hd : ∀ k, (nd l k).f2.length < 1000000000) (hxc : o.f5.length ≤ cd) (hx : ∀ w', Below B w w' → Kd.C (Kd.int .u8) w' Ad o.f5.length o.f5) (hk : o.f0 = 2) :
    Calls Tryd.prog 46 #[.pointer (some ⟨b, 0, none⟩)] w fun en w' => RunPost B b o Ad cd w (workF l o) en w' := by
  obtain ⟨k0, p, q, a, n, xs⟩ := o
  dsimp only at hk hp hq hxc hx
  subst hk
  have hk1 : w.cell? ⟨b, 1, none⟩ = some (.int .i64 2) := by obtain ⟨_, v, h, _⟩ := hst; exact (blk_cell h 1).trans rfl
  dsimp only [opV, zeroR] at hst
  have HST := Aside0.mk hst
  have HO := Aside0.mk ho
  have HD := Aside0.mk hd
  have HX := Aside0.mk hx
  clear hst ho hd hx
  have hwf : workF l ⟨2, p, q, a, n, xs⟩ = plain (createF l p 2) := rfl
  rw [hwf]
  clear hwf
  cases hX : createF l p 2 with
  | inr m =>
    have HXX := Aside0.mk hX
    clear hX
    go_enter Tryd.func46, Tryd.ntmps46
    go_wp2_with (go_at_call 69; (with_reducible refine (create_walk B b l _ p _ 2 _ HST.out HO.out hp).mono ?_); rintro e w1 h1; rw [HXX.out] at h1; obtain ⟨h1, hb⟩ := h1; dsimp only at h1; subst h1; exact ⟨rfl, runpost_bad hb⟩)
  | inl l' =>
    have HXX := Aside0.mk hX
    clear hX
    go_enter Tryd.func46, Tryd.ntmps46
    go_wp2_with (go_at_call 69; (with_reducible refine (create_walk B b l _ p _ 2 _ HST.out HO.out hp).mono ?_); rintro e w1 h1; rw [HXX.out] at h1; obtain ⟨h1, hb⟩ := h1; dsimp only at h1; obtain ⟨rfl, hs⟩ := h1; have HS := Aside0.mk hs; have HB := Aside0.mk hb; clear hs hb)
    go_end0
    exact runpost_ok rfl HS.out (Kd.R_nil _ _ _ _ _) (Kd.R_nil _ _ _ _ _) HB.out
set_option maxHeartbeats 4000000 in
theorem run_3 (B b : Nat) (l : List S58) (o : S39) (Ad : Option Addr) (cd : Nat) (w : World) (hst : St B b l (opV o Ad cd zeroR) w) (ho : Ok l) (hp : o.f1.size < 10000000) (hq : o.f2.size < 10000000) (hd : ∀ k, (nd l k).f2.length < 1000000000) (hxc : o.f5.length ≤ cd) (hx : ∀ w', Below B w w' → Kd.C (Kd.int .u8) w' Ad o.f5.length o.f5) (hk : o.f0 = 3) :
    Calls Tryd.prog 46 #[.pointer (some ⟨b, 0, none⟩)] w fun en w' => RunPost B b o Ad cd w (workF l o) en w' := by
  obtain ⟨k0, p, q, a, n, xs⟩ := o
  dsimp only at hk hp hq hxc hx
  subst hk
  have hk1 : w.cell? ⟨b, 1, none⟩ = some (.int .i64 3) := by obtain ⟨_, v, h, _⟩ := hst; exact (blk_cell h 1).trans rfl
  dsimp only [opV, zeroR] at hst
  have HST := Aside0.mk hst
  have HO := Aside0.mk ho
  have HD := Aside0.mk hd
  have HX := Aside0.mk hx
  clear hst ho hd hx
  have hwf : workF l ⟨3, p, q, a, n, xs⟩ = plain (linkF l p q) := rfl
  rw [hwf]
  clear hwf
  cases hX : linkF l p q with
  | inr m =>
    have HXX := Aside0.mk hX
    clear hX
    go_enter Tryd.func46, Tryd.ntmps46
    go_wp2_with (go_at_call 70; (with_reducible refine (link_walk B b l _ p q _ _ HST.out HO.out hp hq).mono ?_); rintro e w1 h1; rw [HXX.out] at h1; obtain ⟨h1, hb⟩ := h1; dsimp only at h1; subst h1; exact ⟨rfl, runpost_bad hb⟩)
  | inl l' =>
    have HXX := Aside0.mk hX
    clear hX
    go_enter Tryd.func46, Tryd.ntmps46
    go_wp2_with (go_at_call 70; (with_reducible refine (link_walk B b l _ p q _ _ HST.out HO.out hp hq).mono ?_); rintro e w1 h1; rw [HXX.out] at h1; obtain ⟨h1, hb⟩ := h1; dsimp only at h1; obtain ⟨rfl, hs⟩ := h1; have HS := Aside0.mk hs; have HB := Aside0.mk hb; clear hs hb)
    go_end0
    exact runpost_ok rfl HS.out (Kd.R_nil _ _ _ _ _) (Kd.R_nil _ _ _ _ _) HB.out
set_option maxHeartbeats 4000000 in
theorem run_4 (B b : Nat) (l : List S58) (o : S39) (Ad : Option Addr) (cd : Nat) (w : World) (hst : St B b l (opV o Ad cd zeroR) w) (ho : Ok l) (hp : o.f1.size < 10000000) (hq : o.f2.size < 10000000) (hd : ∀ k, (nd l k).f2.length < 1000000000) (hxc : o.f5.length ≤ cd) (hx : ∀ w', Below B w w' → Kd.C (Kd.int .u8) w' Ad o.f5.length o.f5) (hk : o.f0 = 4) :
    Calls Tryd.prog 46 #[.pointer (some ⟨b, 0, none⟩)] w fun en w' => RunPost B b o Ad cd w (workF l o) en w' := by
  obtain ⟨k0, p, q, a, n, xs⟩ := o
  dsimp only at hk hp hq hxc hx
  subst hk
  have hk1 : w.cell? ⟨b, 1, none⟩ = some (.int .i64 4) := by obtain ⟨_, v, h, _⟩ := hst; exact (blk_cell h 1).trans rfl
  dsimp only [opV, zeroR] at hst
  have HST := Aside0.mk hst
  have HO := Aside0.mk ho
  have HD := Aside0.mk hd
  have HX := Aside0.mk hx
  clear hst ho hd hx
  have hwf : workF l ⟨4, p, q, a, n, xs⟩ = plain (unlinkF l p) := rfl
  rw [hwf]
  clear hwf
  cases hX : unlinkF l p with
  | inr m =>
    have HXX := Aside0.mk hX
    clear hX
    go_enter Tryd.func46, Tryd.ntmps46
    go_wp2_with (go_at_call 71; (with_reducible refine (unlink_walk B b l _ p _ _ HST.out HO.out hp).mono ?_); rintro e w1 h1; rw [HXX.out] at h1; obtain ⟨h1, hb⟩ := h1; dsimp only at h1; subst h1; exact ⟨rfl, runpost_bad hb⟩)
  | inl l' =>
    have HXX := Aside0.mk hX
    clear hX
    go_enter Tryd.func46, Tryd.ntmps46
    go_wp2_with (go_at_call 71; (with_reducible refine (unlink_walk B b l _ p _ _ HST.out HO.out hp).mono ?_); rintro e w1 h1; rw [HXX.out] at h1; obtain ⟨h1, hb⟩ := h1; dsimp only at h1; obtain ⟨rfl, hs⟩ := h1; have HS := Aside0.mk hs; have HB := Aside0.mk hb; clear hs hb)
    go_end0
    exact runpost_ok rfl HS.out (Kd.R_nil _ _ _ _ _) (Kd.R_nil _ _ _ _ _) HB.out
set_option maxHeartbeats 4000000 in
theorem run_5 (B b : Nat) (l : List S58) (o : S39) (Ad : Option Addr) (cd : Nat) (w : World) (hst : St B b l (opV o Ad cd zeroR) w) (ho : Ok l) (hp : o.f1.size < 10000000) (hq : o.f2.size < 10000000) (hd : ∀ k, (nd l k).f2.length < 1000000000) (hxc : o.f5.length ≤ cd) (hx : ∀ w', Below B w w' → Kd.C (Kd.int .u8) w' Ad o.f5.length o.f5) (hk : o.f0 = 5) :
    Calls Tryd.prog 46 #[.pointer (some ⟨b, 0, none⟩)] w fun en w' => RunPost B b o Ad cd w (workF l o) en w' := by
  obtain ⟨k0, p, q, a, n, xs⟩ := o
  dsimp only at hk hp hq hxc hx
  subst hk
  have hk1 : w.cell? ⟨b, 1, none⟩ = some (.int .i64 5) := by obtain ⟨_, v, h, _⟩ := hst; exact (blk_cell h 1).trans rfl
  dsimp only [opV, zeroR] at hst
  have HST := Aside0.mk hst
  have HO := Aside0.mk ho
  have HD := Aside0.mk hd
  have HX := Aside0.mk hx
  clear hst ho hd hx
  have hwf : workF l ⟨5, p, q, a, n, xs⟩ = plain (rmdirF l p) := rfl
  rw [hwf]
  clear hwf
  cases hX : rmdirF l p with
  | inr m =>
    have HXX := Aside0.mk hX
    clear hX
    go_enter Tryd.func46, Tryd.ntmps46
    go_wp2_with (go_at_call 72; (with_reducible refine (rmdir_walk B b l _ p _ _ HST.out HO.out hp).mono ?_); rintro e w1 h1; rw [HXX.out] at h1; obtain ⟨h1, hb⟩ := h1; dsimp only at h1; subst h1; exact ⟨rfl, runpost_bad hb⟩)
  | inl l' =>
    have HXX := Aside0.mk hX
    clear hX
    go_enter Tryd.func46, Tryd.ntmps46
    go_wp2_with (go_at_call 72; (with_reducible refine (rmdir_walk B b l _ p _ _ HST.out HO.out hp).mono ?_); rintro e w1 h1; rw [HXX.out] at h1; obtain ⟨h1, hb⟩ := h1; dsimp only at h1; obtain ⟨rfl, hs⟩ := h1; have HS := Aside0.mk hs; have HB := Aside0.mk hb; clear hs hb)
    go_end0
    exact runpost_ok rfl HS.out (Kd.R_nil _ _ _ _ _) (Kd.R_nil _ _ _ _ _) HB.out
set_option maxHeartbeats 4000000 in
theorem run_6 (B b : Nat) (l : List S58) (o : S39) (Ad : Option Addr) (cd : Nat) (w : World) (hst : St B b l (opV o Ad cd zeroR) w) (ho : Ok l) (hp : o.f1.size < 10000000) (hq : o.f2.size < 10000000) (hd : ∀ k, (nd l k).f2.length < 1000000000) (hxc : o.f5.length ≤ cd) (hx : ∀ w', Below B w w' → Kd.C (Kd.int .u8) w' Ad o.f5.length o.f5) (hk : o.f0 = 6) :
    Calls Tryd.prog 46 #[.pointer (some ⟨b, 0, none⟩)] w fun en w' => RunPost B b o Ad cd w (workF l o) en w' := by
  obtain ⟨k0, p, q, a, n, xs⟩ := o
  dsimp only at hk hp hq hxc hx
  subst hk
  have hk1 : w.cell? ⟨b, 1, none⟩ = some (.int .i64 6) := by obtain ⟨_, v, h, _⟩ := hst; exact (blk_cell h 1).trans rfl
  dsimp only [opV, zeroR] at hst
  have HST := Aside0.mk hst
  have HO := Aside0.mk ho
  have HD := Aside0.mk hd
  have HX := Aside0.mk hx
  clear hst ho hd hx
  have hwf : workF l ⟨6, p, q, a, n, xs⟩ = plain (renameF l p q) := rfl
  rw [hwf]
  clear hwf
  cases hX : renameF l p q with
  | inr m =>
    have HXX := Aside0.mk hX
    clear hX
    go_enter Tryd.func46, Tryd.ntmps46
    go_wp2_with (go_at_call 73; (with_reducible refine (rename_walk B b l _ p q _ _ HST.out HO.out hp hq).mono ?_); rintro e w1 h1; rw [HXX.out] at h1; obtain ⟨h1, hb⟩ := h1; dsimp only at h1; subst h1; exact ⟨rfl, runpost_bad hb⟩)
  | inl l' =>
    have HXX := Aside0.mk hX
    clear hX
    go_enter Tryd.func46, Tryd.ntmps46
    go_wp2_with (go_at_call 73; (with_reducible refine (rename_walk B b l _ p q _ _ HST.out HO.out hp hq).mono ?_); rintro e w1 h1; rw [HXX.out] at h1; obtain ⟨h1, hb⟩ := h1; dsimp only at h1; obtain ⟨rfl, hs⟩ := h1; have HS := Aside0.mk hs; have HB := Aside0.mk hb; clear hs hb)
    go_end0
    exact runpost_ok rfl HS.out (Kd.R_nil _ _ _ _ _) (Kd.R_nil _ _ _ _ _) HB.out
set_option maxHeartbeats 4000000 in
theorem run_9 (B b : Nat) (l : List S58) (o : S39) (Ad : Option Addr) (cd : Nat) (w : World) (hst : St B b l (opV o Ad cd zeroR) w) (ho : Ok l) (hp : o.f1.size < 10000000) (hq : o.f2.size < 10000000) (hd : ∀ k, (nd l k).f2.length < 1000000000) (hxc : o.f5.length ≤ cd) (hx : ∀ w', Below B w w' → Kd.C (Kd.int .u8) w' Ad o.f5.length o.f5) (hk : o.f0 = 9) :
    Calls Tryd.prog 46 #[.pointer (some ⟨b, 0, none⟩)] w fun en w' => RunPost B b o Ad cd w (workF l o) en w' := by
  obtain ⟨k0, p, q, a, n, xs⟩ := o
  dsimp only at hk hp hq hxc hx
  subst hk
  have hk1 : w.cell? ⟨b, 1, none⟩ = some (.int .i64 9) := by obtain ⟨_, v, h, _⟩ := hst; exact (blk_cell h 1).trans rfl
  dsimp only [opV, zeroR] at hst
  have HST := Aside0.mk hst
  have HO := Aside0.mk ho
  have HD := Aside0.mk hd
  have HX := Aside0.mk hx
  clear hst ho hd hx
  have hwf : workF l ⟨9, p, q, a, n, xs⟩ = plain (truncF l p n) := rfl
  rw [hwf]
  clear hwf
  cases hX : truncF l p n with
  | inr m =>
    have HXX := Aside0.mk hX
    clear hX
    go_enter Tryd.func46, Tryd.ntmps46
    go_wp2_with (go_at_call 76; (with_reducible refine (trunc_walk B b l _ _ _ p n _ _ HST.out HO.out hp HD.out).mono ?_); rintro e w1 h1; rw [HXX.out] at h1; obtain ⟨h1, hb⟩ := h1; dsimp only at h1; subst h1; exact ⟨rfl, runpost_bad hb⟩)
  | inl l' =>
    have HXX := Aside0.mk hX
    clear hX
    go_enter Tryd.func46, Tryd.ntmps46
    go_wp2_with (go_at_call 76; (with_reducible refine (trunc_walk B b l _ _ _ p n _ _ HST.out HO.out hp HD.out).mono ?_); rintro e w1 h1; rw [HXX.out] at h1; obtain ⟨h1, hb⟩ := h1; dsimp only at h1; obtain ⟨rfl, hs⟩ := h1; have HS := Aside0.mk hs; have HB := Aside0.mk hb; clear hs hb)
    go_end0
    exact runpost_ok rfl HS.out (Kd.R_nil _ _ _ _ _) (Kd.R_nil _ _ _ _ _) HB.out
set_option maxHeartbeats 4000000 in
theorem run_7 (B b : Nat) (l : List S58) (o : S39) (Ad : Option Addr) (cd : Nat) (w : World) (hst : St B b l (opV o Ad cd zeroR) w) (ho : Ok l) (hp : o.f1.size < 10000000) (hq : o.f2.size < 10000000) (hd : ∀ k, (nd l k).f2.length < 1000000000) (hxc : o.f5.length ≤ cd) (hx : ∀ w', Below B w w' → Kd.C (Kd.int .u8) w' Ad o.f5.length o.f5) (hk : o.f0 = 7) :
    Calls Tryd.prog 46 #[.pointer (some ⟨b, 0, none⟩)] w fun en w' => RunPost B b o Ad cd w (workF l o) en w' := by
  obtain ⟨k0, p, q, a, n, xs⟩ := o
  dsimp only at hk hp hq hxc hx
  subst hk
  have hk1 : w.cell? ⟨b, 1, none⟩ = some (.int .i64 7) := by obtain ⟨_, v, h, _⟩ := hst; exact (blk_cell h 1).trans rfl
  dsimp only [opV, zeroR] at hst
  have HST := Aside0.mk hst
  have HO := Aside0.mk ho
  have HD := Aside0.mk hd
  have HX := Aside0.mk hx
  clear hst ho hd hx
  have hwf : workF l ⟨7, p, q, a, n, xs⟩ = (match readF l p a n with | .inl d => .inl (l, { res0 with f1 := d }) | .inr e => .inr e) := rfl
  rw [hwf]
  clear hwf
  cases hX : readF l p a n with
  | inr m =>
    have HXX := Aside0.mk hX
    clear hX
    dsimp only
    go_enter Tryd.func46, Tryd.ntmps46
    go_wp2_with (go_at_call 74; (with_reducible refine (read_walk B b l _ _ _ _ p a n _ _ HST.out HO.out hp HD.out).mono ?_); rintro e w1 h1; rw [HXX.out] at h1; obtain ⟨h1, hb⟩ := h1; dsimp only at h1; subst h1; exact ⟨rfl, runpost_bad hb⟩)
  | inl d =>
    have HXX := Aside0.mk hX
    clear hX
    dsimp only
    go_enter Tryd.func46, Tryd.ntmps46
    go_wp2_with (go_at_call 74; (with_reducible refine (read_walk B b l _ _ _ _ p a n _ _ HST.out HO.out hp HD.out).mono ?_); rintro e w1 h1; rw [HXX.out] at h1; obtain ⟨h1, hb⟩ := h1; dsimp only at h1; obtain ⟨rfl, vd, hs, hr⟩ := h1; have HB := Aside0.mk hb; clear hb; have HS := Aside0.mk hs; have HR := Aside0.mk hr; clear hs hr)
    go_end0
    exact runpost_ok rfl HS.out HR.out (Kd.R_nil _ _ _ _ _) HB.out
set_option maxHeartbeats 4000000 in
theorem run_8 (B b : Nat) (l : List S58) (o : S39) (Ad : Option Addr) (cd : Nat) (w : World) (hst : St B b l (opV o Ad cd zeroR) w) (ho : Ok l) (hp : o.f1.size < 10000000) (hq : o.f2.size < 10000000) (hd : ∀ k, (nd l k).f2.length < 1000000000) (hxc : o.f5.length ≤ cd) (hx : ∀ w', Below B w w' → Kd.C (Kd.int .u8) w' Ad o.f5.length o.f5) (hk : o.f0 = 8) :
    Calls Tryd.prog 46 #[.pointer (some ⟨b, 0, none⟩)] w fun en w' => RunPost B b o Ad cd w (workF l o) en w' := by
  obtain ⟨k0, p, q, a, n, xs⟩ := o
  dsimp only at hk hp hq hxc hx
  subst hk
  have hk1 : w.cell? ⟨b, 1, none⟩ = some (.int .i64 8) := by obtain ⟨_, v, h, _⟩ := hst; exact (blk_cell h 1).trans rfl
  dsimp only [opV, zeroR] at hst
  have HST := Aside0.mk hst
  have HO := Aside0.mk ho
  have HD := Aside0.mk hd
  have HX := Aside0.mk hx
  clear hst ho hd hx
  have hwf : workF l ⟨8, p, q, a, n, xs⟩ = (match writeF l p a xs with | .inl d => .inl (d, { res0 with f5 := (xs.length : Int) }) | .inr e => .inr e) := rfl
  rw [hwf]
  clear hwf
  cases hX : writeF l p a xs with
  | inr m =>
    have HXX := Aside0.mk hX
    clear hX
    dsimp only
    go_enter Tryd.func46, Tryd.ntmps46
    go_wp2_with (go_at_call 75; (with_reducible refine (write_walk B b l _ _ _ p a Ad cd xs _ _ _ _ _ _ HST.out HO.out hp HD.out hxc HX.out).mono ?_); rintro e w1 h1; rw [HXX.out] at h1; obtain ⟨h1, hb⟩ := h1; dsimp only at h1; subst h1; exact ⟨rfl, runpost_bad hb⟩)
  | inl d =>
    have HXX := Aside0.mk hX
    clear hX
    dsimp only
    go_enter Tryd.func46, Tryd.ntmps46
    go_wp2_with (go_at_call 75; (with_reducible refine (write_walk B b l _ _ _ p a Ad cd xs _ _ _ _ _ _ HST.out HO.out hp HD.out hxc HX.out).mono ?_); rintro e w1 h1; rw [HXX.out] at h1; obtain ⟨h1, hb⟩ := h1; dsimp only at h1; obtain ⟨rfl, hs⟩ := h1; have HB := Aside0.mk hb; clear hb; have HS := Aside0.mk hs; clear hs)
    go_end0
    exact runpost_ok rfl HS.out (Kd.R_nil _ _ _ _ _) (Kd.R_nil _ _ _ _ _) HB.out
set_option maxHeartbeats 4000000 in
theorem run_10 (B b : Nat) (l : List S58) (o : S39) (Ad : Option Addr) (cd : Nat) (w : World) (hst : St B b l (opV o Ad cd zeroR) w) (ho : Ok l) (hp : o.f1.size < 10000000) (hq : o.f2.size < 10000000) (hd : ∀ k, (nd l k).f2.length < 1000000000) (hxc : o.f5.length ≤ cd) (hx : ∀ w', Below B w w' → Kd.C (Kd.int .u8) w' Ad o.f5.length o.f5) (hk : o.f0 = 10) :
    Calls Tryd.prog 46 #[.pointer (some ⟨b, 0, none⟩)] w fun en w' => RunPost B b o Ad cd w (workF l o) en w' := by
  obtain ⟨k0, p, q, a, n, xs⟩ := o
  dsimp only at hk hp hq hxc hx
  subst hk
  have hk1 : w.cell? ⟨b, 1, none⟩ = some (.int .i64 10) := by obtain ⟨_, v, h, _⟩ := hst; exact (blk_cell h 1).trans rfl
  dsimp only [opV, zeroR] at hst
  have HST := Aside0.mk hst
  have HO := Aside0.mk ho
  have HD := Aside0.mk hd
  have HX := Aside0.mk hx
  clear hst ho hd hx
  have hwf : workF l ⟨10, p, q, a, n, xs⟩ = (match placeF l p with | .inl d => .inl (l, { res0 with f3 := (nd l d).f0, f4 := (nd l d).f1, f5 := ((nd l d).f2.length + (nd l d).f3.length : Nat) }) | .inr e => .inr e) := rfl
  rw [hwf]
  clear hwf
  cases hX : placeF l p with
  | inr m =>
    have HXX := Aside0.mk hX
    clear hX
    dsimp only
    go_enter Tryd.func46, Tryd.ntmps46
    go_wp2_with (go_at_call 77; (with_reducible refine (stat_walk B b l _ _ _ _ _ _ _ _ p _ HST.out HO.out hp HD.out).mono ?_); rintro e w1 h1; rw [HXX.out] at h1; obtain ⟨h1, hb⟩ := h1; dsimp only at h1; subst h1; exact ⟨rfl, runpost_bad hb⟩)
  | inl d =>
    have HXX := Aside0.mk hX
    clear hX
    dsimp only
    go_enter Tryd.func46, Tryd.ntmps46
    go_wp2_with (go_at_call 77; (with_reducible refine (stat_walk B b l _ _ _ _ _ _ _ _ p _ HST.out HO.out hp HD.out).mono ?_); rintro e w1 h1; rw [HXX.out] at h1; obtain ⟨h1, hb⟩ := h1; dsimp only at h1; obtain ⟨rfl, hs⟩ := h1; have HB := Aside0.mk hb; clear hb; have HS := Aside0.mk hs; clear hs)
    go_end0
    exact runpost_ok rfl HS.out (Kd.R_nil _ _ _ _ _) (Kd.R_nil _ _ _ _ _) HB.out
set_option maxHeartbeats 4000000 in
theorem run_11 (B b : Nat) (l : List S58) (o : S39) (Ad : Option Addr) (cd : Nat) (w : World) (hst : St B b l (opV o Ad cd zeroR) w) (ho : Ok l) (hp : o.f1.size < 10000000) (hq : o.f2.size < 10000000) (hd : ∀ k, (nd l k).f2.length < 1000000000) (hxc : o.f5.length ≤ cd) (hx : ∀ w', Below B w w' → Kd.C (Kd.int .u8) w' Ad o.f5.length o.f5) (hk : o.f0 = 11) :
    Calls Tryd.prog 46 #[.pointer (some ⟨b, 0, none⟩)] w fun en w' => RunPost B b o Ad cd w (workF l o) en w' := by
  obtain ⟨k0, p, q, a, n, xs⟩ := o
  dsimp only at hk hp hq hxc hx
  subst hk
  have hk1 : w.cell? ⟨b, 1, none⟩ = some (.int .i64 11) := by obtain ⟨_, v, h, _⟩ := hst; exact (blk_cell h 1).trans rfl
  dsimp only [opV, zeroR] at hst
  have HST := Aside0.mk hst
  have HO := Aside0.mk ho
  have HD := Aside0.mk hd
  have HX := Aside0.mk hx
  clear hst ho hd hx
  have hwf : workF l ⟨11, p, q, a, n, xs⟩ = (match listF l p with | .inl d => .inl (l, { res0 with f2 := d }) | .inr e => .inr e) := rfl
  rw [hwf]
  clear hwf
  cases hX : listF l p with
  | inr m =>
    have HXX := Aside0.mk hX
    clear hX
    dsimp only
    go_enter Tryd.func46, Tryd.ntmps46
    go_wp2_with (go_at_call 78; (with_reducible refine (list_walk B b l _ _ _ _ _ _ _ p _ _ HST.out HO.out hp).mono ?_); rintro e w1 h1; rw [HXX.out] at h1; obtain ⟨h1, hb⟩ := h1; dsimp only at h1; subst h1; exact ⟨rfl, runpost_bad hb⟩)
  | inl d =>
    have HXX := Aside0.mk hX
    clear hX
    dsimp only
    go_enter Tryd.func46, Tryd.ntmps46
    go_wp2_with (go_at_call 78; (with_reducible refine (list_walk B b l _ _ _ _ _ _ _ p _ _ HST.out HO.out hp).mono ?_); rintro e w1 h1; rw [HXX.out] at h1; obtain ⟨h1, hb⟩ := h1; dsimp only at h1; obtain ⟨rfl, vn, hs, hr⟩ := h1; have HB := Aside0.mk hb; clear hb; have HS := Aside0.mk hs; have HR := Aside0.mk hr; clear hs hr)
    go_end0
    exact runpost_ok rfl HS.out (Kd.R_nil _ _ _ _ _) HR.out HB.out
set_option maxHeartbeats 4000000 in
theorem run_12 (B b : Nat) (l : List S58) (o : S39) (Ad : Option Addr) (cd : Nat) (w : World) (hst : St B b l (opV o Ad cd zeroR) w) (ho : Ok l) (hp : o.f1.size < 10000000) (hq : o.f2.size < 10000000) (hd : ∀ k, (nd l k).f2.length < 1000000000) (hxc : o.f5.length ≤ cd) (hx : ∀ w', Below B w w' → Kd.C (Kd.int .u8) w' Ad o.f5.length o.f5) (hk : o.f0 = 12) :
    Calls Tryd.prog 46 #[.pointer (some ⟨b, 0, none⟩)] w fun en w' => RunPost B b o Ad cd w (workF l o) en w' := by
  obtain ⟨k0, p, q, a, n, xs⟩ := o
  dsimp only at hk hp hq hxc hx
  subst hk
  have hk1 : w.cell? ⟨b, 1, none⟩ = some (.int .i64 12) := by obtain ⟨_, v, h, _⟩ := hst; exact (blk_cell h 1).trans rfl
  dsimp only [opV, zeroR] at hst
  have HST := Aside0.mk hst
  have HO := Aside0.mk ho
  have HD := Aside0.mk hd
  have HX := Aside0.mk hx
  clear hst ho hd hx
  have hwf : workF l ⟨12, p, q, a, n, xs⟩ = .inl (l, res0) := rfl
  rw [hwf]
  clear hwf
  go_enter Tryd.func46, Tryd.ntmps46
  go_wp2
  go_end0
  exact runpost_ok rfl HST.out (Kd.R_nil _ _ _ _ _) (Kd.R_nil _ _ _ _ _) (BW.refl _ _)
set_option maxHeartbeats 4000000 in
theorem run_13 (B b : Nat) (l : List S58) (o : S39) (Ad : Option Addr) (cd : Nat) (w : World) (hst : St B b l (opV o Ad cd zeroR) w) (ho : Ok l) (hp : o.f1.size < 10000000) (hq : o.f2.size < 10000000) (hd : ∀ k, (nd l k).f2.length < 1000000000) (hxc : o.f5.length ≤ cd) (hx : ∀ w', Below B w w' → Kd.C (Kd.int .u8) w' Ad o.f5.length o.f5) (hk : o.f0 = 13) :
    Calls Tryd.prog 46 #[.pointer (some ⟨b, 0, none⟩)] w fun en w' => RunPost B b o Ad cd w (workF l o) en w' := by
  obtain ⟨k0, p, q, a, n, xs⟩ := o
  dsimp only at hk hp hq hxc hx
  subst hk
  have hk1 : w.cell? ⟨b, 1, none⟩ = some (.int .i64 13) := by obtain ⟨_, v, h, _⟩ := hst; exact (blk_cell h 1).trans rfl
  dsimp only [opV, zeroR] at hst
  have HST := Aside0.mk hst
  have HO := Aside0.mk ho
  have HD := Aside0.mk hd
  have HX := Aside0.mk hx
  clear hst ho hd hx
  have hwf : workF l ⟨13, p, q, a, n, xs⟩ = (match placeF l p with | .inl _ => .inl (l, res0) | .inr e => .inr e) := rfl
  rw [hwf]
  clear hwf
  have hk2 : w.cell? ⟨b, 2, none⟩ = some (.string p) := by obtain ⟨_, v, h, _⟩ := HST.out; exact (blk_cell h 2).trans rfl
  have hBw : B ≤ w.heap.size := by obtain ⟨h0, v, h, _⟩ := HST.out; have := blk_lt h; omega
  have HB := Aside0.mk (Below.refl w.heap.size w)
  unfold placeF
  by_cases h0 : (splitA p).2 = 0
  · rw [if_pos h0]
    cases hk : wk l (splitA p).1 0 with
    | inr m =>
      have HK := Aside0.mk hk
      clear hk
      dsimp only
      go_enter Tryd.func46, Tryd.ntmps46
      go_wp2_with (first | (go_at_call 56; (with_reducible refine (names_walk p _ hp).mono ?_); rintro e w1 ⟨h1, hb⟩; rw [if_pos h0] at h1; obtain ⟨An, cn, rfl, hcn, hCn⟩ := h1; have HCN := Aside0.mk hCn; clear hCn; have n0_ := Aside0.mk (below_step (by repeat (first | exact HB.out | with_reducible apply below_drew1 | with_reducible apply below_alloc | with_reducible apply pw_below_drewN)) hb); clear HB hb; have HB := n0_; clear n0_) | (go_at_call 55; (with_reducible refine (place_walk B b l _ An cn p _ (St.below HST.out (by repeat (first | exact HB.out | with_reducible apply below_drew1 | with_reducible apply below_alloc | with_reducible apply pw_below_drewN))) HO.out HCN.out hcn).mono ?_); rintro e w2 ⟨h1, hb⟩; rw [HK.out] at h1; subst h1; have n0_ := Aside0.mk (below_step (by repeat (first | exact HB.out | with_reducible apply below_drew1 | with_reducible apply below_alloc | with_reducible apply pw_below_drewN)) hb); clear HB hb; have HB := n0_; clear n0_; exact ⟨rfl, runpost_bad (BW.mono HB.out hBw)⟩))
    | inl k =>
      have HK := Aside0.mk hk
      clear hk
      dsimp only
      go_enter Tryd.func46, Tryd.ntmps46
      go_wp2_with (first | (go_at_call 56; (with_reducible refine (names_walk p _ hp).mono ?_); rintro e w1 ⟨h1, hb⟩; rw [if_pos h0] at h1; obtain ⟨An, cn, rfl, hcn, hCn⟩ := h1; have HCN := Aside0.mk hCn; clear hCn; have n0_ := Aside0.mk (below_step (by repeat (first | exact HB.out | with_reducible apply below_drew1 | with_reducible apply below_alloc | with_reducible apply pw_below_drewN)) hb); clear HB hb; have HB := n0_; clear n0_) | (go_at_call 55; (with_reducible refine (place_walk B b l _ An cn p _ (St.below HST.out (by repeat (first | exact HB.out | with_reducible apply below_drew1 | with_reducible apply below_alloc | with_reducible apply pw_below_drewN))) HO.out HCN.out hcn).mono ?_); rintro e w2 ⟨h1, hb⟩; rw [HK.out] at h1; subst h1; have n0_ := Aside0.mk (below_step (by repeat (first | exact HB.out | with_reducible apply below_drew1 | with_reducible apply below_alloc | with_reducible apply pw_below_drewN)) hb); clear HB hb; have HB := n0_; clear n0_))
      go_end0
      exact runpost_ok rfl (St.below HST.out HB.out) (Kd.R_nil _ _ _ _ _) (Kd.R_nil _ _ _ _ _) (BW.mono HB.out hBw)
  · rw [if_neg h0]
    dsimp only
    go_enter Tryd.func46, Tryd.ntmps46
    go_wp2_with (first | (go_at_call 56; (with_reducible refine (names_walk p _ hp).mono ?_); rintro e w1 ⟨h1, hb⟩; rw [if_neg h0] at h1; subst h1; have n0_ := Aside0.mk (below_step (by repeat (first | exact HB.out | with_reducible apply below_drew1 | with_reducible apply below_alloc | with_reducible apply pw_below_drewN)) hb); clear HB hb; have HB := n0_; clear n0_; exact ⟨rfl, runpost_bad (BW.mono HB.out hBw)⟩))
set_option maxHeartbeats 4000000 in
theorem run_bad (B b : Nat) (l : List S58) (o : S39) (Ad : Option Addr) (cd : Nat) (w : World) (hst : St B b l (opV o Ad cd zeroR) w) (ho : Ok l) (hp : o.f1.size < 10000000) (hq : o.f2.size < 10000000) (hd : ∀ k, (nd l k).f2.length < 1000000000) (hxc : o.f5.length ≤ cd) (hx : ∀ w', Below B w w' → Kd.C (Kd.int .u8) w' Ad o.f5.length o.f5) (hk : ∀ c : Int, 1 ≤ c → c ≤ 13 → o.f0 ≠ c) :
    Calls Tryd.prog 46 #[.pointer (some ⟨b, 0, none⟩)] w fun en w' => RunPost B b o Ad cd w (workF l o) en w' := by
  rw [workF_bad hk]
  have hk1 : w.cell? ⟨b, 1, none⟩ = some (.int .i64 o.f0) := by obtain ⟨_, v, h, _⟩ := hst; exact (blk_cell h 1).trans rfl
  have e1 : (o.f0 == 1) = false := beq_eq_false_iff_ne.2 (hk 1 (by omega) (by omega))
  have e2 : (o.f0 == 2) = false := beq_eq_false_iff_ne.2 (hk 2 (by omega) (by omega))
  have e3 : (o.f0 == 3) = false := beq_eq_false_iff_ne.2 (hk 3 (by omega) (by omega))
  have e4 : (o.f0 == 4) = false := beq_eq_false_iff_ne.2 (hk 4 (by omega) (by omega))
  have e5 : (o.f0 == 5) = false := beq_eq_false_iff_ne.2 (hk 5 (by omega) (by omega))
  have e6 : (o.f0 == 6) = false := beq_eq_false_iff_ne.2 (hk 6 (by omega) (by omega))
  have e7 : (o.f0 == 7) = false := beq_eq_false_iff_ne.2 (hk 7 (by omega) (by omega))
  have e8 : (o.f0 == 8) = false := beq_eq_false_iff_ne.2 (hk 8 (by omega) (by omega))
  have e9 : (o.f0 == 9) = false := beq_eq_false_iff_ne.2 (hk 9 (by omega) (by omega))
  have e10 : (o.f0 == 10) = false := beq_eq_false_iff_ne.2 (hk 10 (by omega) (by omega))
  have e11 : (o.f0 == 11) = false := beq_eq_false_iff_ne.2 (hk 11 (by omega) (by omega))
  have e12 : (o.f0 == 12) = false := beq_eq_false_iff_ne.2 (hk 12 (by omega) (by omega))
  have e13 : (o.f0 == 13) = false := beq_eq_false_iff_ne.2 (hk 13 (by omega) (by omega))
  clear hst ho hp hq hd hxc hx hk
  generalize o.f0 = kd at *
  go_enter Tryd.func46, Tryd.ntmps46
  go_wp2
  exact ⟨rfl, runpost_bad (BW.refl _ _)⟩
/-- The worker's run: what workF says. -/
theorem run_walk (B b : Nat) (l : List S58) (o : S39) (Ad : Option Addr) (cd : Nat) (w : World) (hst : St B b l (opV o Ad cd zeroR) w) (ho : Ok l) (hp : o.f1.size < 10000000) (hq : o.f2.size < 10000000) (hd : ∀ k, (nd l k).f2.length < 1000000000) (hxc : o.f5.length ≤ cd) (hx : ∀ w', Below B w w' → Kd.C (Kd.int .u8) w' Ad o.f5.length o.f5) :
    Calls Tryd.prog 46 #[.pointer (some ⟨b, 0, none⟩)] w fun en w' => RunPost B b o Ad cd w (workF l o) en w' := by
  by_cases h1 : o.f0 = 1
  · exact run_1 B b l o Ad cd w hst ho hp hq hd hxc hx h1
  by_cases h2 : o.f0 = 2
  · exact run_2 B b l o Ad cd w hst ho hp hq hd hxc hx h2
  by_cases h3 : o.f0 = 3
  · exact run_3 B b l o Ad cd w hst ho hp hq hd hxc hx h3
  by_cases h4 : o.f0 = 4
  · exact run_4 B b l o Ad cd w hst ho hp hq hd hxc hx h4
  by_cases h5 : o.f0 = 5
  · exact run_5 B b l o Ad cd w hst ho hp hq hd hxc hx h5
  by_cases h6 : o.f0 = 6
  · exact run_6 B b l o Ad cd w hst ho hp hq hd hxc hx h6
  by_cases h7 : o.f0 = 7
  · exact run_7 B b l o Ad cd w hst ho hp hq hd hxc hx h7
  by_cases h8 : o.f0 = 8
  · exact run_8 B b l o Ad cd w hst ho hp hq hd hxc hx h8
  by_cases h9 : o.f0 = 9
  · exact run_9 B b l o Ad cd w hst ho hp hq hd hxc hx h9
  by_cases h10 : o.f0 = 10
  · exact run_10 B b l o Ad cd w hst ho hp hq hd hxc hx h10
  by_cases h11 : o.f0 = 11
  · exact run_11 B b l o Ad cd w hst ho hp hq hd hxc hx h11
  by_cases h12 : o.f0 = 12
  · exact run_12 B b l o Ad cd w hst ho hp hq hd hxc hx h12
  by_cases h13 : o.f0 = 13
  · exact run_13 B b l o Ad cd w hst ho hp hq hd hxc hx h13
  exact run_bad B b l o Ad cd w hst ho hp hq hd hxc hx (fun c h0 h => by omega)
end Go.Proofs.YtllfjmmdackgdaaDoor.PZ
end
