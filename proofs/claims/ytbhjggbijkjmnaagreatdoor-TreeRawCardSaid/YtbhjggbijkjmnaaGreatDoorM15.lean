import Derived.Test.YtbhjggbijkjmnaaGreatDoorM14
import Derived.Test.YtbhjggbijkjmnaaGreatDoorM13
import Derived.Deep.RegionHeld3
import Derived.Deep.RegionHeld2
import Derived.Deep.Cut
import Derived.Deep.QuietTactic
import Derived.BigQuiet
import Derived.Test.YtbhjggbijkjmnaaGreatDoorM11
import Derived.Test.YtbhjggbijkjmnaaGreatDoorM10
import Derived.Deep.RegionWith
set_option linter.unusedVariables false
set_option linter.unusedSimpArgs false
section
namespace Go.Proofs.YtbhjggbijkjmnaaGreatDoor.PZ
open Go.RowKit Go.Proofs.YtbhjggbijkjmnaaGreatDoorW.PrintWords Go.Proofs.YtbhjggbijkjmnaaGreatDoorW.PrintLast Go.Proofs.YtbhjggbijkjmnaaGreatDoorW.PrintMore Go.Proofs.YtbhjggbijkjmnaaGreatDoor.B Go.Proofs.YtbhjggbijkjmnaaGreatDoor.Ord TD
set_option maxRecDepth 100000
theorem add_off (a : Addr) (n : Nat) : (a.add n).off = a.off + n := by
 unfold Addr.add
 split
 · rename_i h; simp_all
 · rfl
theorem cell_of {w : World} {ad : Addr} {g T : Nat} {u : Value} {cs : Array Value} {f : Nat × Nat} (hg : w.heap[g]? = some (.cells cs T f)) (h : w.cell? ad = some u) (e : ad.block = g) : cs[ad.off]? = some u := by
 unfold World.cell? at h
 rw [e, hg] at h
 dsimp only at h
 split at h
 · cases h
 · exact h
section
variable {w W : World} {g T : Nat} {z0 z3 z4 z5 : Int} {Ag Bg : Option Addr} {ng mg cg dg : Nat} {f : Nat × Nat} {A : Option Addr} {n : Nat}
theorem res_cells {i : Nat} {u : Value} (h : (#[.int .i64 z0, .slice Ag ng cg, .slice Bg mg dg, .int .i64 z3, .int .i64 z4, .int .i64 z5] : Array Value)[i]? = some u) :
  ((i = 0 ∨ i = 3 ∨ i = 4 ∨ i = 5) ∧ ∃ z, u = .int .i64 z) ∨ ((i = 1 ∨ i = 2) ∧ ∃ A n c, u = .slice A n c) := by
 match i, h with
 | 0, h => exact .inl ⟨.inl rfl, z0, (Option.some.inj h).symm⟩
 | 1, h => exact .inr ⟨.inl rfl, Ag, ng, cg, (Option.some.inj h).symm⟩
 | 2, h => exact .inr ⟨.inr rfl, Bg, mg, dg, (Option.some.inj h).symm⟩
 | 3, h => exact .inl ⟨.inr (.inl rfl), z3, (Option.some.inj h).symm⟩
 | 4, h => exact .inl ⟨.inr (.inr (.inl rfl)), z4, (Option.some.inj h).symm⟩
 | 5, h => exact .inl ⟨.inr (.inr (.inr rfl)), z5, (Option.some.inj h).symm⟩
 | i + 6, h => rw [Array.getElem?_eq_none zq14] at h; cases h
theorem C_flatR {α : Type} {d : Kd α} {xs : List α} (hf : ∀ x cs, d.K w x cs → ∃ (i : Nat) (u : Value), cs[i]? = some u ∧ (∀ A n c, u ≠ .slice A n c) ∧ ∀ z, u ≠ .int .i64 z) (hK : ∀ x cs, d.K w x cs → d.K W x cs) (hg : w.heap[g]? = some (.cells #[.int .i64 z0, .slice Ag ng cg, .slice Bg mg dg, .int .i64 z3, .int .i64 z4, .int .i64 z5] T f)) (hk : ∀ k, k ≠ g → W.heap[k]? = w.heap[k]?) (h : d.C w A n xs) : d.C W A n xs :=
 ⟨h.1, h.2.1, fun hn => by
  obtain ⟨ad, e, hc⟩ := h.2.2 hn
  refine ⟨ad, e, fun j p hj => ?_⟩
  obtain ⟨c, hs, hr, hcell⟩ := hc j p hj
  obtain ⟨i, u, hu, h1, h2⟩ := hf _ _ hr
  have hb : ad.block ≠ g := fun he => by
   rcases res_cells (cell_of hg (hcell i u hu) (by rw [Qc]; exact he)) with ⟨-, z, hz⟩ | ⟨-, A, n, c, hz⟩
   · exact h2 z hz
   · exact h1 _ _ _ hz
  exact ⟨c, hs, hK _ _ hr, fun i u hu => (Qge hk (by rw [Qc]; exact hb)).trans (hcell i u hu)⟩⟩
theorem C_resR {xs : List S52} (hg : w.heap[g]? = some (.cells #[.int .i64 z0, .slice Ag ng cg, .slice Bg mg dg, .int .i64 z3, .int .i64 z4, .int .i64 z5] T f)) (hk : ∀ k, k ≠ g → W.heap[k]? = w.heap[k]?) (h : k52.C w A n xs) : k52.C W A n xs :=
 ⟨h.1, h.2.1, fun hn => by
  obtain ⟨ad, e, hc⟩ := h.2.2 hn
  refine ⟨ad, e, fun j p hj => ?_⟩
  obtain ⟨c, hs, hr, hcell⟩ := hc j p hj
  obtain ⟨A2, c2, A3, c3, rfl, l2, g2, l3, g3⟩ := k52_open hr
  have hb : ad.block ≠ g := fun he => by
   have q0 := res_cells (cell_of hg (hcell 0 _ rfl) (by rw [Qc]; exact he))
   have q1 := res_cells (cell_of hg (hcell 1 _ rfl) (by rw [Qc]; exact he))
   have q2 := res_cells (cell_of hg (hcell 2 _ rfl) (by rw [Qc]; exact he))
   rw [add_off] at q0 q1 q2
   rcases q0 with ⟨q0, -⟩ | ⟨-, _, _, _, q⟩
   ·
    rcases q1 with ⟨q1, -⟩ | ⟨-, _, _, _, q⟩
    ·
     rcases q2 with ⟨-, _, q⟩ | ⟨q2, -⟩
     · cases q
     · omega
    · cases q
   · cases q
  refine ⟨_, hs, k52_mk W p l2 (C_flatR (w := w) (W := W) (d := Kd.int .u8) (fun x cs h => ⟨0, .int .u8 x, by subst h; rfl, fun _ _ _ e => (by cases e), fun _ e => (by cases e)⟩) (fun _ _ h => h) hg hk g2) l3
   (C_flatR (w := w) (W := W) (fun x cs h => ⟨0, .string x.f0, by rw [Qgy h]; rfl, fun _ _ _ e => (by cases e), fun _ e => (by cases e)⟩) (fun x cs h => by rw [Qgy h]; exact k62_mk W x) hg hk g3), fun i u hu => (Qge hk (by rw [Qc]; exact hb)).trans (hcell i u hu)⟩⟩
end
def set6 (w : World) (g : Nat) (v0 v1 v2 v3 v4 v5 : Value) : World := (((((w.setCell ⟨g, 0, none⟩ v0).setCell ⟨g, 1, none⟩ v1).setCell ⟨g, 2, none⟩ v2).setCell ⟨g, 3, none⟩ v3).setCell ⟨g, 4, none⟩ v4).setCell ⟨g, 5, none⟩ v5
section
variable {w : World} {g T : Nat} {v0 v1 v2 v3 v4 v5 u0 u1 u2 u3 u4 u5 : Value}
theorem Qeb {k : Nat} (h : k ≠ g) : (set6 w g v0 v1 v2 v3 v4 v5).heap[k]? = w.heap[k]? := by
 unfold set6
 rw [Below.heap_setCell _ ⟨g, 5, none⟩ _ k h, Below.heap_setCell _ ⟨g, 4, none⟩ _ k h, Below.heap_setCell _ ⟨g, 3, none⟩ _ k h, Below.heap_setCell _ ⟨g, 2, none⟩ _ k h, Below.heap_setCell _ ⟨g, 1, none⟩ _ k h, Below.heap_setCell _ ⟨g, 0, none⟩ _ k h]
theorem set6_blk (hR : w.heap[g]? = some (.cells #[u0, u1, u2, u3, u4, u5] T (0, 0))) : (set6 w g v0 v1 v2 v3 v4 v5).heap[g]? = some (.cells #[v0, v1, v2, v3, v4, v5] T (0, 0)) :=
 Qap (Qap (Qap (Qap (Qap (Qap hR 0 v0 rfl) 1 v1 rfl) 2 v2 rfl) 3 v3 rfl) 4 v4 rfl) 5 v5 rfl
theorem Qeq {B : Nat} {w0 : World} (h : Below B w0 w) (hg : B ≤ g) : Below B w0 (set6 w g v0 v1 v2 v3 v4 v5) :=
 (((((h.setCell (p := ⟨g, 0, none⟩) hg _).setCell (p := ⟨g, 1, none⟩) hg _).setCell (p := ⟨g, 2, none⟩) hg _).setCell (p := ⟨g, 3, none⟩) hg _).setCell (p := ⟨g, 4, none⟩) hg _).setCell (p := ⟨g, 5, none⟩) hg _
theorem set6_size : (set6 w g v0 v1 v2 v3 v4 v5).heap.size = w.heap.size := by
 unfold set6
 simp
end
def Qbh (l : List S52) (x : (List S52 × S37) ⊕ Int) : List S52 × S37 := match x with | .inl r => r | .inr e => (l, { res0 with f0 := e })
def RQ (w : World) (r : List S52 × S37) (e : Ending) (w' : World) : Prop :=
 ∃ A1 c1 A2 c2 A3 c3, e = .returned (.tuple #[.agg #[.slice A1 r.1.length c1], .agg #[.int .i64 r.2.f0, .slice A2 r.2.f1.length c2, .slice A3 r.2.f2.length c3, .int .i64 r.2.f3, .int .i64 r.2.f4, .int .i64 r.2.f5]]) ∧
  r.1.length ≤ c1 ∧ Kd.C k52 w' A1 r.1.length r.1 ∧ r.2.f1.length ≤ c2 ∧ Kd.C (Kd.int .u8) w' A2 r.2.f1.length r.2.f1 ∧ r.2.f2.length ≤ c3 ∧ Kd.C Kd.string w' A3 r.2.f2.length r.2.f2 ∧ Below w.heap.size w w'
structure RF (w : World) (vt o0 o1 o2 o3 o4 o5 : Value) (W : World) : Prop where
 t : W.heap[w.heap.size]? = some (.cells #[vt] 26 (0, 0))
 o : W.heap[w.heap.size + 1]? = some (.cells #[o0, o1, o2, o3, o4, o5] 31 (0, 0))
 rt : W.heap[w.heap.size + 1 + 1]? = some (.cells #[.slice none 0 0] 26 (0, 0))
 rr : W.heap[w.heap.size + 1 + 1 + 1]? = some (.cells #[.int .i64 0, .slice none 0 0, .slice none 0 0, .int .i64 0, .int .i64 0, .int .i64 0] 37 (0, 0))
 bel : Below w.heap.size w W
section
variable {w W W' : World} {vt o0 o1 o2 o3 o4 o5 : Value}
theorem RF.below (h : RF w vt o0 o1 o2 o3 o4 o5 W) (hb : Below W.heap.size W W') : RF w vt o0 o1 o2 o3 o4 o5 W' := ⟨Qaf h.t hb, Qaf h.o hb, Qaf h.rt hb, Qaf h.rr hb, Qa h.bel hb⟩
theorem RF.tc (h : RF w vt o0 o1 o2 o3 o4 o5 W) : W.cell? ⟨w.heap.size, 0, none⟩ = some vt := (Qab h.t 0).trans rfl
theorem RF.lt (h : RF w vt o0 o1 o2 o3 o4 o5 W) : w.heap.size < W.heap.size ∧ w.heap.size + 1 < W.heap.size ∧ w.heap.size + 1 + 1 < W.heap.size ∧ w.heap.size + 1 + 1 + 1 < W.heap.size := ⟨Qai h.t, Qai h.o, Qai h.rt, Qai h.rr⟩
theorem RF.oc (h : RF w vt o0 o1 o2 o3 o4 o5 W) : W.cell? ⟨w.heap.size + 1, 0, none⟩ = some o0 ∧ W.cell? ⟨w.heap.size + 1, 1, none⟩ = some o1 ∧ W.cell? ⟨w.heap.size + 1, 2, none⟩ = some o2 ∧ W.cell? ⟨w.heap.size + 1, 3, none⟩ = some o3 ∧ W.cell? ⟨w.heap.size + 1, 4, none⟩ = some o4 ∧ W.cell? ⟨w.heap.size + 1, 5, none⟩ = some o5 :=
 ⟨(Qab h.o 0).trans rfl, (Qab h.o 1).trans rfl, (Qab h.o 2).trans rfl, (Qab h.o 3).trans rfl, (Qab h.o 4).trans rfl, (Qab h.o 5).trans rfl⟩
theorem RF.rc (h : RF w vt o0 o1 o2 o3 o4 o5 W) : W.cell? ⟨w.heap.size + 1 + 1, 0, none⟩ = some (.slice none 0 0) ∧ W.cell? ⟨w.heap.size + 1 + 1 + 1, 0, none⟩ = some (.int .i64 0) ∧ W.cell? ⟨w.heap.size + 1 + 1 + 1, 1, none⟩ = some (.slice none 0 0) ∧ W.cell? ⟨w.heap.size + 1 + 1 + 1, 2, none⟩ = some (.slice none 0 0) ∧ W.cell? ⟨w.heap.size + 1 + 1 + 1, 3, none⟩ = some (.int .i64 0) ∧ W.cell? ⟨w.heap.size + 1 + 1 + 1, 4, none⟩ = some (.int .i64 0) ∧ W.cell? ⟨w.heap.size + 1 + 1 + 1, 5, none⟩ = some (.int .i64 0) :=
 ⟨(Qab h.rt 0).trans rfl, (Qab h.rr 0).trans rfl, (Qab h.rr 1).trans rfl, (Qab h.rr 2).trans rfl, (Qab h.rr 3).trans rfl, (Qab h.rr 4).trans rfl, (Qab h.rr 5).trans rfl⟩
theorem RF.fr (h : RF w vt o0 o1 o2 o3 o4 o5 W) : W.frozen? ⟨w.heap.size + 1 + 1, 0, none⟩ = false ∧ ∀ i, W.frozen? ⟨w.heap.size + 1 + 1 + 1, i, none⟩ = false := ⟨Qag h.rt 0, Qag h.rr⟩
theorem RF.far (h : RF w vt o0 o1 o2 o3 o4 o5 W) {g : Nat} (hg : w.heap.size + 1 + 1 + 1 < g) (j : Nat) (v : Value) : RF w vt o0 o1 o2 o3 o4 o5 (W.setCell ⟨g, j, none⟩ v) :=
 ⟨Qam (p := ⟨g, j, none⟩) h.t (by show w.heap.size ≠ g; omega) v, Qam (p := ⟨g, j, none⟩) h.o (by show w.heap.size + 1 ≠ g; omega) v, Qam (p := ⟨g, j, none⟩) h.rt (by show w.heap.size + 1 + 1 ≠ g; omega) v, Qam (p := ⟨g, j, none⟩) h.rr (by show w.heap.size + 1 + 1 + 1 ≠ g; omega) v, h.bel.setCell (p := ⟨g, j, none⟩) (by show w.heap.size ≤ g; omega) v⟩
theorem Qco (w : World) (vt o0 o1 o2 o3 o4 o5 : Value) : RF w vt o0 o1 o2 o3 o4 o5 ((((w.alloc (.cells #[vt] 26)).alloc (.cells #[o0, o1, o2, o3, o4, o5] 31)).alloc (.cells #[.slice none 0 0] 26)).alloc (.cells #[.int .i64 0, .slice none 0 0, .slice none 0 0, .int .i64 0, .int .i64 0, .int .i64 0] 37)) := by
 have h1 := Qal w (.cells #[vt] 26)
 have h2 := Qal (w.alloc (.cells #[vt] 26)) (.cells #[o0, o1, o2, o3, o4, o5] 31)
 have h3 := Qal ((w.alloc (.cells #[vt] 26)).alloc (.cells #[o0, o1, o2, o3, o4, o5] 31)) (.cells #[.slice none 0 0] 26)
 have h4 := Qal (((w.alloc (.cells #[vt] 26)).alloc (.cells #[o0, o1, o2, o3, o4, o5] 31)).alloc (.cells #[.slice none 0 0] 26)) (.cells #[.int .i64 0, .slice none 0 0, .slice none 0 0, .int .i64 0, .int .i64 0, .int .i64 0] 37)
 rw [World.size_alloc] at h2 h3 h4
 rw [World.size_alloc] at h3 h4
 rw [World.size_alloc] at h4
 exact ⟨Qaj (Qaj (Qaj h1 _) _) _, Qaj (Qaj h2 _) _, Qaj h3 _, h4, Qaa (Qaa (Qaa (Qaa (Below.refl _ _) _) _) _) _⟩
end
def laid2 (w1 : World) (gT gR : Nat) (v r0 r1 r2 r3 r4 r5 : Value) : World := set6 (w1.setCell ⟨gT, 0, none⟩ v) gR r0 r1 r2 r3 r4 r5
theorem Qfy {w W : World} {g T : Nat} {Ag A : Option Addr} {ng cg n : Nat} {f : Nat × Nat} {xs : List ByteArray} (hg : w.heap[g]? = some (.cells #[.slice Ag ng cg] T f)) (hk : ∀ k, k ≠ g → W.heap[k]? = w.heap[k]?) (h : Kd.C Kd.string w A n xs) : Kd.C Kd.string W A n xs :=
 C_flat (w := w) (W := W) (d := Kd.string) (fun x cs h u hu A n c e => by subst h; rw [List.mem_singleton.1 hu] at e; cases e) (fun _ _ h => h) hg hk h
section
variable {w W : World} {g T n ng cg mg dg : Nat} {z0 z3 z4 z5 : Int} {Ag Bg A : Option Addr} {f : Nat × Nat}
theorem C_u8R {xs : List Int} (hg : w.heap[g]? = some (.cells #[.int .i64 z0, .slice Ag ng cg, .slice Bg mg dg, .int .i64 z3, .int .i64 z4, .int .i64 z5] T f)) (hk : ∀ k, k ≠ g → W.heap[k]? = w.heap[k]?) (h : Kd.C (Kd.int .u8) w A n xs) : Kd.C (Kd.int .u8) W A n xs :=
 C_flatR (w := w) (W := W) (d := Kd.int .u8) (fun x cs h => ⟨0, .int .u8 x, by subst h; rfl, fun _ _ _ e => (by cases e), fun _ e => (by cases e)⟩) (fun _ _ h => h) hg hk h
theorem C_strR {xs : List ByteArray} (hg : w.heap[g]? = some (.cells #[.int .i64 z0, .slice Ag ng cg, .slice Bg mg dg, .int .i64 z3, .int .i64 z4, .int .i64 z5] T f)) (hk : ∀ k, k ≠ g → W.heap[k]? = w.heap[k]?) (h : Kd.C Kd.string w A n xs) : Kd.C Kd.string W A n xs :=
 C_flatR (w := w) (W := W) (d := Kd.string) (fun x cs h => ⟨0, .string x, by subst h; rfl, fun _ _ _ e => (by cases e), fun _ e => (by cases e)⟩) (fun _ _ h => h) hg hk h
end
section
variable {w W : World} {vt o0 o1 o2 o3 o4 o5 : Value} {l : List S52} {r : S37} {A1 A2 A3 : Option Addr} {c1 c2 c3 : Nat}
theorem Qbe {fn : Func} (hres : fn.results = #[.cell 4 26, .cell 5 37]) (h : RF w vt o0 o1 o2 o3 o4 o5 W) (tmps : Array Value) (h4 : tmps.getD 4 undef = .pointer (some ⟨w.heap.size + 1 + 1, 0, none⟩)) (h5 : tmps.getD 5 undef = .pointer (some ⟨w.heap.size + 1 + 1 + 1, 0, none⟩))
  (hc1 : l.length ≤ c1) (hC1 : Kd.C k52 W A1 l.length l) (hc2 : r.f1.length ≤ c2) (hC2 : Kd.C (Kd.int .u8) W A2 r.f1.length r.f1) (hc3 : r.f2.length ≤ c3) (hC3 : Kd.C Kd.string W A3 r.f2.length r.f2) :
  bodyPost Tryz.prog fn (fun e w' => RQ w (l, r) e w') .ret { tmps := tmps, defers := [] } (laid2 W (w.heap.size + 1 + 1) (w.heap.size + 1 + 1 + 1) (.slice A1 l.length c1) (.int .i64 r.f0) (.slice A2 r.f1.length c2) (.slice A3 r.f2.length c3) (.int .i64 r.f3) (.int .i64 r.f4) (.int .i64 r.f5)) := by
 have hne : w.heap.size + 1 + 1 ≠ w.heap.size + 1 + 1 + 1 := by omega
 have hT : (W.setCell ⟨w.heap.size + 1 + 1, 0, none⟩ (.slice A1 l.length c1)).heap[w.heap.size + 1 + 1]? = some (.cells #[.slice A1 l.length c1] 26 (0, 0)) := Qap (cs := #[.slice none 0 0]) h.rt 0 _ rfl
 have hR : (W.setCell ⟨w.heap.size + 1 + 1, 0, none⟩ (.slice A1 l.length c1)).heap[w.heap.size + 1 + 1 + 1]? = some (.cells #[.int .i64 0, .slice none 0 0, .slice none 0 0, .int .i64 0, .int .i64 0, .int .i64 0] 37 (0, 0)) := Qam (p := ⟨w.heap.size + 1 + 1, 0, none⟩) h.rr (Ne.symm hne) _
 have hT2 : (laid2 W (w.heap.size + 1 + 1) (w.heap.size + 1 + 1 + 1) (.slice A1 l.length c1) (.int .i64 r.f0) (.slice A2 r.f1.length c2) (.slice A3 r.f2.length c3) (.int .i64 r.f3) (.int .i64 r.f4) (.int .i64 r.f5)).heap[w.heap.size + 1 + 1]? = some (.cells #[.slice A1 l.length c1] 26 (0, 0)) := (Qeb hne).trans hT
 have hk1 : ∀ k, k ≠ w.heap.size + 1 + 1 → (W.setCell ⟨w.heap.size + 1 + 1, 0, none⟩ (.slice A1 l.length c1)).heap[k]? = W.heap[k]? := fun k hk => Below.heap_setCell W ⟨w.heap.size + 1 + 1, 0, none⟩ _ k hk
 have hR2 : (laid2 W (w.heap.size + 1 + 1) (w.heap.size + 1 + 1 + 1) (.slice A1 l.length c1) (.int .i64 r.f0) (.slice A2 r.f1.length c2) (.slice A3 r.f2.length c3) (.int .i64 r.f3) (.int .i64 r.f4) (.int .i64 r.f5)).heap[w.heap.size + 1 + 1 + 1]? = some (.cells #[.int .i64 r.f0, .slice A2 r.f1.length c2, .slice A3 r.f2.length c3, .int .i64 r.f3, .int .i64 r.f4, .int .i64 r.f5] 37 (0, 0)) := set6_blk hR
 have hk2 : ∀ k, k ≠ w.heap.size + 1 + 1 + 1 → (laid2 W (w.heap.size + 1 + 1) (w.heap.size + 1 + 1 + 1) (.slice A1 l.length c1) (.int .i64 r.f0) (.slice A2 r.f1.length c2) (.slice A3 r.f2.length c3) (.int .i64 r.f3) (.int .i64 r.f4) (.int .i64 r.f5)).heap[k]? = (W.setCell ⟨w.heap.size + 1 + 1, 0, none⟩ (.slice A1 l.length c1)).heap[k]? := fun k hk => Qeb hk
 have hb : Below w.heap.size w (laid2 W (w.heap.size + 1 + 1) (w.heap.size + 1 + 1 + 1) (.slice A1 l.length c1) (.int .i64 r.f0) (.slice A2 r.f1.length c2) (.slice A3 r.f2.length c3) (.int .i64 r.f3) (.int .i64 r.f4) (.int .i64 r.f5)) := Qeq (h.bel.setCell (p := ⟨w.heap.size + 1 + 1, 0, none⟩) (Nat.le_trans (Nat.le_succ _) (Nat.le_succ _)) _) zq3
 generalize laid2 W (w.heap.size + 1 + 1) (w.heap.size + 1 + 1 + 1) (.slice A1 l.length c1) (.int .i64 r.f0) (.slice A2 r.f1.length c2) (.slice A3 r.f2.length c3) (.int .i64 r.f3) (.int .i64 r.f4) (.int .i64 r.f5) = W2 at hT2 hR2 hk2 hb ⊢
 generalize W.setCell ⟨w.heap.size + 1 + 1, 0, none⟩ (.slice A1 l.length c1) = W1 at hT hR hk1 hk2
 exact bodyPost_ret (Qen hres _ _ (w.heap.size + 1 + 1) (w.heap.size + 1 + 1 + 1) 26 37 _ _ (0, 0) (0, 0) _ _ h4 hT2 Tryz.underlying26 rfl zq15 h5 hR2 Tryz.underlying37 rfl zq15) rfl
  ⟨A1, c1, A2, c2, A3, c3, rfl, hc1, C_resR hR hk2 (C_box h.rt hk1 hC1), hc2, C_u8R hR hk2 (Qgx h.rt hk1 hC2), hc3, C_strR hR hk2 (Qfy h.rt hk1 hC3), hb⟩
end
theorem Qcp (e : Int) (w : World) :
  Calls Tryz.prog 28 #[.int .i64 e] w fun en w' => en = .returned (.agg #[.int .i64 e, .slice none 0 0, .slice none 0 0, .int .i64 0, .int .i64 0, .int .i64 0]) ∧ Below w.heap.size w w' := by
 go_enter Tryz.func28, Tryz.ntmps28
 go_wp2
 exact bodyPost_ret (results_cell_row rfl _ _ w.heap.size 37 #[.int .i64 e, .slice none 0 0, .slice none 0 0, .int .i64 0, .int .i64 0, .int .i64 0] (0, 0) _ rfl (Qal w _) Tryz.underlying37 rfl zq15) rfl ⟨rfl, Qaa (Below.refl _ _) _⟩
def RA (w : World) (r : S37) (e : Ending) (w' : World) : Prop :=
 ∃ A2 c2 A3 c3, e = .returned (.agg #[.int .i64 r.f0, .slice A2 r.f1.length c2, .slice A3 r.f2.length c3, .int .i64 r.f3, .int .i64 r.f4, .int .i64 r.f5]) ∧
  r.f1.length ≤ c2 ∧ Kd.C (Kd.int .u8) w' A2 r.f1.length r.f1 ∧ r.f2.length ≤ c3 ∧ Kd.C Kd.string w' A3 r.f2.length r.f2 ∧ Below w.heap.size w w'
structure RG (w : World) (vt o0 o1 o2 o3 o4 o5 : Value) (W : World) : Prop where
 t : W.heap[w.heap.size]? = some (.cells #[vt] 26 (0, 0))
 o : W.heap[w.heap.size + 1]? = some (.cells #[o0, o1, o2, o3, o4, o5] 31 (0, 0))
 rr : W.heap[w.heap.size + 1 + 1]? = some (.cells #[.int .i64 0, .slice none 0 0, .slice none 0 0, .int .i64 0, .int .i64 0, .int .i64 0] 37 (0, 0))
 bel : Below w.heap.size w W
section
variable {w W W' : World} {vt o0 o1 o2 o3 o4 o5 : Value}
theorem RG.below (h : RG w vt o0 o1 o2 o3 o4 o5 W) (hb : Below W.heap.size W W') : RG w vt o0 o1 o2 o3 o4 o5 W' := ⟨Qaf h.t hb, Qaf h.o hb, Qaf h.rr hb, Qa h.bel hb⟩
theorem RG.tc (h : RG w vt o0 o1 o2 o3 o4 o5 W) : W.cell? ⟨w.heap.size, 0, none⟩ = some vt := (Qab h.t 0).trans rfl
theorem RG.lt (h : RG w vt o0 o1 o2 o3 o4 o5 W) : w.heap.size < W.heap.size ∧ w.heap.size + 1 < W.heap.size ∧ w.heap.size + 1 + 1 < W.heap.size := ⟨Qai h.t, Qai h.o, Qai h.rr⟩
theorem RG.oc (h : RG w vt o0 o1 o2 o3 o4 o5 W) : W.cell? ⟨w.heap.size + 1, 0, none⟩ = some o0 ∧ W.cell? ⟨w.heap.size + 1, 1, none⟩ = some o1 :=
 ⟨(Qab h.o 0).trans rfl, (Qab h.o 1).trans rfl⟩
theorem RG.rc (h : RG w vt o0 o1 o2 o3 o4 o5 W) : W.cell? ⟨w.heap.size + 1 + 1, 0, none⟩ = some (.int .i64 0) ∧ W.cell? ⟨w.heap.size + 1 + 1, 1, none⟩ = some (.slice none 0 0) ∧ W.cell? ⟨w.heap.size + 1 + 1, 2, none⟩ = some (.slice none 0 0) ∧ W.cell? ⟨w.heap.size + 1 + 1, 3, none⟩ = some (.int .i64 0) ∧ W.cell? ⟨w.heap.size + 1 + 1, 4, none⟩ = some (.int .i64 0) ∧ W.cell? ⟨w.heap.size + 1 + 1, 5, none⟩ = some (.int .i64 0) :=
 ⟨(Qab h.rr 0).trans rfl, (Qab h.rr 1).trans rfl, (Qab h.rr 2).trans rfl, (Qab h.rr 3).trans rfl, (Qab h.rr 4).trans rfl, (Qab h.rr 5).trans rfl⟩
theorem RG.fr (h : RG w vt o0 o1 o2 o3 o4 o5 W) : ∀ i, W.frozen? ⟨w.heap.size + 1 + 1, i, none⟩ = false := Qag h.rr
theorem rg_start (w : World) (vt o0 o1 o2 o3 o4 o5 : Value) : RG w vt o0 o1 o2 o3 o4 o5 (((w.alloc (.cells #[vt] 26)).alloc (.cells #[o0, o1, o2, o3, o4, o5] 31)).alloc (.cells #[.int .i64 0, .slice none 0 0, .slice none 0 0, .int .i64 0, .int .i64 0, .int .i64 0] 37)) := by
 have h1 := Qal w (.cells #[vt] 26)
 have h2 := Qal (w.alloc (.cells #[vt] 26)) (.cells #[o0, o1, o2, o3, o4, o5] 31)
 have h4 := Qal ((w.alloc (.cells #[vt] 26)).alloc (.cells #[o0, o1, o2, o3, o4, o5] 31)) (.cells #[.int .i64 0, .slice none 0 0, .slice none 0 0, .int .i64 0, .int .i64 0, .int .i64 0] 37)
 rw [World.size_alloc] at h2 h4
 rw [World.size_alloc] at h4
 exact ⟨Qaj (Qaj h1 _) _, Qaj h2 _, h4, Qaa (Qaa (Qaa (Below.refl _ _) _) _) _⟩
variable {r : S37} {A2 A3 : Option Addr} {c2 c3 : Nat}
theorem rg_end {fn : Func} (hres : fn.results = #[.cell 4 37]) (h : RG w vt o0 o1 o2 o3 o4 o5 W) (tmps : Array Value) (h4 : tmps.getD 4 undef = .pointer (some ⟨w.heap.size + 1 + 1, 0, none⟩))
  (hc2 : r.f1.length ≤ c2) (hC2 : Kd.C (Kd.int .u8) W A2 r.f1.length r.f1) (hc3 : r.f2.length ≤ c3) (hC3 : Kd.C Kd.string W A3 r.f2.length r.f2) {W3 : World}
  (h3 : Below (set6 W (w.heap.size + 1 + 1) (.int .i64 r.f0) (.slice A2 r.f1.length c2) (.slice A3 r.f2.length c3) (.int .i64 r.f3) (.int .i64 r.f4) (.int .i64 r.f5)).heap.size (set6 W (w.heap.size + 1 + 1) (.int .i64 r.f0) (.slice A2 r.f1.length c2) (.slice A3 r.f2.length c3) (.int .i64 r.f3) (.int .i64 r.f4) (.int .i64 r.f5)) W3) :
  bodyPost Tryz.prog fn (fun e w' => RA w r e w') .ret { tmps := tmps, defers := [] } W3 := by
 have hR2 : (set6 W (w.heap.size + 1 + 1) (.int .i64 r.f0) (.slice A2 r.f1.length c2) (.slice A3 r.f2.length c3) (.int .i64 r.f3) (.int .i64 r.f4) (.int .i64 r.f5)).heap[w.heap.size + 1 + 1]? = some (.cells #[.int .i64 r.f0, .slice A2 r.f1.length c2, .slice A3 r.f2.length c3, .int .i64 r.f3, .int .i64 r.f4, .int .i64 r.f5] 37 (0, 0)) := set6_blk h.rr
 have hk2 : ∀ k, k ≠ w.heap.size + 1 + 1 → (set6 W (w.heap.size + 1 + 1) (.int .i64 r.f0) (.slice A2 r.f1.length c2) (.slice A3 r.f2.length c3) (.int .i64 r.f3) (.int .i64 r.f4) (.int .i64 r.f5)).heap[k]? = W.heap[k]? := fun k hk => Qeb hk
 have hb : Below w.heap.size w (set6 W (w.heap.size + 1 + 1) (.int .i64 r.f0) (.slice A2 r.f1.length c2) (.slice A3 r.f2.length c3) (.int .i64 r.f3) (.int .i64 r.f4) (.int .i64 r.f5)) := Qeq h.bel zq3
 generalize set6 W (w.heap.size + 1 + 1) (.int .i64 r.f0) (.slice A2 r.f1.length c2) (.slice A3 r.f2.length c3) (.int .i64 r.f3) (.int .i64 r.f4) (.int .i64 r.f5) = W2 at hR2 hk2 hb h3 ⊢
 exact bodyPost_ret (results_cell_row hres _ _ (w.heap.size + 1 + 1) 37 _ (0, 0) _ h4 (Qaf hR2 h3) Tryz.underlying37 rfl zq15) rfl
  ⟨A2, c2, A3, c3, rfl, hc2, Kd.C_below (C_u8R h.rr hk2 hC2) h3, hc3, Kd.C_below (C_strR h.rr hk2 hC3) h3, Qa hb h3⟩
end
section
attribute [local go_sem ↓] Go.wp_at_zero Go.wp_at_succ
theorem Qgh (w : World) (a b : Obj) : ((w.alloc a).alloc b).heap[w.heap.size + 1]? = some b := by
 have := Qal (w.alloc a) b
 simpa using this
theorem ok_cut {l : List S52} (h : Ok l) {d : Nat} (hd : (nd l d).f0 = 2) (n : ByteArray) : Ok (cutT l d n) := by
 have hdl := Pr.lt_of_dir hd
 refine ⟨h.wf.cut hd n, fun k => ?_, by rw [cutT, setE_len]; exact h.len⟩
 unfold cutT
 rw [Qfg hdl]
 split
 · exact Nat.lt_of_le_of_lt (cut_len _ _) (h.small d)
 · exact h.small k
theorem spot_lt {l : List S52} {p nm : ByteArray} {d j : Nat} (h : Ok l) (hs : spotF l p = .inl (d, nm, some j)) : j < l.length := by
 obtain ⟨q, -, -, -, -, hd, ho⟩ := Qbb hs
 cases hl : look (nd l d).f3 nm with
 | none => rw [hl] at ho; cases ho
 | some e =>
  rw [hl] at ho
  injection ho with ho
  rw [ho]
  exact (h.wf.ino_lt (Qdg hl).1).1
set_option maxHeartbeats 40000000 in
theorem rename_a (B b : Nat) (l : List S52) (x : Value) (p q : ByteArray) (rs : List Value) (w : World) (hst : St B b l (x :: .string p :: .string q :: rs) w) (ho : Ok l) (hp : p.size < 10000000) (hq : q.size < 10000000) (X : List S52 ⊕ Int) (h0 : (Qah p).2 = 0) (hzq : (Qah q).2 = 0) (hr : p ≠ rootP) (hrq : q ≠ rootP) (k : Nat) (hk : wk l (Qah p).1 0 = .inl k) (hC : ¬ ((nd l k).f0 = 2 ∧ q ≠ p ∧ Qbt q p = true)) (n : Int) (hsa : spotF l p = .inr n) (hX : (match spotF l p with | .inr n => .inr n | .inl a => match spotF l q with | .inr n => .inr n | .inl c => moveF l k a c) = X) :
  Calls Tryz.prog 52 #[.pointer (some ⟨b, 0, none⟩)] w fun en w' => OpPost B b (x :: .string p :: .string q :: rs) w X en w' := by
 have Hhsa_ := am hsa
 clear hsa
 have hbl : b < w.heap.size := by obtain ⟨_, v, h, _⟩ := hst; exact Qai h
 have hBb : B ≤ b := hst.1
 have hBw : B ≤ w.heap.size := by omega
 have hk2 : w.cell? ⟨b, 2, none⟩ = some (.string p) := by obtain ⟨_, v, h, _⟩ := hst; exact (Qab h 2).trans rfl
 have hk3 : w.cell? ⟨b, 3, none⟩ = some (.string q) := by obtain ⟨_, v, h, _⟩ := hst; exact (Qab h 3).trans rfl
 obtain ⟨_, v, hw, hS⟩ := id hst
 obtain ⟨g, cap, rfl, hBg, hgl, -⟩ := Kd.S_form hS ho.wf.pos
 have HW := am hw
 have HS := am hS
 have hk0 : w.cell? ⟨b, 0, none⟩ = some (.slice (some ⟨g, 0, none⟩) l.length cap) := (Qab hw 0).trans rfl
 clear hw hS
 have HST := am hst
 have HO := am ho
 have HB := am (Below.refl w.heap.size w)
 clear hst ho
 have hpr : (p.toList == [47]) = false := beq_eq_false_iff_ne.2 fun h => hr (Qax (h.trans (beq_iff_eq.1 root_eq).symm))
 have hqr : (q.toList == [47]) = false := beq_eq_false_iff_ne.2 fun h => hrq (Qax (h.trans (beq_iff_eq.1 root_eq).symm))
 have hkl : k < l.length := wk_lt HO.out.wf HO.out.wf.pos hk
 have HK := am hk
 have HX := am hX
 clear hk hX
 have HCC := am hC
 clear hC
 go_enter Tryz.func52, Tryz.ntmps52
 go_wp2_with (first
  | (go_at_call 34; (with_reducible refine (Qak p _ hp).mono ?_); rintro e w1 ⟨h1, hb⟩; rw [if_pos h0] at h1; obtain ⟨An, cn, rfl, hcn, hCn⟩ := h1; have HCN := am hCn; clear hCn; have n0_ := am (Qa zq0 hb); clear HB hb; have HB := n0_; clear n0_; have hk2_ := (HB.out.cell (p := ⟨b, 2, none⟩) hbl).trans hk2; have hk3_ := (HB.out.cell (p := ⟨b, 3, none⟩) hbl).trans hk3)
  | (go_at_call 34; (with_reducible refine (Qak q _ hq).mono ?_); rintro e w1q ⟨h1, hb⟩; rw [if_pos hzq] at h1; obtain ⟨Anq, cnq, rfl, hcnq, hCn⟩ := h1; have HCNq := am hCn; clear hCn; have HCN2 := am (Kd.C_below HCN.out hb); have n0_ := am (Qa zq0 hb); clear HB hb; have HB := n0_; clear n0_; have hk2_ := (HB.out.cell (p := ⟨b, 2, none⟩) hbl).trans hk2; have hk3_ := (HB.out.cell (p := ⟨b, 3, none⟩) hbl).trans hk3)
  | (go_at_call 64; (with_reducible refine (Qau _ _).mono ?_); rintro e w9 ⟨rfl, h9⟩; subst w9)
  | (go_at_call 33; (with_reducible refine (Qaq B b l _ An cn p _ (St.below HST.out zq0) HO.out HCN2.out hcn).mono ?_); rintro e w2 ⟨h1, hb⟩; rw [HK.out] at h1; subst h1; have n0_ := am (Qa zq0 hb); clear HB hb; have HB := n0_; clear n0_; have hk2_ := (HB.out.cell (p := ⟨b, 2, none⟩) hbl).trans hk2; have hk3_ := (HB.out.cell (p := ⟨b, 3, none⟩) hbl).trans hk3))
 go_cut [] from 6 (fun w' => Below w.heap.size w w')
 case first =>
  cases hd : ((nd l k).f0 == 2) with
  | false =>
   go_quiet (first | (go_at_call 65; refine Calls.quiet_of_same (Qan B b l _ k _ hkl (St.below HST.out zq0) hd)) | (go_at_call 64; refine Calls.quiet_of_same (Qau _ _)))
   go_wp2
   go_meet
   case rel => exact zq0
  | true =>
   by_cases hqp : q = p
   ·
    have hqpb : (q.toList == p.toList) = true := by rw [hqp]; exact beq_self_eq_true _
    clear hqp
    go_quiet (first | (go_at_call 65; refine Calls.quiet_of_same (Qan B b l _ k _ hkl (St.below HST.out zq0) hd)) | (go_at_call 64; refine Calls.quiet_of_same (Qau _ _)))
    go_wp2
    go_meet
    case rel => exact zq0
   ·
    have hqpb : (q.toList == p.toList) = false := beq_eq_false_iff_ne.2 fun h => hqp (Qax h)
    cases hwi : Qbt q p with
    | true => exact absurd ⟨beq_iff_eq.1 hd, hqp, hwi⟩ HCC.out
    | false =>
     clear hqp
     go_region_held3 (fun w' => w'.cell? ⟨b, 2, none⟩ = some (.string p) ∧ w'.cell? ⟨b, 3, none⟩ = some (.string q)) (go_keep) (first | (go_at_call 65; (with_reducible refine (Qan B b l _ k _ hkl (St.below HST.out zq0) hd).mono ?_); rintro e w9 ⟨rfl, h9⟩; subst w9) | (go_at_call 78; (with_reducible refine (Qfj q p _ hq hp hwi).mono ?_); rintro e w7 ⟨rfl, hb⟩; have n0_ := am (Qa zq0 hb); clear HB hb; have HB := n0_; clear n0_; have hk2_ := (HB.out.cell (p := ⟨b, 2, none⟩) hbl).trans hk2; have hk3_ := (HB.out.cell (p := ⟨b, 3, none⟩) hbl).trans hk3) | (go_at_call 64; (with_reducible refine (Qau _ _).mono ?_); rintro e w9 ⟨rfl, h9⟩; subst w9))
     all_goals go_wp2
     all_goals go_meet
     all_goals exact zq0
 case rest =>
  clear HB
  have HB := am hcut
  have hk2_ := (HB.out.cell (p := ⟨b, 2, none⟩) hbl).trans hk2
  have hk3_ := (HB.out.cell (p := ⟨b, 3, none⟩) hbl).trans hk3
  clear hcut
  have hX := HX.out
  clear HX
  have hsa := Hhsa_.out
  clear Hhsa_
  rw [hsa] at hX
  dsimp only at hX
  subst hX
  have HSA := am hsa
  clear hsa
  go_wp2
  go_region_held2 (fun w' => w'.cell? ⟨b, 2, none⟩ = some (.string p) ∧ w'.cell? ⟨b, 3, none⟩ = some (.string q)) (first | exact hF.out.elim | go_keep) (first | (go_at_call 74; (with_reducible refine Qbn (v := .agg #[.int .i64 0, .string p, .int .i64 0]) hF.out.elim ?_); intro hF1; clear hF1; dsimp only) | (go_at_call 74; (with_reducible refine Qbn (v := .agg #[.int .i64 0, .string p, .int .i64 0]) ((Qcb B b l _ p _ (St.below HST.out zq0) HO.out hp hr).mono ?_) ?_); (rintro e w3 ⟨h1, hb⟩; rw [HSA.out] at h1; subst h1; have n0_ := am (Qa zq0 hb); clear HB hb; have HB := n0_; clear n0_; have hk2_ := (HB.out.cell (p := ⟨b, 2, none⟩) hbl).trans hk2; exact ⟨rfl, rfl, BW.mono zq0 hBw⟩); (intro hF0; have hF := am hF0; clear hF0; dsimp only)))
  all_goals exact hF.out.elim
end
theorem ref_within_l0 (x y : List ByteArray) (hl : x.length < 1000000000) (he : y.length ≤ x.length) : ∀ (d i : Nat), i ≤ y.length → y.length - i = d → ∃ K, ∀ k, K ≤ k → moraineref10_Within.l0 k x y (i : Int) = some (decide ((x.take y.length).drop i = y.drop i)) := by
 have htl : (x.take y.length).length = y.length := by rw [List.length_take]; omega
 intro d
 induction d with
 | zero =>
  intro i hi hd
  refine ⟨1, fun k hk => ?_⟩
  obtain ⟨m, rfl⟩ : ∃ m, k = m + 1 := ⟨k - 1, by omega⟩
  rw [moraineref10_Within.l0, if_neg zq3, List.drop_of_length_le zq3, List.drop_of_length_le zq3]
  rfl
 | succ d ih =>
  intro i hi hd
  obtain ⟨K, hK⟩ := ih (i + 1) zq3 zq3
  have hw : wrap64 ((i : Int) + 1) = ((i + 1 : Nat) : Int) := (w6 zq3 zq3).trans zq3
  have hix : i < x.length := by omega
  have hiy : i < y.length := by omega
  have hit : i < (x.take y.length).length := by omega
  have h1 : (i : Int) < (x.length : Int) := by omega
  have h3 : (i : Int) < (y.length : Int) := by omega
  have h2 : (0 : Int) ≤ (i : Int) := by omega
  have hg : (x.take y.length)[i] = x[i] := List.getElem_take ..
  refine ⟨K + 1, fun k hk => ?_⟩
  obtain ⟨m, rfl⟩ : ∃ m, k = m + 1 := ⟨k - 1, by omega⟩
  rw [moraineref10_Within.l0, if_pos h3, if_pos h2, if_pos h1, rdS x i hix, rdS y i hiy, hw, hK m zq3]
  by_cases h : x[i] = y[i]
  ·
   rw [if_pos (by rw [h])]
   congr 1
   rw [decide_eq_decide, Qeh hit hiy, hg]
   simp [h]
  ·
   rw [if_neg (fun e => h (Qax e))]
   congr 1
   symm
   rw [decide_eq_false_iff_not, Qeh hit hiy, hg]
   exact fun e => h e.1
theorem ref_within_ev (a b : ByteArray) (ha : a.size < 10000000) (hb : b.size < 10000000) : Ev (fun k => moraineref10_Within.f k a b) (Qbt a b) := by
 obtain ⟨K1, h1⟩ := Qcx a ha
 obtain ⟨K2, h2⟩ := Qcx b hb
 have l1 := Qbi a
 have l2 := Qbi b
 have jt : ∀ m x y, moraineref10_Within.j0 (m + 1) x y true = some false := fun m x y => by rw [moraineref10_Within.j0, if_pos rfl]
 have base : ∀ k, K1 + K2 ≤ k → moraineref10_Within.f k a b = (if (Qah a).2 = 0 then (if (Qah b).2 = 0 then (moraineref10_Within.j0 k (Qah a).1 (Qah b).1 (decide (((Qah b).1.length : Int) > ((Qah a).1.length : Int)))) else (moraineref10_Within.j0 k (Qah a).1 (Qah b).1 true)) else (moraineref10_Within.j0 k (Qah a).1 (Qah b).1 true)) := by
  intro k hk
  unfold moraineref10_Within.f
  rw [show moraineref10_Split.f k a = _ from h1 k zq3, Option.bind_some, show moraineref10_Split.f k b = _ from h2 k zq3, Option.bind_some]
 unfold Qbt
 by_cases e1 : (Qah a).2 = 0
 ·
  rw [decide_eq_true e1, Bool.true_and]
  by_cases e2 : (Qah b).2 = 0
  ·
   rw [decide_eq_true e2, Bool.true_and]
   unfold withB
   by_cases e3 : (Qah b).1.length ≤ (Qah a).1.length
   ·
    obtain ⟨K3, h3⟩ := ref_within_l0 (Qah a).1 (Qah b).1 zq3 e3 (Qah b).1.length 0 zq3 zq3
    refine ⟨K1 + K2 + K3 + 1, fun k hk => ?_⟩
    obtain ⟨m, rfl⟩ : ∃ m, k = m + 1 := ⟨k - 1, by omega⟩
    have hq := h3 m zq3
    rw [List.drop_zero, List.drop_zero] at hq
    show moraineref10_Within.f (m + 1) a b = _
    rw [base _ zq3, if_pos e1, if_pos e2, decide_eq_false (show ¬ (((Qah b).1.length : Int) > ((Qah a).1.length : Int)) by omega), moraineref10_Within.j0, if_neg Bool.false_ne_true, decide_eq_true e3, Bool.true_and]
    exact hq
   ·
    refine ⟨K1 + K2 + 1, fun k hk => ?_⟩
    obtain ⟨m, rfl⟩ : ∃ m, k = m + 1 := ⟨k - 1, by omega⟩
    show moraineref10_Within.f (m + 1) a b = _
    rw [base _ zq3, if_pos e1, if_pos e2, decide_eq_true (show (((Qah b).1.length : Int) > ((Qah a).1.length : Int)) by omega), jt, decide_eq_false e3]
    rfl
  ·
   refine ⟨K1 + K2 + 1, fun k hk => ?_⟩
   obtain ⟨m, rfl⟩ : ∃ m, k = m + 1 := ⟨k - 1, by omega⟩
   show moraineref10_Within.f (m + 1) a b = _
   rw [base _ zq3, if_pos e1, if_neg e2, jt, decide_eq_false e2]
   rfl
 ·
  refine ⟨K1 + K2 + 1, fun k hk => ?_⟩
  obtain ⟨m, rfl⟩ : ∃ m, k = m + 1 := ⟨k - 1, by omega⟩
  show moraineref10_Within.f (m + 1) a b = _
  rw [base _ zq3, if_neg e1, jt, decide_eq_false e1]
  rfl
section
variable {w W : World} {vt o0 o1 o2 o3 o4 o5 : Value}
theorem RF.all (h : RF w vt o0 o1 o2 o3 o4 o5 W) : (W.cell? ⟨w.heap.size, 0, none⟩ = some vt ∧ w.heap.size < W.heap.size ∧ w.heap.size + 1 < W.heap.size ∧ w.heap.size + 1 + 1 < W.heap.size ∧ w.heap.size + 1 + 1 + 1 < W.heap.size) ∧
  (W.cell? ⟨w.heap.size + 1, 0, none⟩ = some o0 ∧ W.cell? ⟨w.heap.size + 1, 1, none⟩ = some o1 ∧ W.cell? ⟨w.heap.size + 1, 2, none⟩ = some o2 ∧ W.cell? ⟨w.heap.size + 1, 3, none⟩ = some o3 ∧ W.cell? ⟨w.heap.size + 1, 4, none⟩ = some o4 ∧ W.cell? ⟨w.heap.size + 1, 5, none⟩ = some o5) ∧
  (W.cell? ⟨w.heap.size + 1 + 1, 0, none⟩ = some (.slice none 0 0) ∧ W.cell? ⟨w.heap.size + 1 + 1 + 1, 0, none⟩ = some (.int .i64 0) ∧ W.cell? ⟨w.heap.size + 1 + 1 + 1, 1, none⟩ = some (.slice none 0 0) ∧ W.cell? ⟨w.heap.size + 1 + 1 + 1, 2, none⟩ = some (.slice none 0 0) ∧ W.cell? ⟨w.heap.size + 1 + 1 + 1, 3, none⟩ = some (.int .i64 0) ∧ W.cell? ⟨w.heap.size + 1 + 1 + 1, 4, none⟩ = some (.int .i64 0) ∧ W.cell? ⟨w.heap.size + 1 + 1 + 1, 5, none⟩ = some (.int .i64 0)) ∧
  W.frozen? ⟨w.heap.size + 1 + 1, 0, none⟩ = false ∧ ∀ i, W.frozen? ⟨w.heap.size + 1 + 1 + 1, i, none⟩ = false :=
 ⟨⟨h.tc, h.lt.1, h.lt.2.1, h.lt.2.2.1, h.lt.2.2.2⟩, h.oc, h.rc, h.fr.1, h.fr.2⟩
end
theorem rsplit (p : ByteArray) (w : World) (hp : p.size < 1000000) : Calls Tryz.prog 68 #[.string p] w fun e w' => (∃ A n c, e = .returned (.tuple #[.slice A n c, .int .i64 (Qah p).2])) ∧ Below w.heap.size w w' := by
 obtain ⟨k, hk⟩ := (Qcx p zq3).rounds
 refine (moraineref10_Split.calls k p _ _ _ hk).mono ?_
 rintro e w1 ⟨v, rfl, hr, hb⟩
 obtain ⟨A, c, rfl, -, -⟩ := Kd.R_reads hr
 exact ⟨⟨A, _, c, rfl⟩, hb⟩
theorem rwithin (q p : ByteArray) (w : World) (hq : q.size < 1000000) (hp : p.size < 1000000) : Calls Tryz.prog 84 #[.string q, .string p] w fun e w' => e = .returned (.bool (Qbt q p)) ∧ Below w.heap.size w w' := by
 obtain ⟨k, hk⟩ := (ref_within_ev q p zq3 zq3).rounds
 exact moraineref10_Within.calls k q p _ _ hk
theorem splitL_code (l : List UInt8) : (Qfp l).2 = 0 ∨ (Qfp l).2 = 20 := by
 unfold Qfp
 split
 · exact Or.inr rfl
 ·
  split
  ·
   split
   · exact Or.inl rfl
   ·
    split
    · exact Or.inl rfl
    · exact Or.inr rfl
  · exact Or.inr rfl
theorem Qfe (p : ByteArray) (h : (Qah p).2 ≠ 0) : (Qah p).2 = 20 := (splitL_code p.data.toList).resolve_left h
theorem Qfb {l : List S52} (hw : Wf l) {p : ByteArray} {k : Nat} (h : Qav l p = .inl k) : k < l.length := by
 unfold Qav at h
 split at h
 · exact wk_lt hw hw.pos h
 · cases h
theorem place_spot {l : List S52} {p : ByteArray} {k : Nat} (h : Qav l p = .inl k) (hr : p ≠ rootP) : ∃ d nm, spotF l p = .inl (d, nm, some k) := by
 by_cases h0 : (Qah p).2 = 0
 ·
  obtain ⟨q, nm, hs, -⟩ := names_last h0 (fun h2 => hr (Qcn h0 h2))
  unfold Qav at h
  rw [hs, if_pos rfl] at h
  obtain ⟨y, e, h1, h2, h3, h4⟩ := wk_snoc h
  refine ⟨y, nm, ?_⟩
  unfold spotF
  rw [hs, if_pos rfl]
  dsimp only
  rw [List.dropLast_concat, List.getLastD_concat, h1]
  dsimp only
  rw [if_pos h2, h3]
  dsimp only [Option.map]
  rw [h4]
 ·
  unfold Qav at h
  rw [if_neg h0] at h
  cases h
theorem nd_all {w : World} {A : Option Addr} {l : List S52} (hC : Kd.C k52 w A l.length l) (h0 : 0 < l.length) : ∃ (ad : Addr) (f : Nat → Option Addr) (g : Nat → Nat), A = some ad ∧ ∀ k, k < l.length → w.cell? (ad.add (k * 4)) = some (.int .i64 (nd l k).f0) ∧ w.cell? ⟨(ad.add (k * 4)).block, (ad.add (k * 4)).off + 1, none⟩ = some (.int .i64 (nd l k).f1) ∧ w.cell? ⟨(ad.add (k * 4)).block, (ad.add (k * 4)).off + 3, none⟩ = some (.slice (f k) (nd l k).f3.length (g k)) := by
 obtain ⟨ad, -, -, -, -, rfl, -⟩ := Qaz hC 0 zq3 zq3
 have h : ∀ k, ∃ s : Option Addr × Nat, k < l.length → w.cell? (ad.add (k * 4)) = some (.int .i64 (nd l k).f0) ∧ w.cell? ⟨(ad.add (k * 4)).block, (ad.add (k * 4)).off + 1, none⟩ = some (.int .i64 (nd l k).f1) ∧ w.cell? ⟨(ad.add (k * 4)).block, (ad.add (k * 4)).off + 3, none⟩ = some (.slice s.1 (nd l k).f3.length s.2) := fun k => by
  by_cases hk : k < l.length
  ·
   obtain ⟨ad2, A2, c2, A3, c3, e, h0, h1, -, h3, -⟩ := Qaz hC (k : Int) zq3 zq3
   cases e
   rw [Int.toNat_natCast, show rd_T52 l (k : Int) = nd l k from rfl] at h0 h1 h3
   exact ⟨(A3, c3), fun _ => ⟨h0, h1, h3⟩⟩
  · exact ⟨(none, 0), fun h => absurd h hk⟩
 exact ⟨ad, fun k => (Classical.choose (h k)).1, fun k => (Classical.choose (h k)).2, rfl, fun k hk => Classical.choose_spec (h k) hk⟩
theorem Qfi (p : ByteArray) : (p.toList == [47]) = true ↔ p = rootP := ⟨fun h => Qax ((beq_iff_eq.1 h).trans (beq_iff_eq.1 root_eq).symm), fun h => h ▸ root_eq⟩
theorem spot_dir {l : List S52} {p nm : ByteArray} {d : Nat} {o : Option Nat} (hs : spotF l p = .inl (d, nm, o)) : (nd l d).f0 = 2 := by
 unfold spotF at hs
 split at hs
 ·
  split at hs
  · cases hs
  ·
   split at hs
   ·
    rename_i h
    obtain ⟨rfl, -⟩ := Prod.mk.inj (Sum.inl.inj hs)
    exact h
   · cases hs
 · cases hs
theorem dir_lt {l : List S52} {d : Nat} (h : (nd l d).f0 = 2) : d < l.length := by
 rcases Nat.lt_or_ge d l.length with h1 | h1
 · exact h1
 · rw [Qbr h1] at h; exact absurd h zq9
theorem nq_of {q : ByteArray} (h : (q.toList == [47]) = false) : Aside0 ((Qah q).2 = 0 → (Qah q).1 ≠ []) := ⟨fun h1 h2 => by rw [Qcn h1 h2, root_eq] at h; cases h⟩
abbrev eR (l : List S52) (e : Int) : List S52 × S37 := (l, { res0 with f0 := e })
end Go.Proofs.YtbhjggbijkjmnaaGreatDoor.PZ
end
