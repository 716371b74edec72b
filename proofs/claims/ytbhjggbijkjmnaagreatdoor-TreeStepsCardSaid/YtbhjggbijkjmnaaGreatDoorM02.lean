import Derived.Test.YtbhjggbijkjmnaaGreatDoorM01
import Derived.Test.YtbhjggbijkjmnaaGreatDoorM00
import Derived.Test.YtbhjggbijkjmnaaGreatDoorProg
import Derived.Below
import Derived.Deep.Draws
import Derived.Deep.AppendLies
import Derived.Maps.AppendAt
import Derived.OwnWalk
import Derived.Laws.BytesArg
import Derived.Laws.MakeOwn
import Derived.Laws.OwnMore
import Derived.Deep.OwnRows
import Derived.Tactics
import Derived.Lib.ConvBytes
import Derived.Laws.Slices
import Derived.WalkKit
import Derived.KernelRfl
import Derived.RowKit3
import Derived.Deep.LoopGhost
import Derived.Deep.QuietTactic
import Derived.BigQuiet
import Derived.WideLaws
import Derived.Deep.DeepCutAuto
import Derived.Deep.CutBlock
import Derived.Deep.RegionHeld3
import Derived.Laws.Rows
import Derived.Lib.AppendStr
import Derived.ArgAppend
import Derived.Laws.IdiomCopy
import Derived.OrdersHeld
import Derived.Laws.BitsLemmas
import Derived.RowKit
import Derived.WalkLawsBesides
import Derived.Deep.Slices
import Derived.Deep.Fields
import Derived.ChangeSame
import Derived.SizedLaws
import Derived.Lib.SmallJoins
import Derived.ChangeSlices
import Derived.ProofKit
import Derived.OpenShut
import Derived.Lib.Bytealg
import Derived.Lib.IndexLaws
import Init
set_option linter.unusedVariables false
set_option linter.unusedSimpArgs false
section
namespace Go.Proofs.YtbhjggbijkjmnaaGreatDoorW.PrintWords
open Go.RowKit
end Go.Proofs.YtbhjggbijkjmnaaGreatDoorW.PrintWords
namespace Go.Proofs.YtbhjggbijkjmnaaGreatDoorW.PrintLast
section
variable {ops : Array Oper} {a : Act} {o og : Oper} {g : Nat} {t : Tmp} {u : Bool}
end
end Go.Proofs.YtbhjggbijkjmnaaGreatDoorW.PrintLast
end
section
namespace Go.Proofs.YtbhjggbijkjmnaaGreatDoorW.PrintWords
open Go.RowKit
section
variable {P : Program} {ops : Array Oper} {rest : List Oper} {o : Oper} {a : Act} {Q : Exit → Act → World → Prop} {W : World}
theorem Qeo (hw : Region.wanted o (yielded ops a.tmps) = true) (h : wpList P ops Q ({ o with guard := none } :: rest) a W) : wpList P ops Q (o :: rest) a W := by
 have h1 : Region.wanted { o with guard := none } (yielded ops a.tmps) = true := rfl
 unfold wpList at h ⊢
 rw [if_pos h1] at h
 rw [if_pos hw]
 exact h
end
end Go.Proofs.YtbhjggbijkjmnaaGreatDoorW.PrintWords
end
section
namespace Go.Proofs.YtbhjggbijkjmnaaGreatDoorW.PrintWords
open Go.RowKit
namespace Kd
section
variable {α : Type} {d : Kd α} {e base n cap g : Nat} {ok ok' okp : Nat → Prop} {w w1 W : World} {v v1 : Value} {xs ys : List α}
end
section
variable {P : Program} {ops : Array Oper} {rest : List Oper} {o : Oper} {a : Act} {Q : Exit → Act → World → Prop} {Kc : Act → World → Prop} {α : Type}
end
end Kd
end Go.Proofs.YtbhjggbijkjmnaaGreatDoorW.PrintWords
end
section
namespace Go.Proofs.YtbhjggbijkjmnaaGreatDoorW.PrintMore
open Go.RowKit Go.Proofs.YtbhjggbijkjmnaaGreatDoorW.PrintWords
namespace Kd
open Go.Proofs.YtbhjggbijkjmnaaGreatDoorW.PrintWords.Kd
end Kd
namespace Kd
open Go.Proofs.YtbhjggbijkjmnaaGreatDoorW.PrintWords.Kd
section
variable {α : Type} {d : Kd α} {e base g N : Nat} {ok : Nat → Prop} {W w1 : World} {u v : Value} {xs : List α}
end
end Kd
theorem max2_int (k k' : IntKind) (x y : Int) : Builtin.max2 (.int k x) (.int k' y) = pure (.int k (if x < y then y else x)) := by simp only [Builtin.max2, gt_iff_lt]
theorem min2_int (k k' : IntKind) (x y : Int) : Builtin.min2 (.int k x) (.int k' y) = pure (.int k (if y < x then y else x)) := by simp only [Builtin.min2]
theorem max_two (ats : Array TypeId) (ty : TypeId) (a b : Value) : Builtin.max_ ats ty #[a, b] = (Builtin.max2 a b >>= fun s => pure s) := by simp only [Builtin.max_, List.foldlM_cons, List.foldlM_nil]
theorem min_two (ats : Array TypeId) (ty : TypeId) (a b : Value) : Builtin.min_ ats ty #[a, b] = (Builtin.min2 a b >>= fun s => pure s) := by simp only [Builtin.min_, List.foldlM_cons, List.foldlM_nil]
theorem max_three (ats : Array TypeId) (ty : TypeId) (a b c : Value) : Builtin.max_ ats ty #[a, b, c] = (Builtin.max2 a b >>= fun s => Builtin.max2 s c >>= fun s => pure s) := by simp only [Builtin.max_, List.foldlM_cons, List.foldlM_nil]
theorem min_three (ats : Array TypeId) (ty : TypeId) (a b c : Value) : Builtin.min_ ats ty #[a, b, c] = (Builtin.min2 a b >>= fun s => Builtin.min2 s c >>= fun s => pure s) := by simp only [Builtin.min_, List.foldlM_cons, List.foldlM_nil]
theorem max_four (ats : Array TypeId) (ty : TypeId) (a b c d : Value) : Builtin.max_ ats ty #[a, b, c, d] = (Builtin.max2 a b >>= fun s => Builtin.max2 s c >>= fun s => Builtin.max2 s d >>= fun s => pure s) := by simp only [Builtin.max_, List.foldlM_cons, List.foldlM_nil]
theorem min_four (ats : Array TypeId) (ty : TypeId) (a b c d : Value) : Builtin.min_ ats ty #[a, b, c, d] = (Builtin.min2 a b >>= fun s => Builtin.min2 s c >>= fun s => Builtin.min2 s d >>= fun s => pure s) := by simp only [Builtin.min_, List.foldlM_cons, List.foldlM_nil]
end Go.Proofs.YtbhjggbijkjmnaaGreatDoorW.PrintMore
namespace Go.Proofs.YtbhjggbijkjmnaaGreatDoorW.PrintWords
open Go.RowKit
section
variable {P : Program} {ops : Array Oper} {rest : List Oper} {o : Oper} {a : Act} {Q : Exit → Act → World → Prop} {W : World}
theorem Qar {f : FuncId} {as_ : Array Operand} {ts : Array TypeId} (_ho : o.op = .call { callee := .value (.func f), args := as_, argTypes := ts }) (h : wpList P ops Q (o :: rest) a W) : wpList P ops Q (o :: rest) a W := h
theorem Qas {b : Builtin} {xs : Array Operand} {ts : Array TypeId} (_ho : o.op = .call { callee := .builtin b, args := xs, argTypes := ts }) (h : wpList P ops Q (o :: rest) a W) : wpList P ops Q (o :: rest) a W := h
end
theorem Qhh {P : Program} {f : FuncId} {args args' : Array Value} {w : World} {Q : Ending → World → Prop} (h : args = args') (hc : Calls P f args' w Q) : Calls P f args w Q := h ▸ hc
def mn (a b : Int) : Int := if b < a then b else a
theorem drewN_self (w : World) (n : Nat) : w.drewN n = w.drewN n := rfl
namespace Kd
section
variable {α : Type} {d : Kd α} {e base : Nat} {ok : Nat → Prop} {W w1 : World} {v : Value} {xs : List α}
end
section
variable {α : Type} {d : Kd α} {e base g n cap : Nat} {ok oki okp : Nat → Prop} {W : World} {xs : List α} {i : Int} {c : List Value}
end
section
variable {α : Type} {d : Kd α} {e base b b' g N : Nat} {ok ok1 : Nat → Prop} {W W2 w1 : World} {u v : Value} {xs ys : List α} {S : Nat → Prop}
end
end Kd
end Go.Proofs.YtbhjggbijkjmnaaGreatDoorW.PrintWords
namespace Go.Proofs.YtbhjggbijkjmnaaGreatDoorW.PrintWords
open Go.RowKit
namespace Kd
section
variable {α β : Type} {d : Kd α} {e base base' n m c g N' lo hi : Nat} {ok ok' S : Nat → Prop} {w W w1 : World} {A : Option Addr} {ad : Addr} {u v v1 : Value} {xs : List α}
end
end Kd
end Go.Proofs.YtbhjggbijkjmnaaGreatDoorW.PrintWords
end
section
namespace Go.Proofs.YtbhjggbijkjmnaaGreatDoor.PZ
open Go.RowKit Go.Proofs.YtbhjggbijkjmnaaGreatDoorW.PrintWords Go.Proofs.YtbhjggbijkjmnaaGreatDoorW.PrintLast Go.Proofs.YtbhjggbijkjmnaaGreatDoorW.PrintMore
set_option maxRecDepth 100000
section
attribute [local go_sem] max2_int min2_int max_two min_two max_three min_three max_four min_four
theorem zq0 {P : Prop} (h : P := by repeat (first | exact HB.out | with_reducible apply Qad | with_reducible apply Qaa | with_reducible apply Qac)) : P := h
theorem zq1 {P : Prop} (h : P := by repeat (first | exact Below.refl _ _ | with_reducible apply Qac | with_reducible apply Qad | with_reducible apply Qaa)) : P := h
theorem zq2 {P : Prop} (h : P := by repeat (first | (with_reducible first | exact HB.out | apply Qaa | apply Qac | apply Qad) | exact HB.out)) : P := h
theorem zq3 {P : Prop} (h : P := by omega) : P := h
theorem zq4 {P : Prop} (h : P := by first | (rw [hy]; with_reducible exact H) | (have H2_ := (Option.bind_some _ _).symm.trans H; rw [hy]; with_reducible exact H2_) | (have H2_ := (Option.bind_some _ _).symm.trans H; with_reducible exact H2_) | with_reducible exact H | (rw [hy]; exact H) | exact H) : P := h
theorem zq5 {P : Prop} (h : P := by repeat (first | exact Below.refl _ _ | with_reducible apply Qac | with_reducible apply Qad)) : P := h
theorem zq6 {P : Prop} (h : P := by (try simp only [List.map_toArray, List.map_cons, List.map_nil]); first | done | rfl | (simp only [List.length_drop, List.length_take]; rfl)) : P := h
theorem zq7 {P : Prop} (h : P := by first | (with_reducible assumption) | assumption) : P := h
theorem zq8 {P : Prop} (h : P := by repeat (first | with_reducible exact Below.refl _ _ | with_reducible apply Qad | with_reducible apply Qaa)) : P := h
theorem zq9 {P : Prop} (h : P := by decide) : P := h
theorem zq10 {P : Prop} (h : P := by first | rfl | (simp; done) | (simp [*]; done)) : P := h
theorem zq11 {P : Prop} (h : P := by repeat (first | exact HB2.out | with_reducible apply Qac | with_reducible apply Qad | with_reducible apply Qaa)) : P := h
theorem zq12 {P : Prop} (h : P := by repeat (first | exact HB.out | with_reducible apply Qad | with_reducible apply Qaa)) : P := h
theorem zq13 {P : Prop} (h : P := by first | exact Nat.le_refl _ | omega | (simp; omega)) : P := h
theorem zq14 {P : Prop} (h : P := by simp) : P := h
theorem zq15 {P : Prop} (h : P := by kernel_rfl) : P := h
theorem zq16 {P : Prop} (h : P := by (with_reducible repeat (first | apply Kd.R_alloc | apply Kd.R_drewN | apply Kd.R_drew)); exact HO135.out) : P := h
theorem zq17 {P : Prop} (h : P := by repeat (first | exact HBW.out | with_reducible apply Qac | with_reducible apply Qad | with_reducible apply Qaa)) : P := h
theorem zq18 {P : Prop} (h : P := by (with_reducible repeat (first | apply Kd.R_alloc | apply Kd.R_drewN | apply Kd.R_drew)); exact HO203.out) : P := h
theorem zq19 {P : Prop} (h : P := by repeat (first | exact HB2W.out | with_reducible apply Qac | with_reducible apply Qad | with_reducible apply Qaa)) : P := h
theorem zq20 {P : Prop} (h : P := by simp; omega) : P := h
theorem zq21 {P : Prop} (h : P := by repeat (first | exact Below.refl _ _ | with_reducible apply Qad)) : P := h
theorem zq22 {P : Prop} (h : P := by (with_reducible repeat (first | apply Kd.R_alloc | apply Kd.R_drewN | apply Kd.R_drew)); exact HO_5.out) : P := h
theorem zq23 {P : Prop} (h : P := by repeat (first | exact HB.out | with_reducible apply Qac | with_reducible apply Qad | with_reducible apply Qaa)) : P := h
theorem zq24 {P : Prop} (h : P := by simp [Value.ownBlock]) : P := h
theorem zq25 {P : Prop} (h : P := by rfl) : P := h
theorem zq26 {P : Prop} (h : P := by (with_reducible repeat (first | apply Kd.R_alloc | apply Kd.R_drewN | apply Kd.R_drew)); exact HO_4.out) : P := h
theorem zq27 {P : Prop} (h : P := by repeat (first | exact Below.refl _ _ | with_reducible apply Qaa)) : P := h
theorem zq28 {P : Prop} (h : P := by repeat (first | exact HF1.out.bel | with_reducible apply Qac | with_reducible apply Qad | with_reducible apply Qaa)) : P := h
theorem zq29 {P : Prop} (h : P := by repeat (first | exact HF2.out.bel | with_reducible apply Qac | with_reducible apply Qad | with_reducible apply Qaa)) : P := h
theorem zq30 {P : Prop} (h : P := by rw [List.length_append, List.length_singleton]; omega) : P := h
theorem zq31 {P : Prop} (h : P := by intro q hq; rw [List.mem_singleton] at hq; subst hq; exact (Kd.R_val hr).2) : P := h
theorem zq32 {P : Prop} (h : P := by have := HL.out (by trivial); omega) : P := h
theorem am {p : Prop} (h : p) : Aside0 p := ⟨h⟩
theorem info3 : (Tryz.prog.info? 3).map (fun i => (i.zero, i.size, i.bytes)) = some (some (.int .i64 0), 1, 8) := by kernel_rfl
theorem info5 : (Tryz.prog.info? 5).map (fun i => (i.zero, i.size, i.bytes)) = some (some (.int .u8 0), 1, 1) := by kernel_rfl
theorem info9 : (Tryz.prog.info? 9).map (fun i => (i.zero, i.size, i.bytes)) = some (some (.string ⟨#[]⟩), 1, 16) := by kernel_rfl
theorem info52 : (Tryz.prog.info? 52).map (fun i => (i.zero, i.size, i.bytes)) = some (some (.agg #[(.int .i64 0), (.int .i64 0), (.slice none 0 0), (.slice none 0 0)]), 4, 64) := by kernel_rfl
theorem info62 : (Tryz.prog.info? 62).map (fun i => (i.zero, i.size, i.bytes)) = some (some (.agg #[(.string ⟨#[]⟩), (.int .i64 0)]), 2, 24) := by kernel_rfl
-- the values' own types
structure S62 where
 f0 : ByteArray
 f1 : Int
def z62 : S62 := ⟨(⟨#[]⟩ : ByteArray), (0 : Int)⟩
def k62 : Kd S62 := Kd.iso (Kd.pair Kd.string (Kd.int .i64)) (fun x : S62 => (x.f0, x.f1))
theorem Qgy {w : World} {x : S62} {cs : List Value} (h : k62.K w x cs) : cs = [.string x.f0, .int .i64 x.f1] := by
 obtain ⟨_, _, rfl, rfl, rfl⟩ := h
 exact rfl
theorem k62_openM {w : World} {base : Nat} {ok : Nat → Prop} {x : S62} {cs : List Value} (h : k62.M w base ok x cs) : cs = [.string x.f0, .int .i64 x.f1] := by
 obtain ⟨_, _, rfl, rfl, rfl⟩ := h
 exact rfl
theorem k62_mk (w : World) (x : S62)  : k62.K w x [.string x.f0, .int .i64 x.f1] := ⟨[.string x.f0], [.int .i64 x.f1], rfl, rfl, rfl⟩
theorem k62_mkM (w : World) (base : Nat) (ok : Nat → Prop) (x : S62)  : k62.M w base ok x [.string x.f0, .int .i64 x.f1] := ⟨[.string x.f0], [.int .i64 x.f1], rfl, rfl, rfl⟩
def rd_T62 (xs : List S62) (i : Int) : S62 := xs.getD i.toNat z62
theorem Qbg {w : World} {A : Option Addr} {n : Nat} {xs : List S62} (h : Kd.C k62 w A n xs) (i : Int) (h0 : 0 ≤ i) (h1 : i < n) : ∃ ad , A = some ad ∧ w.cell? (ad.add (i.toNat * 2)) = some (.string (rd_T62 xs i).f0) ∧ w.cell? ⟨(ad.add (i.toNat * 2)).block, (ad.add (i.toNat * 2)).off + 1, none⟩ = some (.int .i64 (rd_T62 xs i).f1) := by
 obtain ⟨ad, c, e, _, hK, hc0⟩ := Kd.C_get h z62 i h0 h1
 have hc : ∀ j u, c[j]? = some u → w.cell? (ad.add (i.toNat * 2 + j)) = some u := hc0
 obtain rfl := Qgy hK
 exact ⟨ad, e, hc 0 _ rfl, by rw [← Qdh _ _ 1 zq3]; exact hc 1 _ rfl⟩
structure S52 where
 f0 : Int
 f1 : Int
 f2 : (List Int)
 f3 : (List S62)
def z52 : S52 := ⟨(0 : Int), (0 : Int), ([] : List Int), ([] : List S62)⟩
def k52 : Kd S52 := Kd.iso (Kd.pair (Kd.int .i64) (Kd.pair (Kd.int .i64) (Kd.pair (Kd.slice 5 (Kd.int .u8)) (Kd.slice 62 k62)))) (fun x : S52 => (x.f0, x.f1, x.f2, x.f3))
theorem k52_open {w : World} {x : S52} {cs : List Value} (h : k52.K w x cs) : ∃ A2 c2 A3 c3, cs = [.int .i64 x.f0, .int .i64 x.f1, .slice A2 x.f2.length c2, .slice A3 x.f3.length c3] ∧ x.f2.length ≤ c2 ∧ (Kd.int .u8).C w A2 x.f2.length x.f2 ∧ x.f3.length ≤ c3 ∧ k62.C w A3 x.f3.length x.f3 := by
 obtain ⟨_, _, rfl, rfl, ⟨_, _, rfl, rfl, ⟨_, _, rfl, ⟨A2, c2, rfl, l2, g2⟩, ⟨A3, c3, rfl, l3, g3⟩⟩⟩⟩ := h
 exact ⟨A2, c2, A3, c3, rfl, l2, g2, l3, g3⟩
theorem Qfo {w : World} {base : Nat} {ok : Nat → Prop} {x : S52} {cs : List Value} (h : k52.M w base ok x cs) : ∃ v2 v3, cs = [.int .i64 x.f0, .int .i64 x.f1, v2, v3] ∧ (Kd.int .u8).R 5 w base ok v2 x.f2 ∧ k62.R 62 w base ok v3 x.f3 := by
 obtain ⟨_, _, rfl, rfl, ⟨_, _, rfl, rfl, ⟨_, _, rfl, ⟨v2, rfl, g2⟩, ⟨v3, rfl, g3⟩⟩⟩⟩ := h
 exact ⟨v2, v3, rfl, g2, g3⟩
theorem k52_mk (w : World) (x : S52) {A2 : Option Addr} {c2 : Nat} (l2 : x.f2.length ≤ c2) (g2 : (Kd.int .u8).C w A2 x.f2.length x.f2) {A3 : Option Addr} {c3 : Nat} (l3 : x.f3.length ≤ c3) (g3 : k62.C w A3 x.f3.length x.f3) : k52.K w x [.int .i64 x.f0, .int .i64 x.f1, .slice A2 x.f2.length c2, .slice A3 x.f3.length c3] := ⟨[.int .i64 x.f0], [.int .i64 x.f1, .slice A2 x.f2.length c2, .slice A3 x.f3.length c3], rfl, rfl, ⟨[.int .i64 x.f1], [.slice A2 x.f2.length c2, .slice A3 x.f3.length c3], rfl, rfl, ⟨[.slice A2 x.f2.length c2], [.slice A3 x.f3.length c3], rfl, ⟨A2, c2, rfl, l2, g2⟩, ⟨A3, c3, rfl, l3, g3⟩⟩⟩⟩
theorem Qdu (w : World) (base : Nat) (ok : Nat → Prop) (x : S52) {v2 : Value} (g2 : (Kd.int .u8).R 5 w base ok v2 x.f2) {v3 : Value} (g3 : k62.R 62 w base ok v3 x.f3) : k52.M w base ok x [.int .i64 x.f0, .int .i64 x.f1, v2, v3] := ⟨[.int .i64 x.f0], [.int .i64 x.f1, v2, v3], rfl, rfl, ⟨[.int .i64 x.f1], [v2, v3], rfl, rfl, ⟨[v2], [v3], rfl, ⟨v2, rfl, g2⟩, ⟨v3, rfl, g3⟩⟩⟩⟩
def rd_T52 (xs : List S52) (i : Int) : S52 := xs.getD i.toNat z52
theorem Qaz {w : World} {A : Option Addr} {n : Nat} {xs : List S52} (h : Kd.C k52 w A n xs) (i : Int) (h0 : 0 ≤ i) (h1 : i < n) : ∃ ad A2 c2 A3 c3, A = some ad ∧ w.cell? (ad.add (i.toNat * 4)) = some (.int .i64 (rd_T52 xs i).f0) ∧ w.cell? ⟨(ad.add (i.toNat * 4)).block, (ad.add (i.toNat * 4)).off + 1, none⟩ = some (.int .i64 (rd_T52 xs i).f1) ∧ w.cell? ⟨(ad.add (i.toNat * 4)).block, (ad.add (i.toNat * 4)).off + 2, none⟩ = some (.slice A2 (rd_T52 xs i).f2.length c2) ∧ w.cell? ⟨(ad.add (i.toNat * 4)).block, (ad.add (i.toNat * 4)).off + 3, none⟩ = some (.slice A3 (rd_T52 xs i).f3.length c3) ∧ (rd_T52 xs i).f2.length ≤ c2 ∧ (Kd.int .u8).C w A2 (rd_T52 xs i).f2.length (rd_T52 xs i).f2 ∧ (rd_T52 xs i).f3.length ≤ c3 ∧ k62.C w A3 (rd_T52 xs i).f3.length (rd_T52 xs i).f3 := by
 obtain ⟨ad, c, e, _, hK, hc0⟩ := Kd.C_get h z52 i h0 h1
 have hc : ∀ j u, c[j]? = some u → w.cell? (ad.add (i.toNat * 4 + j)) = some u := hc0
 obtain ⟨A2, c2, A3, c3, rfl, l2, g2, l3, g3⟩ := k52_open hK
 exact ⟨ad, A2, c2, A3, c3, e, hc 0 _ rfl, by rw [← Qdh _ _ 1 zq3]; exact hc 1 _ rfl, by rw [← Qdh _ _ 2 zq3]; exact hc 2 _ rfl, by rw [← Qdh _ _ 3 zq3]; exact hc 3 _ rfl, l2, g2, l3, g3⟩
structure S31 where
 f0 : Int
 f1 : ByteArray
 f2 : ByteArray
 f3 : Int
 f4 : Int
 f5 : (List Int)
def z31 : S31 := ⟨(0 : Int), (⟨#[]⟩ : ByteArray), (⟨#[]⟩ : ByteArray), (0 : Int), (0 : Int), ([] : List Int)⟩
def k31 : Kd S31 := Kd.iso (Kd.pair (Kd.int .i64) (Kd.pair Kd.string (Kd.pair Kd.string (Kd.pair (Kd.int .i64) (Kd.pair (Kd.int .i64) (Kd.slice 5 (Kd.int .u8))))))) (fun x : S31 => (x.f0, x.f1, x.f2, x.f3, x.f4, x.f5))
theorem k31_open {w : World} {x : S31} {cs : List Value} (h : k31.K w x cs) : ∃ A5 c5, cs = [.int .i64 x.f0, .string x.f1, .string x.f2, .int .i64 x.f3, .int .i64 x.f4, .slice A5 x.f5.length c5] ∧ x.f5.length ≤ c5 ∧ (Kd.int .u8).C w A5 x.f5.length x.f5 := by
 obtain ⟨_, _, rfl, rfl, ⟨_, _, rfl, rfl, ⟨_, _, rfl, rfl, ⟨_, _, rfl, rfl, ⟨_, _, rfl, rfl, ⟨A5, c5, rfl, l5, g5⟩⟩⟩⟩⟩⟩ := h
 exact ⟨A5, c5, rfl, l5, g5⟩
theorem k31_mk (w : World) (x : S31) {A5 : Option Addr} {c5 : Nat} (l5 : x.f5.length ≤ c5) (g5 : (Kd.int .u8).C w A5 x.f5.length x.f5) : k31.K w x [.int .i64 x.f0, .string x.f1, .string x.f2, .int .i64 x.f3, .int .i64 x.f4, .slice A5 x.f5.length c5] := ⟨[.int .i64 x.f0], [.string x.f1, .string x.f2, .int .i64 x.f3, .int .i64 x.f4, .slice A5 x.f5.length c5], rfl, rfl, ⟨[.string x.f1], [.string x.f2, .int .i64 x.f3, .int .i64 x.f4, .slice A5 x.f5.length c5], rfl, rfl, ⟨[.string x.f2], [.int .i64 x.f3, .int .i64 x.f4, .slice A5 x.f5.length c5], rfl, rfl, ⟨[.int .i64 x.f3], [.int .i64 x.f4, .slice A5 x.f5.length c5], rfl, rfl, ⟨[.int .i64 x.f4], [.slice A5 x.f5.length c5], rfl, rfl, ⟨A5, c5, rfl, l5, g5⟩⟩⟩⟩⟩⟩
def rd_T31 (xs : List S31) (i : Int) : S31 := xs.getD i.toNat z31
theorem at_T31 {w : World} {A : Option Addr} {n : Nat} {xs : List S31} (h : Kd.C k31 w A n xs) (i : Int) (h0 : 0 ≤ i) (h1 : i < n) : ∃ ad A5 c5, A = some ad ∧ w.cell? (ad.add (i.toNat * 6)) = some (.int .i64 (rd_T31 xs i).f0) ∧ w.cell? ⟨(ad.add (i.toNat * 6)).block, (ad.add (i.toNat * 6)).off + 1, none⟩ = some (.string (rd_T31 xs i).f1) ∧ w.cell? ⟨(ad.add (i.toNat * 6)).block, (ad.add (i.toNat * 6)).off + 2, none⟩ = some (.string (rd_T31 xs i).f2) ∧ w.cell? ⟨(ad.add (i.toNat * 6)).block, (ad.add (i.toNat * 6)).off + 3, none⟩ = some (.int .i64 (rd_T31 xs i).f3) ∧ w.cell? ⟨(ad.add (i.toNat * 6)).block, (ad.add (i.toNat * 6)).off + 4, none⟩ = some (.int .i64 (rd_T31 xs i).f4) ∧ w.cell? ⟨(ad.add (i.toNat * 6)).block, (ad.add (i.toNat * 6)).off + 5, none⟩ = some (.slice A5 (rd_T31 xs i).f5.length c5) ∧ (rd_T31 xs i).f5.length ≤ c5 ∧ (Kd.int .u8).C w A5 (rd_T31 xs i).f5.length (rd_T31 xs i).f5 := by
 obtain ⟨ad, c, e, _, hK, hc0⟩ := Kd.C_get h z31 i h0 h1
 have hc : ∀ j u, c[j]? = some u → w.cell? (ad.add (i.toNat * 6 + j)) = some u := hc0
 obtain ⟨A5, c5, rfl, l5, g5⟩ := k31_open hK
 exact ⟨ad, A5, c5, e, hc 0 _ rfl, by rw [← Qdh _ _ 1 zq3]; exact hc 1 _ rfl, by rw [← Qdh _ _ 2 zq3]; exact hc 2 _ rfl, by rw [← Qdh _ _ 3 zq3]; exact hc 3 _ rfl, by rw [← Qdh _ _ 4 zq3]; exact hc 4 _ rfl, by rw [← Qdh _ _ 5 zq3]; exact hc 5 _ rfl, l5, g5⟩
structure S37 where
 f0 : Int
 f1 : (List Int)
 f2 : (List ByteArray)
 f3 : Int
 f4 : Int
 f5 : Int
end
end Go.Proofs.YtbhjggbijkjmnaaGreatDoor.PZ
end
section
namespace Go.Proofs.YtbhjggbijkjmnaaGreatDoor.OpenO
open Go.RowKit Go.ChangeShapes Go.WideShapes Go.Deep Go.Joins Go.ChangeAt Go.Proofs.YtbhjggbijkjmnaaGreatDoorW.PrintWords Go.Proofs.YtbhjggbijkjmnaaGreatDoor.PZ
set_option linter.unusedVariables false
set_option maxRecDepth 100000
section
variable {H : Type} {enc : TypeId × Value → H} {P : Program} {w : World} {base : Nat} {spare : Nat → Bool} {held : Bool}
theorem open_slice_fields {t e : TypeId} {fs : Array Field} {fuel : Nat} {cs : List Value} {x : DataW H × List MemPlace} (ht : P.underlying t = some (.slice e)) (he : P.underlying e = some (.struct fs))
  (hone : oneCellFields P fs = true) (hC : P.cellsOf e = fs.size) (h : DataW.trod enc P w base spare held fuel t cs = some x) :
  (cs = [.slice none 0 0] ∧ x = (.nil, [])) ∨
  ∃ (a : Addr) (len cap m : Nat) (D : Nat → DataW H) (Pl : Nat → List MemPlace), cs = [.slice (some a) len cap] ∧ base ≤ a.block ∧ len ≤ cap ∧ cap ≤ maxLen ∧ m = (if spare a.block then cap else len) ∧
   x = (.slice ((List.range len).map D) ((List.range (m - len)).map fun j => D (len + j)), MemPlace.row a (m * fs.size) ++ (List.range m).flatMap Pl) ∧
   ∀ i, i < m → ∃ (ys : List (DataW H × List MemPlace)) (n : Nat), D i = .agg (ys.map (·.1)) ∧ Pl i = ys.flatMap (·.2) ∧ ys.length = fs.size ∧
    ∀ (j : Nat) (f : Field), fs[j]? = some f → ∃ (v : Value) (y : DataW H × List MemPlace), w.cell? (a.add (i * fs.size + j)) = some v ∧ ys[j]? = some y ∧ DataW.trod enc P w base spare held n f.type [v] = some y := by
 rcases open_slice ht h with h0 | ⟨a, len, cap, m, n, D, Pl, hcs, hb, hl, hm, hmm, hx, hi⟩
 · exact .inl h0
 ·
  refine .inr ⟨a, len, cap, m, D, Pl, hcs, hb, hl, hm, hmm, by rw [hC] at hx; exact hx, fun i him => ?_⟩
  obtain ⟨cs', hc, ht'⟩ := hi i him
  rw [hC] at hc
  obtain ⟨ys, n', hn', hy, hlen, hyl, hf⟩ := DataW.trod_struct he ht'
  obtain ⟨_, hcl, hat⟩ := World.cells?_some hc
  simp only [Prod.mk.injEq] at hy
  refine ⟨ys, n', hy.1, hy.2, hyl, fun j f hj => ?_⟩
  obtain ⟨ho, hk⟩ := hone_of hone j f hj
  have hjl : j < fs.size := (Array.getElem?_eq_some_iff.1 hj).1
  have hcell := hat j hjl
  have hv : cs'[j]? = some (cs'[j]'(by omega)) := List.getElem?_eq_getElem (by omega)
  have h1 := hf j f hj
  rw [ho, hk] at h1
  have hone' : (cs'.drop j).take 1 = [cs'[j]'(by omega)] := by
   rw [List.drop_eq_getElem_cons (by omega)]
   rfl
  rw [hone'] at h1
  have hys : ys[j]? = some (ys[j]'(by omega)) := List.getElem?_eq_getElem (by omega)
  refine ⟨_, _, ?_, hys, h1.trans hys⟩
  rw [← Go.Deep.add_add, hcell, hv]
end
section
variable {H : Type} {enc : TypeId × Value → H} {w : World} {base : Nat} {spare : Nat → Bool} {held : Bool}
theorem bytes_cell {fuel : Nat} {v : Value} {x : DataW H × List MemPlace} (h : DataW.trod enc Tryz.prog w base spare held fuel 29 [v] = some x) :
  ∃ (A : Option Addr) (c : Nat) (d : List Int), v = .slice A d.length c ∧ d.length ≤ c ∧ Kd.C (Kd.int .u8) w A d.length d := by
 rcases open_ints Tryz.underlying29 Tryz.underlying5 (by kernel_rfl) h with ⟨hcs, _⟩ | ⟨a, l, c, zs, hcs, _, hl, hm, hz, _, hcell, hwz⟩
 ·
  simp only [List.cons.injEq, and_true] at hcs
  subst hcs
  exact ⟨none, 0, [], rfl, Nat.le_refl _, Kd.C_nil _ _⟩
 ·
  simp only [List.cons.injEq, and_true] at hcs
  subst hcs
  have hlm : l ≤ zs.length := by rw [hz]; split <;> omega
  have htl : (zs.take l).length = l := by rw [List.length_take]; omega
  refine ⟨some a, c, zs.take l, by rw [htl], by omega, rfl, by rw [htl]; simp only [maxLen] at hm; omega, fun _ => ⟨a, rfl, fun i p hp => ⟨[.int .u8 p], rfl, rfl, fun q u hu => ?_⟩⟩⟩
  have hi : i < l := by
   rcases Nat.lt_or_ge i l with h | h
   · exact h
   · rw [List.getElem?_eq_none (by omega)] at hp; cases hp
  have hp' : zs.getD i 0 = p := by
   rw [List.getElem?_take_of_lt hi] at hp
   rw [List.getD_eq_getElem?_getD, hp]
   rfl
  match q, hu with
  | 0, hu =>
   cases hu
   show w.cell? (a.add (i * 1 + 0)) = _
   rw [Nat.mul_one, Nat.add_zero, ← hp']
   exact hcell i (by omega)
theorem ops_open {a : Option Addr} {len cap : Nat} {d : DataW H} {ps : List MemPlace} (h : DataW.Trod enc Tryz.prog w base spare held 22 (.slice a len cap) d ps) :
  ∃ l : List S31, l.length = len ∧ len ≤ cap ∧ Kd.C k31 w a len l := by
 obtain ⟨fuel, hf⟩ := h
 rcases open_slice_fields (fs := _) Tryz.underlying22 Tryz.underlying31 (by kernel_rfl) (by kernel_rfl) hf with ⟨hcs, _⟩ | ⟨x, l, c, m, D, Pl, hcs, hb, hl, hm, hmm, hx, hi⟩
 ·
  simp [Value.cells] at hcs
  obtain ⟨rfl, rfl, rfl⟩ := hcs
  exact ⟨[], rfl, Nat.le_refl _, ⟨rfl, by simp, fun h => absurd h (Nat.lt_irrefl 0)⟩⟩
 ·
  simp [Value.cells] at hcs
  obtain ⟨rfl, rfl, rfl⟩ := hcs
  have hlm : len ≤ m := by rw [hmm]; split <;> omega
  have hex : ∀ i, ∃ y : S31, i < len → ∃ cs, k31.K w y cs ∧ cs.length = 6 ∧ ∀ q u, cs[q]? = some u → w.cell? (x.add (i * 6 + q)) = some u := by
   intro i
   by_cases hil : i < len
   ·
    obtain ⟨ys, n, hD, _, hyl, hfi⟩ := hi i (by omega)
    obtain ⟨v0, y0, hc0, hy0, ht0⟩ := hfi 0 _ rfl
    obtain ⟨v1, y1, hc1, hy1, ht1⟩ := hfi 1 _ rfl
    obtain ⟨v2, y2, hc2, hy2, ht2⟩ := hfi 2 _ rfl
    obtain ⟨v3, y3, hc3, hy3, ht3⟩ := hfi 3 _ rfl
    obtain ⟨v4, y4, hc4, hy4, ht4⟩ := hfi 4 _ rfl
    obtain ⟨v5, y5, hc5, hy5, ht5⟩ := hfi 5 _ rfl
    obtain ⟨k0, e0, -, -⟩ := DataW.trod_int Tryz.underlying3 ht0
    obtain ⟨s1, e1, -, -⟩ := DataW.trod_string Tryz.underlying9 ht1
    obtain ⟨s2, e2, -, -⟩ := DataW.trod_string Tryz.underlying9 ht2
    obtain ⟨k3, e3, -, -⟩ := DataW.trod_int Tryz.underlying3 ht3
    obtain ⟨k4, e4, -, -⟩ := DataW.trod_int Tryz.underlying3 ht4
    obtain ⟨A5, c5, d5, rfl, hl5, hC5⟩ := bytes_cell ht5
    simp only [List.cons.injEq, and_true] at e0 e1 e2 e3 e4
    subst e0; subst e1; subst e2; subst e3; subst e4
    refine ⟨⟨k0, s1, s2, k3, k4, d5⟩, fun _ => ⟨_, k31_mk w ⟨k0, s1, s2, k3, k4, d5⟩ hl5 hC5, rfl, fun q u hu => ?_⟩⟩
    match q, hu with
    | 0, hu => cases hu; exact hc0
    | 1, hu => cases hu; exact hc1
    | 2, hu => cases hu; exact hc2
    | 3, hu => cases hu; exact hc3
    | 4, hu => cases hu; exact hc4
    | 5, hu => cases hu; exact hc5
   · exact ⟨z31, fun h => absurd h hil⟩
  refine ⟨(List.range len).map (fun i => Classical.choose (hex i)), by simp, hl, ⟨by simp, by simp only [maxLen] at hm; omega, fun h0 => ⟨x, rfl, fun i p hp => ?_⟩⟩⟩
  have hlt : i < len := by
   rcases Nat.lt_or_ge i len with h | h
   · exact h
   · rw [List.getElem?_eq_none (by simpa using h)] at hp; cases hp
  rw [List.getElem?_map, List.getElem?_eq_getElem (by simpa using hlt)] at hp
  simp only [List.getElem_range, Option.map_some, Option.some.injEq] at hp
  subst hp
  obtain ⟨cs, h1, h2, h3⟩ := Classical.choose_spec (hex i) hlt
  exact ⟨cs, h2, h1, h3⟩
end
end Go.Proofs.YtbhjggbijkjmnaaGreatDoor.OpenO
end
section
namespace Go.Proofs.YtbhjggbijkjmnaaGreatDoorW.PrintWords
open Go.ChangeShapes Go.WideShapes

end Go.Proofs.YtbhjggbijkjmnaaGreatDoorW.PrintWords
end
section
namespace Go.Proofs.YtbhjggbijkjmnaaGreatDoor.B
open Go.RowKit
def nameB (s : ByteArray) : Bool :=
 !(s.toList.isEmpty) && !(s.toList == [46]) && !(s.toList == [46, 46]) && decide (s.size ≤ 12) &&
  decide (Lib.indexByte s.data.toList 0 < 0) && decide (Lib.indexByte s.data.toList 47 < 0)
end Go.Proofs.YtbhjggbijkjmnaaGreatDoor.B
end
section
namespace Go.Proofs.YtbhjggbijkjmnaaGreatDoor.TD
set_option linter.unusedVariables false
def unv (n : Nat) (out : List Nat) : Nat := ((List.range n).filter (fun k => decide (k ∉ out))).length
theorem unv_lt {n k : Nat} {out : List Nat} (hk : k < n) (hn : k ∉ out) : unv n (out ++ [k]) < unv n out := by
 unfold unv
 have h : (List.range n).filter (fun j => decide (j ∉ out ++ [k])) = ((List.range n).filter (fun j => decide (j ∉ out))).filter (fun j => decide (j ≠ k)) := by
  rw [List.filter_filter]
  congr 1
  funext j
  simp [not_or]
  rw [Bool.and_comm]
 rw [h, ← List.countP_eq_length_filter]
 have hm : k ∈ (List.range n).filter (fun j => decide (j ∉ out)) := by simp [hk, hn]
 rcases Nat.lt_or_ge (List.countP (fun j => decide (j ≠ k)) ((List.range n).filter (fun j => decide (j ∉ out)))) ((List.range n).filter (fun j => decide (j ∉ out))).length with h1 | h1
 · exact h1
 ·
  have h2 := List.countP_eq_length.1 (Nat.le_antisymm List.countP_le_length h1) k hm
  simp at h2
def go (n : Nat) (ch : Nat → List Nat) : List Nat → List Nat → List Nat
 | [], out => out
 | k :: row, out => if h : k ∈ out ∨ n ≤ k then go n ch row out else go n ch (ch k ++ row) (out ++ [k])
termination_by row out => (unv n out, row.length)
decreasing_by
 · exact Prod.Lex.right _ (by simp)
 ·
  have h1 : k ∉ out := fun e => h (Or.inl e)
  have h2 : k < n := Nat.lt_of_not_le fun e => h (Or.inr e)
  exact Prod.Lex.left _ _ (unv_lt h2 h1)
theorem Qga (n : Nat) (ch : Nat → List Nat) (out : List Nat) : go n ch [] out = out := by rw [go]
theorem Qfs {n : Nat} {ch : Nat → List Nat} {k : Nat} {row out : List Nat} (h : k ∈ out) : go n ch (k :: row) out = go n ch row out := by rw [go, dif_pos (Or.inl h)]
theorem go_far {n : Nat} {ch : Nat → List Nat} {k : Nat} {row out : List Nat} (h : n ≤ k) : go n ch (k :: row) out = go n ch row out := by rw [go, dif_pos (Or.inr h)]
theorem Qfm {n : Nat} {ch : Nat → List Nat} {k : Nat} {row out : List Nat} (h : k ∉ out) (hk : k < n) : go n ch (k :: row) out = go n ch (ch k ++ row) (out ++ [k]) := by
 rw [go, dif_neg (fun e => e.elim h (fun e => by omega))]
theorem go_ind {n : Nat} {ch : Nat → List Nat} {M : List Nat → List Nat → Prop} (h0 : ∀ out, M [] out) (h1 : ∀ k row out, (k ∈ out ∨ n ≤ k) → M row out → M (k :: row) out)
  (h2 : ∀ k row out, k ∉ out → k < n → M (ch k ++ row) (out ++ [k]) → M (k :: row) out) (row out : List Nat) : M row out := by
 induction row, out using go.induct n ch with
 | case1 out => exact h0 out
 | case2 k row out h ih => exact h1 k row out h ih
 | case3 k row out h ih => exact h2 k row out (fun e => h (Or.inl e)) (Nat.lt_of_not_le fun e => h (Or.inr e)) ih
theorem go_append (n : Nat) (ch : Nat → List Nat) (a b out : List Nat) : go n ch (a ++ b) out = go n ch b (go n ch a out) := by
 refine go_ind (n := n) (ch := ch) (M := fun a out => go n ch (a ++ b) out = go n ch b (go n ch a out)) ?_ ?_ ?_ a out
 · intro out; rw [Qga]; rfl
 ·
  intro k row out h ih
  rcases h with h | h
  · rw [List.cons_append, Qfs h, Qfs h, ih]
  · rw [List.cons_append, go_far h, go_far h, ih]
 ·
  intro k row out h hk ih
  rw [List.cons_append, Qfm h hk, Qfm h hk, ← ih, List.append_assoc]
theorem Qh (n : Nat) (ch : Nat → List Nat) (row out : List Nat) : out <+: go n ch row out := by
 refine go_ind (n := n) (ch := ch) (M := fun row out => out <+: go n ch row out) ?_ ?_ ?_ row out
 · intro out; rw [Qga]; exact List.prefix_refl _
 ·
  intro k row out h ih
  rcases h with h | h
  · rw [Qfs h]; exact ih
  · rw [go_far h]; exact ih
 ·
  intro k row out h hk ih
  rw [Qfm h hk]
  exact List.IsPrefix.trans (List.prefix_append _ _) ih
theorem go_nodup (n : Nat) (ch : Nat → List Nat) (row out : List Nat) (h : out.Nodup) : (go n ch row out).Nodup := by
 revert h
 refine go_ind (n := n) (ch := ch) (M := fun row out => out.Nodup → (go n ch row out).Nodup) ?_ ?_ ?_ row out
 · intro out h; rw [Qga]; exact h
 ·
  intro k row out h ih hn
  rcases h with h | h
  · rw [Qfs h]; exact ih hn
  · rw [go_far h]; exact ih hn
 ·
  intro k row out h hk ih hn
  rw [Qfm h hk]
  refine ih ?_
  rw [List.nodup_append]
  refine ⟨hn, by simp, ?_⟩
  intro a ha b hb e
  simp at hb
  subst hb; subst e
  exact h ha
theorem go_all {n : Nat} {ch : Nat → List Nat} {R : Nat → Prop} (hc : ∀ k, R k → k < n → ∀ c ∈ ch k, R c) (row out : List Nat) (hr : ∀ k ∈ row, R k) (ho : ∀ k ∈ out, R k ∧ k < n) : ∀ k ∈ go n ch row out, R k ∧ k < n := by
 revert hr ho
 refine go_ind (n := n) (ch := ch) (M := fun row out => (∀ k ∈ row, R k) → (∀ k ∈ out, R k ∧ k < n) → ∀ k ∈ go n ch row out, R k ∧ k < n) ?_ ?_ ?_ row out
 · intro out _ ho; rw [Qga]; exact ho
 ·
  intro k row out h ih hr ho
  have hr' : ∀ j ∈ row, R j := fun j hj => hr j (List.mem_cons_of_mem _ hj)
  rcases h with h | h
  · rw [Qfs h]; exact ih hr' ho
  · rw [go_far h]; exact ih hr' ho
 ·
  intro k row out h hk ih hr ho
  rw [Qfm h hk]
  have hR := hr k List.mem_cons_self
  refine ih ?_ ?_
  ·
   intro j hj
   rcases List.mem_append.1 hj with hj | hj
   · exact hc k hR hk j hj
   · exact hr j (List.mem_cons_of_mem _ hj)
  ·
   intro j hj
   rcases List.mem_append.1 hj with hj | hj
   · exact ho j hj
   · simp at hj; subst hj; exact ⟨hR, hk⟩
theorem go_closed {n : Nat} {ch : Nat → List Nat} (row out : List Nat) (ho : ∀ k ∈ out, ∀ c ∈ ch k, c < n → c ∈ out ∨ c ∈ row) :
  (∀ k ∈ row, k < n → k ∈ go n ch row out) ∧ ∀ k ∈ go n ch row out, ∀ c ∈ ch k, c < n → c ∈ go n ch row out := by
 revert ho
 refine go_ind (n := n) (ch := ch) (M := fun row out => (∀ k ∈ out, ∀ c ∈ ch k, c < n → c ∈ out ∨ c ∈ row) → (∀ k ∈ row, k < n → k ∈ go n ch row out) ∧ ∀ k ∈ go n ch row out, ∀ c ∈ ch k, c < n → c ∈ go n ch row out) ?_ ?_ ?_ row out
 ·
  intro out ho
  rw [Qga]
  exact ⟨fun k hk => by simp at hk, fun k hk c hc hn => (ho k hk c hc hn).elim id (fun h => by simp at h)⟩
 ·
  intro k row out h ih ho
  have hsub := (Qh n ch row out).subset
  have e : go n ch (k :: row) out = go n ch row out := by
   rcases h with h | h
   · exact Qfs h
   · exact go_far h
  rw [e]
  obtain ⟨h1, h2⟩ := ih (fun j hj c hc hn => by
   rcases ho j hj c hc hn with h3 | h3
   · exact Or.inl h3
   ·
    rcases List.mem_cons.1 h3 with rfl | h3
    ·
     rcases h with h | h
     · exact Or.inl h
     · omega
    · exact Or.inr h3)
  refine ⟨fun j hj hn => ?_, h2⟩
  rcases List.mem_cons.1 hj with rfl | hj
  ·
   rcases h with h | h
   · exact hsub h
   · omega
  · exact h1 j hj hn
 ·
  intro k row out h hk ih ho
  rw [Qfm h hk]
  have hsub := (Qh n ch (ch k ++ row) (out ++ [k])).subset
  obtain ⟨h1, h2⟩ := ih (fun j hj c hc hn => by
   rcases List.mem_append.1 hj with hj | hj
   ·
    rcases ho j hj c hc hn with h3 | h3
    · exact Or.inl (List.mem_append_left _ h3)
    ·
     rcases List.mem_cons.1 h3 with rfl | h3
     · exact Or.inl (by simp)
     · exact Or.inr (List.mem_append_right _ h3)
   ·
    simp at hj; subst hj
    exact Or.inr (List.mem_append_left _ hc))
  refine ⟨fun j hj hn => ?_, h2⟩
  rcases List.mem_cons.1 hj with rfl | hj
  · exact hsub (by simp)
  · exact h1 j (List.mem_append_right _ hj) hn
theorem go_map {n n' : Nat} {ch ch' : Nat → List Nat} {f : Nat → Nat} {R : Nat → Prop} (hR : ∀ k, R k → k < n ∧ f k < n' ∧ (∀ c ∈ ch k, R c) ∧ ch' (f k) = (ch k).map f)
  (hi : ∀ a b, R a → R b → f a = f b → a = b) (row out : List Nat) (hr : ∀ k ∈ row, R k) (ho : ∀ k ∈ out, R k) : go n' ch' (row.map f) (out.map f) = (go n ch row out).map f := by
 revert hr ho
 refine go_ind (n := n) (ch := ch) (M := fun row out => (∀ k ∈ row, R k) → (∀ k ∈ out, R k) → go n' ch' (row.map f) (out.map f) = (go n ch row out).map f) ?_ ?_ ?_ row out
 · intro out _ _; rw [List.map_nil, Qga, Qga]
 ·
  intro k row out h ih hr ho
  have hk := hr k List.mem_cons_self
  rcases h with h | h
  ·
   rw [List.map_cons, Qfs h, Qfs (List.mem_map_of_mem h)]
   exact ih (fun j hj => hr j (List.mem_cons_of_mem _ hj)) ho
  ·
   have := (hR k hk).1
   omega
 ·
  intro k row out h hk ih hr ho
  have hkR := hr k List.mem_cons_self
  obtain ⟨_, h1, h2, h3⟩ := hR k hkR
  have hnf : f k ∉ out.map f := by
   intro hm
   obtain ⟨j, hj, e⟩ := List.mem_map.1 hm
   exact h (hi j k (ho j hj) hkR e ▸ hj)
  rw [List.map_cons, Qfm h hk, Qfm hnf h1, h3, ← ih, List.map_append, List.map_append]
  · rfl
  ·
   intro j hj
   rcases List.mem_append.1 hj with hj | hj
   · exact h2 j hj
   · exact hr j (List.mem_cons_of_mem _ hj)
  ·
   intro j hj
   rcases List.mem_append.1 hj with hj | hj
   · exact ho j hj
   · simp at hj; subst hj; exact hkR
def met (n : Nat) (ch : Nat → List Nat) : List Nat := go n ch [0] []
theorem met_nodup (n : Nat) (ch : Nat → List Nat) : (met n ch).Nodup := go_nodup _ _ _ _ (by simp)
theorem met_zero {n : Nat} (ch : Nat → List Nat) (h : 0 < n) : ∃ r, met n ch = 0 :: r := by
 unfold met
 rw [Qfm (by simp) h]
 obtain ⟨r, hr⟩ := Qh n ch (ch 0 ++ []) ([] ++ [0])
 exact ⟨r, by rw [← hr]; rfl⟩
theorem met_lt {n : Nat} {ch : Nat → List Nat} {k : Nat} (h : k ∈ met n ch) : k < n :=
 (go_all (n := n) (ch := ch) (R := fun _ => True) (fun _ _ _ _ _ => trivial) [0] [] (fun _ _ => trivial) (fun k hk => by simp at hk) k h).2
theorem met_closed {n : Nat} {ch : Nat → List Nat} {k c : Nat} (h : k ∈ met n ch) (hc : c ∈ ch k) (hn : c < n) : c ∈ met n ch :=
 (go_closed (n := n) (ch := ch) [0] [] (fun k hk => by simp at hk)).2 k h c hc hn
theorem met_all {n : Nat} {ch : Nat → List Nat} {R : Nat → Prop} (h0 : R 0) (hc : ∀ k, R k → k < n → ∀ c ∈ ch k, R c) {k : Nat} (h : k ∈ met n ch) : R k :=
 (go_all hc [0] [] (fun k hk => by simp at hk; subst hk; exact h0) (fun k hk => by simp at hk) k h).1
theorem met_map {n n' : Nat} {ch ch' : Nat → List Nat} {f : Nat → Nat} (h0 : 0 < n) (hf0 : f 0 = 0) (hR : ∀ k ∈ met n ch, f k < n' ∧ (∀ c ∈ ch k, c < n) ∧ ch' (f k) = (ch k).map f)
  (hi : ∀ a b, a ∈ met n ch → b ∈ met n ch → f a = f b → a = b) : met n' ch' = (met n ch).map f := by
 have hz : 0 ∈ met n ch := by obtain ⟨r, hr⟩ := met_zero ch h0; rw [hr]; simp
 have h := go_map (n := n) (n' := n') (ch := ch) (ch' := ch') (f := f) (R := fun k => k ∈ met n ch)
  (fun k hk => ⟨met_lt hk, (hR k hk).1, fun c hc => met_closed hk hc ((hR k hk).2.1 c hc), (hR k hk).2.2⟩) hi [0] [] (fun k hk => by simp at hk; subst hk; exact hz) (fun k hk => by simp at hk)
 simp only [List.map_cons, List.map_nil, hf0] at h
 exact h
end Go.Proofs.YtbhjggbijkjmnaaGreatDoor.TD
end
section
namespace Go.Proofs.YtbhjggbijkjmnaaGreatDoor.Ord
theorem less_irrefl : ∀ (a : List UInt8), Op.bytesLess a a = false
 | [] => rfl
 | x :: r => by
  simp only [Op.bytesLess, less_irrefl r]
  simp
theorem less_trans : ∀ {a b c : List UInt8}, Op.bytesLess a b = true → Op.bytesLess b c = true → Op.bytesLess a c = true
 | _, [], _, h, _ => by simp [Op.bytesLess] at h
 | [], _ :: _, [], _, h => by simp [Op.bytesLess] at h
 | [], _ :: _, _ :: _, _, _ => rfl
 | _ :: _, _ :: _, [], _, h => by simp [Op.bytesLess] at h
 | x :: a, y :: b, z :: c, h1, h2 => by
  simp only [Op.bytesLess, Bool.or_eq_true, decide_eq_true_eq, Bool.and_eq_true, beq_iff_eq] at h1 h2 ⊢
  rcases h1 with h1 | ⟨rfl, h1⟩
  ·
   rcases h2 with h2 | ⟨rfl, h2⟩
   · exact Or.inl (UInt8.lt_trans h1 h2)
   · exact Or.inl h1
  ·
   rcases h2 with h2 | ⟨rfl, h2⟩
   · exact Or.inl h2
   · exact Or.inr ⟨rfl, less_trans h1 h2⟩
theorem cmp_lt : ∀ (a b : List UInt8), Lib.compareBytes a b < 0 ↔ Op.bytesLess a b = true
 | [], [] => by simp [Lib.compareBytes, Op.bytesLess]
 | [], _ :: _ => by simp [Lib.compareBytes, Op.bytesLess]
 | _ :: _, [] => by simp [Lib.compareBytes, Op.bytesLess]
 | x :: a, y :: b => by
  simp only [Lib.compareBytes, Op.bytesLess]
  by_cases h : x < y
  · simp [h]
  ·
   rw [if_neg h]
   by_cases h2 : y < x
   ·
    rw [if_pos h2]
    have hne : ¬ x = y := fun e => by subst e; exact absurd h2 (UInt8.lt_irrefl _)
    simp [h, hne]
   ·
    rw [if_neg h2, cmp_lt a b]
    have e : x = y := UInt8.le_antisymm (UInt8.not_lt.1 h2) (UInt8.not_lt.1 h)
    simp [h, e]
theorem cmp_eq0 : ∀ (a b : List UInt8), Lib.compareBytes a b = 0 ↔ a = b
 | [], [] => by simp [Lib.compareBytes]
 | [], _ :: _ => by simp [Lib.compareBytes]
 | _ :: _, [] => by simp [Lib.compareBytes]
 | x :: a, y :: b => by
  simp only [Lib.compareBytes]
  by_cases h : x < y
  ·
   rw [if_pos h]
   have hne : ¬ x = y := fun e => by subst e; exact absurd h (UInt8.lt_irrefl _)
   simp [hne]
  ·
   rw [if_neg h]
   by_cases h2 : y < x
   ·
    rw [if_pos h2]
    have hne : ¬ x = y := fun e => by subst e; exact absurd h2 (UInt8.lt_irrefl _)
    simp [hne]
   ·
    rw [if_neg h2, cmp_eq0 a b]
    have e : x = y := UInt8.le_antisymm (UInt8.not_lt.1 h2) (UInt8.not_lt.1 h)
    simp [e]
theorem less_total (a b : List UInt8) : Op.bytesLess a b = true ∨ a = b ∨ Op.bytesLess b a = true := by
 induction a generalizing b with
 | nil => cases b with
  | nil => exact Or.inr (Or.inl rfl)
  | cons y b => exact Or.inl rfl
 | cons x a ih => cases b with
  | nil => exact Or.inr (Or.inr rfl)
  | cons y b =>
   simp only [Op.bytesLess, Bool.or_eq_true, decide_eq_true_eq, Bool.and_eq_true, beq_iff_eq]
   by_cases h : x < y
   · exact Or.inl (Or.inl h)
   ·
    by_cases h2 : y < x
    · exact Or.inr (Or.inr (Or.inl h2))
    ·
     have e : x = y := UInt8.le_antisymm (UInt8.not_lt.1 h2) (UInt8.not_lt.1 h)
     subst e
     rcases ih b with h3 | h3 | h3
     · exact Or.inl (Or.inr ⟨rfl, h3⟩)
     · exact Or.inr (Or.inl (by rw [h3]))
     · exact Or.inr (Or.inr (Or.inr ⟨rfl, h3⟩))
theorem Qb (a : ByteArray) : a.toList = a.data.toList := Go.ByteArray.toList_eq a
theorem Qax {a b : ByteArray} (h : a.toList = b.toList) : a = b := by
 rw [Qb, Qb] at h
 cases a; cases b
 congr
 exact Array.toList_inj.1 h
end Go.Proofs.YtbhjggbijkjmnaaGreatDoor.Ord
end
