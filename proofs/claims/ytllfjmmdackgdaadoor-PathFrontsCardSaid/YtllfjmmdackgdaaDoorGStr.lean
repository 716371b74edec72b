/- Functions of package strings, by the shelf's contracts: Index and Count at one byte, Join, explode (never met). -/
import Derived.Test.YtllfjmmdackgdaaDoorPZx0
import Derived.Test.YtllfjmmdackgdaaDoorShelf
namespace Go.Proofs.YtllfjmmdackgdaaDoor.PZ
open Go.RowKit Go.Proofs.YtllfjmmdackgdaaDoorW.PrintWords Go.Proofs.YtllfjmmdackgdaaDoorW.PrintLast Go.Proofs.YtllfjmmdackgdaaDoorW.PrintMore
set_option linter.unusedVariables false

def oneB (s : ByteArray) : Option UInt8 := match s.data.toList with
  | [c] => some c
  | _ => none
theorem oneB_eq {s : ByteArray} {c : UInt8} (h : oneB s = some c) : s = ⟨#[c]⟩ := by
  unfold oneB at h
  split at h
  · rename_i hl
    cases h
    obtain ⟨a⟩ := s
    congr 1
    exact Array.toList_inj.1 hl
  · cases h
theorem oneB_of (c : UInt8) : oneB ⟨#[c]⟩ = some c := rfl
theorem cell_spot {w : World} {a : Addr} {v : Value} (h : w.cell? a = some v) : a.spot = none := by
  unfold World.cell? at h
  split at h
  · by_cases hs : a.spot.isSome = true
    · rw [if_pos hs] at h; cases h
    · simpa using hs
  · cases h
def strings_Index.f (a0 a1 : ByteArray) : Option Int := (oneB a1).bind fun c => some (Lib.indexByte a0.data.toList c)
def strings_Count.f (a0 a1 : ByteArray) : Option Int := (oneB a1).bind fun c => some (Lib.countByte a0.data.toList c)
def strings_explode.f (a0 : ByteArray) (a1 : Int) : Option (List ByteArray) := none
def joinB (l : List ByteArray) (s : ByteArray) : List UInt8 := Lib.join (l.map (·.data.toList)) s.data.toList
def strings_Join.f (l0 : List ByteArray) (a1 : ByteArray) : Option ByteArray := if l0.length < 1000000000000 ∧ (joinB l0 a1).length < 100000000000000 then some ⟨(joinB l0 a1).toArray⟩ else none

theorem strings_Index.calls (a0 a1 : ByteArray) (r : Int) (w : World) (h : strings_Index.f a0 a1 = some r) :
    Calls Tryd.prog 87 #[.string a0, .string a1] w fun e w' => e = .returned (.int .i64 r) ∧ Drawn0 w w' := by
  obtain ⟨c, hc, hr⟩ := Option.bind_eq_some_iff.mp h
  cases hr
  rw [oneB_eq hc]
  refine (Tryd.strings_Index_one a0 c w).mono ?_
  rintro e w' ⟨rfl, rfl⟩
  exact ⟨rfl, Drawn0.refl _⟩
theorem strings_Count.calls (a0 a1 : ByteArray) (r : Int) (w : World) (h : strings_Count.f a0 a1 = some r) :
    Calls Tryd.prog 86 #[.string a0, .string a1] w fun e w' => e = .returned (.int .i64 r) ∧ Drawn0 w w' := by
  obtain ⟨c, hc, hr⟩ := Option.bind_eq_some_iff.mp h
  cases hr
  rw [oneB_eq hc]
  refine (Tryd.strings_Count_one a0 c w).mono ?_
  rintro e w' ⟨rfl, rfl⟩
  exact ⟨rfl, Drawn0.refl _⟩
theorem strings_explode.calls (a0 : ByteArray) (a1 : Int) (r : List ByteArray) (w : World) (h : strings_explode.f a0 a1 = some r) :
    Calls Tryd.prog 85 #[.string a0, .int .i64 a1] w fun e w' => ∃ v0_ : Value, e = .returned (v0_) ∧ Kd.R Kd.string 9 w' w.heap.size (fun _ => True) v0_ r ∧ Below w.heap.size w w' := by cases h
theorem strings_Join.calls (A0 : Option Addr) (c0 : Nat) (l0 : List ByteArray) (a1 : ByteArray) (r : ByteArray) (w : World) (hr0 : Kd.C Kd.string w A0 l0.length l0) (hc0 : l0.length ≤ c0) (h : strings_Join.f l0 a1 = some r) :
    Calls Tryd.prog 40 #[.slice A0 l0.length c0, .string a1] w fun e w' => e = .returned (.string r) ∧ Below w.heap.size w w' := by
  unfold strings_Join.f at h
  by_cases hn : l0.length < 1000000000000 ∧ (joinB l0 a1).length < 100000000000000
  · rw [if_pos hn] at h
    cases h
    obtain ⟨h1, h2⟩ := hn
    by_cases h0 : l0 = []
    · subst h0
      refine (Tryd.strings_Join_none A0 c0 a1 w).mono ?_
      rintro e w' ⟨rfl, rfl⟩
      exact ⟨rfl, Below.refl _ _⟩
    · have hpos : 0 < l0.length := List.length_pos_iff.2 h0
      obtain ⟨ad, e, hx⟩ := Kd.at_string hr0 0 (by omega) (by omega)
      subst e
      have hcells : ∀ (j : Nat) x, l0[j]? = some x → w.cell? (ad.add j) = some (.string x) := by
        intro j x hj
        obtain ⟨hjl, hjx⟩ := List.getElem?_eq_some_iff.1 hj
        obtain ⟨ad2, e2, hx2⟩ := Kd.at_string hr0 (j : Int) (by omega) (by omega)
        cases e2
        rw [Int.toNat_natCast] at hx2
        rw [hx2]
        unfold rdOf
        simp [List.getD_eq_getElem?_getD, hj]
      rw [show (0 : Int).toNat = 0 from rfl] at hx
      have e0 : ad.add 0 = ad := by unfold Addr.add; rw [if_pos rfl]
      rw [e0] at hx
      have hsp := cell_spot hx
      obtain ⟨bk, o, sp⟩ := ad
      simp only at hsp
      subst hsp
      have hcells2 : ∀ (j : Nat) x, l0[j]? = some x → w.cell? ⟨bk, o + j, none⟩ = some (.string x) := by
        intro j x hj
        have := hcells j x hj
        unfold Addr.add at this
        by_cases h0 : j = 0
        · subst h0
          rw [if_pos rfl] at this
          exact this
        · rw [if_neg h0] at this
          exact this
      exact Tryd.strings_Join bk o c0 l0 a1 w hcells2 (World.block_lt_of_cell? w _ hx) (by omega) hc0 (by unfold joinB at h2; omega)
  · rw [if_neg hn] at h
    cases h
end Go.Proofs.YtllfjmmdackgdaaDoor.PZ
