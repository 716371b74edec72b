/- The walk of path.Name, and of strings.IndexByte by the shelf's contract. -/
import Derived.Test.YtllfjmmdackgdaaDoorPZx0
import Derived.Test.YtllfjmmdackgdaaDoorShelf
import Derived.Test.YtllfjmmdackgdaaDoorB
namespace Go.Proofs.YtllfjmmdackgdaaDoor.PZ
open Go.RowKit Go.Proofs.YtllfjmmdackgdaaDoorW.PrintWords Go.Proofs.YtllfjmmdackgdaaDoorW.PrintLast Go.Proofs.YtllfjmmdackgdaaDoorW.PrintMore Go.Proofs.YtllfjmmdackgdaaDoor.B
set_option linter.unusedVariables false
set_option linter.unusedSimpArgs false

def path_Name.f (a0 : ByteArray) : Option Bool := some (nameB a0)

theorem name_walk (a0 : ByteArray) (w : World) :
    Calls Tryd.prog 18 #[.string a0] w fun e w' => e = .returned (.bool (nameB a0)) ∧ w' = w := by
  by_cases h1 : a0.toList.isEmpty = true
  · have hr : nameB a0 = false := by simp [nameB, h1]
    rw [hr]; clear hr
    have h1b : (a0.toList == ([] : List UInt8)) = true := by simpa using h1
    go_enter Tryd.func18, Tryd.ntmps18
    go_wp2
    go_ret
    exact ⟨rfl, rfl⟩
  · replace h1 : a0.toList.isEmpty = false := by simpa using h1
    by_cases h2 : (a0.toList == [46]) = true
    · have hr : nameB a0 = false := by simp [nameB, h2]
      rw [hr]; clear hr
      go_enter Tryd.func18, Tryd.ntmps18
      go_wp2
      go_ret
      exact ⟨rfl, rfl⟩
    · replace h2 : (a0.toList == [46]) = false := by simpa using h2
      by_cases h3 : (a0.toList == [46, 46]) = true
      · have hr : nameB a0 = false := by simp [nameB, h3]
        rw [hr]; clear hr
        go_enter Tryd.func18, Tryd.ntmps18
        go_wp2
        go_ret
        exact ⟨rfl, rfl⟩
      · replace h3 : (a0.toList == [46, 46]) = false := by simpa using h3
        have hr : nameB a0 = (decide (a0.size ≤ 12) && decide (Lib.indexByte a0.data.toList 0 < 0) && decide (Lib.indexByte a0.data.toList 47 < 0)) := by
          simp [nameB, h1, h2, h3]
        rw [hr]; clear hr
        by_cases h4 : a0.size ≤ 12
        · have h4b : decide (a0.size ≤ 12) = true := by simpa using h4
          have h4c : decide ((a0.size : Int) ≤ 12) = true := by simp; omega
          by_cases h5 : Lib.indexByte a0.data.toList 0 < 0
          · have h5b : decide (Lib.indexByte a0.data.toList 0 < 0) = true := by simpa using h5
            go_enter Tryd.func18, Tryd.ntmps18
            go_wp2_with (go_at_call 39; refine (Tryd.strings_IndexByte _ _ _).mono ?_; rintro e w' ⟨rfl, rfl⟩)
            go_ret
            exact ⟨by first | (simp [h4, h5]; done) | (simp [h4]; omega), rfl⟩
          · have h5b : decide (Lib.indexByte a0.data.toList 0 < 0) = false := by simpa using h5
            go_enter Tryd.func18, Tryd.ntmps18
            go_wp2_with (go_at_call 39; refine (Tryd.strings_IndexByte _ _ _).mono ?_; rintro e w' ⟨rfl, rfl⟩)
            go_ret
            exact ⟨by first | (simp [h4, h5]; done) | (simp [h4]; omega), rfl⟩
        · have h4b : decide (a0.size ≤ 12) = false := by simpa using h4
          have h4c : decide ((a0.size : Int) ≤ 12) = false := by simp; omega
          go_enter Tryd.func18, Tryd.ntmps18
          go_wp2_with (go_at_call 39; refine (Tryd.strings_IndexByte _ _ _).mono ?_; rintro e w' ⟨rfl, rfl⟩)
          go_ret
          exact ⟨by simp [h4], rfl⟩

theorem path_Name.calls (a0 : ByteArray) (r : Bool) (w : World) (h : path_Name.f a0 = some r) :
    Calls Tryd.prog 18 #[.string a0] w fun e w' => e = .returned (.bool r) ∧ Drawn0 w w' := by
  obtain rfl := Option.some.inj h
  refine (name_walk a0 w).mono ?_
  rintro e w' ⟨rfl, rfl⟩
  exact ⟨rfl, Drawn0.refl _⟩

end Go.Proofs.YtllfjmmdackgdaaDoor.PZ
