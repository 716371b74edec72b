/- Plain law: what every statement of layer 11 asks first (alive) is true. -/
import Derived.Test.YtllfjmmdackgdaaL1
import Derived.Test.YtllfjmmdackgdaaB
import Derived.Test.YtllfjmmdackgdaaPZx7
namespace Go.Proofs.Ytllfjmmdackgdaa.PZ
open Go.RowKit Go.Proofs.YtllfjmmdackgdaaW.PrintWords Go.Proofs.YtllfjmmdackgdaaW.PrintLast Go.Proofs.YtllfjmmdackgdaaW.PrintMore Go.Proofs.Ytllfjmmdackgdaa.Ord Go.Proofs.Ytllfjmmdackgdaa.B

theorem name_ab : nameB ⟨#[97, 98]⟩ = true := by
  unfold nameB
  rw [toList_data]
  decide +kernel
theorem right_ab : dirent_right.f 2 [(⟨⟨#[97, 98]⟩, 3⟩ : S24)] = some true := by
  unfold dirent_right.f
  rw [if_neg (by simp)]
  simp only [dirent_right.l0]
  rw [if_pos (by simp), if_pos (by omega), if_pos (by simp)]
  have : path_Name.f (rd_T24 [(⟨⟨#[97, 98]⟩, 3⟩ : S24)] 0).f0 = some true := congrArg some name_ab
  rw [this]
  simp only [Option.bind_some]
  rw [if_pos trivial, if_neg (by show ¬ (3 : Int) < 1; omega), if_neg (by show ¬ (3 : Int) > 56; omega), if_neg (by omega), w64 (by omega) (by omega), if_neg (by simp)]
theorem put_23 : bits_Put.f 9 2 3 = some [3, 0] := by decide +kernel
theorem enc_ab : dirent_Encode.f 9 [(⟨⟨#[97, 98]⟩, 3⟩ : S24)] = some ([3, 0, 2, 97, 98], true) := by
  unfold dirent_Encode.f
  rw [at_rounds (fun k => dirent_right.mono _ k) (show 2 ≤ 9 by omega) right_ab]
  simp only [Option.bind_some, encGo]
  rw [put_23]
  simp only [Option.bind_some]
  rw [if_pos trivial, if_pos (by decide +kernel)]
  simp only [Option.bind_some]
  decide +kernel
theorem alive_ev : Ev (fun k => morainelaw11_alive.f k) true := by
  refine Ev.of (fun k => morainelaw11_alive.mono k) (k := 9) ?_
  have hs : Srt [(⟨⟨#[98]⟩, 1⟩ : S24)] := (risingB_iff _).1 rfl
  have l1 : lts (⟨#[98]⟩ : ByteArray) ⟨#[97]⟩ = false := by unfold lts; rw [toList_data, toList_data]; decide +kernel
  have hp : putL [(⟨⟨#[98]⟩, 1⟩ : S24)] ⟨#[97]⟩ 2 = [⟨⟨#[97]⟩, 2⟩, ⟨⟨#[98]⟩, 1⟩] := by
    unfold putL
    have e1 : fI [(⟨⟨#[98]⟩, 1⟩ : S24)] ⟨#[97]⟩ = 0 := by rw [fI_cons, l1]; rfl
    have e2 : fB [(⟨⟨#[98]⟩, 1⟩ : S24)] ⟨#[97]⟩ = false := by rw [fB_cons, l1, toList_data, toList_data]; decide +kernel
    rw [e1, e2]; rfl
  unfold morainelaw11_alive.f
  rw [enc_ab, put_eq ⟨#[97]⟩ 2 hs (by simp), hp]
  simp only [Option.bind_some]
  rw [if_pos trivial, show moraineref00_SameBytes.f 9 [3, 0, 2, 97, 98] [3, 0, 2, 97, 98] = some true by decide +kernel]
  simp only [Option.bind_some]
  have e3 : (rd_T24 [(⟨⟨#[97]⟩, 2⟩ : S24), ⟨⟨#[98]⟩, 1⟩] 0).f0 = ⟨#[97]⟩ := rfl
  have e4 : cutL [(⟨⟨#[97]⟩, 2⟩ : S24), ⟨⟨#[98]⟩, 1⟩] ⟨#[98]⟩ = [⟨⟨#[97]⟩, 2⟩] := by
    unfold cutL
    simp only [List.filter_cons, List.filter_nil, toList_data]
    rfl
  rw [e3, if_pos trivial, if_pos (by rfl), if_pos (by simp), if_pos (by rw [toList_data]), cut_eq _ _ (by simp), e4]
  rfl
end Go.Proofs.Ytllfjmmdackgdaa.PZ
