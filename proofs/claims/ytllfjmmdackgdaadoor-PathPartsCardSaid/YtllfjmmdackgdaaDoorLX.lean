/- Plain law of PathParts: it answers true at all strings. -/
import Derived.Test.YtllfjmmdackgdaaDoorLW
import Derived.Test.YtllfjmmdackgdaaDoorPZx3
namespace Go.Proofs.YtllfjmmdackgdaaDoor.PZ
open Go.RowKit Go.Proofs.YtllfjmmdackgdaaDoorW.PrintWords Go.Proofs.YtllfjmmdackgdaaDoorW.PrintLast Go.Proofs.YtllfjmmdackgdaaDoorW.PrintMore Go.Proofs.YtllfjmmdackgdaaDoor.Ord Go.Proofs.YtllfjmmdackgdaaDoor.B

theorem parts_ev (a : ByteArray) : Ev (fun k => morainelaw10_PathParts.f k a) true := by
  obtain ⟨Ka, ha⟩ := alive_ev
  by_cases h5 : (a.size : Int) > 5000
  · refine ⟨Ka, fun k hk => ?_⟩
    show morainelaw10_PathParts.f k a = some true
    unfold morainelaw10_PathParts.f
    rw [show morainelaw10_alive.f k = _ from ha k hk, Option.bind_some, if_pos rfl, if_pos h5]
  · obtain ⟨K1, h1⟩ := path_split_ev a (by omega)
    obtain ⟨K2, h2⟩ := ref_split_ev a (by omega)
    obtain ⟨K3, h3⟩ := name_ev a
    have hl := splitA_length a
    obtain ⟨K4, h4⟩ := same_texts_ev (splitA a).1 (by omega)
    refine ⟨Ka + K1 + K2 + K3 + K4, fun k hk => ?_⟩
    show morainelaw10_PathParts.f k a = some true
    unfold morainelaw10_PathParts.f
    rw [show morainelaw10_alive.f k = _ from ha k (by omega), Option.bind_some, if_pos rfl, if_neg h5, show path_Split.f k a = _ from h1 k (by omega), Option.bind_some, show moraineref10_Split.f k a = _ from h2 k (by omega), Option.bind_some]
    unfold path_Name.f
    rw [Option.bind_some, show moraineref10_Name.f k a = _ from h3 k (by omega), Option.bind_some, if_pos (by simp), show moraineref00_SameTexts.f k (splitA a).1 (splitA a).1 = _ from h4 k (by omega), Option.bind_some, if_pos rfl]
    simp
end Go.Proofs.YtllfjmmdackgdaaDoor.PZ
