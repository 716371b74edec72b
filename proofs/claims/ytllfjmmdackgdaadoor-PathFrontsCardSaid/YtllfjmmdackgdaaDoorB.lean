/- Plain words of this work: names, byte order, lists; no program. -/
import Derived.WalkKit
import Derived.WalkLawsBesides
import Derived.Lib.Bytealg
import Derived.Lib.IndexLaws
namespace Go.Proofs.YtllfjmmdackgdaaDoor.B
open Go.RowKit

/-- Is it a name: as the program's path.Name reckons it. -/
def nameB (s : ByteArray) : Bool :=
  !(s.toList.isEmpty) && !(s.toList == [46]) && !(s.toList == [46, 46]) && decide (s.size ≤ 12) &&
    decide (Lib.indexByte s.data.toList 0 < 0) && decide (Lib.indexByte s.data.toList 47 < 0)

end Go.Proofs.YtllfjmmdackgdaaDoor.B
