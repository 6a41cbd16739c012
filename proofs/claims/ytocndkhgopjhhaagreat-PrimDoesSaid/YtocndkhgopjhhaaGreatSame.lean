import Derived.Test.YtocndkhgopjhhaaGreatProg
import Derived.Test.YtocndkhgopjhhaaGreatBase
import Derived.Test.YtocndkhgopjhhaaGreatLibs
namespace Go.Proofs.YtocndkhgopjhhaaGreat
open Go.RowKit

theorem toList_inj {a b : ByteArray} (h : a.toList = b.toList) : a = b := by
  rw [Lib.toList_data, Lib.toList_data] at h
  exact ByteArray.ext (Array.toList_inj.1 h)

end Go.Proofs.YtocndkhgopjhhaaGreat
