/- The reference's text of what is told: bureauref15.Written, Print of texts; bureauref31.Part, Text. -/
import Derived.Test.YtkkildkleleppaaDoorTok
import Derived.Lib.IndexBytes
namespace Go.Proofs.YtkkildkleleppaaDoor
open Go.RowKit

theorem extract_one (s : ByteArray) (k : Nat) (h : k < s.size) : (s.extract k (k + 1)).data.toList = [s[k]] := by
  rw [Lib.extract_data]
  have : s.data.toList.drop k = s[k] :: s.data.toList.drop (k + 1) := List.drop_eq_getElem_cons (by simpa using h)
  rw [this]
  simp

theorem cat_str (a b : List UInt8) : ByteArray.mk a.toArray ++ ByteArray.mk b.toArray = ByteArray.mk (a ++ b).toArray := by
  apply Go.WideShapes.bytes_inj
  simp

theorem quoted_len (l : List UInt8) : (quoted l).length = (dbl l).length + 2 := by simp [quoted]
theorem quoted_mid (l : List UInt8) (m : Nat) (h : m = (quoted l).length - 1) : (ByteArray.mk (quoted l).toArray).extract 1 m = ByteArray.mk (dbl l).toArray := by
  apply Go.WideShapes.bytes_inj
  rw [Lib.extract_data, h]
  simp [quoted]

end Go.Proofs.YtkkildkleleppaaDoor
