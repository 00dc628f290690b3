/- The literals of values: bureauref02.Print and value.Print. -/
import Derived.Test.YtkkildkleleppaaDoorLib
import Derived.Test.YtkkildkleleppaaDoorVal
namespace Go.Proofs.YtkkildkleleppaaDoor
open Go.RowKit

theorem infoB : (Tryd.prog.info? 5).map (fun i => (i.zero, i.size, i.bytes)) = some (some (.int .u8 0), 1, 1) := by kernel_rfl

theorem may2 (s : ByteArray) (hs : s.size ≤ 400) : (V.mk 2 0 s).may = true := by simp [V.may, mayB, hs]
theorem may3 (s : ByteArray) (hs : s.size ≤ 400) : (V.mk 3 0 s).may = true := by simp [V.may, mayB, hs]

end Go.Proofs.YtkkildkleleppaaDoor
