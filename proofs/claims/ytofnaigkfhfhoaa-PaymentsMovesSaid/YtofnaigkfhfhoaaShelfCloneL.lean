/-
  A contract of the shelf, laid at this seat: the table of numbers, and a field a fact.
-/
import Derived.Shelf.SlMaps.Clone
import Derived.Test.YtofnaigkfhfhoaaProg
namespace Go.Proofs.Ytofnaigkfhfhoaa
open Go.Shelf
def cloneLed_ren : Go.Shelf.Ren := ⟨fun | 5 => 72 | 7 => 116 | n => n, fun | 23 => 27 | 25 => 118 | 3 => 120 | 4 => 4 | 20 => 20 | n => n, fun | n => n⟩
set_option maxRecDepth 100000 in
theorem cloneLed : Go.Proofs.SlLaysW.n5 Try.prog cloneLed_ren := {
  mixed := by kernel_rfl
  f5 := ⟨Try.f72.name, by decide, Try.func72.trans (congrArg some (by kernel_rfl))⟩
  f7 := Try.func116.trans (congrArg some (by kernel_rfl))
  t4 := Try.underlying4
  a4 := Try.isAgg4
  z4 := Try.sizeOf4
  v4 := Try.zeroValue4
  t20 := Try.underlying20
  a20 := Try.isAgg20
  z20 := Try.sizeOf20
  v20 := Try.zeroValue20
  t23 := Try.underlying27
  a23 := Try.isAgg27
  z23 := Try.sizeOf27
  v23 := Try.zeroValue27 }
end Go.Proofs.Ytofnaigkfhfhoaa
