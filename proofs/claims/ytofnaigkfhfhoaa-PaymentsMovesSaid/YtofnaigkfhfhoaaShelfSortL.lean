/-
  A contract of the shelf, laid at this seat: the table of numbers, and a field a fact.
-/
import Derived.Shelf.SlSortCmp.NoneTotal
import Derived.Test.YtofnaigkfhfhoaaProg
namespace Go.Proofs.Ytofnaigkfhfhoaa
open Go.Shelf
def sortLines_ren : Go.Shelf.Ren := ⟨fun | 6 => 83 | 15 => 118 | 14 => 124 | 28 => 143 | 29 => 144 | 20 => 159 | 21 => 160 | 22 => 161 | 23 => 162 | 24 => 163 | 25 => 164 | 26 => 165 | 27 => 166 | 46 => 178 | 47 => 172 | 48 => 173 | 49 => 179 | 50 => 180 | 57 => 182 | n => n, fun | 22 => 50 | 24 => 62 | 25 => 132 | 3 => 3 | 39 => 176 | 0 => 0 | 53 => 94 | 55 => 205 | 4 => 4 | 46 => 197 | 45 => 196 | 50 => 201 | 5 => 5 | 9 => 9 | 66 => 233 | 70 => 237 | 76 => 245 | 77 => 246 | n => n, fun | n => n⟩
set_option maxRecDepth 100000 in
theorem sortLines : Go.Proofs.SlLaysF0.n6 Try.prog sortLines_ren := {
  mixed := by kernel_rfl
  f6 := ⟨Try.f83.name, by decide, Try.func83.trans (congrArg some (by kernel_rfl))⟩
  f14 := ⟨Try.f124.name, by decide, Try.func124.trans (congrArg some (by kernel_rfl))⟩
  f15 := Try.func118.trans (congrArg some (by kernel_rfl))
  f20 := ⟨Try.f159.name, by decide, Try.func159.trans (congrArg some (by kernel_rfl))⟩
  f21 := ⟨Try.f160.name, by decide, Try.func160.trans (congrArg some (by kernel_rfl))⟩
  f22 := ⟨Try.f161.name, by decide, Try.func161.trans (congrArg some (by kernel_rfl))⟩
  f23 := ⟨Try.f162.name, by decide, Try.func162.trans (congrArg some (by kernel_rfl))⟩
  f24 := ⟨Try.f163.name, by decide, Try.func163.trans (congrArg some (by kernel_rfl))⟩
  f25 := ⟨Try.f164.name, by decide, Try.func164.trans (congrArg some (by kernel_rfl))⟩
  f26 := ⟨Try.f165.name, by decide, Try.func165.trans (congrArg some (by kernel_rfl))⟩
  f27 := ⟨Try.f166.name, by decide, Try.func166.trans (congrArg some (by kernel_rfl))⟩
  f28 := Try.func143.trans (congrArg some (by kernel_rfl))
  f29 := Try.func144.trans (congrArg some (by kernel_rfl))
  f46 := ⟨Try.f178.name, by decide, Try.func178.trans (congrArg some (by kernel_rfl))⟩
  f47 := Try.func172.trans (congrArg some (by kernel_rfl))
  f48 := Try.func173.trans (congrArg some (by kernel_rfl))
  f49 := ⟨Try.f179.name, by decide, Try.func179.trans (congrArg some (by kernel_rfl))⟩
  f50 := ⟨Try.f180.name, by decide, Try.func180.trans (congrArg some (by kernel_rfl))⟩
  f57 := ⟨Try.f182.name, by decide, Try.func182.trans (congrArg some (by kernel_rfl))⟩
  t0 := Try.underlying0
  a0 := Try.isAgg0
  z0 := Try.sizeOf0
  v0 := Try.zeroValue0
  t3 := Try.underlying3
  a3 := Try.isAgg3
  z3 := Try.sizeOf3
  v3 := Try.zeroValue3
  t4 := Try.underlying4
  a4 := Try.isAgg4
  z4 := Try.sizeOf4
  v4 := Try.zeroValue4
  t5 := Try.underlying5
  a5 := Try.isAgg5
  z5 := Try.sizeOf5
  v5 := Try.zeroValue5
  t9 := Try.underlying9
  a9 := Try.isAgg9
  z9 := Try.sizeOf9
  v9 := Try.zeroValue9
  t22 := Try.underlying50
  a22 := Try.isAgg50
  z22 := Try.sizeOf50
  v22 := Try.zeroValue50
  t25 := Try.underlying132
  a25 := Try.isAgg132
  z25 := Try.sizeOf132
  v25 := Try.zeroValue132
  t39 := Try.underlying176
  a39 := Try.isAgg176
  z39 := Try.sizeOf176
  v39 := Try.zeroValue176
  t45 := Try.underlying196
  a45 := Try.isAgg196
  z45 := Try.sizeOf196
  v45 := Try.zeroValue196
  t46 := Try.underlying197
  a46 := Try.isAgg197
  z46 := Try.sizeOf197
  v46 := Try.zeroValue197
  t50 := Try.underlying201
  a50 := Try.isAgg201
  z50 := Try.sizeOf201
  v50 := Try.zeroValue201
  t53 := Try.underlying94
  a53 := Try.isAgg94
  z53 := Try.sizeOf94
  v53 := Try.zeroValue94
  t55 := Try.underlying205
  a55 := Try.isAgg205
  z55 := Try.sizeOf205
  v55 := Try.zeroValue205
  t66 := Try.underlying233
  a66 := Try.isAgg233
  z66 := Try.sizeOf233
  v66 := Try.zeroValue233
  t70 := Try.underlying237
  a70 := Try.isAgg237
  z70 := Try.sizeOf237
  v70 := Try.zeroValue237
  t76 := Try.underlying245
  a76 := Try.isAgg245
  z76 := Try.sizeOf245
  v76 := Try.zeroValue245
  t77 := Try.underlying246
  a77 := Try.isAgg246
  z77 := Try.sizeOf246
  v77 := Try.zeroValue246 }
end Go.Proofs.Ytofnaigkfhfhoaa
