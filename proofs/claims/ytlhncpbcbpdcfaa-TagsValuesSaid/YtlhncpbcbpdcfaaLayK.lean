/- maps.Keys and slices.Sorted of this program are the ones that the library proves: the numbers, one by one. -/
import Derived.Shelf.SlIter.Sorted
import Derived.Test.YtlhncpbcbpdcfaaProg
namespace Go.Proofs.Ytlhncpbcbpdcfaa
open Go Go.Proofs
set_option maxRecDepth 100000
def layKeys_ren : Go.Shelf.Ren := ⟨fun | 7 => 51 | 10 => 62 | n => n, fun | 23 => 71 | 26 => 9 | 3 => 3 | 28 => 74 | 0 => 0 | 27 => 73 | 33 => 59 | 4 => 4 | n => n, fun n => n⟩
theorem layKeys : Go.Proofs.SlLaysZ.n7 Try.prog layKeys_ren where
  mixed := by kernel_rfl
  f7 := ⟨ "maps.Keys[map[string]int,string,int]", by decide, Try.func51.trans (congrArg some (by kernel_rfl))⟩
  f10 := ⟨ "maps.Keys[map[string]int,string,int]$1", by decide, Try.func62.trans (congrArg some (by kernel_rfl))⟩
  t0 := Try.underlying0
  a0 := Try.isAgg0
  z0 := Try.sizeOf0
  v0 := Try.zeroValue0
  t4 := Try.underlying4
  a4 := Try.isAgg4
  z4 := Try.sizeOf4
  v4 := Try.zeroValue4
  t23 := Try.underlying71
  a23 := Try.isAgg71
  z23 := Try.sizeOf71
  v23 := Try.zeroValue71
  t26 := Try.underlying9
  a26 := Try.isAgg9
  z26 := Try.sizeOf9
  v26 := Try.zeroValue9
  t27 := Try.underlying73
  a27 := Try.isAgg73
  z27 := Try.sizeOf73
  v27 := Try.zeroValue73
  t28 := Try.underlying74
  a28 := Try.isAgg74
  z28 := Try.sizeOf74
  v28 := Try.zeroValue74
  t33 := Try.underlying59
  a33 := Try.isAgg59
  z33 := Try.sizeOf59
  v33 := Try.zeroValue59
def laySorted_ren : Go.Shelf.Ren := ⟨fun | 6 => 50 | 8 => 60 | 9 => 61 | 11 => 68 | 13 => 67 | 12 => 69 | 23 => 78 | 24 => 79 | 14 => 80 | 15 => 81 | 16 => 82 | 17 => 83 | 18 => 84 | 19 => 85 | 20 => 86 | 21 => 87 | 22 => 88 | 25 => 94 | 26 => 90 | 27 => 91 | 28 => 95 | 29 => 96 | 30 => 97 | 31 => 99 | n => n, fun | 26 => 9 | 28 => 74 | 24 => 39 | 0 => 0 | 3 => 3 | 37 => 77 | 48 => 95 | 50 => 97 | 4 => 4 | 40 => 90 | 39 => 89 | 45 => 48 | 5 => 5 | 9 => 9 | 51 => 104 | 55 => 108 | 57 => 112 | 58 => 113 | 33 => 59 | n => n, fun n => n⟩
theorem laySorted : Go.Proofs.SlLaysZ.n6 Try.prog laySorted_ren where
  mixed := by kernel_rfl
  f6 := ⟨ "slices.Sorted[string]", by decide, Try.func50.trans (congrArg some (by kernel_rfl))⟩
  f8 := ⟨ "slices.Collect[string]", by decide, Try.func60.trans (congrArg some (by kernel_rfl))⟩
  f11 := ⟨ "slices.AppendSeq[[]string,string]", by decide, Try.func68.trans (congrArg some (by kernel_rfl))⟩
  t0 := Try.underlying0
  a0 := Try.isAgg0
  z0 := Try.sizeOf0
  v0 := Try.zeroValue0
  t24 := Try.underlying39
  a24 := Try.isAgg39
  z24 := Try.sizeOf39
  v24 := Try.zeroValue39
  t26 := Try.underlying9
  a26 := Try.isAgg9
  z26 := Try.sizeOf9
  v26 := Try.zeroValue9
  t28 := Try.underlying74
  a28 := Try.isAgg74
  z28 := Try.sizeOf74
  v28 := Try.zeroValue74
  i26 := by kernel_rfl
end Go.Proofs.Ytlhncpbcbpdcfaa
