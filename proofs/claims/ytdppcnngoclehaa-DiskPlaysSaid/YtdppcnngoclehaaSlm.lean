/-
  The library's functions on maps, at this program: the shelf's contracts, laid, and what is wanted of them: keys sorted, a map's copy, entries that go. No condition.
-/
import Derived.Test.YtdppcnngoclehaaMaps
import Derived.Test.YtdppcnngoclehaaChecked
import Derived.Shelf.SlIter.Sorted
import Derived.Shelf.SlIterI.Sorted
import Derived.Shelf.SlIterI.Nil
import Derived.Shelf.SortM.Plain
import Derived.Shelf.SortM.SortNone
import Derived.Shelf.SlMaps.Clone
import Derived.Shelf.SlMaps.DeleteFunc
namespace Go.Proofs
open Go.Shelf

def Try.keysI_ren : Go.Shelf.Ren := ⟨fun | 7 => 34 | 10 => 55 | n => n, fun | 23 => 53 | 26 => 3 | 3 => 61 | 28 => 76 | 0 => 0 | 27 => 75 | 33 => 98 | 4 => 4 | n => n, fun | n => n⟩
theorem Try.pU : Go.Proofs.SlLaysZI.n7 Try.prog Try.keysI_ren := {
  mixed := by kernel_rfl,
  f7 := ⟨Try.f34.name, by decide, Try.func34.trans (congrArg some (by kernel_rfl))⟩,
  f10 := ⟨Try.f55.name, by decide, Try.func55.trans (congrArg some (by kernel_rfl))⟩,
  t0 := Try.underlying0,
  a0 := Try.isAgg0,
  z0 := Try.sizeOf0,
  v0 := Try.zeroValue0,
  t4 := Try.underlying4,
  a4 := Try.isAgg4,
  z4 := Try.sizeOf4,
  v4 := Try.zeroValue4,
  t23 := Try.underlying53,
  a23 := Try.isAgg53,
  z23 := Try.sizeOf53,
  v23 := Try.zeroValue53,
  t26 := Try.underlying3,
  a26 := Try.isAgg3,
  z26 := Try.sizeOf3,
  v26 := Try.zeroValue3,
  t27 := Try.underlying75,
  a27 := Try.isAgg75,
  z27 := Try.sizeOf75,
  v27 := Try.zeroValue75,
  t28 := Try.underlying76,
  a28 := Try.isAgg76,
  z28 := Try.sizeOf76,
  v28 := Try.zeroValue76,
  t33 := Try.underlying98,
  a33 := Try.isAgg98,
  z33 := Try.sizeOf98,
  v33 := Try.zeroValue98 }

def Try.sortedI_ren : Go.Shelf.Ren := ⟨fun | 6 => 33 | 8 => 53 | 9 => 54 | 11 => 65 | 13 => 67 | 12 => 66 | 23 => 80 | 24 => 81 | 14 => 71 | 15 => 72 | 16 => 73 | 17 => 74 | 18 => 75 | 19 => 76 | 20 => 77 | 21 => 78 | 22 => 79 | 25 => 84 | 26 => 85 | 27 => 86 | 28 => 87 | 29 => 88 | 30 => 89 | 31 => 99 | n => n, fun | 26 => 3 | 28 => 76 | 24 => 31 | 0 => 0 | 3 => 3 | 37 => 115 | 48 => 127 | 50 => 129 | 4 => 4 | 40 => 120 | 39 => 119 | 45 => 58 | 5 => 5 | 9 => 9 | 51 => 132 | 55 => 136 | 57 => 143 | 58 => 144 | 33 => 98 | n => n, fun | n => n⟩
theorem Try.sortedI : Go.Proofs.SlLaysZI.n6 Try.prog Try.sortedI_ren := {
  mixed := by kernel_rfl,
  f6 := ⟨Try.f33.name, by decide, Try.func33.trans (congrArg some (by kernel_rfl))⟩,
  f8 := ⟨Try.f53.name, by decide, Try.func53.trans (congrArg some (by kernel_rfl))⟩,
  f11 := ⟨Try.f65.name, by decide, Try.func65.trans (congrArg some (by kernel_rfl))⟩,
  t0 := Try.underlying0,
  a0 := Try.isAgg0,
  z0 := Try.sizeOf0,
  v0 := Try.zeroValue0,
  t24 := Try.underlying31,
  a24 := Try.isAgg31,
  z24 := Try.sizeOf31,
  v24 := Try.zeroValue31,
  t26 := Try.underlying3,
  a26 := Try.isAgg3,
  z26 := Try.sizeOf3,
  v26 := Try.zeroValue3,
  t28 := Try.underlying76,
  a28 := Try.isAgg76,
  z28 := Try.sizeOf76,
  v28 := Try.zeroValue76,
  i26 := by kernel_rfl }

def Try.sortI_ren : Go.Shelf.Ren := ⟨fun | 5 => 54 | 8 => 67 | 7 => 66 | 19 => 80 | 20 => 81 | 10 => 71 | 11 => 72 | 12 => 73 | 13 => 74 | 14 => 75 | 15 => 76 | 16 => 77 | 17 => 78 | 18 => 79 | 30 => 84 | 31 => 85 | 32 => 86 | 33 => 87 | 34 => 88 | 35 => 89 | 40 => 99 | n => n, fun | 23 => 31 | 25 => 3 | 3 => 3 | 32 => 115 | 22 => 31 | 0 => 0 | 44 => 127 | 46 => 129 | 4 => 4 | 36 => 120 | 35 => 119 | 41 => 58 | 5 => 5 | 9 => 9 | 53 => 132 | 57 => 136 | 63 => 143 | 64 => 144 | n => n, fun | n => n⟩
theorem Try.sortI : Go.Proofs.SlLaysM.n5 Try.prog Try.sortI_ren := {
  mixed := by kernel_rfl,
  f5 := ⟨Try.f54.name, by decide, Try.func54.trans (congrArg some (by kernel_rfl))⟩,
  f7 := ⟨Try.f66.name, by decide, Try.func66.trans (congrArg some (by kernel_rfl))⟩,
  f8 := Try.func67.trans (congrArg some (by kernel_rfl)),
  f10 := ⟨Try.f71.name, by decide, Try.func71.trans (congrArg some (by kernel_rfl))⟩,
  f11 := ⟨Try.f72.name, by decide, Try.func72.trans (congrArg some (by kernel_rfl))⟩,
  f12 := ⟨Try.f73.name, by decide, Try.func73.trans (congrArg some (by kernel_rfl))⟩,
  f13 := ⟨Try.f74.name, by decide, Try.func74.trans (congrArg some (by kernel_rfl))⟩,
  f14 := ⟨Try.f75.name, by decide, Try.func75.trans (congrArg some (by kernel_rfl))⟩,
  f15 := ⟨Try.f76.name, by decide, Try.func76.trans (congrArg some (by kernel_rfl))⟩,
  f16 := ⟨Try.f77.name, by decide, Try.func77.trans (congrArg some (by kernel_rfl))⟩,
  f17 := ⟨Try.f78.name, by decide, Try.func78.trans (congrArg some (by kernel_rfl))⟩,
  f18 := ⟨Try.f79.name, by decide, Try.func79.trans (congrArg some (by kernel_rfl))⟩,
  f19 := Try.func80.trans (congrArg some (by kernel_rfl)),
  f20 := Try.func81.trans (congrArg some (by kernel_rfl)),
  f30 := ⟨Try.f84.name, by decide, Try.func84.trans (congrArg some (by kernel_rfl))⟩,
  f31 := Try.func85.trans (congrArg some (by kernel_rfl)),
  f32 := Try.func86.trans (congrArg some (by kernel_rfl)),
  f33 := ⟨Try.f87.name, by decide, Try.func87.trans (congrArg some (by kernel_rfl))⟩,
  f34 := ⟨Try.f88.name, by decide, Try.func88.trans (congrArg some (by kernel_rfl))⟩,
  f35 := ⟨Try.f89.name, by decide, Try.func89.trans (congrArg some (by kernel_rfl))⟩,
  f40 := ⟨Try.f99.name, by decide, Try.func99.trans (congrArg some (by kernel_rfl))⟩,
  t0 := Try.underlying0,
  a0 := Try.isAgg0,
  z0 := Try.sizeOf0,
  v0 := Try.zeroValue0,
  t3 := Try.underlying3,
  a3 := Try.isAgg3,
  z3 := Try.sizeOf3,
  v3 := Try.zeroValue3,
  t4 := Try.underlying4,
  a4 := Try.isAgg4,
  z4 := Try.sizeOf4,
  v4 := Try.zeroValue4,
  t5 := Try.underlying5,
  a5 := Try.isAgg5,
  z5 := Try.sizeOf5,
  v5 := Try.zeroValue5,
  t9 := Try.underlying9,
  a9 := Try.isAgg9,
  z9 := Try.sizeOf9,
  v9 := Try.zeroValue9,
  t22 := Try.underlying31,
  a22 := Try.isAgg31,
  z22 := Try.sizeOf31,
  v22 := Try.zeroValue31,
  t23 := Try.underlying31,
  a23 := Try.isAgg31,
  z23 := Try.sizeOf31,
  v23 := Try.zeroValue31,
  t25 := Try.underlying3,
  a25 := Try.isAgg3,
  z25 := Try.sizeOf3,
  v25 := Try.zeroValue3,
  t32 := Try.underlying115,
  a32 := Try.isAgg115,
  z32 := Try.sizeOf115,
  v32 := Try.zeroValue115,
  t35 := Try.underlying119,
  a35 := Try.isAgg119,
  z35 := Try.sizeOf119,
  v35 := Try.zeroValue119,
  t36 := Try.underlying120,
  a36 := Try.isAgg120,
  z36 := Try.sizeOf120,
  v36 := Try.zeroValue120,
  t41 := Try.underlying58,
  a41 := Try.isAgg58,
  z41 := Try.sizeOf58,
  v41 := Try.zeroValue58,
  t44 := Try.underlying127,
  a44 := Try.isAgg127,
  z44 := Try.sizeOf127,
  v44 := Try.zeroValue127,
  t46 := Try.underlying129,
  a46 := Try.isAgg129,
  z46 := Try.sizeOf129,
  v46 := Try.zeroValue129,
  t53 := Try.underlying132,
  a53 := Try.isAgg132,
  z53 := Try.sizeOf132,
  v53 := Try.zeroValue132,
  t57 := Try.underlying136,
  a57 := Try.isAgg136,
  z57 := Try.sizeOf136,
  v57 := Try.zeroValue136,
  t63 := Try.underlying143,
  a63 := Try.isAgg143,
  z63 := Try.sizeOf143,
  v63 := Try.zeroValue143,
  t64 := Try.underlying144,
  a64 := Try.isAgg144,
  z64 := Try.sizeOf144,
  v64 := Try.zeroValue144 }

def Try.keysS_ren : Go.Shelf.Ren := ⟨fun | 7 => 58 | 10 => 70 | n => n, fun | 23 => 54 | 26 => 9 | 3 => 3 | 28 => 102 | 0 => 0 | 27 => 101 | 33 => 117 | 4 => 4 | n => n, fun | n => n⟩
theorem Try.nO : Go.Proofs.SlLaysZ.n7 Try.prog Try.keysS_ren := {
  mixed := by kernel_rfl,
  f7 := ⟨Try.f58.name, by decide, Try.func58.trans (congrArg some (by kernel_rfl))⟩,
  f10 := ⟨Try.f70.name, by decide, Try.func70.trans (congrArg some (by kernel_rfl))⟩,
  t0 := Try.underlying0,
  a0 := Try.isAgg0,
  z0 := Try.sizeOf0,
  v0 := Try.zeroValue0,
  t4 := Try.underlying4,
  a4 := Try.isAgg4,
  z4 := Try.sizeOf4,
  v4 := Try.zeroValue4,
  t23 := Try.underlying54,
  a23 := Try.isAgg54,
  z23 := Try.sizeOf54,
  v23 := Try.zeroValue54,
  t26 := Try.underlying9,
  a26 := Try.isAgg9,
  z26 := Try.sizeOf9,
  v26 := Try.zeroValue9,
  t27 := Try.underlying101,
  a27 := Try.isAgg101,
  z27 := Try.sizeOf101,
  v27 := Try.zeroValue101,
  t28 := Try.underlying102,
  a28 := Try.isAgg102,
  z28 := Try.sizeOf102,
  v28 := Try.zeroValue102,
  t33 := Try.underlying117,
  a33 := Try.isAgg117,
  z33 := Try.sizeOf117,
  v33 := Try.zeroValue117 }

def Try.sortedS_ren : Go.Shelf.Ren := ⟨fun | 6 => 57 | 8 => 68 | 9 => 69 | 11 => 82 | 13 => 67 | 12 => 83 | 23 => 80 | 24 => 81 | 14 => 90 | 15 => 91 | 16 => 92 | 17 => 93 | 18 => 94 | 19 => 95 | 20 => 96 | 21 => 97 | 22 => 98 | 25 => 100 | 26 => 85 | 27 => 86 | 28 => 101 | 29 => 102 | 30 => 103 | 31 => 104 | n => n, fun | 26 => 9 | 28 => 102 | 24 => 22 | 0 => 0 | 3 => 3 | 37 => 115 | 48 => 127 | 50 => 129 | 4 => 4 | 40 => 120 | 39 => 119 | 45 => 58 | 5 => 5 | 9 => 9 | 51 => 132 | 55 => 136 | 57 => 143 | 58 => 144 | 33 => 117 | n => n, fun | n => n⟩
theorem Try.sortedS : Go.Proofs.SlLaysZ.n6 Try.prog Try.sortedS_ren := {
  mixed := by kernel_rfl,
  f6 := ⟨Try.f57.name, by decide, Try.func57.trans (congrArg some (by kernel_rfl))⟩,
  f8 := ⟨Try.f68.name, by decide, Try.func68.trans (congrArg some (by kernel_rfl))⟩,
  f11 := ⟨Try.f82.name, by decide, Try.func82.trans (congrArg some (by kernel_rfl))⟩,
  t0 := Try.underlying0,
  a0 := Try.isAgg0,
  z0 := Try.sizeOf0,
  v0 := Try.zeroValue0,
  t24 := Try.underlying22,
  a24 := Try.isAgg22,
  z24 := Try.sizeOf22,
  v24 := Try.zeroValue22,
  t26 := Try.underlying9,
  a26 := Try.isAgg9,
  z26 := Try.sizeOf9,
  v26 := Try.zeroValue9,
  t28 := Try.underlying102,
  a28 := Try.isAgg102,
  z28 := Try.sizeOf102,
  v28 := Try.zeroValue102,
  i26 := by kernel_rfl }

def Try.sortS_ren : Go.Shelf.Ren := ⟨fun | 6 => 69 | 8 => 67 | 9 => 83 | 19 => 80 | 20 => 81 | 21 => 90 | 22 => 91 | 23 => 92 | 24 => 93 | 25 => 94 | 26 => 95 | 27 => 96 | 28 => 97 | 29 => 98 | 36 => 100 | 31 => 85 | 32 => 86 | 37 => 101 | 38 => 102 | 39 => 103 | 41 => 104 | n => n, fun | 27 => 22 | 29 => 9 | 3 => 3 | 32 => 115 | 26 => 22 | 0 => 0 | 44 => 127 | 46 => 129 | 4 => 4 | 36 => 120 | 35 => 119 | 41 => 58 | 5 => 5 | 9 => 9 | 53 => 132 | 57 => 136 | 63 => 143 | 64 => 144 | n => n, fun | n => n⟩
theorem Try.sortS : Go.Proofs.SlLaysM.n6 Try.prog Try.sortS_ren := {
  mixed := by kernel_rfl,
  f6 := ⟨Try.f69.name, by decide, Try.func69.trans (congrArg some (by kernel_rfl))⟩,
  f8 := Try.func67.trans (congrArg some (by kernel_rfl)),
  f9 := ⟨Try.f83.name, by decide, Try.func83.trans (congrArg some (by kernel_rfl))⟩,
  f19 := Try.func80.trans (congrArg some (by kernel_rfl)),
  f20 := Try.func81.trans (congrArg some (by kernel_rfl)),
  f21 := ⟨Try.f90.name, by decide, Try.func90.trans (congrArg some (by kernel_rfl))⟩,
  f22 := ⟨Try.f91.name, by decide, Try.func91.trans (congrArg some (by kernel_rfl))⟩,
  f23 := ⟨Try.f92.name, by decide, Try.func92.trans (congrArg some (by kernel_rfl))⟩,
  f24 := ⟨Try.f93.name, by decide, Try.func93.trans (congrArg some (by kernel_rfl))⟩,
  f25 := ⟨Try.f94.name, by decide, Try.func94.trans (congrArg some (by kernel_rfl))⟩,
  f26 := ⟨Try.f95.name, by decide, Try.func95.trans (congrArg some (by kernel_rfl))⟩,
  f27 := ⟨Try.f96.name, by decide, Try.func96.trans (congrArg some (by kernel_rfl))⟩,
  f28 := ⟨Try.f97.name, by decide, Try.func97.trans (congrArg some (by kernel_rfl))⟩,
  f29 := ⟨Try.f98.name, by decide, Try.func98.trans (congrArg some (by kernel_rfl))⟩,
  f31 := Try.func85.trans (congrArg some (by kernel_rfl)),
  f32 := Try.func86.trans (congrArg some (by kernel_rfl)),
  f36 := ⟨Try.f100.name, by decide, Try.func100.trans (congrArg some (by kernel_rfl))⟩,
  f37 := ⟨Try.f101.name, by decide, Try.func101.trans (congrArg some (by kernel_rfl))⟩,
  f38 := ⟨Try.f102.name, by decide, Try.func102.trans (congrArg some (by kernel_rfl))⟩,
  f39 := ⟨Try.f103.name, by decide, Try.func103.trans (congrArg some (by kernel_rfl))⟩,
  f41 := ⟨Try.f104.name, by decide, Try.func104.trans (congrArg some (by kernel_rfl))⟩,
  t0 := Try.underlying0,
  a0 := Try.isAgg0,
  z0 := Try.sizeOf0,
  v0 := Try.zeroValue0,
  t3 := Try.underlying3,
  a3 := Try.isAgg3,
  z3 := Try.sizeOf3,
  v3 := Try.zeroValue3,
  t4 := Try.underlying4,
  a4 := Try.isAgg4,
  z4 := Try.sizeOf4,
  v4 := Try.zeroValue4,
  t5 := Try.underlying5,
  a5 := Try.isAgg5,
  z5 := Try.sizeOf5,
  v5 := Try.zeroValue5,
  t9 := Try.underlying9,
  a9 := Try.isAgg9,
  z9 := Try.sizeOf9,
  v9 := Try.zeroValue9,
  t26 := Try.underlying22,
  a26 := Try.isAgg22,
  z26 := Try.sizeOf22,
  v26 := Try.zeroValue22,
  t27 := Try.underlying22,
  a27 := Try.isAgg22,
  z27 := Try.sizeOf22,
  v27 := Try.zeroValue22,
  t29 := Try.underlying9,
  a29 := Try.isAgg9,
  z29 := Try.sizeOf9,
  v29 := Try.zeroValue9,
  t32 := Try.underlying115,
  a32 := Try.isAgg115,
  z32 := Try.sizeOf115,
  v32 := Try.zeroValue115,
  t35 := Try.underlying119,
  a35 := Try.isAgg119,
  z35 := Try.sizeOf119,
  v35 := Try.zeroValue119,
  t36 := Try.underlying120,
  a36 := Try.isAgg120,
  z36 := Try.sizeOf120,
  v36 := Try.zeroValue120,
  t41 := Try.underlying58,
  a41 := Try.isAgg58,
  z41 := Try.sizeOf58,
  v41 := Try.zeroValue58,
  t44 := Try.underlying127,
  a44 := Try.isAgg127,
  z44 := Try.sizeOf127,
  v44 := Try.zeroValue127,
  t46 := Try.underlying129,
  a46 := Try.isAgg129,
  z46 := Try.sizeOf129,
  v46 := Try.zeroValue129,
  t53 := Try.underlying132,
  a53 := Try.isAgg132,
  z53 := Try.sizeOf132,
  v53 := Try.zeroValue132,
  t57 := Try.underlying136,
  a57 := Try.isAgg136,
  z57 := Try.sizeOf136,
  v57 := Try.zeroValue136,
  t63 := Try.underlying143,
  a63 := Try.isAgg143,
  z63 := Try.sizeOf143,
  v63 := Try.zeroValue143,
  t64 := Try.underlying144,
  a64 := Try.isAgg144,
  z64 := Try.sizeOf144,
  v64 := Try.zeroValue144 }

def Try.cloneL_ren : Go.Shelf.Ren := ⟨fun | 5 => 27 | 7 => 49 | n => n, fun | 23 => 54 | 25 => 9 | 3 => 3 | 4 => 4 | 20 => 20 | n => n, fun | n => n⟩
theorem Try.cloneL : Go.Proofs.SlLaysW.n5 Try.prog Try.cloneL_ren := {
  mixed := by kernel_rfl,
  f5 := ⟨Try.f27.name, by decide, Try.func27.trans (congrArg some (by kernel_rfl))⟩,
  f7 := Try.func49.trans (congrArg some (by kernel_rfl)),
  t4 := Try.underlying4,
  a4 := Try.isAgg4,
  z4 := Try.sizeOf4,
  v4 := Try.zeroValue4,
  t20 := Try.underlying20,
  a20 := Try.isAgg20,
  z20 := Try.sizeOf20,
  v20 := Try.zeroValue20,
  t23 := Try.underlying54,
  a23 := Try.isAgg54,
  z23 := Try.sizeOf54,
  v23 := Try.zeroValue54 }

def Try.delL_ren : Go.Shelf.Ren := ⟨fun | 5 => 50 | n => n, fun | 23 => 53 | 26 => 3 | 24 => 61 | 27 => 97 | 0 => 0 | 4 => 4 | n => n, fun | n => n⟩
theorem Try.delL : Go.Proofs.SlLaysDf.n5 Try.prog Try.delL_ren := {
  mixed := by kernel_rfl,
  f5 := ⟨Try.f50.name, by decide, Try.func50.trans (congrArg some (by kernel_rfl))⟩,
  t0 := Try.underlying0,
  a0 := Try.isAgg0,
  z0 := Try.sizeOf0,
  v0 := Try.zeroValue0,
  t4 := Try.underlying4,
  a4 := Try.isAgg4,
  z4 := Try.sizeOf4,
  v4 := Try.zeroValue4,
  t23 := Try.underlying53,
  a23 := Try.isAgg53,
  z23 := Try.sizeOf53,
  v23 := Try.zeroValue53,
  a24 := Try.isAgg61,
  z24 := Try.sizeOf61,
  a26 := Try.isAgg3,
  z26 := Try.sizeOf3,
  t27 := Try.underlying97,
  a27 := Try.isAgg97,
  z27 := Try.sizeOf97,
  v27 := Try.zeroValue97 }

open Go.RowKit Go.Maps Go.Sort Go.Vc

theorem Try.sortsI (m : Nat) : AnyZI.SortsIn Try.prog Try.sortedI_ren Fence.wide m :=
  ⟨fun blk off cap ss W hH hblk hsz => callsIn_wide.2 (AnyM.slices_Sort_int Try.sortI blk off cap ss W hH hblk hsz),
   fun p cap W => callsIn_wide.2 (AnyM.slices_Sort_int_none Try.sortI p cap W)⟩
theorem Try.sortsS (m : Nat) : AnyZ.SortsIn Try.prog Try.sortedS_ren Fence.wide m :=
  ⟨fun blk off cap ss W hH hblk hsz => callsIn_wide.2 (AnyM.slices_Sort_string Try.sortS blk off cap ss W hH hblk hsz),
   fun p cap W => callsIn_wide.2 (AnyM.slices_Sort_string_none Try.sortS p cap W)⟩

set_option maxHeartbeats 1000000 in
theorem Try.runSortI {kd : Kd} (hkd : jI kd = .int .i64) : wQ Try.prog kd [.int .i64] Go.Vc.pU 33 55 := by
  refine cL2 (k := 3) (e := 3) hkd Try.underlying3 ?_
  intro w c b n D0 hc hcell hown hmax hbytes
  have hseq : SeqGives Fence.wide 2 Try.prog 55 #[.pointer (some ⟨c, 0, none⟩)] encZ (fun ss => ss.Perm (intKeys D0)) (Maps.size D0) w :=
    AnyZI.keys_gives (ρ := Try.keysI_ren) { Try.pU with } Fence.wide _ trivial rfl (by omega) c b n D0 w hc hcell hown
  have cS := AnyZI.sorted_in Try.sortedI Fence.wide 5 trivial trivial trivial trivial rfl (by omega) (Try.sortsI _) (enters_of Try.func54 (by kernel_rfl) rfl) 55 #[.pointer (some ⟨c, 0, none⟩)] trivial (enters_of Try.func55 (by kernel_rfl) rfl) _ _ hmax hbytes w hseq
  refine (callsIn_wide.1 cS).mono ?_
  rintro e w' ⟨v, ss, rfl, hS, hrow, _, hb⟩
  exact ⟨v, ss, rfl, hS, hrow, hb⟩

set_option maxHeartbeats 1000000 in
theorem Try.runSortS {E : CK} : wQ Try.prog (.mp .str E) [.str] Go.Vc.nO 57 70 := by
  refine cL3 (k := 9) (e := 9) Try.underlying9 ?_
  intro w c b n D0 hc hcell hown hmax hbytes
  have hseq : SeqGives Fence.wide 2 Try.prog 70 #[.pointer (some ⟨c, 0, none⟩)] encStr (fun ss => ss.Perm (strKeys D0)) (Maps.size D0) w :=
    AnyZ.keys_gives (ρ := Try.keysS_ren) { Try.nO with } Fence.wide _ trivial rfl (by omega) c b n D0 w hc hcell hown
  have cS := AnyZ.sorted_in Try.sortedS Fence.wide 5 trivial trivial trivial trivial rfl (by omega) (Try.sortsS _) (enters_of Try.func69 (by kernel_rfl) rfl) 70 #[.pointer (some ⟨c, 0, none⟩)] trivial (enters_of Try.func70 (by kernel_rfl) rfl) _ _ hmax hbytes w hseq
  refine (callsIn_wide.1 cS).mono ?_
  rintro e w' ⟨v, ss, rfl, hS, hrow, _, hb⟩
  exact ⟨v, ss, rfl, hS, hrow, hb⟩

theorem Try.runClone (w : World) (b : Nat) (es : Array MapEntry) (clock : Nat) (hb : w.heap[b]? = some (.map es clock)) :
    Calls Try.prog 27 #[.map (some b)] w fun e w' => e = .returned (.map (some w.heap.size)) ∧ w' = w.alloc (.map es clock) :=
  AnyW.maps_Clone Try.cloneL b es clock w hb

/-- What a map of truths says of a key. -/
theorem held_find {P : Program} {t k e : TypeId} {es : List MapEntry} {LH : List D} {W : World} {b clock : Nat} {n : Int} (ht : P.underlying t = some (.map k e)) (hk : P.underlying k = some (.int .i64)) (he : (P.info? e).bind (·.zero) = some (.bool false))
    (hb : W.heap[b]? = some (.map es.toArray clock)) (hF : F2 (RA (.int .i64) .bool) es LH) :
    (Instr.lookup t (.map (some b)) (.int .i64 n) false).run P W = .ok (.bool (dY LH (.I n))) W := by
  have he : ∃ i, P.info? e = some i ∧ i.zero = some (.bool false) := by
    cases hi : P.info? e with
    | none => rw [hi] at he; cases he
    | some i => rw [hi] at he; exact ⟨i, rfl, he⟩
  have hkey : MapKept.IsKey (.int .i64) (.int .i64 n) := aD0 (K := .int .i64) (x := .I n) rfl rfl
  rcases rG (K := .int .i64) (x := .I n) (u := .int .i64 n) rfl rfl rfl 0 (F2.imp (fun _ _ h => ⟨h.1, h.2.1⟩) hF) with ⟨q1, q2, _⟩ | ⟨j, e0, r, q1, q2, q3, q4, q5, q6, q7⟩
  · rw [aH3 (ok := false) ht hk hb hkey q1 (fun _ => he)]
    simp [dY, q2]
  · rw [aH3 (ok := false) (v := .bool false) ht hk hb hkey q1 (fun h => by cases h)]
    obtain ⟨r', hr1, hra⟩ := F2.get hF q2
    rw [q3] at hr1; cases hr1
    have hv : [Value.bool r.snd.toB] = [e0.val] := hra.2.2.1
    simp only [List.cons.injEq, and_true] at hv
    simp [dY, q5, q6, hv.symm]

set_option maxHeartbeats 1000000 in
theorem Try.gone (n : Int) (val : Value) (c bh : Nat) (te : TypeId) (fz : Nat × Nat) (es : List MapEntry) (clock : Nat) (LH : List D) (W : World) (hc : W.heap[c]? = some (.cells #[.map (some bh)] te fz)) (hb : W.heap[bh]? = some (.map es.toArray clock))
    (hF : F2 (RA (.int .i64) .bool) es LH) :
    Calls Try.prog 51 (#[.int .i64 n, val] ++ #[.pointer (some ⟨c, 0, none⟩)]) W fun e w' => e = .returned (.bool (!dY LH (.I n))) ∧ W.grownBy w' none := by
  have hl := held_find (P := Try.prog) (t := 95) Try.underlying95 Try.underlying3 (by kernel_rfl) hb hF (n := n)
  have hcell : W.cell? ⟨c, 0, none⟩ = some (.map (some bh)) := by simp [World.cell?, hc]
  go_enter Try.func51, Try.ntmps51
  go_wp2
  go_ret
  exact ⟨rfl, World.grownBy.refl _ _⟩

theorem Try.runDel (w : World) (b n c bh : Nat) (D0 : DataW Unit) (es : List MapEntry) (clock : Nat) (LH : List D) (te : TypeId) (fz : Nat × Nat) (hown : w.ownsMap Try.prog 3 iZ b n D0) (hcb : c ≠ b) (hbb : bh ≠ b)
    (hc : w.heap[c]? = some (.cells #[.map (some bh)] te fz)) (hm : bP w bh es clock) (hF : F2 (RA (.int .i64) .bool) es LH) :
    Calls Try.prog 50 #[.map (some b), .func (.func 51) #[] #[.pointer (some ⟨c, 0, none⟩)]] w fun e w' =>
      e = .returned (.tuple #[]) ∧ w'.ownsMap Try.prog 3 iZ b n (Lib.deleteFuncD (fun kl _ => !dY LH (.I (aD4 kl))) D0) ∧ w.grownBy w' (some b) := by
  refine AnyDf.maps_DeleteFunc Try.delL (int_keyed Try.underlying3) iZ (fun kl _ => !dY LH (.I (aD4 kl))) 51 #[.pointer (some ⟨c, 0, none⟩)] b n D0 w (enters_of Try.func51 (by kernel_rfl) rfl) hown ?_
  intro W key val kl yd yp hgr hk _
  obtain ⟨x, rfl, rfl, _⟩ := Maps.keyOf_i64 Try.underlying3 hk
  have hWc := (hgr.block c (Array.getElem?_eq_some_iff.1 hc).1 (by simpa using hcb)).trans hc
  have hWb := (hgr.block bh (Array.getElem?_eq_some_iff.1 hm.1).1 (by simpa using hbb)).trans hm.1
  exact Try.gone x val c bh te fz es clock LH W hWc hWb hF

end Go.Proofs
