/-
  The library's functions on maps, at this program: the shelf's contracts, laid, and what is wanted of them: keys sorted, a map's copy, entries that go. No condition.
-/
import Derived.Test.YtmgeaephkagdiaaGreatDoorMaps
import Derived.Test.YtmgeaephkagdiaaGreatDoorChecked
import Derived.Shelf.SlIter.Sorted
import Derived.Shelf.SlIterI.Sorted
import Derived.Shelf.SlIterI.Nil
import Derived.Shelf.SortM.Plain
import Derived.Shelf.SortM.SortNone
import Derived.Shelf.SlMaps.Clone
import Derived.Shelf.SlMaps.DeleteFunc
namespace Go.Proofs
open Go.Shelf

def Tryz.keysI_ren : Go.Shelf.Ren := ⟨fun | 7 => 62 | 10 => 103 | n => n, fun | 23 => 84 | 26 => 3 | 3 => 93 | 28 => 121 | 0 => 0 | 27 => 120 | 33 => 169 | 4 => 4 | n => n, fun | n => n⟩
theorem Tryz.wM : Go.Proofs.SlLaysZI.n7 Tryz.prog Tryz.keysI_ren := {
  mixed := by kernel_rfl,
  f7 := ⟨Tryz.f62.name, by decide, Tryz.func62.trans (congrArg some (by kernel_rfl))⟩,
  f10 := ⟨Tryz.f103.name, by decide, Tryz.func103.trans (congrArg some (by kernel_rfl))⟩,
  t0 := Tryz.underlying0,
  a0 := Tryz.isAgg0,
  z0 := Tryz.sizeOf0,
  v0 := Tryz.zeroValue0,
  t4 := Tryz.underlying4,
  a4 := Tryz.isAgg4,
  z4 := Tryz.sizeOf4,
  v4 := Tryz.zeroValue4,
  t23 := Tryz.underlying84,
  a23 := Tryz.isAgg84,
  z23 := Tryz.sizeOf84,
  v23 := Tryz.zeroValue84,
  t26 := Tryz.underlying3,
  a26 := Tryz.isAgg3,
  z26 := Tryz.sizeOf3,
  v26 := Tryz.zeroValue3,
  t27 := Tryz.underlying120,
  a27 := Tryz.isAgg120,
  z27 := Tryz.sizeOf120,
  v27 := Tryz.zeroValue120,
  t28 := Tryz.underlying121,
  a28 := Tryz.isAgg121,
  z28 := Tryz.sizeOf121,
  v28 := Tryz.zeroValue121,
  t33 := Tryz.underlying169,
  a33 := Tryz.isAgg169,
  z33 := Tryz.sizeOf169,
  v33 := Tryz.zeroValue169 }

def Tryz.sortedI_ren : Go.Shelf.Ren := ⟨fun | 6 => 61 | 8 => 101 | 9 => 102 | 11 => 136 | 13 => 125 | 12 => 137 | 23 => 162 | 24 => 163 | 14 => 177 | 15 => 178 | 16 => 179 | 17 => 180 | 18 => 181 | 19 => 182 | 20 => 183 | 21 => 184 | 22 => 185 | 25 => 204 | 26 => 191 | 27 => 192 | 28 => 205 | 29 => 206 | 30 => 207 | 31 => 214 | n => n, fun | 26 => 3 | 28 => 121 | 24 => 44 | 0 => 0 | 3 => 3 | 37 => 197 | 48 => 127 | 50 => 37 | 4 => 4 | 40 => 225 | 39 => 224 | 45 => 90 | 5 => 5 | 9 => 9 | 51 => 247 | 55 => 250 | 57 => 261 | 58 => 262 | 33 => 169 | n => n, fun | n => n⟩
theorem Tryz.sortedI : Go.Proofs.SlLaysZI.n6 Tryz.prog Tryz.sortedI_ren := {
  mixed := by kernel_rfl,
  f6 := ⟨Tryz.f61.name, by decide, Tryz.func61.trans (congrArg some (by kernel_rfl))⟩,
  f8 := ⟨Tryz.f101.name, by decide, Tryz.func101.trans (congrArg some (by kernel_rfl))⟩,
  f11 := ⟨Tryz.f136.name, by decide, Tryz.func136.trans (congrArg some (by kernel_rfl))⟩,
  t0 := Tryz.underlying0,
  a0 := Tryz.isAgg0,
  z0 := Tryz.sizeOf0,
  v0 := Tryz.zeroValue0,
  t24 := Tryz.underlying44,
  a24 := Tryz.isAgg44,
  z24 := Tryz.sizeOf44,
  v24 := Tryz.zeroValue44,
  t26 := Tryz.underlying3,
  a26 := Tryz.isAgg3,
  z26 := Tryz.sizeOf3,
  v26 := Tryz.zeroValue3,
  t28 := Tryz.underlying121,
  a28 := Tryz.isAgg121,
  z28 := Tryz.sizeOf121,
  v28 := Tryz.zeroValue121,
  i26 := by kernel_rfl }

def Tryz.sortI_ren : Go.Shelf.Ren := ⟨fun | 5 => 102 | 8 => 125 | 7 => 137 | 19 => 162 | 20 => 163 | 10 => 177 | 11 => 178 | 12 => 179 | 13 => 180 | 14 => 181 | 15 => 182 | 16 => 183 | 17 => 184 | 18 => 185 | 30 => 204 | 31 => 191 | 32 => 192 | 33 => 205 | 34 => 206 | 35 => 207 | 40 => 214 | n => n, fun | 23 => 44 | 25 => 3 | 3 => 3 | 32 => 197 | 22 => 44 | 0 => 0 | 44 => 127 | 46 => 37 | 4 => 4 | 36 => 225 | 35 => 224 | 41 => 90 | 5 => 5 | 9 => 9 | 53 => 247 | 57 => 250 | 63 => 261 | 64 => 262 | n => n, fun | n => n⟩
theorem Tryz.sortI : Go.Proofs.SlLaysM.n5 Tryz.prog Tryz.sortI_ren := {
  mixed := by kernel_rfl,
  f5 := ⟨Tryz.f102.name, by decide, Tryz.func102.trans (congrArg some (by kernel_rfl))⟩,
  f7 := ⟨Tryz.f137.name, by decide, Tryz.func137.trans (congrArg some (by kernel_rfl))⟩,
  f8 := Tryz.func125.trans (congrArg some (by kernel_rfl)),
  f10 := ⟨Tryz.f177.name, by decide, Tryz.func177.trans (congrArg some (by kernel_rfl))⟩,
  f11 := ⟨Tryz.f178.name, by decide, Tryz.func178.trans (congrArg some (by kernel_rfl))⟩,
  f12 := ⟨Tryz.f179.name, by decide, Tryz.func179.trans (congrArg some (by kernel_rfl))⟩,
  f13 := ⟨Tryz.f180.name, by decide, Tryz.func180.trans (congrArg some (by kernel_rfl))⟩,
  f14 := ⟨Tryz.f181.name, by decide, Tryz.func181.trans (congrArg some (by kernel_rfl))⟩,
  f15 := ⟨Tryz.f182.name, by decide, Tryz.func182.trans (congrArg some (by kernel_rfl))⟩,
  f16 := ⟨Tryz.f183.name, by decide, Tryz.func183.trans (congrArg some (by kernel_rfl))⟩,
  f17 := ⟨Tryz.f184.name, by decide, Tryz.func184.trans (congrArg some (by kernel_rfl))⟩,
  f18 := ⟨Tryz.f185.name, by decide, Tryz.func185.trans (congrArg some (by kernel_rfl))⟩,
  f19 := Tryz.func162.trans (congrArg some (by kernel_rfl)),
  f20 := Tryz.func163.trans (congrArg some (by kernel_rfl)),
  f30 := ⟨Tryz.f204.name, by decide, Tryz.func204.trans (congrArg some (by kernel_rfl))⟩,
  f31 := Tryz.func191.trans (congrArg some (by kernel_rfl)),
  f32 := Tryz.func192.trans (congrArg some (by kernel_rfl)),
  f33 := ⟨Tryz.f205.name, by decide, Tryz.func205.trans (congrArg some (by kernel_rfl))⟩,
  f34 := ⟨Tryz.f206.name, by decide, Tryz.func206.trans (congrArg some (by kernel_rfl))⟩,
  f35 := ⟨Tryz.f207.name, by decide, Tryz.func207.trans (congrArg some (by kernel_rfl))⟩,
  f40 := ⟨Tryz.f214.name, by decide, Tryz.func214.trans (congrArg some (by kernel_rfl))⟩,
  t0 := Tryz.underlying0,
  a0 := Tryz.isAgg0,
  z0 := Tryz.sizeOf0,
  v0 := Tryz.zeroValue0,
  t3 := Tryz.underlying3,
  a3 := Tryz.isAgg3,
  z3 := Tryz.sizeOf3,
  v3 := Tryz.zeroValue3,
  t4 := Tryz.underlying4,
  a4 := Tryz.isAgg4,
  z4 := Tryz.sizeOf4,
  v4 := Tryz.zeroValue4,
  t5 := Tryz.underlying5,
  a5 := Tryz.isAgg5,
  z5 := Tryz.sizeOf5,
  v5 := Tryz.zeroValue5,
  t9 := Tryz.underlying9,
  a9 := Tryz.isAgg9,
  z9 := Tryz.sizeOf9,
  v9 := Tryz.zeroValue9,
  t22 := Tryz.underlying44,
  a22 := Tryz.isAgg44,
  z22 := Tryz.sizeOf44,
  v22 := Tryz.zeroValue44,
  t23 := Tryz.underlying44,
  a23 := Tryz.isAgg44,
  z23 := Tryz.sizeOf44,
  v23 := Tryz.zeroValue44,
  t25 := Tryz.underlying3,
  a25 := Tryz.isAgg3,
  z25 := Tryz.sizeOf3,
  v25 := Tryz.zeroValue3,
  t32 := Tryz.underlying197,
  a32 := Tryz.isAgg197,
  z32 := Tryz.sizeOf197,
  v32 := Tryz.zeroValue197,
  t35 := Tryz.underlying224,
  a35 := Tryz.isAgg224,
  z35 := Tryz.sizeOf224,
  v35 := Tryz.zeroValue224,
  t36 := Tryz.underlying225,
  a36 := Tryz.isAgg225,
  z36 := Tryz.sizeOf225,
  v36 := Tryz.zeroValue225,
  t41 := Tryz.underlying90,
  a41 := Tryz.isAgg90,
  z41 := Tryz.sizeOf90,
  v41 := Tryz.zeroValue90,
  t44 := Tryz.underlying127,
  a44 := Tryz.isAgg127,
  z44 := Tryz.sizeOf127,
  v44 := Tryz.zeroValue127,
  t46 := Tryz.underlying37,
  a46 := Tryz.isAgg37,
  z46 := Tryz.sizeOf37,
  v46 := Tryz.zeroValue37,
  t53 := Tryz.underlying247,
  a53 := Tryz.isAgg247,
  z53 := Tryz.sizeOf247,
  v53 := Tryz.zeroValue247,
  t57 := Tryz.underlying250,
  a57 := Tryz.isAgg250,
  z57 := Tryz.sizeOf250,
  v57 := Tryz.zeroValue250,
  t63 := Tryz.underlying261,
  a63 := Tryz.isAgg261,
  z63 := Tryz.sizeOf261,
  v63 := Tryz.zeroValue261,
  t64 := Tryz.underlying262,
  a64 := Tryz.isAgg262,
  z64 := Tryz.sizeOf262,
  v64 := Tryz.zeroValue262 }

def Tryz.keysS_ren : Go.Shelf.Ren := ⟨fun | 7 => 49 | 10 => 86 | n => n, fun | 23 => 85 | 26 => 9 | 3 => 3 | 28 => 104 | 0 => 0 | 27 => 103 | 33 => 150 | 4 => 4 | n => n, fun | n => n⟩
theorem Tryz.wO : Go.Proofs.SlLaysZ.n7 Tryz.prog Tryz.keysS_ren := {
  mixed := by kernel_rfl,
  f7 := ⟨Tryz.f49.name, by decide, Tryz.func49.trans (congrArg some (by kernel_rfl))⟩,
  f10 := ⟨Tryz.f86.name, by decide, Tryz.func86.trans (congrArg some (by kernel_rfl))⟩,
  t0 := Tryz.underlying0,
  a0 := Tryz.isAgg0,
  z0 := Tryz.sizeOf0,
  v0 := Tryz.zeroValue0,
  t4 := Tryz.underlying4,
  a4 := Tryz.isAgg4,
  z4 := Tryz.sizeOf4,
  v4 := Tryz.zeroValue4,
  t23 := Tryz.underlying85,
  a23 := Tryz.isAgg85,
  z23 := Tryz.sizeOf85,
  v23 := Tryz.zeroValue85,
  t26 := Tryz.underlying9,
  a26 := Tryz.isAgg9,
  z26 := Tryz.sizeOf9,
  v26 := Tryz.zeroValue9,
  t27 := Tryz.underlying103,
  a27 := Tryz.isAgg103,
  z27 := Tryz.sizeOf103,
  v27 := Tryz.zeroValue103,
  t28 := Tryz.underlying104,
  a28 := Tryz.isAgg104,
  z28 := Tryz.sizeOf104,
  v28 := Tryz.zeroValue104,
  t33 := Tryz.underlying150,
  a33 := Tryz.isAgg150,
  z33 := Tryz.sizeOf150,
  v33 := Tryz.zeroValue150 }

def Tryz.sortedS_ren : Go.Shelf.Ren := ⟨fun | 6 => 48 | 8 => 84 | 9 => 85 | 11 => 123 | 13 => 125 | 12 => 124 | 23 => 162 | 24 => 163 | 14 => 153 | 15 => 154 | 16 => 155 | 17 => 156 | 18 => 157 | 19 => 158 | 20 => 159 | 21 => 160 | 22 => 161 | 25 => 190 | 26 => 191 | 27 => 192 | 28 => 193 | 29 => 194 | 30 => 195 | 31 => 211 | n => n, fun | 26 => 9 | 28 => 104 | 24 => 22 | 0 => 0 | 3 => 3 | 37 => 197 | 48 => 127 | 50 => 37 | 4 => 4 | 40 => 225 | 39 => 224 | 45 => 90 | 5 => 5 | 9 => 9 | 51 => 247 | 55 => 250 | 57 => 261 | 58 => 262 | 33 => 150 | n => n, fun | n => n⟩
theorem Tryz.sortedS : Go.Proofs.SlLaysZ.n6 Tryz.prog Tryz.sortedS_ren := {
  mixed := by kernel_rfl,
  f6 := ⟨Tryz.f48.name, by decide, Tryz.func48.trans (congrArg some (by kernel_rfl))⟩,
  f8 := ⟨Tryz.f84.name, by decide, Tryz.func84.trans (congrArg some (by kernel_rfl))⟩,
  f11 := ⟨Tryz.f123.name, by decide, Tryz.func123.trans (congrArg some (by kernel_rfl))⟩,
  t0 := Tryz.underlying0,
  a0 := Tryz.isAgg0,
  z0 := Tryz.sizeOf0,
  v0 := Tryz.zeroValue0,
  t24 := Tryz.underlying22,
  a24 := Tryz.isAgg22,
  z24 := Tryz.sizeOf22,
  v24 := Tryz.zeroValue22,
  t26 := Tryz.underlying9,
  a26 := Tryz.isAgg9,
  z26 := Tryz.sizeOf9,
  v26 := Tryz.zeroValue9,
  t28 := Tryz.underlying104,
  a28 := Tryz.isAgg104,
  z28 := Tryz.sizeOf104,
  v28 := Tryz.zeroValue104,
  i26 := by kernel_rfl }

def Tryz.sortS_ren : Go.Shelf.Ren := ⟨fun | 6 => 85 | 8 => 125 | 9 => 124 | 19 => 162 | 20 => 163 | 21 => 153 | 22 => 154 | 23 => 155 | 24 => 156 | 25 => 157 | 26 => 158 | 27 => 159 | 28 => 160 | 29 => 161 | 36 => 190 | 31 => 191 | 32 => 192 | 37 => 193 | 38 => 194 | 39 => 195 | 41 => 211 | n => n, fun | 27 => 22 | 29 => 9 | 3 => 3 | 32 => 197 | 26 => 22 | 0 => 0 | 44 => 127 | 46 => 37 | 4 => 4 | 36 => 225 | 35 => 224 | 41 => 90 | 5 => 5 | 9 => 9 | 53 => 247 | 57 => 250 | 63 => 261 | 64 => 262 | n => n, fun | n => n⟩
theorem Tryz.sortS : Go.Proofs.SlLaysM.n6 Tryz.prog Tryz.sortS_ren := {
  mixed := by kernel_rfl,
  f6 := ⟨Tryz.f85.name, by decide, Tryz.func85.trans (congrArg some (by kernel_rfl))⟩,
  f8 := Tryz.func125.trans (congrArg some (by kernel_rfl)),
  f9 := ⟨Tryz.f124.name, by decide, Tryz.func124.trans (congrArg some (by kernel_rfl))⟩,
  f19 := Tryz.func162.trans (congrArg some (by kernel_rfl)),
  f20 := Tryz.func163.trans (congrArg some (by kernel_rfl)),
  f21 := ⟨Tryz.f153.name, by decide, Tryz.func153.trans (congrArg some (by kernel_rfl))⟩,
  f22 := ⟨Tryz.f154.name, by decide, Tryz.func154.trans (congrArg some (by kernel_rfl))⟩,
  f23 := ⟨Tryz.f155.name, by decide, Tryz.func155.trans (congrArg some (by kernel_rfl))⟩,
  f24 := ⟨Tryz.f156.name, by decide, Tryz.func156.trans (congrArg some (by kernel_rfl))⟩,
  f25 := ⟨Tryz.f157.name, by decide, Tryz.func157.trans (congrArg some (by kernel_rfl))⟩,
  f26 := ⟨Tryz.f158.name, by decide, Tryz.func158.trans (congrArg some (by kernel_rfl))⟩,
  f27 := ⟨Tryz.f159.name, by decide, Tryz.func159.trans (congrArg some (by kernel_rfl))⟩,
  f28 := ⟨Tryz.f160.name, by decide, Tryz.func160.trans (congrArg some (by kernel_rfl))⟩,
  f29 := ⟨Tryz.f161.name, by decide, Tryz.func161.trans (congrArg some (by kernel_rfl))⟩,
  f31 := Tryz.func191.trans (congrArg some (by kernel_rfl)),
  f32 := Tryz.func192.trans (congrArg some (by kernel_rfl)),
  f36 := ⟨Tryz.f190.name, by decide, Tryz.func190.trans (congrArg some (by kernel_rfl))⟩,
  f37 := ⟨Tryz.f193.name, by decide, Tryz.func193.trans (congrArg some (by kernel_rfl))⟩,
  f38 := ⟨Tryz.f194.name, by decide, Tryz.func194.trans (congrArg some (by kernel_rfl))⟩,
  f39 := ⟨Tryz.f195.name, by decide, Tryz.func195.trans (congrArg some (by kernel_rfl))⟩,
  f41 := ⟨Tryz.f211.name, by decide, Tryz.func211.trans (congrArg some (by kernel_rfl))⟩,
  t0 := Tryz.underlying0,
  a0 := Tryz.isAgg0,
  z0 := Tryz.sizeOf0,
  v0 := Tryz.zeroValue0,
  t3 := Tryz.underlying3,
  a3 := Tryz.isAgg3,
  z3 := Tryz.sizeOf3,
  v3 := Tryz.zeroValue3,
  t4 := Tryz.underlying4,
  a4 := Tryz.isAgg4,
  z4 := Tryz.sizeOf4,
  v4 := Tryz.zeroValue4,
  t5 := Tryz.underlying5,
  a5 := Tryz.isAgg5,
  z5 := Tryz.sizeOf5,
  v5 := Tryz.zeroValue5,
  t9 := Tryz.underlying9,
  a9 := Tryz.isAgg9,
  z9 := Tryz.sizeOf9,
  v9 := Tryz.zeroValue9,
  t26 := Tryz.underlying22,
  a26 := Tryz.isAgg22,
  z26 := Tryz.sizeOf22,
  v26 := Tryz.zeroValue22,
  t27 := Tryz.underlying22,
  a27 := Tryz.isAgg22,
  z27 := Tryz.sizeOf22,
  v27 := Tryz.zeroValue22,
  t29 := Tryz.underlying9,
  a29 := Tryz.isAgg9,
  z29 := Tryz.sizeOf9,
  v29 := Tryz.zeroValue9,
  t32 := Tryz.underlying197,
  a32 := Tryz.isAgg197,
  z32 := Tryz.sizeOf197,
  v32 := Tryz.zeroValue197,
  t35 := Tryz.underlying224,
  a35 := Tryz.isAgg224,
  z35 := Tryz.sizeOf224,
  v35 := Tryz.zeroValue224,
  t36 := Tryz.underlying225,
  a36 := Tryz.isAgg225,
  z36 := Tryz.sizeOf225,
  v36 := Tryz.zeroValue225,
  t41 := Tryz.underlying90,
  a41 := Tryz.isAgg90,
  z41 := Tryz.sizeOf90,
  v41 := Tryz.zeroValue90,
  t44 := Tryz.underlying127,
  a44 := Tryz.isAgg127,
  z44 := Tryz.sizeOf127,
  v44 := Tryz.zeroValue127,
  t46 := Tryz.underlying37,
  a46 := Tryz.isAgg37,
  z46 := Tryz.sizeOf37,
  v46 := Tryz.zeroValue37,
  t53 := Tryz.underlying247,
  a53 := Tryz.isAgg247,
  z53 := Tryz.sizeOf247,
  v53 := Tryz.zeroValue247,
  t57 := Tryz.underlying250,
  a57 := Tryz.isAgg250,
  z57 := Tryz.sizeOf250,
  v57 := Tryz.zeroValue250,
  t63 := Tryz.underlying261,
  a63 := Tryz.isAgg261,
  z63 := Tryz.sizeOf261,
  v63 := Tryz.zeroValue261,
  t64 := Tryz.underlying262,
  a64 := Tryz.isAgg262,
  z64 := Tryz.sizeOf262,
  v64 := Tryz.zeroValue262 }

def Tryz.cloneL_ren : Go.Shelf.Ren := ⟨fun | 5 => 59 | 7 => 98 | n => n, fun | 23 => 85 | 25 => 9 | 3 => 3 | 4 => 4 | 20 => 20 | n => n, fun | n => n⟩
theorem Tryz.cloneL : Go.Proofs.SlLaysW.n5 Tryz.prog Tryz.cloneL_ren := {
  mixed := by kernel_rfl,
  f5 := ⟨Tryz.f59.name, by decide, Tryz.func59.trans (congrArg some (by kernel_rfl))⟩,
  f7 := Tryz.func98.trans (congrArg some (by kernel_rfl)),
  t4 := Tryz.underlying4,
  a4 := Tryz.isAgg4,
  z4 := Tryz.sizeOf4,
  v4 := Tryz.zeroValue4,
  t20 := Tryz.underlying20,
  a20 := Tryz.isAgg20,
  z20 := Tryz.sizeOf20,
  v20 := Tryz.zeroValue20,
  t23 := Tryz.underlying85,
  a23 := Tryz.isAgg85,
  z23 := Tryz.sizeOf85,
  v23 := Tryz.zeroValue85 }

def Tryz.delL_ren : Go.Shelf.Ren := ⟨fun | 5 => 99 | n => n, fun | 23 => 84 | 26 => 3 | 24 => 93 | 27 => 168 | 0 => 0 | 4 => 4 | n => n, fun | n => n⟩
theorem Tryz.delL : Go.Proofs.SlLaysDf.n5 Tryz.prog Tryz.delL_ren := {
  mixed := by kernel_rfl,
  f5 := ⟨Tryz.f99.name, by decide, Tryz.func99.trans (congrArg some (by kernel_rfl))⟩,
  t0 := Tryz.underlying0,
  a0 := Tryz.isAgg0,
  z0 := Tryz.sizeOf0,
  v0 := Tryz.zeroValue0,
  t4 := Tryz.underlying4,
  a4 := Tryz.isAgg4,
  z4 := Tryz.sizeOf4,
  v4 := Tryz.zeroValue4,
  t23 := Tryz.underlying84,
  a23 := Tryz.isAgg84,
  z23 := Tryz.sizeOf84,
  v23 := Tryz.zeroValue84,
  a24 := Tryz.isAgg93,
  z24 := Tryz.sizeOf93,
  a26 := Tryz.isAgg3,
  z26 := Tryz.sizeOf3,
  t27 := Tryz.underlying168,
  a27 := Tryz.isAgg168,
  z27 := Tryz.sizeOf168,
  v27 := Tryz.zeroValue168 }

open Go.RowKit Go.Maps Go.Sort Go.Vc

theorem Tryz.sortsI (m : Nat) : AnyZI.SortsIn Tryz.prog Tryz.sortedI_ren Fence.wide m :=
  ⟨fun blk off cap ss W hH hblk hsz => callsIn_wide.2 (AnyM.slices_Sort_int Tryz.sortI blk off cap ss W hH hblk hsz),
   fun p cap W => callsIn_wide.2 (AnyM.slices_Sort_int_none Tryz.sortI p cap W)⟩
theorem Tryz.sortsS (m : Nat) : AnyZ.SortsIn Tryz.prog Tryz.sortedS_ren Fence.wide m :=
  ⟨fun blk off cap ss W hH hblk hsz => callsIn_wide.2 (AnyM.slices_Sort_string Tryz.sortS blk off cap ss W hH hblk hsz),
   fun p cap W => callsIn_wide.2 (AnyM.slices_Sort_string_none Tryz.sortS p cap W)⟩

set_option maxHeartbeats 1000000 in
theorem Tryz.runSortI {kd : Kd} (hkd : nK kd = .int .i64) : aE5 Tryz.prog kd [.int .i64] Go.Vc.wM 61 103 := by
  refine dS8 (k := 3) (e := 3) hkd Tryz.underlying3 ?_
  intro w c b n D0 hc hcell hown hmax hbytes
  have hseq : SeqGives Fence.wide 2 Tryz.prog 103 #[.pointer (some ⟨c, 0, none⟩)] encZ (fun ss => ss.Perm (intKeys D0)) (Maps.size D0) w :=
    AnyZI.keys_gives (ρ := Tryz.keysI_ren) { Tryz.wM with } Fence.wide _ trivial rfl (by omega) c b n D0 w hc hcell hown
  have cS := AnyZI.sorted_in Tryz.sortedI Fence.wide 5 trivial trivial trivial trivial rfl (by omega) (Tryz.sortsI _) (enters_of Tryz.func102 (by kernel_rfl) rfl) 103 #[.pointer (some ⟨c, 0, none⟩)] trivial (enters_of Tryz.func103 (by kernel_rfl) rfl) _ _ hmax hbytes w hseq
  refine (callsIn_wide.1 cS).mono ?_
  rintro e w' ⟨v, ss, rfl, hS, hrow, _, hb⟩
  exact ⟨v, ss, rfl, hS, hrow, hb⟩

set_option maxHeartbeats 1000000 in
theorem Tryz.runSortS {E : CK} : aE5 Tryz.prog (.mp .str E) [.str] Go.Vc.wO 48 86 := by
  refine dS9 (k := 9) (e := 9) Tryz.underlying9 ?_
  intro w c b n D0 hc hcell hown hmax hbytes
  have hseq : SeqGives Fence.wide 2 Tryz.prog 86 #[.pointer (some ⟨c, 0, none⟩)] encStr (fun ss => ss.Perm (strKeys D0)) (Maps.size D0) w :=
    AnyZ.keys_gives (ρ := Tryz.keysS_ren) { Tryz.wO with } Fence.wide _ trivial rfl (by omega) c b n D0 w hc hcell hown
  have cS := AnyZ.sorted_in Tryz.sortedS Fence.wide 5 trivial trivial trivial trivial rfl (by omega) (Tryz.sortsS _) (enters_of Tryz.func85 (by kernel_rfl) rfl) 86 #[.pointer (some ⟨c, 0, none⟩)] trivial (enters_of Tryz.func86 (by kernel_rfl) rfl) _ _ hmax hbytes w hseq
  refine (callsIn_wide.1 cS).mono ?_
  rintro e w' ⟨v, ss, rfl, hS, hrow, _, hb⟩
  exact ⟨v, ss, rfl, hS, hrow, hb⟩

theorem Tryz.runClone (w : World) (b : Nat) (es : Array MapEntry) (clock : Nat) (hb : w.heap[b]? = some (.map es clock)) :
    Calls Tryz.prog 59 #[.map (some b)] w fun e w' => e = .returned (.map (some w.heap.size)) ∧ w' = w.alloc (.map es clock) :=
  AnyW.maps_Clone Tryz.cloneL b es clock w hb

/-- What a map of truths says of a key. -/
theorem held_find {P : Program} {t k e : TypeId} {es : List MapEntry} {LH : List D} {W : World} {b clock : Nat} {n : Int} (ht : P.underlying t = some (.map k e)) (hk : P.underlying k = some (.int .i64)) (he : (P.info? e).bind (·.zero) = some (.bool false))
    (hb : W.heap[b]? = some (.map es.toArray clock)) (hF : F2 (RA (.int .i64) .bool) es LH) :
    (Instr.lookup t (.map (some b)) (.int .i64 n) false).run P W = .ok (.bool (iO LH (.I n))) W := by
  have he : ∃ i, P.info? e = some i ∧ i.zero = some (.bool false) := by
    cases hi : P.info? e with
    | none => rw [hi] at he; cases he
    | some i => rw [hi] at he; exact ⟨i, rfl, he⟩
  have hkey : MapKept.IsKey (.int .i64) (.int .i64 n) := aR8 (K := .int .i64) (x := .I n) rfl rfl
  rcases yA (K := .int .i64) (x := .I n) (u := .int .i64 n) rfl rfl rfl 0 (F2.imp (fun _ _ h => ⟨h.1, h.2.1⟩) hF) with ⟨q1, q2, _⟩ | ⟨j, e0, r, q1, q2, q3, q4, q5, q6, q7⟩
  · rw [aW7 (ok := false) ht hk hb hkey q1 (fun _ => he)]
    simp [iO, q2]
  · rw [aW7 (ok := false) (v := .bool false) ht hk hb hkey q1 (fun h => by cases h)]
    obtain ⟨r', hr1, hra⟩ := F2.get hF q2
    rw [q3] at hr1; cases hr1
    have hv : [Value.bool r.snd.toB] = [e0.val] := hra.2.2.1
    simp only [List.cons.injEq, and_true] at hv
    simp [iO, q5, q6, hv.symm]

set_option maxHeartbeats 1000000 in
theorem Tryz.gone (n : Int) (val : Value) (c bh : Nat) (te : TypeId) (fz : Nat × Nat) (es : List MapEntry) (clock : Nat) (LH : List D) (W : World) (hc : W.heap[c]? = some (.cells #[.map (some bh)] te fz)) (hb : W.heap[bh]? = some (.map es.toArray clock))
    (hF : F2 (RA (.int .i64) .bool) es LH) :
    Calls Tryz.prog 100 (#[.int .i64 n, val] ++ #[.pointer (some ⟨c, 0, none⟩)]) W fun e w' => e = .returned (.bool (!iO LH (.I n))) ∧ W.grownBy w' none := by
  have hl := held_find (P := Tryz.prog) (t := 166) Tryz.underlying166 Tryz.underlying3 (by kernel_rfl) hb hF (n := n)
  have hcell : W.cell? ⟨c, 0, none⟩ = some (.map (some bh)) := by simp [World.cell?, hc]
  go_enter Tryz.func100, Tryz.ntmps100
  go_wp2
  go_ret
  exact ⟨rfl, World.grownBy.refl _ _⟩

theorem Tryz.runDel (w : World) (b n c bh : Nat) (D0 : DataW Unit) (es : List MapEntry) (clock : Nat) (LH : List D) (te : TypeId) (fz : Nat × Nat) (hown : w.ownsMap Tryz.prog 3 mW b n D0) (hcb : c ≠ b) (hbb : bh ≠ b)
    (hc : w.heap[c]? = some (.cells #[.map (some bh)] te fz)) (hm : dY w bh es clock) (hF : F2 (RA (.int .i64) .bool) es LH) :
    Calls Tryz.prog 99 #[.map (some b), .func (.func 100) #[] #[.pointer (some ⟨c, 0, none⟩)]] w fun e w' =>
      e = .returned (.tuple #[]) ∧ w'.ownsMap Tryz.prog 3 mW b n (Lib.deleteFuncD (fun kl _ => !iO LH (.I (aS3 kl))) D0) ∧ w.grownBy w' (some b) := by
  refine AnyDf.maps_DeleteFunc Tryz.delL (int_keyed Tryz.underlying3) mW (fun kl _ => !iO LH (.I (aS3 kl))) 100 #[.pointer (some ⟨c, 0, none⟩)] b n D0 w (enters_of Tryz.func100 (by kernel_rfl) rfl) hown ?_
  intro W key val kl yd yp hgr hk _
  obtain ⟨x, rfl, rfl, _⟩ := Maps.keyOf_i64 Tryz.underlying3 hk
  have hWc := (hgr.block c (Array.getElem?_eq_some_iff.1 hc).1 (by simpa using hcb)).trans hc
  have hWb := (hgr.block bh (Array.getElem?_eq_some_iff.1 hm.1).1 (by simpa using hbb)).trans hm.1
  exact Tryz.gone x val c bh te fz es clock LH W hWc hWb hF

end Go.Proofs
