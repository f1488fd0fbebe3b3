/-
  The library's sort and copy of rows, at this program: the shelf's contracts, laid. No condition.
-/
import Derived.Test.YtfhmokjjjnjhjaaGreatDoorReadc
import Derived.Test.YtfhmokjjjnjhjaaGreatDoorChecked
import Derived.Shelf.SlSortCmp.WholeK
import Derived.Shelf.SlSortCmp.NoneTotal
import Derived.Shelf.SlicesE.Clone
import Derived.WalkKit
namespace Go.Proofs
open Go.Shelf

def Tryz.sortLocs_ren : Go.Shelf.Ren := ⟨fun | 6 => 98 | 15 => 101 | 14 => 126 | 28 => 135 | 29 => 136 | 20 => 150 | 21 => 151 | 22 => 152 | 23 => 153 | 24 => 154 | 25 => 155 | 26 => 156 | 27 => 157 | 46 => 173 | 47 => 159 | 48 => 160 | 49 => 174 | 50 => 175 | 57 => 184 | n => n, fun | 22 => 22 | 24 => 45 | 25 => 168 | 3 => 3 | 39 => 171 | 0 => 0 | 53 => 144 | 55 => 42 | 4 => 4 | 46 => 198 | 45 => 197 | 50 => 202 | 5 => 5 | 9 => 9 | 66 => 223 | 70 => 226 | 76 => 240 | 77 => 241 | n => n, fun | n => n⟩
theorem Tryz.sortLocs : Go.Proofs.SlLaysF0.n6 Tryz.prog Tryz.sortLocs_ren := {
  mixed := by kernel_rfl,
  f6 := ⟨Tryz.f98.name, by decide, Tryz.func98.trans (congrArg some (by kernel_rfl))⟩,
  f14 := ⟨Tryz.f126.name, by decide, Tryz.func126.trans (congrArg some (by kernel_rfl))⟩,
  f15 := Tryz.func101.trans (congrArg some (by kernel_rfl)),
  f20 := ⟨Tryz.f150.name, by decide, Tryz.func150.trans (congrArg some (by kernel_rfl))⟩,
  f21 := ⟨Tryz.f151.name, by decide, Tryz.func151.trans (congrArg some (by kernel_rfl))⟩,
  f22 := ⟨Tryz.f152.name, by decide, Tryz.func152.trans (congrArg some (by kernel_rfl))⟩,
  f23 := ⟨Tryz.f153.name, by decide, Tryz.func153.trans (congrArg some (by kernel_rfl))⟩,
  f24 := ⟨Tryz.f154.name, by decide, Tryz.func154.trans (congrArg some (by kernel_rfl))⟩,
  f25 := ⟨Tryz.f155.name, by decide, Tryz.func155.trans (congrArg some (by kernel_rfl))⟩,
  f26 := ⟨Tryz.f156.name, by decide, Tryz.func156.trans (congrArg some (by kernel_rfl))⟩,
  f27 := ⟨Tryz.f157.name, by decide, Tryz.func157.trans (congrArg some (by kernel_rfl))⟩,
  f28 := Tryz.func135.trans (congrArg some (by kernel_rfl)),
  f29 := Tryz.func136.trans (congrArg some (by kernel_rfl)),
  f46 := ⟨Tryz.f173.name, by decide, Tryz.func173.trans (congrArg some (by kernel_rfl))⟩,
  f47 := Tryz.func159.trans (congrArg some (by kernel_rfl)),
  f48 := Tryz.func160.trans (congrArg some (by kernel_rfl)),
  f49 := ⟨Tryz.f174.name, by decide, Tryz.func174.trans (congrArg some (by kernel_rfl))⟩,
  f50 := ⟨Tryz.f175.name, by decide, Tryz.func175.trans (congrArg some (by kernel_rfl))⟩,
  f57 := ⟨Tryz.f184.name, by decide, Tryz.func184.trans (congrArg some (by kernel_rfl))⟩,
  t0 := Tryz.underlying0,
  a0 := Tryz.isAgg0,
  z0 := Tryz.sizeOf0,
  v0 := Tryz.zeroValue0,
  t3 := Tryz.underlying3,
  a3 := Tryz.isAgg3,
  z3 := Tryz.sizeOf3,
  v3 := Tryz.zeroValue3,
  t4 := Tryz.underlying4,
  a4 := Tryz.isAgg4,
  z4 := Tryz.sizeOf4,
  v4 := Tryz.zeroValue4,
  t5 := Tryz.underlying5,
  a5 := Tryz.isAgg5,
  z5 := Tryz.sizeOf5,
  v5 := Tryz.zeroValue5,
  t9 := Tryz.underlying9,
  a9 := Tryz.isAgg9,
  z9 := Tryz.sizeOf9,
  v9 := Tryz.zeroValue9,
  t22 := Tryz.underlying22,
  a22 := Tryz.isAgg22,
  z22 := Tryz.sizeOf22,
  v22 := Tryz.zeroValue22,
  t25 := Tryz.underlying168,
  a25 := Tryz.isAgg168,
  z25 := Tryz.sizeOf168,
  v25 := Tryz.zeroValue168,
  t39 := Tryz.underlying171,
  a39 := Tryz.isAgg171,
  z39 := Tryz.sizeOf171,
  v39 := Tryz.zeroValue171,
  t45 := Tryz.underlying197,
  a45 := Tryz.isAgg197,
  z45 := Tryz.sizeOf197,
  v45 := Tryz.zeroValue197,
  t46 := Tryz.underlying198,
  a46 := Tryz.isAgg198,
  z46 := Tryz.sizeOf198,
  v46 := Tryz.zeroValue198,
  t50 := Tryz.underlying202,
  a50 := Tryz.isAgg202,
  z50 := Tryz.sizeOf202,
  v50 := Tryz.zeroValue202,
  t53 := Tryz.underlying144,
  a53 := Tryz.isAgg144,
  z53 := Tryz.sizeOf144,
  v53 := Tryz.zeroValue144,
  t55 := Tryz.underlying42,
  a55 := Tryz.isAgg42,
  z55 := Tryz.sizeOf42,
  v55 := Tryz.zeroValue42,
  t66 := Tryz.underlying223,
  a66 := Tryz.isAgg223,
  z66 := Tryz.sizeOf223,
  v66 := Tryz.zeroValue223,
  t70 := Tryz.underlying226,
  a70 := Tryz.isAgg226,
  z70 := Tryz.sizeOf226,
  v70 := Tryz.zeroValue226,
  t76 := Tryz.underlying240,
  a76 := Tryz.isAgg240,
  z76 := Tryz.sizeOf240,
  v76 := Tryz.zeroValue240,
  t77 := Tryz.underlying241,
  a77 := Tryz.isAgg241,
  z77 := Tryz.sizeOf241,
  v77 := Tryz.zeroValue241 }

def Tryz.sortAsks_ren : Go.Shelf.Ren := ⟨fun | 6 => 56 | 15 => 101 | 14 => 100 | 28 => 135 | 29 => 136 | 20 => 127 | 21 => 128 | 22 => 129 | 23 => 130 | 24 => 131 | 25 => 132 | 26 => 133 | 27 => 134 | 46 => 158 | 47 => 159 | 48 => 160 | 49 => 161 | 50 => 162 | 57 => 176 | n => n, fun | 22 => 24 | 24 => 49 | 25 => 128 | 3 => 3 | 39 => 171 | 0 => 0 | 53 => 144 | 55 => 42 | 4 => 4 | 46 => 198 | 45 => 197 | 50 => 202 | 5 => 5 | 9 => 9 | 66 => 223 | 70 => 226 | 76 => 240 | 77 => 241 | n => n, fun | n => n⟩
theorem Tryz.sortAsks : Go.Proofs.SlLaysF0.n6 Tryz.prog Tryz.sortAsks_ren := {
  mixed := by kernel_rfl,
  f6 := ⟨Tryz.f56.name, by decide, Tryz.func56.trans (congrArg some (by kernel_rfl))⟩,
  f14 := ⟨Tryz.f100.name, by decide, Tryz.func100.trans (congrArg some (by kernel_rfl))⟩,
  f15 := Tryz.func101.trans (congrArg some (by kernel_rfl)),
  f20 := ⟨Tryz.f127.name, by decide, Tryz.func127.trans (congrArg some (by kernel_rfl))⟩,
  f21 := ⟨Tryz.f128.name, by decide, Tryz.func128.trans (congrArg some (by kernel_rfl))⟩,
  f22 := ⟨Tryz.f129.name, by decide, Tryz.func129.trans (congrArg some (by kernel_rfl))⟩,
  f23 := ⟨Tryz.f130.name, by decide, Tryz.func130.trans (congrArg some (by kernel_rfl))⟩,
  f24 := ⟨Tryz.f131.name, by decide, Tryz.func131.trans (congrArg some (by kernel_rfl))⟩,
  f25 := ⟨Tryz.f132.name, by decide, Tryz.func132.trans (congrArg some (by kernel_rfl))⟩,
  f26 := ⟨Tryz.f133.name, by decide, Tryz.func133.trans (congrArg some (by kernel_rfl))⟩,
  f27 := ⟨Tryz.f134.name, by decide, Tryz.func134.trans (congrArg some (by kernel_rfl))⟩,
  f28 := Tryz.func135.trans (congrArg some (by kernel_rfl)),
  f29 := Tryz.func136.trans (congrArg some (by kernel_rfl)),
  f46 := ⟨Tryz.f158.name, by decide, Tryz.func158.trans (congrArg some (by kernel_rfl))⟩,
  f47 := Tryz.func159.trans (congrArg some (by kernel_rfl)),
  f48 := Tryz.func160.trans (congrArg some (by kernel_rfl)),
  f49 := ⟨Tryz.f161.name, by decide, Tryz.func161.trans (congrArg some (by kernel_rfl))⟩,
  f50 := ⟨Tryz.f162.name, by decide, Tryz.func162.trans (congrArg some (by kernel_rfl))⟩,
  f57 := ⟨Tryz.f176.name, by decide, Tryz.func176.trans (congrArg some (by kernel_rfl))⟩,
  t0 := Tryz.underlying0,
  a0 := Tryz.isAgg0,
  z0 := Tryz.sizeOf0,
  v0 := Tryz.zeroValue0,
  t3 := Tryz.underlying3,
  a3 := Tryz.isAgg3,
  z3 := Tryz.sizeOf3,
  v3 := Tryz.zeroValue3,
  t4 := Tryz.underlying4,
  a4 := Tryz.isAgg4,
  z4 := Tryz.sizeOf4,
  v4 := Tryz.zeroValue4,
  t5 := Tryz.underlying5,
  a5 := Tryz.isAgg5,
  z5 := Tryz.sizeOf5,
  v5 := Tryz.zeroValue5,
  t9 := Tryz.underlying9,
  a9 := Tryz.isAgg9,
  z9 := Tryz.sizeOf9,
  v9 := Tryz.zeroValue9,
  t22 := Tryz.underlying24,
  a22 := Tryz.isAgg24,
  z22 := Tryz.sizeOf24,
  v22 := Tryz.zeroValue24,
  t25 := Tryz.underlying128,
  a25 := Tryz.isAgg128,
  z25 := Tryz.sizeOf128,
  v25 := Tryz.zeroValue128,
  t39 := Tryz.underlying171,
  a39 := Tryz.isAgg171,
  z39 := Tryz.sizeOf171,
  v39 := Tryz.zeroValue171,
  t45 := Tryz.underlying197,
  a45 := Tryz.isAgg197,
  z45 := Tryz.sizeOf197,
  v45 := Tryz.zeroValue197,
  t46 := Tryz.underlying198,
  a46 := Tryz.isAgg198,
  z46 := Tryz.sizeOf198,
  v46 := Tryz.zeroValue198,
  t50 := Tryz.underlying202,
  a50 := Tryz.isAgg202,
  z50 := Tryz.sizeOf202,
  v50 := Tryz.zeroValue202,
  t53 := Tryz.underlying144,
  a53 := Tryz.isAgg144,
  z53 := Tryz.sizeOf144,
  v53 := Tryz.zeroValue144,
  t55 := Tryz.underlying42,
  a55 := Tryz.isAgg42,
  z55 := Tryz.sizeOf42,
  v55 := Tryz.zeroValue42,
  t66 := Tryz.underlying223,
  a66 := Tryz.isAgg223,
  z66 := Tryz.sizeOf223,
  v66 := Tryz.zeroValue223,
  t70 := Tryz.underlying226,
  a70 := Tryz.isAgg226,
  z70 := Tryz.sizeOf226,
  v70 := Tryz.zeroValue226,
  t76 := Tryz.underlying240,
  a76 := Tryz.isAgg240,
  z76 := Tryz.sizeOf240,
  v76 := Tryz.zeroValue240,
  t77 := Tryz.underlying241,
  a77 := Tryz.isAgg241,
  z77 := Tryz.sizeOf241,
  v77 := Tryz.zeroValue241 }

def Tryz.cloneLocs_ren : Go.Shelf.Ren := ⟨fun | 41 => 95 | n => n, fun | 22 => 22 | 23 => 45 | 4 => 4 | n => n, fun | n => n⟩
theorem Tryz.cloneLocs : Go.Proofs.SlLaysE0.n41 Tryz.prog Tryz.cloneLocs_ren := {
  mixed := by kernel_rfl,
  f41 := ⟨Tryz.f95.name, by decide, Tryz.func95.trans (congrArg some (by kernel_rfl))⟩,
  t4 := Tryz.underlying4,
  a4 := Tryz.isAgg4,
  z4 := Tryz.sizeOf4,
  v4 := Tryz.zeroValue4,
  t22 := Tryz.underlying22,
  a22 := Tryz.isAgg22,
  z22 := Tryz.sizeOf22,
  v22 := Tryz.zeroValue22 }

open Go.RowKit Go.Lib Go.Sort Go.Vc

set_option maxHeartbeats 1000000 in
theorem Tryz.cmpI (x y : Tx × Nat) (W : World) : Calls Tryz.prog 99 #[.agg (lS x).toArray, .agg (lS y).toArray] W fun e w' => e = .returned (.int .i64 (cfL x y)) ∧ ∃ q os', w' = Go.Sort.grow (W.drewN q) os' := by
  have hlt : Op.bytesLess (bx (Lt.oO x.1)).toList (bx (Lt.oO y.1)).toList = Lt.ltL x y := by
    rw [ByteArray.toList_eq, ByteArray.toList_eq]; rfl
  have hcf : cfL x y = if Lt.ltL x y then -1 else 1 := rfl
  rw [bC4, bC4]
  generalize cfL x y = z at hcf ⊢
  generalize Lt.ltL x y = r at hlt hcf
  generalize pR x.2 = i
  generalize pR y.2 = j
  generalize bx (Lt.oO x.1) = s at hlt ⊢
  generalize bx (Lt.oO y.1) = t at hlt ⊢
  go_enter Tryz.func99, Tryz.ntmps99
  go_wp2_with (simp only [hlt])
  all_goals
    go_ret
    exact ⟨by simp_all, 0, _, by rw [alloc_eq_grow, alloc_eq_grow, grow_grow]; rfl⟩
set_option maxHeartbeats 1000000 in
theorem Tryz.cmpA (x y : Int × Int × Nat) (W : World) : Calls Tryz.prog 57 #[.agg (lQ x).toArray, .agg (lQ y).toArray] W fun e w' => e = .returned (.int .i64 (cfA x y)) ∧ ∃ q os', w' = Go.Sort.grow (W.drewN q) os' := by
  have hcf := bT5 x y
  have b1 := aE2 x.1; have b2 := aE2 x.2.1; have b3 := aE2 y.1; have b4 := aE2 y.2.1
  rw [bC3, bC3]
  generalize cfA x y = z at hcf ⊢
  generalize pR x.2.2 = i
  generalize pR y.2.2 = j
  generalize Lt.bQ x.1 = a at hcf b1 ⊢
  generalize Lt.bQ x.2.1 = b at hcf b2 ⊢
  generalize Lt.bQ y.1 = c at hcf b3 ⊢
  generalize Lt.bQ y.2.1 = d at hcf b4 ⊢
  have hw : IntKind.i64.wrap (b - d) = b - d := by simp [IntKind.wrap, IntKind.bits, IntKind.signed]; omega
  go_enter Tryz.func57, Tryz.ntmps57
  go_wp2_with (simp only [hw])
  all_goals
    go_ret
    refine ⟨?_, 0, _, by rw [alloc_eq_grow, alloc_eq_grow, grow_grow]; rfl⟩
    simp_all

theorem Tryz.runLocs (b cap : Nat) (d : Array (Tx × Nat)) (w : World) (hH : HoldsK lS 2 w b 0 d) (hb : b < w.heap.size) (hsz : d.size < 4611686018427387904) :
    Calls Tryz.prog 98 #[.slice (some ⟨b, 0, none⟩) d.size cap, .func (.func 99) #[] #[]] w fun e w' => e = .returned (.tuple #[]) ∧ ∃ n os, w' = sortWorldK lS 2 w b 0 n (pdq Lt.ltL d 0 d.size (Lib.bitLen d.size) true true) os := by
  have hlt : ltOf cfL = Lt.ltL := funext fun x => funext fun y => bT7 x y
  have eg : ∀ args w, (callFunc 99 args).run Tryz.prog w = .ok (.enter 99 args) w := enters_of Tryz.func99 (by kernel_rfl) rfl
  have h := AnyQ.slices_SortFunc_eq Tryz.sortLocs 2 Tryz.isAgg45 Tryz.sizeOf45 lS (fun _ => rfl) bV2 cfL (by rw [hlt]; exact aY0) 99 #[] b 0 cap d w eg (fun m os dk _ x y => Tryz.cmpI x y _) hH hb hsz
  rw [hlt] at h
  exact h
theorem Tryz.runLocsN (cap : Nat) (fv : Value) (w : World) : Calls Tryz.prog 98 #[.slice none 0 cap, fv] w fun e w' => e = .returned (.tuple #[]) ∧ w' = w :=
  AnyF.slices_SortFunc_none Tryz.sortLocs none cap fv w

theorem Tryz.runAsks (b cap : Nat) (d : Array (Int × Int × Nat)) (w : World) (hH : HoldsK lQ 3 w b 0 d) (hb : b < w.heap.size) (hsz : d.size < 4611686018427387904) :
    Calls Tryz.prog 56 #[.slice (some ⟨b, 0, none⟩) d.size cap, .func (.func 57) #[] #[]] w fun e w' => e = .returned (.tuple #[]) ∧ ∃ n os, w' = sortWorldK lQ 3 w b 0 n (pdq Lt.ltA d 0 d.size (Lib.bitLen d.size) true true) os := by
  have hlt : ltOf cfA = Lt.ltA := funext fun x => funext fun y => bT6 x y
  have eg : ∀ args w, (callFunc 57 args).run Tryz.prog w = .ok (.enter 57 args) w := enters_of Tryz.func57 (by kernel_rfl) rfl
  have h := AnyQ.slices_SortFunc_eq Tryz.sortAsks 3 Tryz.isAgg49 Tryz.sizeOf49 lQ (fun _ => rfl) bV1 cfA (by rw [hlt]; exact swoA) 57 #[] b 0 cap d w eg (fun m os dk _ x y => Tryz.cmpA x y _) hH hb hsz
  rw [hlt] at h
  exact h
theorem Tryz.runAsksN (cap : Nat) (fv : Value) (w : World) : Calls Tryz.prog 56 #[.slice none 0 cap, fv] w fun e w' => e = .returned (.tuple #[]) ∧ w' = w :=
  AnyF.slices_SortFunc_none Tryz.sortAsks none cap fv w

theorem Tryz.infoLoc : (Tryz.prog.info? 45).map (fun i => (i.zero, i.size, i.bytes)) = some (some (.agg #[.string ⟨#[]⟩, .int .u64 0]), 2, 24) := by kernel_rfl
theorem Tryz.runClone (b n c : Nat) (news : List Value) (w : World) (hl : news.length = n * 2) (hn : n ≤ maxLen) (hbig : n * 24 ≤ 140737488355328) (hc : ∀ j u, news[j]? = some u → w.cell? ⟨b, 0 + j, none⟩ = some u) (h1 : ∀ u ∈ news, u.oneCell' = true) :
    Calls Tryz.prog 95 #[.slice (some ⟨b, 0, none⟩) n c] w fun e w' => ∃ v', e = .returned v' ∧ w'.ownsRow w.heap.size 45 2 v' n news ∧ v' ≠ .slice none 0 0 ∧ Go.RowKit.Below w.heap.size w w' := by
  have h := Tryz.infoLoc
  cases hi : Tryz.prog.info? 45 with
  | none => rw [hi] at h; cases h
  | some i0 =>
    rw [hi] at h
    simp only [Option.map_some, Option.some.injEq, Prod.mk.injEq] at h
    exact AnyE.slices_Clone Tryz.cloneLocs i0 _ 2 24 hi h.1 h.2.1 h.2.2 rfl (by decide) Tryz.sizeOf45 b 0 n c news w hl hn hbig hc h1
theorem Tryz.runCloneN (n c : Nat) (w : World) : Calls Tryz.prog 95 #[.slice none n c] w fun e w' => e = .returned (.slice none 0 0) ∧ w' = w :=
  AnyE.slices_Clone_nil Tryz.cloneLocs n c w
end Go.Proofs
