/-
 The disk: contracts, third part: its calls are the document's.
 Printed by wip/vct.py: the conditions of functions, by their contracts.
 The disk: rows and what they stand for.
 The disk: files' rows.
 The disk: plain conditions, third part: its calls are the document's.
 The disk: plain conditions, third part, on.
 The disk: plain conditions, third part, on: Rename, Remove.
-/
import Derived.Test.YtdppcnngoclehaaDska
import Derived.KernelRfl
set_option linter.unusedVariables false
set_option linter.unusedSimpArgs false
open _root_.Go.IntKind (wrap)
namespace Go.Vc
def dL (p : Tx × Nat) : D := .L [.S (bx p.1), .I ((p.2 : Int) + 1)]
def cgD (c : Dk.Cg) : D := .L [.S (bx c.name), .S (bx c.gone), .I (if c.name = [] then 0 else (c.file : Int) + 1)]
def bD (i : Nat) (f : Dk.Fi) : D := .L [.I ((i : Int) + 1), .S (bx f.data), .I (f.safe : Int)]
def strip (r : D) : D := .L [r.key, r.toL.getD 2 default, r.toL.getD 3 default]
def aK (x : Dk.Ds) : List Nat := (List.range x.files.length).filter (Dk.held x)
def live (x : Dk.Ds) : LD := (aK x).map fun i => bD i (Dk.fileAt x i)
structure bH (l : LD) (k : Nat) (x : Dk.Ds) : Prop where
 names : (arg l (k + 5)).toL.Perm (x.names.map dL)
 safe : (arg l (k + 6)).toL.Perm (x.safe.map dL)
 pend : (arg l (k + 7)).toL = x.pend.map cgD
 files : ((arg l (k + 4)).toL.map strip).Perm (live x)
 next : (arg l (k + 8)).toI = (x.files.length : Int) + 1
 room : (arg l (k + 9)).toI = x.room
 crash : (arg l (k + 10)).toI = x.crash
 fail : (arg l (k + 11)).toI = x.fail
 dead : (arg l (k + 12)).toB = x.dead
 calls : (arg l (k + 13)).toI = x.calls
def tot (x : Dk.Ds) : Nat := (x.files.map fun f => f.data.length).sum
structure Small (x : Dk.Ds) : Prop where
 inv : Dk.Inv x
 files : x.files.length ≤ 10000000
 names : x.safe.length + x.pend.length ≤ 10000000
 calls : 0 ≤ x.calls ∧ x.calls ≤ 100000000
 room : 0 ≤ x.room
 bytes : tot x ≤ 100000000000
def oN (args : List SV) (asr : List Srt) (res : SV) (rs : List Srt) (post : LD → Prop) : Sig :=
 { args := iO 0 :: args, heap := dX 0 1, aA := .N :: bU ++ asr, res := res, heap' := dX 0 (15 + asr.length), news := bU ++ rs, pre := fun l => ∃ x, bH l 1 x ∧ Small x, post := post }
def aS' (n : Nat) : SV := .one (.lf (.str (.at n)))
def oL (l : LD) (k : Nat) (op : Dk.Ds → Dk.Ds × Int) : Prop := ∀ x, bH l 1 x → Small x → bH l k (op x).1 ∧ (arg l (k + 14)).toI = (op x).2
def eP.sig : Sig := oN [aS' 15] [.S] (gI 30) [.I] fun l => oL l 16 fun x => Dk.create x (tx (arg l 15).toS)
def fD.sig : Sig := oN [aS' 15, aS' 16] [.S, .S] (gI 31) [.I] fun l => oL l 17 fun x => Dk.append x (tx (arg l 15).toS) (tx (arg l 16).toS)
def iV.sig : Sig := oN [aS' 15] [.S] (gI 30) [.I] fun l => oL l 16 fun x => Dk.sync x (tx (arg l 15).toS)
def iH.sig : Sig := oN [] [] (gI 29) [.I] fun l => oL l 15 fun x => Dk.fM x
def fE.sig : Sig := oN [aS' 15, aS' 16] [.S, .S] (gI 31) [.I] fun l => oL l 17 fun x => Dk.rename x (tx (arg l 15).toS) (tx (arg l 16).toS)
def jG.sig : Sig := oN [aS' 15] [.S] (gI 30) [.I] fun l => oL l 16 fun x => Dk.remove x (tx (arg l 15).toS)
def gJ.sig : Sig :=
 { args := [iO 0, aS' 15], heap := dX 0 1, aA := .N :: bU ++ [.S], res := .tup [.lf (.str (.at 16)), .lf (.int .i64 (.at 17))], heap' := dX 0 1, news := [.S, .I], pre := fun l => ∃ x, bH l 1 x ∧ Small x,
   post := fun l => ∀ x, bH l 1 x → Small x → (tx (arg l 16).toS, (arg l 17).toI) = Dk.read x (tx (arg l 15).toS) }
def mY.sig : Sig :=
 { args := [iO 0], heap := dX 0 1, aA := .N :: bU, res := .tup [.lf (.sl (.at 15)), .lf (.int .i64 (.at 17))], heap' := .osl (.at 15) [.str] (.at 16) :: dX 0 1, news := [.V, .L, .I], pre := fun l => ∃ x, bH l 1 x ∧ Small x,
   post := fun l => ∀ x, bH l 1 x → Small x → (arg l 17).toI = (if x.dead then 9 else 0) ∧ (arg l 16).toL = if x.dead then [] else x.names.map fun p => .S (bx p.1) }
end Go.Vc
namespace Go.Vc
set_option linter.unusedVariables false
def eP.Pure : Prop :=
 ∀ n0 n1 n2 n3 : Nat,
 ∀ v4 : Value,
 ∀ l5 l6 l7 l8 : LD,
 ∀ i9 i10 i11 i12 : Int,
 ∀ b13 : Bool,
 ∀ i14 : Int,
 ∀ s15 : BA,
 ((s15.size : Int) ≤ 9223372036854775807) →
 R64 i9 →
 R64 i10 →
 R64 i11 →
 R64 i12 →
 R64 i14 →
 (bM (.int .i64) [.str, .int .i64] l5) →
 (mapOk (.str) (.int .i64) l6) →
 (mapOk (.str) (.int .i64) l7) →
 (EK.ok [.str, .str, .int .i64] (D.L l8)) →
 eP.sig.pre [.N n0, .N n1, .N n2, .N n3, .V v4, .L l5, .L l6, .L l7, .L l8, .I i9, .I i10, .I i11, .I i12, .B b13, .I i14, .S s15] →
 ((
 (b13 = true) →
  eP.sig.post [.N n0, .N n1, .N n2, .N n3, .V v4, .L l5, .L l6, .L l7, .L l8, .I i9, .I i10, .I i11, .I i12, .B b13, .I i14, .S s15, .N n1, .N n2, .N n3, .V v4, .L l5, .L l6, .L l7, .L l8, .I i9, .I i10, .I i11, .I i12, .B b13, .I i14, .I 9]) ∧ (
 (b13 = false) →
 ((
 (s15 = (⟨#[]⟩ : BA)) →
  eP.sig.post [.N n0, .N n1, .N n2, .N n3, .V v4, .L l5, .L l6, .L l7, .L l8, .I i9, .I i10, .I i11, .I i12, .B b13, .I i14, .S s15, .N n1, .N n2, .N n3, .V v4, .L l5, .L l6, .L l7, .L l8, .I i9, .I i10, .I i11, .I i12, .B b13, .I i14, .I 1]) ∧ (
 (s15 ≠ (⟨#[]⟩ : BA)) →
 ((
 ((aI l6 (D.S s15)) = true) →
  eP.sig.post [.N n0, .N n1, .N n2, .N n3, .V v4, .L l5, .L l6, .L l7, .L l8, .I i9, .I i10, .I i11, .I i12, .B b13, .I i14, .S s15, .N n1, .N n2, .N n3, .V v4, .L l5, .L l6, .L l7, .L l8, .I i9, .I i10, .I i11, .I i12, .B b13, .I i14, .I 6]) ∧ (
 ((aI l6 (D.S s15)) = false) →
  bJ.sig.pre [.N n0, .N n1, .N n2, .N n3, .V v4, .I i9, .I i10, .I i11, .I i12, .B b13, .I i14] ∧ (
 ∀ i16 i17 : Int,
 ∀ b18 : Bool,
 ∀ i19 : Int,
 ∀ b20 : Bool,
 ∀ i21 : Int,
  bJ.sig.post [.N n0, .N n1, .N n2, .N n3, .V v4, .I i9, .I i10, .I i11, .I i12, .B b13, .I i14, .I i16, .I i17, .B b18, .I i19, .B b20, .I i21] →
 R64 i21 →
 R64 i16 →
 R64 i17 →
 R64 i19 →
 ((
 (i21 ≠ 0) →
   eP.sig.post [.N n0, .N n1, .N n2, .N n3, .V v4, .L l5, .L l6, .L l7, .L l8, .I i9, .I i10, .I i11, .I i12, .B b13, .I i14, .S s15, .N n1, .N n2, .N n3, .V v4, .L l5, .L l6, .L l7, .L l8, .I i9, .I i10, .I i16, .I i17, .B b18, .I i19, .I i21]) ∧ (
 (i21 = 0) →
 ∀ n22 : Nat,
 Im (((aU l5 (D.I i9) (D.L ((D.I i9) :: ((D.N n22) :: ((D.S (⟨#[]⟩ : BA)) :: ((D.I (0 : Int)) :: ([] : LD))))))).length : Int) ≤ (1000000000 : Int)) (
     dN.sig.pre [.N n0, .N n1, .N n2, .N n3, .V v4, .I i9, .I i10, .I i16, .I i17, .B b18, .I i19, .L l6, .L l8, .S s15, .S (⟨#[]⟩ : BA), .I i9] ∧ (
 ∀ v23 : Value,
 ∀ l24 l25 : LD,
   dN.sig.post [.N n0, .N n1, .N n2, .N n3, .V v4, .I i9, .I i10, .I i16, .I i17, .B b18, .I i19, .L l6, .L l8, .S s15, .S (⟨#[]⟩ : BA), .I i9, .V v23, .L l24, .L l25] →
 (mapOk (.str) (.int .i64) l24) →
 (EK.ok [.str, .str, .int .i64] (D.L l25)) →
   bG.sig.pre [.B b20] ∧ (
 ∀ i26 : Int,
   bG.sig.post [.B b20, .I i26] →
 R64 i26 →
   eP.sig.post [.N n0, .N n1, .N n2, .N n3, .V v4, .L l5, .L l6, .L l7, .L l8, .I i9, .I i10, .I i11, .I i12, .B b13, .I i14, .S s15, .N n1, .N n2, .N n3, .V v23, .L (aU l5 (D.I i9) (D.L ((D.I i9) :: ((D.N n22) :: ((D.S (⟨#[]⟩ : BA)) :: ((D.I 0) :: ([] : LD))))))), .L l24, .L l7, .L l25, .I (wrap .i64 (i9 + 1)), .I i10, .I i16, .I i17, .B b18, .I i19, .I i26]))))))))))))
def fD.Pure : Prop :=
 ∀ n0 n1 n2 n3 : Nat,
 ∀ v4 : Value,
 ∀ l5 l6 l7 l8 : LD,
 ∀ i9 i10 i11 i12 : Int,
 ∀ b13 : Bool,
 ∀ i14 : Int,
 ∀ s15 s16 : BA,
 ((s15.size : Int) ≤ 9223372036854775807) →
 ((s16.size : Int) ≤ 9223372036854775807) →
 R64 i9 →
 R64 i10 →
 R64 i11 →
 R64 i12 →
 R64 i14 →
 (bM (.int .i64) [.str, .int .i64] l5) →
 (mapOk (.str) (.int .i64) l6) →
 (mapOk (.str) (.int .i64) l7) →
 (EK.ok [.str, .str, .int .i64] (D.L l8)) →
 fD.sig.pre [.N n0, .N n1, .N n2, .N n3, .V v4, .L l5, .L l6, .L l7, .L l8, .I i9, .I i10, .I i11, .I i12, .B b13, .I i14, .S s15, .S s16] →
 ((
  bV.sig.pre [.N n0, .N n1, .N n2, .N n3, .V v4, .L l5, .L l6, .L l7, .L l8, .I i9, .I i10, .I i11, .I i12, .B b13, .I i14, .S s15] ∧ (
 ∀ n17 : Nat,
  bV.sig.post [.N n0, .N n1, .N n2, .N n3, .V v4, .L l5, .L l6, .L l7, .L l8, .I i9, .I i10, .I i11, .I i12, .B b13, .I i14, .S s15, .N n17] →
 ((
 ((0 : Int) ≠ (0 : Int)) →
   fD.sig.post [.N n0, .N n1, .N n2, .N n3, .V v4, .L l5, .L l6, .L l7, .L l8, .I i9, .I i10, .I i11, .I i12, .B b13, .I i14, .S s15, .S s16, .N n1, .N n2, .N n3, .V v4, .L l5, .L l6, .L l7, .L l8, .I i9, .I i10, .I i11, .I i12, .B b13, .I i14, .I 0]) ∧ (
 ((0 : Int) = (0 : Int)) →
   jF.sig.pre [.N n0, .N n1, .N n2, .N n3, .V v4, .L l5, .L l6, .L l7, .L l8, .I i9, .I i10, .I i11, .I i12, .B b13, .I i14] ∧ (
 ∀ i18 : Int,
  jF.sig.post [.N n0, .N n1, .N n2, .N n3, .V v4, .L l5, .L l6, .L l7, .L l8, .I i9, .I i10, .I i11, .I i12, .B b13, .I i14, .I i18] →
 R64 i18 →
 ((
 (i18 < (s16.size : Int)) →
  fD.sig.post [.N n0, .N n1, .N n2, .N n3, .V v4, .L l5, .L l6, .L l7, .L l8, .I i9, .I i10, .I i11, .I i12, .B b13, .I i14, .S s15, .S s16, .N n1, .N n2, .N n3, .V v4, .L l5, .L l6, .L l7, .L l8, .I i9, .I i10, .I i11, .I i12, .B b13, .I i14, .I 7]) ∧ (
 ((s16.size : Int) ≤ i18) →
  bJ.sig.pre [.N n0, .N n1, .N n2, .N n3, .V v4, .I i9, .I i10, .I i11, .I i12, .B b13, .I i14] ∧ (
 ∀ i19 i20 : Int,
 ∀ b21 : Bool,
 ∀ i22 : Int,
 ∀ b23 : Bool,
 ∀ i24 : Int,
  bJ.sig.post [.N n0, .N n1, .N n2, .N n3, .V v4, .I i9, .I i10, .I i11, .I i12, .B b13, .I i14, .I i19, .I i20, .B b21, .I i22, .B b23, .I i24] →
 R64 i24 →
 R64 i19 →
 R64 i20 →
 R64 i22 →
 ((
 (i24 ≠ 0) →
   fD.sig.post [.N n0, .N n1, .N n2, .N n3, .V v4, .L l5, .L l6, .L l7, .L l8, .I i9, .I i10, .I i11, .I i12, .B b13, .I i14, .S s15, .S s16, .N n1, .N n2, .N n3, .V v4, .L l5, .L l6, .L l7, .L l8, .I i9, .I i10, .I i19, .I i20, .B b21, .I i22, .I i24]) ∧ (
 (i24 = 0) →
 Im ((dG l5 n17) = true) (
 Im (((((aF l5 n17).toL.getD (2 : Int).toNat default).toS ++ s16).size : Int) ≤ (9223372036854775807 : Int)) (
     bG.sig.pre [.B b23] ∧ (
 ∀ i25 : Int,
   bG.sig.post [.B b23, .I i25] →
 R64 i25 →
   fD.sig.post [.N n0, .N n1, .N n2, .N n3, .V v4, .L l5, .L l6, .L l7, .L l8, .I i9, .I i10, .I i11, .I i12, .B b13, .I i14, .S s15, .S s16, .N n1, .N n2, .N n3, .V v4, .L (dA l5 n17 (D.L (((aF l5 n17).toL.getD (0 : Int).toNat default) :: ((D.N ((aF l5 n17).toL.getD (1 : Int).toNat default).toN) :: ((D.S (((aF l5 n17).toL.getD (2 : Int).toNat default).toS ++ s16)) :: ((D.I ((aF l5 n17).toL.getD (3 : Int).toNat default).toI) :: ([] : LD))))))), .L l6, .L l7, .L l8, .I i9, .I i10, .I i19, .I i20, .B b21, .I i22, .I i25]))))))))))))) ∧ (
  bV.sig.pre [.N n0, .N n1, .N n2, .N n3, .V v4, .L l5, .L l6, .L l7, .L l8, .I i9, .I i10, .I i11, .I i12, .B b13, .I i14, .S s15] ∧ (
 ∀ i17 : Int,
  bV.sig.post2 [.N n0, .N n1, .N n2, .N n3, .V v4, .L l5, .L l6, .L l7, .L l8, .I i9, .I i10, .I i11, .I i12, .B b13, .I i14, .S s15, .I i17] →
 R64 i17 →
 ((
 (i17 ≠ 0) →
  fD.sig.post [.N n0, .N n1, .N n2, .N n3, .V v4, .L l5, .L l6, .L l7, .L l8, .I i9, .I i10, .I i11, .I i12, .B b13, .I i14, .S s15, .S s16, .N n1, .N n2, .N n3, .V v4, .L l5, .L l6, .L l7, .L l8, .I i9, .I i10, .I i11, .I i12, .B b13, .I i14, .I i17]) ∧ (
 (i17 = 0) →
  jF.sig.pre [.N n0, .N n1, .N n2, .N n3, .V v4, .L l5, .L l6, .L l7, .L l8, .I i9, .I i10, .I i11, .I i12, .B b13, .I i14] ∧ (
 ∀ i18 : Int,
  jF.sig.post [.N n0, .N n1, .N n2, .N n3, .V v4, .L l5, .L l6, .L l7, .L l8, .I i9, .I i10, .I i11, .I i12, .B b13, .I i14, .I i18] →
 R64 i18 →
 ((
 (i18 < (s16.size : Int)) →
  fD.sig.post [.N n0, .N n1, .N n2, .N n3, .V v4, .L l5, .L l6, .L l7, .L l8, .I i9, .I i10, .I i11, .I i12, .B b13, .I i14, .S s15, .S s16, .N n1, .N n2, .N n3, .V v4, .L l5, .L l6, .L l7, .L l8, .I i9, .I i10, .I i11, .I i12, .B b13, .I i14, .I 7]) ∧ (
 ((s16.size : Int) ≤ i18) →
  bJ.sig.pre [.N n0, .N n1, .N n2, .N n3, .V v4, .I i9, .I i10, .I i11, .I i12, .B b13, .I i14] ∧ (
 ∀ i19 i20 : Int,
 ∀ b21 : Bool,
 ∀ i22 : Int,
 ∀ b23 : Bool,
 ∀ i24 : Int,
  bJ.sig.post [.N n0, .N n1, .N n2, .N n3, .V v4, .I i9, .I i10, .I i11, .I i12, .B b13, .I i14, .I i19, .I i20, .B b21, .I i22, .B b23, .I i24] →
 R64 i24 →
 R64 i19 →
 R64 i20 →
 R64 i22 →
 ((
 (i24 ≠ 0) →
   fD.sig.post [.N n0, .N n1, .N n2, .N n3, .V v4, .L l5, .L l6, .L l7, .L l8, .I i9, .I i10, .I i11, .I i12, .B b13, .I i14, .S s15, .S s16, .N n1, .N n2, .N n3, .V v4, .L l5, .L l6, .L l7, .L l8, .I i9, .I i10, .I i19, .I i20, .B b21, .I i22, .I i24]) ∧ (
 (i24 = 0) →
 Im (false = true) (
     True))))))))))))
def iV.Pure : Prop :=
 ∀ n0 n1 n2 n3 : Nat,
 ∀ v4 : Value,
 ∀ l5 l6 l7 l8 : LD,
 ∀ i9 i10 i11 i12 : Int,
 ∀ b13 : Bool,
 ∀ i14 : Int,
 ∀ s15 : BA,
 ((s15.size : Int) ≤ 9223372036854775807) →
 R64 i9 →
 R64 i10 →
 R64 i11 →
 R64 i12 →
 R64 i14 →
 (bM (.int .i64) [.str, .int .i64] l5) →
 (mapOk (.str) (.int .i64) l6) →
 (mapOk (.str) (.int .i64) l7) →
 (EK.ok [.str, .str, .int .i64] (D.L l8)) →
 iV.sig.pre [.N n0, .N n1, .N n2, .N n3, .V v4, .L l5, .L l6, .L l7, .L l8, .I i9, .I i10, .I i11, .I i12, .B b13, .I i14, .S s15] →
 ((
  bV.sig.pre [.N n0, .N n1, .N n2, .N n3, .V v4, .L l5, .L l6, .L l7, .L l8, .I i9, .I i10, .I i11, .I i12, .B b13, .I i14, .S s15] ∧ (
 ∀ n16 : Nat,
  bV.sig.post [.N n0, .N n1, .N n2, .N n3, .V v4, .L l5, .L l6, .L l7, .L l8, .I i9, .I i10, .I i11, .I i12, .B b13, .I i14, .S s15, .N n16] →
 ((
 ((0 : Int) ≠ (0 : Int)) →
   iV.sig.post [.N n0, .N n1, .N n2, .N n3, .V v4, .L l5, .L l6, .L l7, .L l8, .I i9, .I i10, .I i11, .I i12, .B b13, .I i14, .S s15, .N n1, .N n2, .N n3, .V v4, .L l5, .L l6, .L l7, .L l8, .I i9, .I i10, .I i11, .I i12, .B b13, .I i14, .I 0]) ∧ (
 ((0 : Int) = (0 : Int)) →
   bJ.sig.pre [.N n0, .N n1, .N n2, .N n3, .V v4, .I i9, .I i10, .I i11, .I i12, .B b13, .I i14] ∧ (
 ∀ i17 i18 : Int,
 ∀ b19 : Bool,
 ∀ i20 : Int,
 ∀ b21 : Bool,
 ∀ i22 : Int,
  bJ.sig.post [.N n0, .N n1, .N n2, .N n3, .V v4, .I i9, .I i10, .I i11, .I i12, .B b13, .I i14, .I i17, .I i18, .B b19, .I i20, .B b21, .I i22] →
 R64 i22 →
 R64 i17 →
 R64 i18 →
 R64 i20 →
 ((
 (i22 ≠ 0) →
  bG.sig.pre [.B b21] ∧ (
 ∀ i23 : Int,
  bG.sig.post [.B b21, .I i23] →
 R64 i23 →
  iV.sig.post [.N n0, .N n1, .N n2, .N n3, .V v4, .L l5, .L l6, .L l7, .L l8, .I i9, .I i10, .I i11, .I i12, .B b13, .I i14, .S s15, .N n1, .N n2, .N n3, .V v4, .L l5, .L l6, .L l7, .L l8, .I i9, .I i10, .I i17, .I i18, .B b19, .I i20, .I (eY i22 i23)])) ∧ (
 (i22 = 0) →
 ((
 (b21 = true) →
   bG.sig.pre [.B b21] ∧ (
 ∀ i23 : Int,
   bG.sig.post [.B b21, .I i23] →
 R64 i23 →
   iV.sig.post [.N n0, .N n1, .N n2, .N n3, .V v4, .L l5, .L l6, .L l7, .L l8, .I i9, .I i10, .I i11, .I i12, .B b13, .I i14, .S s15, .N n1, .N n2, .N n3, .V v4, .L l5, .L l6, .L l7, .L l8, .I i9, .I i10, .I i17, .I i18, .B b19, .I i20, .I (eY i22 i23)])) ∧ (
 (b21 = false) →
 Im ((dG l5 n16) = true) (
     iV.sig.post [.N n0, .N n1, .N n2, .N n3, .V v4, .L l5, .L l6, .L l7, .L l8, .I i9, .I i10, .I i11, .I i12, .B b13, .I i14, .S s15, .N n1, .N n2, .N n3, .V v4, .L (dA l5 n16 (D.L (((aF l5 n16).toL.getD (0 : Int).toNat default) :: ((D.N ((aF l5 n16).toL.getD (1 : Int).toNat default).toN) :: ((D.S ((aF l5 n16).toL.getD (2 : Int).toNat default).toS) :: ((D.I (((aF l5 n16).toL.getD (2 : Int).toNat default).toS.size : Int)) :: ([] : LD))))))), .L l6, .L l7, .L l8, .I i9, .I i10, .I i17, .I i18, .B b19, .I i20, .I 0])))))))))) ∧ (
  bV.sig.pre [.N n0, .N n1, .N n2, .N n3, .V v4, .L l5, .L l6, .L l7, .L l8, .I i9, .I i10, .I i11, .I i12, .B b13, .I i14, .S s15] ∧ (
 ∀ i16 : Int,
  bV.sig.post2 [.N n0, .N n1, .N n2, .N n3, .V v4, .L l5, .L l6, .L l7, .L l8, .I i9, .I i10, .I i11, .I i12, .B b13, .I i14, .S s15, .I i16] →
 R64 i16 →
 ((
 (i16 ≠ 0) →
  iV.sig.post [.N n0, .N n1, .N n2, .N n3, .V v4, .L l5, .L l6, .L l7, .L l8, .I i9, .I i10, .I i11, .I i12, .B b13, .I i14, .S s15, .N n1, .N n2, .N n3, .V v4, .L l5, .L l6, .L l7, .L l8, .I i9, .I i10, .I i11, .I i12, .B b13, .I i14, .I i16]) ∧ (
 (i16 = 0) →
  bJ.sig.pre [.N n0, .N n1, .N n2, .N n3, .V v4, .I i9, .I i10, .I i11, .I i12, .B b13, .I i14] ∧ (
 ∀ i17 i18 : Int,
 ∀ b19 : Bool,
 ∀ i20 : Int,
 ∀ b21 : Bool,
 ∀ i22 : Int,
  bJ.sig.post [.N n0, .N n1, .N n2, .N n3, .V v4, .I i9, .I i10, .I i11, .I i12, .B b13, .I i14, .I i17, .I i18, .B b19, .I i20, .B b21, .I i22] →
 R64 i22 →
 R64 i17 →
 R64 i18 →
 R64 i20 →
 ((
 (i22 ≠ 0) →
  bG.sig.pre [.B b21] ∧ (
 ∀ i23 : Int,
  bG.sig.post [.B b21, .I i23] →
 R64 i23 →
  iV.sig.post [.N n0, .N n1, .N n2, .N n3, .V v4, .L l5, .L l6, .L l7, .L l8, .I i9, .I i10, .I i11, .I i12, .B b13, .I i14, .S s15, .N n1, .N n2, .N n3, .V v4, .L l5, .L l6, .L l7, .L l8, .I i9, .I i10, .I i17, .I i18, .B b19, .I i20, .I (eY i22 i23)])) ∧ (
 (i22 = 0) →
 ((
 (b21 = true) →
   bG.sig.pre [.B b21] ∧ (
 ∀ i23 : Int,
   bG.sig.post [.B b21, .I i23] →
 R64 i23 →
   iV.sig.post [.N n0, .N n1, .N n2, .N n3, .V v4, .L l5, .L l6, .L l7, .L l8, .I i9, .I i10, .I i11, .I i12, .B b13, .I i14, .S s15, .N n1, .N n2, .N n3, .V v4, .L l5, .L l6, .L l7, .L l8, .I i9, .I i10, .I i17, .I i18, .B b19, .I i20, .I (eY i22 i23)])) ∧ (
 (b21 = false) →
 Im (false = true) (
     True)))))))))))
def iH.Pure : Prop :=
 ∀ n0 n1 n2 n3 : Nat,
 ∀ v4 : Value,
 ∀ l5 l6 l7 l8 : LD,
 ∀ i9 i10 i11 i12 : Int,
 ∀ b13 : Bool,
 ∀ i14 : Int,
 R64 i9 →
 R64 i10 →
 R64 i11 →
 R64 i12 →
 R64 i14 →
 (bM (.int .i64) [.str, .int .i64] l5) →
 (mapOk (.str) (.int .i64) l6) →
 (mapOk (.str) (.int .i64) l7) →
 (EK.ok [.str, .str, .int .i64] (D.L l8)) →
 iH.sig.pre [.N n0, .N n1, .N n2, .N n3, .V v4, .L l5, .L l6, .L l7, .L l8, .I i9, .I i10, .I i11, .I i12, .B b13, .I i14] →
 bJ.sig.pre [.N n0, .N n1, .N n2, .N n3, .V v4, .I i9, .I i10, .I i11, .I i12, .B b13, .I i14] ∧ (
 ∀ i15 i16 : Int,
 ∀ b17 : Bool,
 ∀ i18 : Int,
 ∀ b19 : Bool,
 ∀ i20 : Int,
 bJ.sig.post [.N n0, .N n1, .N n2, .N n3, .V v4, .I i9, .I i10, .I i11, .I i12, .B b13, .I i14, .I i15, .I i16, .B b17, .I i18, .B b19, .I i20] →
 R64 i20 →
 R64 i15 →
 R64 i16 →
 R64 i18 →
 ((
 (i20 ≠ 0) →
  bG.sig.pre [.B b19] ∧ (
 ∀ i21 : Int,
  bG.sig.post [.B b19, .I i21] →
 R64 i21 →
  iH.sig.post [.N n0, .N n1, .N n2, .N n3, .V v4, .L l5, .L l6, .L l7, .L l8, .I i9, .I i10, .I i11, .I i12, .B b13, .I i14, .N n1, .N n2, .N n3, .V v4, .L l5, .L l6, .L l7, .L l8, .I i9, .I i10, .I i15, .I i16, .B b17, .I i18, .I (eY i20 i21)])) ∧ (
 (i20 = 0) →
 ((
 (b19 = true) →
  bG.sig.pre [.B b19] ∧ (
 ∀ i21 : Int,
  bG.sig.post [.B b19, .I i21] →
 R64 i21 →
  iH.sig.post [.N n0, .N n1, .N n2, .N n3, .V v4, .L l5, .L l6, .L l7, .L l8, .I i9, .I i10, .I i11, .I i12, .B b13, .I i14, .N n1, .N n2, .N n3, .V v4, .L l5, .L l6, .L l7, .L l8, .I i9, .I i10, .I i15, .I i16, .B b17, .I i18, .I (eY i20 i21)])) ∧ (
 (b19 = false) →
  qW.sig.pre [.N n2, .L l6] ∧ (
 ∀ n21 : Nat,
  qW.sig.post [.N n2, .L l6, .N n21] →
 (mapOk (.str) (.int .i64) l6) →
 ∀ v22 : Value,
  bT.sig.pre [.N n0, .N n1, .N n2, .N n21, .V v22, .L l5, .L l6, .L l6, .L ([] : LD), .I i9, .I i10, .I i15, .I i16, .B b17, .I i18] ∧ (
 ∀ l23 : LD,
  bT.sig.post [.N n0, .N n1, .N n2, .N n21, .V v22, .L l5, .L l6, .L l6, .L ([] : LD), .I i9, .I i10, .I i15, .I i16, .B b17, .I i18, .L l23] →
 (bM (.int .i64) [.str, .int .i64] l23) →
  iH.sig.post [.N n0, .N n1, .N n2, .N n3, .V v4, .L l5, .L l6, .L l7, .L l8, .I i9, .I i10, .I i11, .I i12, .B b13, .I i14, .N n1, .N n2, .N n21, .V v22, .L l23, .L l6, .L l6, .L ([] : LD), .I i9, .I i10, .I i15, .I i16, .B b17, .I i18, .I 0])))))))
def fE.Pure : Prop :=
 ∀ n0 n1 n2 n3 : Nat,
 ∀ v4 : Value,
 ∀ l5 l6 l7 l8 : LD,
 ∀ i9 i10 i11 i12 : Int,
 ∀ b13 : Bool,
 ∀ i14 : Int,
 ∀ s15 s16 : BA,
 ((s15.size : Int) ≤ 9223372036854775807) →
 ((s16.size : Int) ≤ 9223372036854775807) →
 R64 i9 →
 R64 i10 →
 R64 i11 →
 R64 i12 →
 R64 i14 →
 (bM (.int .i64) [.str, .int .i64] l5) →
 (mapOk (.str) (.int .i64) l6) →
 (mapOk (.str) (.int .i64) l7) →
 (EK.ok [.str, .str, .int .i64] (D.L l8)) →
 fE.sig.pre [.N n0, .N n1, .N n2, .N n3, .V v4, .L l5, .L l6, .L l7, .L l8, .I i9, .I i10, .I i11, .I i12, .B b13, .I i14, .S s15, .S s16] →
 ((
  bV.sig.pre [.N n0, .N n1, .N n2, .N n3, .V v4, .L l5, .L l6, .L l7, .L l8, .I i9, .I i10, .I i11, .I i12, .B b13, .I i14, .S s15] ∧ (
 ∀ n17 : Nat,
  bV.sig.post [.N n0, .N n1, .N n2, .N n3, .V v4, .L l5, .L l6, .L l7, .L l8, .I i9, .I i10, .I i11, .I i12, .B b13, .I i14, .S s15, .N n17] →
 ((
 ((0 : Int) ≠ (0 : Int)) →
   fE.sig.post [.N n0, .N n1, .N n2, .N n3, .V v4, .L l5, .L l6, .L l7, .L l8, .I i9, .I i10, .I i11, .I i12, .B b13, .I i14, .S s15, .S s16, .N n1, .N n2, .N n3, .V v4, .L l5, .L l6, .L l7, .L l8, .I i9, .I i10, .I i11, .I i12, .B b13, .I i14, .I 0]) ∧ (
 ((0 : Int) = (0 : Int)) →
 ((
 (s16 = (⟨#[]⟩ : BA)) →
  fE.sig.post [.N n0, .N n1, .N n2, .N n3, .V v4, .L l5, .L l6, .L l7, .L l8, .I i9, .I i10, .I i11, .I i12, .B b13, .I i14, .S s15, .S s16, .N n1, .N n2, .N n3, .V v4, .L l5, .L l6, .L l7, .L l8, .I i9, .I i10, .I i11, .I i12, .B b13, .I i14, .I 1]) ∧ (
 (s16 ≠ (⟨#[]⟩ : BA)) →
 ((
 (s16 = s15) →
   fE.sig.post [.N n0, .N n1, .N n2, .N n3, .V v4, .L l5, .L l6, .L l7, .L l8, .I i9, .I i10, .I i11, .I i12, .B b13, .I i14, .S s15, .S s16, .N n1, .N n2, .N n3, .V v4, .L l5, .L l6, .L l7, .L l8, .I i9, .I i10, .I i11, .I i12, .B b13, .I i14, .I 1]) ∧ (
 (s16 ≠ s15) →
   bJ.sig.pre [.N n0, .N n1, .N n2, .N n3, .V v4, .I i9, .I i10, .I i11, .I i12, .B b13, .I i14] ∧ (
 ∀ i18 i19 : Int,
 ∀ b20 : Bool,
 ∀ i21 : Int,
 ∀ b22 : Bool,
 ∀ i23 : Int,
   bJ.sig.post [.N n0, .N n1, .N n2, .N n3, .V v4, .I i9, .I i10, .I i11, .I i12, .B b13, .I i14, .I i18, .I i19, .B b20, .I i21, .B b22, .I i23] →
 R64 i23 →
 R64 i18 →
 R64 i19 →
 R64 i21 →
 ((
 (i23 ≠ 0) →
   fE.sig.post [.N n0, .N n1, .N n2, .N n3, .V v4, .L l5, .L l6, .L l7, .L l8, .I i9, .I i10, .I i11, .I i12, .B b13, .I i14, .S s15, .S s16, .N n1, .N n2, .N n3, .V v4, .L l5, .L l6, .L l7, .L l8, .I i9, .I i10, .I i18, .I i19, .B b20, .I i21, .I i23]) ∧ (
 (i23 = 0) →
 ((
 ((aI l6 (D.S s15)) = true) →
    dN.sig.pre [.N n0, .N n1, .N n2, .N n3, .V v4, .I i9, .I i10, .I i18, .I i19, .B b20, .I i21, .L l6, .L l8, .S s16, .S s15, (D.I ((aB l6 (D.S s15)).toL.getD (1 : Int).toNat default).toI)] ∧ (
 ∀ v24 : Value,
 ∀ l25 l26 : LD,
    dN.sig.post [.N n0, .N n1, .N n2, .N n3, .V v4, .I i9, .I i10, .I i18, .I i19, .B b20, .I i21, .L l6, .L l8, .S s16, .S s15, (D.I ((aB l6 (D.S s15)).toL.getD (1 : Int).toNat default).toI), .V v24, .L l25, .L l26] →
 (mapOk (.str) (.int .i64) l25) →
 (EK.ok [.str, .str, .int .i64] (D.L l26)) →
    bG.sig.pre [.B b22] ∧ (
 ∀ i27 : Int,
    bG.sig.post [.B b22, .I i27] →
 R64 i27 →
    fE.sig.post [.N n0, .N n1, .N n2, .N n3, .V v4, .L l5, .L l6, .L l7, .L l8, .I i9, .I i10, .I i11, .I i12, .B b13, .I i14, .S s15, .S s16, .N n1, .N n2, .N n3, .V v24, .L l5, .L l25, .L l7, .L l26, .I i9, .I i10, .I i18, .I i19, .B b20, .I i21, .I i27]))) ∧ (
 ((aI l6 (D.S s15)) = false) →
    dN.sig.pre [.N n0, .N n1, .N n2, .N n3, .V v4, .I i9, .I i10, .I i18, .I i19, .B b20, .I i21, .L l6, .L l8, .S s16, .S s15, .I 0] ∧ (
 ∀ v24 : Value,
 ∀ l25 l26 : LD,
    dN.sig.post [.N n0, .N n1, .N n2, .N n3, .V v4, .I i9, .I i10, .I i18, .I i19, .B b20, .I i21, .L l6, .L l8, .S s16, .S s15, .I 0, .V v24, .L l25, .L l26] →
 (mapOk (.str) (.int .i64) l25) →
 (EK.ok [.str, .str, .int .i64] (D.L l26)) →
    bG.sig.pre [.B b22] ∧ (
 ∀ i27 : Int,
    bG.sig.post [.B b22, .I i27] →
 R64 i27 →
    fE.sig.post [.N n0, .N n1, .N n2, .N n3, .V v4, .L l5, .L l6, .L l7, .L l8, .I i9, .I i10, .I i11, .I i12, .B b13, .I i14, .S s15, .S s16, .N n1, .N n2, .N n3, .V v24, .L l5, .L l25, .L l7, .L l26, .I i9, .I i10, .I i18, .I i19, .B b20, .I i21, .I i27]))))))))))))))) ∧ (
  bV.sig.pre [.N n0, .N n1, .N n2, .N n3, .V v4, .L l5, .L l6, .L l7, .L l8, .I i9, .I i10, .I i11, .I i12, .B b13, .I i14, .S s15] ∧ (
 ∀ i17 : Int,
  bV.sig.post2 [.N n0, .N n1, .N n2, .N n3, .V v4, .L l5, .L l6, .L l7, .L l8, .I i9, .I i10, .I i11, .I i12, .B b13, .I i14, .S s15, .I i17] →
 R64 i17 →
 ((
 (i17 ≠ 0) →
  fE.sig.post [.N n0, .N n1, .N n2, .N n3, .V v4, .L l5, .L l6, .L l7, .L l8, .I i9, .I i10, .I i11, .I i12, .B b13, .I i14, .S s15, .S s16, .N n1, .N n2, .N n3, .V v4, .L l5, .L l6, .L l7, .L l8, .I i9, .I i10, .I i11, .I i12, .B b13, .I i14, .I i17]) ∧ (
 (i17 = 0) →
 ((
 (s16 = (⟨#[]⟩ : BA)) →
  fE.sig.post [.N n0, .N n1, .N n2, .N n3, .V v4, .L l5, .L l6, .L l7, .L l8, .I i9, .I i10, .I i11, .I i12, .B b13, .I i14, .S s15, .S s16, .N n1, .N n2, .N n3, .V v4, .L l5, .L l6, .L l7, .L l8, .I i9, .I i10, .I i11, .I i12, .B b13, .I i14, .I 1]) ∧ (
 (s16 ≠ (⟨#[]⟩ : BA)) →
 ((
 (s16 = s15) →
   fE.sig.post [.N n0, .N n1, .N n2, .N n3, .V v4, .L l5, .L l6, .L l7, .L l8, .I i9, .I i10, .I i11, .I i12, .B b13, .I i14, .S s15, .S s16, .N n1, .N n2, .N n3, .V v4, .L l5, .L l6, .L l7, .L l8, .I i9, .I i10, .I i11, .I i12, .B b13, .I i14, .I 1]) ∧ (
 (s16 ≠ s15) →
   bJ.sig.pre [.N n0, .N n1, .N n2, .N n3, .V v4, .I i9, .I i10, .I i11, .I i12, .B b13, .I i14] ∧ (
 ∀ i18 i19 : Int,
 ∀ b20 : Bool,
 ∀ i21 : Int,
 ∀ b22 : Bool,
 ∀ i23 : Int,
   bJ.sig.post [.N n0, .N n1, .N n2, .N n3, .V v4, .I i9, .I i10, .I i11, .I i12, .B b13, .I i14, .I i18, .I i19, .B b20, .I i21, .B b22, .I i23] →
 R64 i23 →
 R64 i18 →
 R64 i19 →
 R64 i21 →
 ((
 (i23 ≠ 0) →
   fE.sig.post [.N n0, .N n1, .N n2, .N n3, .V v4, .L l5, .L l6, .L l7, .L l8, .I i9, .I i10, .I i11, .I i12, .B b13, .I i14, .S s15, .S s16, .N n1, .N n2, .N n3, .V v4, .L l5, .L l6, .L l7, .L l8, .I i9, .I i10, .I i18, .I i19, .B b20, .I i21, .I i23]) ∧ (
 (i23 = 0) →
 ((
 ((aI l6 (D.S s15)) = true) →
    dN.sig.pre [.N n0, .N n1, .N n2, .N n3, .V v4, .I i9, .I i10, .I i18, .I i19, .B b20, .I i21, .L l6, .L l8, .S s16, .S s15, (D.I ((aB l6 (D.S s15)).toL.getD (1 : Int).toNat default).toI)] ∧ (
 ∀ v24 : Value,
 ∀ l25 l26 : LD,
    dN.sig.post [.N n0, .N n1, .N n2, .N n3, .V v4, .I i9, .I i10, .I i18, .I i19, .B b20, .I i21, .L l6, .L l8, .S s16, .S s15, (D.I ((aB l6 (D.S s15)).toL.getD (1 : Int).toNat default).toI), .V v24, .L l25, .L l26] →
 (mapOk (.str) (.int .i64) l25) →
 (EK.ok [.str, .str, .int .i64] (D.L l26)) →
    bG.sig.pre [.B b22] ∧ (
 ∀ i27 : Int,
    bG.sig.post [.B b22, .I i27] →
 R64 i27 →
    fE.sig.post [.N n0, .N n1, .N n2, .N n3, .V v4, .L l5, .L l6, .L l7, .L l8, .I i9, .I i10, .I i11, .I i12, .B b13, .I i14, .S s15, .S s16, .N n1, .N n2, .N n3, .V v24, .L l5, .L l25, .L l7, .L l26, .I i9, .I i10, .I i18, .I i19, .B b20, .I i21, .I i27]))) ∧ (
 ((aI l6 (D.S s15)) = false) →
    dN.sig.pre [.N n0, .N n1, .N n2, .N n3, .V v4, .I i9, .I i10, .I i18, .I i19, .B b20, .I i21, .L l6, .L l8, .S s16, .S s15, .I 0] ∧ (
 ∀ v24 : Value,
 ∀ l25 l26 : LD,
    dN.sig.post [.N n0, .N n1, .N n2, .N n3, .V v4, .I i9, .I i10, .I i18, .I i19, .B b20, .I i21, .L l6, .L l8, .S s16, .S s15, .I 0, .V v24, .L l25, .L l26] →
 (mapOk (.str) (.int .i64) l25) →
 (EK.ok [.str, .str, .int .i64] (D.L l26)) →
    bG.sig.pre [.B b22] ∧ (
 ∀ i27 : Int,
    bG.sig.post [.B b22, .I i27] →
 R64 i27 →
    fE.sig.post [.N n0, .N n1, .N n2, .N n3, .V v4, .L l5, .L l6, .L l7, .L l8, .I i9, .I i10, .I i11, .I i12, .B b13, .I i14, .S s15, .S s16, .N n1, .N n2, .N n3, .V v24, .L l5, .L l25, .L l7, .L l26, .I i9, .I i10, .I i18, .I i19, .B b20, .I i21, .I i27]))))))))))))))))
def jG.Pure : Prop :=
 ∀ n0 n1 n2 n3 : Nat,
 ∀ v4 : Value,
 ∀ l5 l6 l7 l8 : LD,
 ∀ i9 i10 i11 i12 : Int,
 ∀ b13 : Bool,
 ∀ i14 : Int,
 ∀ s15 : BA,
 ((s15.size : Int) ≤ 9223372036854775807) →
 R64 i9 →
 R64 i10 →
 R64 i11 →
 R64 i12 →
 R64 i14 →
 (bM (.int .i64) [.str, .int .i64] l5) →
 (mapOk (.str) (.int .i64) l6) →
 (mapOk (.str) (.int .i64) l7) →
 (EK.ok [.str, .str, .int .i64] (D.L l8)) →
 jG.sig.pre [.N n0, .N n1, .N n2, .N n3, .V v4, .L l5, .L l6, .L l7, .L l8, .I i9, .I i10, .I i11, .I i12, .B b13, .I i14, .S s15] →
 ((
  bV.sig.pre [.N n0, .N n1, .N n2, .N n3, .V v4, .L l5, .L l6, .L l7, .L l8, .I i9, .I i10, .I i11, .I i12, .B b13, .I i14, .S s15] ∧ (
 ∀ n16 : Nat,
  bV.sig.post [.N n0, .N n1, .N n2, .N n3, .V v4, .L l5, .L l6, .L l7, .L l8, .I i9, .I i10, .I i11, .I i12, .B b13, .I i14, .S s15, .N n16] →
 ((
 ((0 : Int) ≠ (0 : Int)) →
   jG.sig.post [.N n0, .N n1, .N n2, .N n3, .V v4, .L l5, .L l6, .L l7, .L l8, .I i9, .I i10, .I i11, .I i12, .B b13, .I i14, .S s15, .N n1, .N n2, .N n3, .V v4, .L l5, .L l6, .L l7, .L l8, .I i9, .I i10, .I i11, .I i12, .B b13, .I i14, .I 0]) ∧ (
 ((0 : Int) = (0 : Int)) →
   bJ.sig.pre [.N n0, .N n1, .N n2, .N n3, .V v4, .I i9, .I i10, .I i11, .I i12, .B b13, .I i14] ∧ (
 ∀ i17 i18 : Int,
 ∀ b19 : Bool,
 ∀ i20 : Int,
 ∀ b21 : Bool,
 ∀ i22 : Int,
  bJ.sig.post [.N n0, .N n1, .N n2, .N n3, .V v4, .I i9, .I i10, .I i11, .I i12, .B b13, .I i14, .I i17, .I i18, .B b19, .I i20, .B b21, .I i22] →
 R64 i22 →
 R64 i17 →
 R64 i18 →
 R64 i20 →
 ((
 (i22 ≠ 0) →
  jG.sig.post [.N n0, .N n1, .N n2, .N n3, .V v4, .L l5, .L l6, .L l7, .L l8, .I i9, .I i10, .I i11, .I i12, .B b13, .I i14, .S s15, .N n1, .N n2, .N n3, .V v4, .L l5, .L l6, .L l7, .L l8, .I i9, .I i10, .I i17, .I i18, .B b19, .I i20, .I i22]) ∧ (
 (i22 = 0) →
  dN.sig.pre [.N n0, .N n1, .N n2, .N n3, .V v4, .I i9, .I i10, .I i17, .I i18, .B b19, .I i20, .L l6, .L l8, .S (⟨#[]⟩ : BA), .S s15, .I 0] ∧ (
 ∀ v23 : Value,
 ∀ l24 l25 : LD,
  dN.sig.post [.N n0, .N n1, .N n2, .N n3, .V v4, .I i9, .I i10, .I i17, .I i18, .B b19, .I i20, .L l6, .L l8, .S (⟨#[]⟩ : BA), .S s15, .I 0, .V v23, .L l24, .L l25] →
 (mapOk (.str) (.int .i64) l24) →
 (EK.ok [.str, .str, .int .i64] (D.L l25)) →
  bG.sig.pre [.B b21] ∧ (
 ∀ i26 : Int,
  bG.sig.post [.B b21, .I i26] →
 R64 i26 →
  jG.sig.post [.N n0, .N n1, .N n2, .N n3, .V v4, .L l5, .L l6, .L l7, .L l8, .I i9, .I i10, .I i11, .I i12, .B b13, .I i14, .S s15, .N n1, .N n2, .N n3, .V v23, .L l5, .L l24, .L l7, .L l25, .I i9, .I i10, .I i17, .I i18, .B b19, .I i20, .I i26]))))))))) ∧ (
  bV.sig.pre [.N n0, .N n1, .N n2, .N n3, .V v4, .L l5, .L l6, .L l7, .L l8, .I i9, .I i10, .I i11, .I i12, .B b13, .I i14, .S s15] ∧ (
 ∀ i16 : Int,
  bV.sig.post2 [.N n0, .N n1, .N n2, .N n3, .V v4, .L l5, .L l6, .L l7, .L l8, .I i9, .I i10, .I i11, .I i12, .B b13, .I i14, .S s15, .I i16] →
 R64 i16 →
 ((
 (i16 ≠ 0) →
  jG.sig.post [.N n0, .N n1, .N n2, .N n3, .V v4, .L l5, .L l6, .L l7, .L l8, .I i9, .I i10, .I i11, .I i12, .B b13, .I i14, .S s15, .N n1, .N n2, .N n3, .V v4, .L l5, .L l6, .L l7, .L l8, .I i9, .I i10, .I i11, .I i12, .B b13, .I i14, .I i16]) ∧ (
 (i16 = 0) →
  bJ.sig.pre [.N n0, .N n1, .N n2, .N n3, .V v4, .I i9, .I i10, .I i11, .I i12, .B b13, .I i14] ∧ (
 ∀ i17 i18 : Int,
 ∀ b19 : Bool,
 ∀ i20 : Int,
 ∀ b21 : Bool,
 ∀ i22 : Int,
  bJ.sig.post [.N n0, .N n1, .N n2, .N n3, .V v4, .I i9, .I i10, .I i11, .I i12, .B b13, .I i14, .I i17, .I i18, .B b19, .I i20, .B b21, .I i22] →
 R64 i22 →
 R64 i17 →
 R64 i18 →
 R64 i20 →
 ((
 (i22 ≠ 0) →
  jG.sig.post [.N n0, .N n1, .N n2, .N n3, .V v4, .L l5, .L l6, .L l7, .L l8, .I i9, .I i10, .I i11, .I i12, .B b13, .I i14, .S s15, .N n1, .N n2, .N n3, .V v4, .L l5, .L l6, .L l7, .L l8, .I i9, .I i10, .I i17, .I i18, .B b19, .I i20, .I i22]) ∧ (
 (i22 = 0) →
  dN.sig.pre [.N n0, .N n1, .N n2, .N n3, .V v4, .I i9, .I i10, .I i17, .I i18, .B b19, .I i20, .L l6, .L l8, .S (⟨#[]⟩ : BA), .S s15, .I 0] ∧ (
 ∀ v23 : Value,
 ∀ l24 l25 : LD,
  dN.sig.post [.N n0, .N n1, .N n2, .N n3, .V v4, .I i9, .I i10, .I i17, .I i18, .B b19, .I i20, .L l6, .L l8, .S (⟨#[]⟩ : BA), .S s15, .I 0, .V v23, .L l24, .L l25] →
 (mapOk (.str) (.int .i64) l24) →
 (EK.ok [.str, .str, .int .i64] (D.L l25)) →
  bG.sig.pre [.B b21] ∧ (
 ∀ i26 : Int,
  bG.sig.post [.B b21, .I i26] →
 R64 i26 →
  jG.sig.post [.N n0, .N n1, .N n2, .N n3, .V v4, .L l5, .L l6, .L l7, .L l8, .I i9, .I i10, .I i11, .I i12, .B b13, .I i14, .S s15, .N n1, .N n2, .N n3, .V v23, .L l5, .L l24, .L l7, .L l25, .I i9, .I i10, .I i17, .I i18, .B b19, .I i20, .I i26]))))))))))
def gJ.Pure : Prop :=
 ∀ n0 n1 n2 n3 : Nat,
 ∀ v4 : Value,
 ∀ l5 l6 l7 l8 : LD,
 ∀ i9 i10 i11 i12 : Int,
 ∀ b13 : Bool,
 ∀ i14 : Int,
 ∀ s15 : BA,
 ((s15.size : Int) ≤ 9223372036854775807) →
 R64 i9 →
 R64 i10 →
 R64 i11 →
 R64 i12 →
 R64 i14 →
 (bM (.int .i64) [.str, .int .i64] l5) →
 (mapOk (.str) (.int .i64) l6) →
 (mapOk (.str) (.int .i64) l7) →
 (EK.ok [.str, .str, .int .i64] (D.L l8)) →
 gJ.sig.pre [.N n0, .N n1, .N n2, .N n3, .V v4, .L l5, .L l6, .L l7, .L l8, .I i9, .I i10, .I i11, .I i12, .B b13, .I i14, .S s15] →
 ((
  bV.sig.pre [.N n0, .N n1, .N n2, .N n3, .V v4, .L l5, .L l6, .L l7, .L l8, .I i9, .I i10, .I i11, .I i12, .B b13, .I i14, .S s15] ∧ (
 ∀ n16 : Nat,
  bV.sig.post [.N n0, .N n1, .N n2, .N n3, .V v4, .L l5, .L l6, .L l7, .L l8, .I i9, .I i10, .I i11, .I i12, .B b13, .I i14, .S s15, .N n16] →
 ((
 ((0 : Int) ≠ (0 : Int)) →
   gJ.sig.post [.N n0, .N n1, .N n2, .N n3, .V v4, .L l5, .L l6, .L l7, .L l8, .I i9, .I i10, .I i11, .I i12, .B b13, .I i14, .S s15, .S (⟨#[]⟩ : BA), .I 0]) ∧ (
 ((0 : Int) = (0 : Int)) →
 Im ((dG l5 n16) = true) (
  gJ.sig.post [.N n0, .N n1, .N n2, .N n3, .V v4, .L l5, .L l6, .L l7, .L l8, .I i9, .I i10, .I i11, .I i12, .B b13, .I i14, .S s15, (D.S ((aF l5 n16).toL.getD (2 : Int).toNat default).toS), .I 0]))))) ∧ (
  bV.sig.pre [.N n0, .N n1, .N n2, .N n3, .V v4, .L l5, .L l6, .L l7, .L l8, .I i9, .I i10, .I i11, .I i12, .B b13, .I i14, .S s15] ∧ (
 ∀ i16 : Int,
  bV.sig.post2 [.N n0, .N n1, .N n2, .N n3, .V v4, .L l5, .L l6, .L l7, .L l8, .I i9, .I i10, .I i11, .I i12, .B b13, .I i14, .S s15, .I i16] →
 R64 i16 →
 ((
 (i16 ≠ 0) →
  gJ.sig.post [.N n0, .N n1, .N n2, .N n3, .V v4, .L l5, .L l6, .L l7, .L l8, .I i9, .I i10, .I i11, .I i12, .B b13, .I i14, .S s15, .S (⟨#[]⟩ : BA), .I i16]) ∧ (
 (i16 = 0) →
 Im (false = true) (
  True))))))
def mY.Pure : Prop :=
 ∀ n0 n1 n2 n3 : Nat,
 ∀ v4 : Value,
 ∀ l5 l6 l7 l8 : LD,
 ∀ i9 i10 i11 i12 : Int,
 ∀ b13 : Bool,
 ∀ i14 : Int,
 R64 i9 →
 R64 i10 →
 R64 i11 →
 R64 i12 →
 R64 i14 →
 (bM (.int .i64) [.str, .int .i64] l5) →
 (mapOk (.str) (.int .i64) l6) →
 (mapOk (.str) (.int .i64) l7) →
 (EK.ok [.str, .str, .int .i64] (D.L l8)) →
 mY.sig.pre [.N n0, .N n1, .N n2, .N n3, .V v4, .L l5, .L l6, .L l7, .L l8, .I i9, .I i10, .I i11, .I i12, .B b13, .I i14] →
 ∀ v15 : Value,
 ((
 (b13 = true) →
 ∀ v16 : Value,
  mY.sig.post [.N n0, .N n1, .N n2, .N n3, .V v4, .L l5, .L l6, .L l7, .L l8, .I i9, .I i10, .I i11, .I i12, .B b13, .I i14, .V v16, .L ([] : LD), .I 9]) ∧ (
 (b13 = false) →
 (kE.sig 0).pre [.N n2] ∧ (
 ∀ n16 : Nat,
 (kE.sig 0).post [.N n2, .N n16] →
 (qX.sig 0).pre [.N n16, .N n2, .L l6] ∧ (
 ∀ v17 : Value,
 ∀ l18 : LD,
 (qX.sig 0).post [.N n16, .N n2, .L l6, .V v17, .L l18] →
 (EK.ok [.str] (D.L l18)) →
  mY.sig.post [.N n0, .N n1, .N n2, .N n3, .V v4, .L l5, .L l6, .L l7, .L l8, .I i9, .I i10, .I i11, .I i12, .B b13, .I i14, .V v17, .L l18, .I 0]))))
end Go.Vc
namespace Go.Vc
theorem wG {a b : BA} : aQ (.S a) (.S b) = true ↔ a = b := by
 rw [qK (c := .str) rfl rfl]
 exact ⟨fun h => by injection h, fun h => by rw [h]⟩
theorem oU {a b : BA} : aQ (.S a) (.S b) = false ↔ a ≠ b := by
 rw [← Bool.not_eq_true, wG]
theorem cM9 {l : List (Tx × Nat)} (h : Dk.Sorted l) : ∀ {p q : Tx × Nat}, p ∈ l → q ∈ l → p.1 = q.1 → p = q := by
 induction l with
 | nil => intro p q hp; cases hp
 | cons x l ih =>
  intro p q hp hq he
  obtain ⟨h1, h2⟩ := List.pairwise_cons.1 h
  rcases List.mem_cons.1 hp with e1 | hp'
  ·rcases List.mem_cons.1 hq with e2 | hq'
   ·rw [e1, e2]
   ·have := h1 q hq'
    rw [← e1, he] at this
    exact absurd this (Dk.lt_irrefl _)
  ·rcases List.mem_cons.1 hq with e2 | hq'
   ·have := h1 p hp'
    rw [← e2, ← he] at this
    exact absurd this (Dk.lt_irrefl _)
   ·exact ih h2 hp' hq' he
theorem cI8 {p q : Tx × Nat} (h : dL p = dL q) : p = q := by
 have h : [D.S (bx p.1), .I ((p.2 : Int) + 1)] = [D.S (bx q.1), .I ((q.2 : Int) + 1)] := by injection h
 simp only [List.cons.injEq, D.S.injEq, D.I.injEq, and_true] at h
 have h1 := jQ h.1
 have h2 : p.2 = q.2 := by omega
 exact Prod.ext h1 h2
theorem aT9 {L : LD} {l : List (Tx × Nat)} (h : L.Perm (l.map dL)) (hs : Dk.Sorted l) : aW L := by
 refine (h.pairwise_iff (fun {a b} hab => ?_)).2 ?_
 ·exact (aW1 _ _).trans hab
 ·rw [List.pairwise_map]
  refine hs.imp fun {a b} hab => ?_
  show aQ (.S (bx a.1)) (.S (bx b.1)) = false
  rw [oU]
  intro he
  rw [jQ he] at hab
  exact Dk.lt_irrefl _ hab
theorem aG9 {c : CK} {L : LD} (ho : aW L) {r : D} (hr : r ∈ L) {k : D} (hk : r.key = k) (hw : ∀ q ∈ L, c.word q.key = q.key) : aI L k = true ∧ aB L k = r := by
 subst hk
 have hrr : aQ r.key r.key = true := (qK (hw r hr) (hw r hr)).2 rfl
 have hh : aI L r.key = true := by
  unfold aI
  rw [List.any_eq_true]
  exact ⟨r, hr, hrr⟩
 refine ⟨hh, ?_⟩
 obtain ⟨g1, g2⟩ := aG8 hh
 have e : (aB L r.key).key = r.key := (qK (hw _ g1) (hw r hr)).1 g2
 apply Classical.byContradiction
 intro hne
 have : ∀ {L : LD}, aW L → ∀ {a b : D}, a ∈ L → b ∈ L → a ≠ b → aQ a.key b.key = false ∨ aQ b.key a.key = false := by
  intro L ho
  induction ho with
  | nil => intro a b ha; cases ha
  | cons h1 _ ih =>
   intro a b ha hb hab
   rcases List.mem_cons.1 ha with e1 | ha'
   ·rcases List.mem_cons.1 hb with e2 | hb'
    ·exact absurd (e1.trans e2.symm) hab
    ·exact .inl (by rw [e1]; exact h1 b hb')
   ·rcases List.mem_cons.1 hb with e2 | hb'
    ·exact .inr (by rw [e2]; exact h1 a ha')
    ·exact ih ha' hb' hab
 have hs : aQ (aB L r.key).key r.key = true := by rw [e]; exact hrr
 rcases this ho g1 hr hne with h | h
 ·rw [hs] at h; cases h
 ·rw [aW1, hs] at h; cases h
theorem kK {L : LD} {l : List (Tx × Nat)} (h : L.Perm (l.map dL)) {r : D} : r ∈ L ↔ ∃ p ∈ l, dL p = r := by rw [h.mem_iff, List.mem_map]
theorem aV3 {L : LD} {l : List (Tx × Nat)} (h : L.Perm (l.map dL)) : ∀ q ∈ L, CK.word .str q.key = q.key := by
 intro q hq
 obtain ⟨p, _, rfl⟩ := (kK h).1 hq
 rfl
theorem aB8 {L : LD} {l : List (Tx × Nat)} (h : L.Perm (l.map dL)) (hs : Dk.Sorted l) (s : BA) :
  (Dk.find l (tx s) = none → aI L (.S s) = false) ∧ ∀ i, Dk.find l (tx s) = some i → aI L (.S s) = true ∧ aB L (.S s) = dL (tx s, i) := by
 refine ⟨fun hn => ?_, fun i hi => ?_⟩
 ·rw [Dk.aP1] at hn
  cases hh : aI L (.S s) with
  | false => rfl
  | true =>
   exfalso
   obtain ⟨g1, g2⟩ := aG8 hh
   obtain ⟨p, hp, he⟩ := (kK h).1 g1
   rw [← he] at g2
   have : bx p.1 = s := wG.1 g2
   exact hn p hp (by rw [← this]; rfl)
 ·have hm : dL (tx s, i) ∈ L := (kK h).2 ⟨_, Dk.lV hi, rfl⟩
  exact aG9 (c := .str) (aT9 h hs) hm (by show D.S (bx (tx s)) = _; rw [bx_tx]) (aV3 h)
theorem cD9 {L : LD} (ho : aW L) {k : D} (hk : ∀ {r}, r ∈ L → aQ r.key k = true → ∀ q ∈ L, aQ r.key q.key = false → aQ q.key k = false) {r : D} : r ∈ fK L k ↔ r ∈ L ∧ aQ r.key k = false := by
 induction L with
 | nil => simp [fK]
 | cons x L ih =>
  obtain ⟨h1, h2⟩ := List.pairwise_cons.1 ho
  unfold fK
  split
  ·rename_i hx
   constructor
   ·intro hr
    exact ⟨by simp [hr], hk (by simp) hx r (by simp [hr]) (h1 r hr)⟩
   ·rintro ⟨hr, hn⟩
    rcases List.mem_cons.1 hr with rfl | hr
    ·rw [hx] at hn; cases hn
    ·exact hr
  ·rename_i hx
   rw [List.mem_cons, ih h2 (fun hr hs q hq hn => hk (by simp [hr]) hs q (by simp [hq]) hn), List.mem_cons]
   constructor
   ·rintro (rfl | ⟨h3, h4⟩)
    ·exact ⟨.inl rfl, by simpa using hx⟩
    ·exact ⟨.inr h3, h4⟩
   ·rintro ⟨rfl | h3, h4⟩
    ·exact .inl rfl
    ·exact .inr ⟨h3, h4⟩
theorem cE0 {L : LD} (ho : aW L) {k : D} (hk : ∀ {r}, r ∈ L → aQ r.key k = true → ∀ q ∈ L, aQ r.key q.key = false → aQ q.key k = false) {r v : D} : r ∈ aU L k v ↔ r = v ∨ (r ∈ L ∧ aQ r.key k = false) := by
 induction L with
 | nil => simp [aU]
 | cons x L ih =>
  obtain ⟨h1, h2⟩ := List.pairwise_cons.1 ho
  unfold aU
  split
  ·rename_i hx
   rw [List.mem_cons]
   constructor
   ·rintro (rfl | hr)
    ·exact .inl rfl
    ·exact .inr ⟨by simp [hr], hk (by simp) hx r (by simp [hr]) (h1 r hr)⟩
   ·rintro (rfl | ⟨hr, hn⟩)
    ·exact .inl rfl
    ·rcases List.mem_cons.1 hr with rfl | hr
     ·rw [hx] at hn; cases hn
     ·exact .inr hr
  ·rename_i hx
   rw [List.mem_cons, ih h2 (fun hr hs q hq hn => hk (by simp [hr]) hs q (by simp [hq]) hn), List.mem_cons]
   constructor
   ·rintro (rfl | rfl | ⟨h3, h4⟩)
    ·exact .inr ⟨.inl rfl, by simpa using hx⟩
    ·exact .inl rfl
    ·exact .inr ⟨.inr h3, h4⟩
   ·rintro (rfl | ⟨rfl | h3, h4⟩)
    ·exact .inr (.inl rfl)
    ·exact .inl rfl
    ·exact .inr (.inr ⟨h3, h4⟩)
theorem cJ0 {L : LD} {k v : D} (hn : L.Nodup) (hv : ∀ r ∈ L, r = v → aQ r.key k = true) (hu : ∀ a ∈ L, ∀ b ∈ L, aQ a.key k = true → aQ b.key k = true → a = b) : (aU L k v).Nodup := by
 induction L with
 | nil => simp [aU]
 | cons x L ih =>
  obtain ⟨h1, h2⟩ := List.nodup_cons.1 hn
  unfold aU
  split
  ·rename_i hx
   refine List.nodup_cons.2 ⟨fun hm => ?_, h2⟩
   have h3 := hv v (by simp [hm]) rfl
   have := hu v (by simp [hm]) x (by simp) h3 hx
   exact h1 (this ▸ hm)
  ·rename_i hx
   refine List.nodup_cons.2 ⟨fun hm => ?_, ih h2 (fun r hr => hv r (by simp [hr])) fun a ha b hb => hu a (by simp [ha]) b (by simp [hb])⟩
   have : x = v ∨ x ∈ L := by
    clear ih hv hu hn hx h1 h2
    revert hm
    induction L with
    | nil => intro hm; simpa [aU] using hm
    | cons y L ih =>
     intro hm
     unfold aU at hm
     split at hm
     ·rcases List.mem_cons.1 hm with h | h
      ·exact .inl h
      ·exact .inr (by simp [h])
     ·rcases List.mem_cons.1 hm with h | h
      ·exact .inr (by simp [h])
      ·exact (ih h).imp id fun h => by simp [h]
   rcases this with h | h
   ·exact hx (hv x (by simp) h)
   ·exact h1 h
theorem aL9 {a : Tx} : bx a = ByteArray.empty ↔ a = [] := ⟨fun h => (tx_bx a).symm.trans (congrArg tx h), fun h => by subst h; rfl⟩
theorem aK2 {L : LD} {l : List (Tx × Nat)} (h : L.Perm (l.map dL)) (hs : Dk.Sorted l) (hne : ∀ p ∈ l, p.1 ≠ []) (c : Dk.Cg) {file : Int} (hf : c.name ≠ [] → file = (c.file : Int) + 1) :
  (gY L (bx c.name) (bx c.gone) file).Perm ((Dk.apply l c).map dL) := by
 have side : ∀ {M : LD} (s : BA), (∀ q ∈ M, ∃ p, dL p = q) → ∀ {r}, r ∈ M → aQ r.key (.S s) = true → ∀ q ∈ M, aQ r.key q.key = false → aQ q.key (.S s) = false := by
  intro M s hM r hr h1 q hq h2
  obtain ⟨p, rfl⟩ := hM r hr
  obtain ⟨p', rfl⟩ := hM q hq
  have e1 : bx p.1 = s := wG.1 h1
  have h2 : aQ (.S (bx p.1)) (.S (bx p'.1)) = false := h2
  show aQ (.S (bx p'.1)) (.S s) = false
  rw [oU] at h2 ⊢
  intro e; exact h2 (by rw [e1, e])
 have hall : ∀ q ∈ L, ∃ p, dL p = q := fun q hq => by obtain ⟨p, _, e⟩ := (kK h).1 hq; exact ⟨p, e⟩
 have ho := aT9 h hs
 have hLn : L.Nodup := aF1 (c := .str) ho (aV3 h)
 -- without the name that goes
 obtain ⟨L1, hL1⟩ : ∃ L1, L1 = (if bx c.gone = ByteArray.empty then L else fK L (.S (bx c.gone))) := ⟨_, rfl⟩
 have hsub : L1.Sublist L := by
  rw [hL1]
  split
  ·exact List.Sublist.refl _
  ·clear hall side hL1 ho hLn h
   induction L with
   | nil => exact List.Sublist.refl _
   | cons x L ih =>
    unfold fK
    split
    ·exact List.sublist_cons_self ..
    ·exact ih.cons_cons x
 have hm1 : ∀ r, r ∈ L1 ↔ r ∈ L ∧ aQ r.key (.S (bx c.gone)) = false := by
  intro r
  rw [hL1]
  split
  ·rename_i he
   rw [aL9] at he
   refine ⟨fun hr => ⟨hr, ?_⟩, fun hr => hr.1⟩
   obtain ⟨p, hp, rfl⟩ := (kK h).1 hr
   show aQ (.S (bx p.1)) (.S (bx c.gone)) = false
   rw [oU, he]
   intro e
   exact hne p hp (jQ e)
  ·exact cD9 ho (side _ hall)
 have hall1 : ∀ q ∈ L1, ∃ p, dL p = q := fun q hq => hall q (hsub.subset hq)
 have ho1 : aW L1 := ho.sublist hsub
 have hn1 : L1.Nodup := hsub.nodup hLn
 have hR : ((Dk.apply l c).map dL).Nodup := by
  rw [List.Nodup, List.pairwise_map]
  refine (Dk.aK3 c hs).imp fun {a b} hab he => ?_
  rw [cI8 he] at hab
  exact Dk.lt_irrefl _ hab
 have eA : gY L (bx c.name) (bx c.gone) file = if bx c.name = ByteArray.empty then L1 else aU L1 (.S (bx c.name)) (aG7 (.S (bx c.name)) (.I file)) := by
  unfold gY; dsimp only; rw [← hL1]
 rw [eA]
 by_cases hname : c.name = []
 ·rw [if_pos (aL9.2 hname), List.perm_ext_iff_of_nodup hn1 hR]
  intro r
  rw [hm1, List.mem_map]
  constructor
  ·rintro ⟨hr, hk⟩
   obtain ⟨p, hp, rfl⟩ := (kK h).1 hr
   refine ⟨p, Dk.pX.2 (.inr ⟨hp, ?_, by rw [hname]; exact hne p hp⟩), rfl⟩
   have hk : aQ (.S (bx p.1)) (.S (bx c.gone)) = false := hk
   rw [oU] at hk
   exact fun e => hk (by rw [e])
  ·rintro ⟨p, hp, rfl⟩
   rcases Dk.pX.1 hp with ⟨hn, _⟩ | ⟨h1, h2, _⟩
   ·exact absurd hname hn
   ·refine ⟨(kK h).2 ⟨p, h1, rfl⟩, ?_⟩
    show aQ (.S (bx p.1)) (.S (bx c.gone)) = false
    rw [oU]
    exact fun e => h2 (jQ e)
 ·rw [if_neg (fun he => hname (aL9.1 he))]
  have hnd : (aU L1 (.S (bx c.name)) (aG7 (.S (bx c.name)) (.I file))).Nodup := by
   refine cJ0 hn1 (fun r _ he => ?_) fun a ha b hb h1 h2 => ?_
   ·rw [he]; exact wG.2 rfl
   ·obtain ⟨p, hp, rfl⟩ := (kK h).1 (hsub.subset ha)
    obtain ⟨q, hq, rfl⟩ := (kK h).1 (hsub.subset hb)
    have e1 : bx p.1 = bx c.name := wG.1 h1
    have e2 : bx q.1 = bx c.name := wG.1 h2
    rw [cM9 hs hp hq ((jQ e1).trans (jQ e2).symm)]
  rw [List.perm_ext_iff_of_nodup hnd hR]
  intro r
  rw [cE0 ho1 (side _ hall1), hm1, List.mem_map]
  have hnew : aG7 (.S (bx c.name)) (.I file) = dL (c.name, c.file) := by rw [hf hname]; rfl
  constructor
  ·rintro (rfl | ⟨⟨hr, hk⟩, hk2⟩)
   ·exact ⟨_, Dk.pX.2 (.inl ⟨hname, rfl⟩), hnew.symm⟩
   ·obtain ⟨p, hp, rfl⟩ := (kK h).1 hr
    refine ⟨p, Dk.pX.2 (.inr ⟨hp, ?_, ?_⟩), rfl⟩
    ·have hk : aQ (.S (bx p.1)) (.S (bx c.gone)) = false := hk
     rw [oU] at hk
     exact fun e => hk (by rw [e])
    ·have hk2 : aQ (.S (bx p.1)) (.S (bx c.name)) = false := hk2
     rw [oU] at hk2
     exact fun e => hk2 (by rw [e])
  ·rintro ⟨p, hp, rfl⟩
   rcases Dk.pX.1 hp with ⟨_, rfl⟩ | ⟨h1, h2, h3⟩
   ·exact .inl hnew.symm
   ·refine .inr ⟨⟨(kK h).2 ⟨p, h1, rfl⟩, ?_⟩, ?_⟩
    ·show aQ (.S (bx p.1)) (.S (bx c.gone)) = false
     rw [oU]; exact fun e => h2 (jQ e)
    ·show aQ (.S (bx p.1)) (.S (bx c.name)) = false
     rw [oU]; exact fun e => h3 (jQ e)
theorem bE9 {L : LD} {l : List (Tx × Nat)} (h : L.Perm (l.map dL)) (i : Nat) : bW L ((i : Int) + 1) = l.any fun p => p.2 == i := by
 rw [aQ2 h, bW, List.any_map]
 congr 1
 funext p
 show ((p.2 : Int) + 1 == (i : Int) + 1) = (p.2 == i)
 rw [Bool.eq_iff_iff, beq_iff_eq, beq_iff_eq]
 omega
end Go.Vc
namespace Go.Vc
open Dk (Fi Cg Ds held fileAt)
theorem uP {x : Ds} (h : Dk.Inv x) (i : Nat) : held x i = (x.safe.any (fun p => p.2 == i) || x.pend.any fun c => decide (c.name ≠ []) && c.file == i) := by
 have key : ∀ p ∈ x.names, (x.safe.any (fun q => q.2 == p.2) || x.pend.any fun c => decide (c.name ≠ []) && c.file == p.2) = true := by
  rw [h.names]
  refine Dk.foldl_apply (P := fun p => (x.safe.any (fun q => q.2 == p.2) || x.pend.any fun c => decide (c.name ≠ []) && c.file == p.2) = true) (fun q hq => ?_) fun c hc hn => ?_
  ·rw [Bool.or_eq_true]
   exact .inl (List.any_eq_true.2 ⟨q, hq, by simp⟩)
  ·rw [Bool.or_eq_true]
   exact .inr (List.any_eq_true.2 ⟨c, hc, by simp [hn]⟩)
 unfold held
 cases hn : x.names.any (fun p => p.2 == i) with
 | false => simp
 | true =>
  obtain ⟨p, hp, he⟩ := List.any_eq_true.1 hn
  have he : p.2 = i := by simpa using he
  have := key p hp
  rw [he] at this
  rw [this]; simp
theorem bF4 {x : Ds} (h : Dk.Inv x) {c : Cg} (hc : c.name ≠ [] → c.file < x.files.length) (i : Nat) : held (Dk.turn x c) i = (held x i || (decide (c.name ≠ []) && c.file == i)) := by
 rw [uP (h.turn hc), uP h]
 show (x.safe.any _ || (x.pend ++ [c]).any _) = _
 rw [List.any_append, List.any_cons, List.any_nil, Bool.or_false, Bool.or_assoc]
theorem aQ5 {x : Ds} {p : Tx × Nat} (hp : p ∈ x.names) : held x p.2 = true := by
 unfold held
 rw [Bool.or_eq_true, Bool.or_eq_true]
 exact .inl (.inl (List.any_eq_true.2 ⟨p, hp, by simp⟩))
theorem vF {x : Ds} {i : Nat} : i ∈ aK x ↔ i < x.files.length ∧ held x i = true := by
 unfold aK
 rw [List.mem_filter, List.mem_range]
theorem cD2 (x : Ds) : (aK x).Nodup := List.Pairwise.filter _ List.nodup_range
theorem bR0 (d : Ds) : ∀ (fs : List Fi) (i : Nat), Dk.jM d i fs = (((List.range fs.length).filter fun j => held d (i + j)).map fun j => (fs.getD j ⟨[], 0⟩).data.length).sum
 | [], _ => rfl
 | f :: fs, i => by
  rw [Dk.jM, bR0 d fs (i + 1), List.length_cons, List.range_succ_eq_map, List.filter_cons]
  have e : ((List.range fs.length).map Nat.succ).filter (fun j => held d (i + j)) = ((List.range fs.length).filter fun j => held d (i + 1 + j)).map Nat.succ := by
   rw [List.filter_map]
   congr 1
   apply List.filter_congr
   intro j _
   show held d (i + (j + 1)) = _
   rw [show i + (j + 1) = i + 1 + j from by omega]
  rw [e]
  cases hh : held d i with
  | true =>
   simp only [if_true, List.map_cons, List.sum_cons, List.map_map]
   rfl
  | false =>
   simp only [Bool.false_eq_true, if_false, Nat.zero_add, List.map_map]
   rfl
theorem cN1 (x : Ds) : Dk.used x = ((aK x).map fun i => (fileAt x i).data.length).sum := by
 unfold Dk.used
 rw [bR0]
 unfold aK
 have e : (List.range x.files.length).filter (fun j => held x (0 + j)) = (List.range x.files.length).filter (held x) := List.filter_congr fun j _ => by rw [Nat.zero_add]
 rw [e]
 rfl
def sz (q : D) : Nat := (q.toL.getD 1 default).toS.size
theorem cN0 {LF : LD} {x : Ds} (h : (LF.map strip).Perm (live x)) : dD LF = Dk.used x := by
 rw [cN1]
 have e1 : dD LF = ((LF.map strip).map sz).sum := by rw [List.map_map]; rfl
 rw [e1, (h.map sz).sum_nat, live, List.map_map]
 rfl
theorem cN2 (x : Ds) : Dk.used x ≤ tot x := by
 have : ∀ (fs : List Fi) (i : Nat), Dk.jM x i fs ≤ (fs.map fun f => f.data.length).sum := by
  intro fs
  induction fs with
  | nil => intro i; exact Nat.le_refl _
  | cons f fs ih =>
   intro i
   have := ih (i + 1)
   simp only [Dk.jM, List.map_cons, List.sum_cons]
   split <;> omega
 exact this _ _
theorem cL8 (r : D) : (strip r).key = r.key := rfl
theorem bY1 {LF : LD} {x : Ds} (hF : (LF.map strip).Perm (live x)) {i : Nat} (hi : i < x.files.length) (hh : held x i = true) : ∃ r ∈ LF, strip r = bD i (fileAt x i) := by
 have : bD i (fileAt x i) ∈ LF.map strip := hF.mem_iff.2 (List.mem_map_of_mem (f := fun i => bD i (fileAt x i)) (vF.2 ⟨hi, hh⟩))
 obtain ⟨r, hr, he⟩ := List.mem_map.1 this
 exact ⟨r, hr, he⟩
theorem uF {r : D} {i : Nat} {f : Fi} (h : strip r = bD i f) : r.key = .I ((i : Int) + 1) := by rw [← cL8, h]; rfl
theorem iK {r : D} {i : Nat} {f : Fi} (h : strip r = bD i f) : r.toL.getD 2 default = .S (bx f.data) ∧ r.toL.getD 3 default = .I (f.safe : Int) := by
 have h : [r.key, r.toL.getD 2 default, r.toL.getD 3 default] = [D.I ((i : Int) + 1), .S (bx f.data), .I (f.safe : Int)] := by injection h
 simp only [List.cons.injEq, and_true] at h
 exact h.2
theorem cJ2 {LF : LD} {x : Ds} (hF : (LF.map strip).Perm (live x)) {r : D} (hr : r ∈ LF) : ∃ i, i < x.files.length ∧ held x i = true ∧ strip r = bD i (fileAt x i) := by
 have := hF.mem_iff.1 (List.mem_map_of_mem (f := strip) hr)
 obtain ⟨i, hi, he⟩ := List.mem_map.1 this
 obtain ⟨h1, h2⟩ := vF.1 hi
 exact ⟨i, h1, h2, he.symm⟩
theorem aO5 {LF : LD} {x : Ds} (hk : bM (.int .i64) fiK LF) (hF : (LF.map strip).Perm (live x)) {i : Nat} (hi : i < x.files.length) (hh : held x i = true) :
  aI LF (.I ((i : Int) + 1)) = true ∧ aB LF (.I ((i : Int) + 1)) ∈ LF ∧ strip (aB LF (.I ((i : Int) + 1))) = bD i (fileAt x i) := by
 obtain ⟨r, hr, he⟩ := bY1 hF hi hh
 obtain ⟨h1, h2⟩ := aG9 (c := .int .i64) hk.1 hr (uF he) fun q hq => (hk.2.2 q hq).1.2
 exact ⟨h1, by rw [h2]; exact hr, by rw [h2]; exact he⟩
theorem zX {r r' : D} : ∀ {L : LD}, (aN L).Nodup → r ∈ L → ∃ a b, L = a ++ r :: b ∧ dA L r.snd.toN r' = a ++ r' :: b
 | [], _, h => by cases h
 | x :: L, hn, hr => by
  have hn' := List.nodup_cons.1 hn
  unfold dA
  by_cases hx : x = r
  ·subst hx
   exact ⟨[], L, rfl, by simp⟩
  ·have hr' : r ∈ L := by
    rcases List.mem_cons.1 hr with h | h
    ·exact absurd h.symm hx
    ·exact h
   have hne : (x.snd.toN == r.snd.toN) = false := by
    rw [beq_eq_false_iff_ne]
    intro he
    exact hn'.1 (by show x.snd.toN ∈ List.map (fun r => r.snd.toN) L; rw [he]; exact List.mem_map_of_mem (f := fun r => D.toN (D.snd r)) hr')
   obtain ⟨a, b, e1, e2⟩ := zX (r' := r') hn'.2 hr'
   exact ⟨x :: a, b, by rw [e1]; rfl, by rw [hne, e2]; rfl⟩
theorem bD3 {x : Ds} {i j : Nat} {f : Fi} (hi : i < x.files.length) : fileAt (Dk.set x i f) j = if j = i then f else fileAt x j := by
 unfold fileAt Dk.set
 simp only [List.getD, List.getElem?_set]
 by_cases h : i = j
 ·subst h; simp [hi]
 ·rw [if_neg h, if_neg (Ne.symm h)]
theorem bD5 {LF : LD} {x : Ds} (hn : (aN LF).Nodup) (hF : (LF.map strip).Perm (live x)) {i : Nat} {f' : Fi} {r r' : D} (hi : i < x.files.length) (hh : held x i = true) (hr : r ∈ LF) (hs : strip r = bD i (fileAt x i)) (hs' : strip r' = bD i f') :
  ((dA LF r.snd.toN r').map strip).Perm (live (Dk.set x i f')) := by
 obtain ⟨a, b, e1, e2⟩ := zX (r' := r') hn hr
 have hm : i ∈ aK x := vF.2 ⟨hi, hh⟩
 obtain ⟨A, B, e3⟩ := List.append_of_mem hm
 have hnd := cD2 x
 rw [e3] at hnd
 have hnA : ∀ j ∈ A ++ B, j ≠ i := by
  intro j hj he
  subst he
  have := (List.perm_middle (l₁ := A) (l₂ := B) (a := j)).nodup_iff.1 hnd
  exact (List.nodup_cons.1 this).1 hj
 have e4 : aK (Dk.set x i f') = aK x := by
  unfold aK
  have : (Dk.set x i f').files.length = x.files.length := by simp [Dk.set]
  rw [this]
  rfl
 have l1 : (live x).Perm (bD i (fileAt x i) :: (A ++ B).map fun j => bD j (fileAt x j)) := by
  rw [live, e3, List.map_append, List.map_cons, List.map_append]
  exact List.perm_middle
 have l2 : (live (Dk.set x i f')).Perm (bD i f' :: (A ++ B).map fun j => bD j (fileAt x j)) := by
  rw [live, e4, e3, List.map_append, List.map_cons]
  have eq1 : bD i (fileAt (Dk.set x i f') i) = bD i f' := by rw [bD3 hi, if_pos rfl]
  have eq2 : ∀ C : List Nat, (∀ j ∈ C, j ∈ A ++ B) → C.map (fun j => bD j (fileAt (Dk.set x i f') j)) = C.map fun j => bD j (fileAt x j) := by
   intro C hC
   apply List.map_congr_left
   intro j hj
   rw [bD3 hi, if_neg (hnA j (hC j hj))]
  rw [eq1, eq2 A (fun j hj => by simp [hj]), eq2 B (fun j hj => by simp [hj]), List.map_append]
  exact List.perm_middle
 have m1 : (LF.map strip).Perm (strip r :: (a ++ b).map strip) := by
  rw [e1, List.map_append, List.map_cons, List.map_append]
  exact List.perm_middle
 have m2 : ((dA LF r.snd.toN r').map strip).Perm (strip r' :: (a ++ b).map strip) := by
  rw [e2, List.map_append, List.map_cons, List.map_append]
  exact List.perm_middle
 have m3 : (bD i (fileAt x i) :: (a ++ b).map strip).Perm (bD i (fileAt x i) :: (A ++ B).map fun j => bD j (fileAt x j)) := by
  rw [← hs] at l1 ⊢
  exact m1.symm.trans (hF.trans l1)
 refine m2.trans ?_
 rw [hs']
 exact (m3.cons_inv.cons _).trans l2.symm
theorem bD4 {LF LF' : LD} {x x' : Ds} (hF : (LF.map strip).Perm (live x)) (P : Int → Bool) (hL : LF'.Perm (LF.filter fun r => P r.key.toI)) (hfiles : x'.files = x.files)
  (hP : ∀ i, i < x.files.length → held x i = true → P ((i : Int) + 1) = held x' i) (hsub : ∀ i, i < x.files.length → held x' i = true → held x i = true) : (LF'.map strip).Perm (live x') := by
 have h1 : (LF.filter fun r => P r.key.toI).map strip = (LF.map strip).filter fun q => P q.key.toI := by
  rw [List.filter_map]; rfl
 refine (hL.map strip).trans ?_
 rw [h1]
 refine (hF.filter _).trans (List.Perm.of_eq ?_)
 unfold live
 rw [List.filter_map]
 have h2 : (aK x).filter ((fun q => P q.key.toI) ∘ fun i => bD i (fileAt x i)) = aK x' := by
  unfold aK
  rw [List.filter_filter, hfiles]
  apply List.filter_congr
  intro i hi
  rw [List.mem_range] at hi
  show (P ((i : Int) + 1) && held x i) = held x' i
  cases hh : held x i with
  | true => rw [hP i hi hh, Bool.and_true]
  | false =>
   rw [Bool.and_false]
   cases hh' : held x' i with
   | false => rfl
   | true => rw [hsub i hi hh'] at hh; cases hh
 rw [h2]
 apply List.map_congr_left
 intro i _
 unfold fileAt
 rw [hfiles]
theorem bY3 {LF : LD} {x x' : Ds} (hF : (LF.map strip).Perm (live x)) (hfiles : x'.files = x.files) (hh : ∀ i, i < x.files.length → held x' i = held x i) : (LF.map strip).Perm (live x') := by
 have : live x' = live x := by
  unfold live
  have h2 : aK x' = aK x := by
   unfold aK
   rw [hfiles]
   exact List.filter_congr fun i hi => hh i (List.mem_range.1 hi)
  rw [h2]
  apply List.map_congr_left
  intro i _
  unfold fileAt
  rw [hfiles]
 rw [this]; exact hF
theorem cI9 {L : LD} {k v : D} (h : aI L k = false) : aU L k v = L ++ [v] := by
 induction L with
 | nil => rfl
 | cons x L ih =>
  simp only [aI, List.any_cons, Bool.or_eq_false_iff] at h
  unfold aU
  rw [h.1, ih h.2]
  rfl
theorem no_row {LF : LD} {x : Ds} (hF : (LF.map strip).Perm (live x)) : aI LF (.I ((x.files.length : Int) + 1)) = false := by
 cases hh : aI LF (.I ((x.files.length : Int) + 1)) with
 | false => rfl
 | true =>
  exfalso
  obtain ⟨g1, g2⟩ := aG8 hh
  obtain ⟨i, hi, _, he⟩ := cJ2 hF g1
  rw [uF he] at g2
  have := aW0 g2
  injection this with this
  omega
theorem bY2 {LF : LD} {x : Ds} (hinv : Dk.Inv x) (hF : (LF.map strip).Perm (live x)) {r : D} {name : Tx} (hname : name ≠ []) (hs : strip r = bD x.files.length ⟨[], 0⟩) :
  ((LF ++ [r]).map strip).Perm (live (Dk.turn { x with files := x.files ++ [⟨[], 0⟩] } ⟨[], name, x.files.length⟩)) := by
 obtain ⟨x1, hx1⟩ : ∃ x1, x1 = ({ x with files := x.files ++ [⟨[], 0⟩] } : Ds) := ⟨_, rfl⟩
 have hi1 : Dk.Inv x1 := by rw [hx1]; exact hinv.more
 have hl1 : x1.files.length = x.files.length + 1 := by rw [hx1]; simp
 rw [← hx1]
 have hheld : ∀ i, held (Dk.turn x1 ⟨[], name, x.files.length⟩) i = (held x i || x.files.length == i) := by
  intro i
  rw [bF4 hi1 (fun _ => by rw [hl1]; exact Nat.lt_succ_self _)]
  have : held x1 i = held x i := by rw [hx1]; rfl
  rw [this]
  simp [hname]
 have hix : aK (Dk.turn x1 ⟨[], name, x.files.length⟩) = aK x ++ [x.files.length] := by
  unfold aK
  show (List.range x1.files.length).filter _ = _
  rw [hl1, List.range_succ, List.filter_append]
  congr 1
  ·apply List.filter_congr
   intro i hi
   rw [List.mem_range] at hi
   rw [hheld i]
   have : (x.files.length == i) = false := by rw [beq_eq_false_iff_ne]; omega
   rw [this, Bool.or_false]
  ·rw [List.filter_cons, hheld]; simp
 unfold live
 rw [hix, List.map_append, List.map_append]
 refine List.Perm.append ?_ ?_
 ·refine hF.trans (List.Perm.of_eq ?_)
  unfold live
  apply List.map_congr_left
  intro i hi
  have hi := (vF.1 hi).1
  have : fileAt (Dk.turn x1 ⟨[], name, x.files.length⟩) i = fileAt x i := by
   show (x1.files.getD i _) = _
   rw [hx1]
   simp [fileAt, List.getD, List.getElem?_append_left hi]
  rw [this]
 ·have : fileAt (Dk.turn x1 ⟨[], name, x.files.length⟩) x.files.length = ⟨[], 0⟩ := by
   show (x1.files.getD _ _) = _
   rw [hx1]
   simp [List.getD]
  simp only [List.map_cons, List.map_nil, this, hs]
  exact List.Perm.refl _
theorem aL1 {x : Ds} {c f : Int} {d : Bool} {n : Int} {st : Bool} {e : Int} (h : (c, f, d, n, st, e) = dW x.crash x.fail x.dead x.calls) :
  Dk.begin x = ({ x with crash := c, fail := f, dead := d, calls := n }, st, if st then 9 else e) ∧ (e ≠ 0 → st = false) ∧ (e = 0 ∨ 0 < e) ∧ (x.calls = n ∨ x.calls + 1 = n) := by
 unfold dW at h
 unfold Dk.begin
 obtain ⟨files, names, safe, pend, room, crash, fail, dead, calls⟩ := x
 dsimp only at h ⊢
 split at h
 ·rename_i hd
  simp only [Prod.mk.injEq] at h
  obtain ⟨rfl, rfl, rfl, rfl, rfl, rfl⟩ := h
  simp [hd]
 ·rename_i hd
  split at h
  ·rename_i hf
   simp only [Prod.mk.injEq] at h
   obtain ⟨rfl, rfl, rfl, rfl, rfl, rfl⟩ := h
   simp [hd, hf]
  ·rename_i hf
   split at h
   ·rename_i hc
    simp only [Prod.mk.injEq] at h
    obtain ⟨rfl, rfl, rfl, rfl, rfl, rfl⟩ := h
    by_cases hp : fail > 0 <;> simp [hd, hf, hc, hp]
   ·rename_i hc
    simp only [Prod.mk.injEq] at h
    obtain ⟨rfl, rfl, rfl, rfl, rfl, rfl⟩ := h
    by_cases hp : fail > 0 <;> by_cases hq : crash > 0 <;> simp [hd, hf, hc, hp, hq]
end Go.Vc
namespace Go.Vc
open Dk (Fi Cg Ds held fileAt)
structure Rp (l5 l6 l7 l8 : LD) (i9 i10 i11 i12 : Int) (b13 : Bool) (i14 : Int) (x : Ds) : Prop where
 names : l6.Perm (x.names.map dL)
 safe : l7.Perm (x.safe.map dL)
 pend : l8 = x.pend.map cgD
 files : (l5.map strip).Perm (live x)
 next : i9 = (x.files.length : Int) + 1
 room : i10 = x.room
 crash : i11 = x.crash
 fail : i12 = x.fail
 dead : b13 = x.dead
 calls : i14 = x.calls
section
variable {l5 l6 l7 l8 : LD} {i9 i10 i11 i12 i14 : Int} {b13 : Bool} {x : Ds}
theorem Rp.nJ (h : Rp l5 l6 l7 l8 i9 i10 i11 i12 b13 i14 x) (s : Small x) (hk : bM (.int .i64) fiK l5) : ∀ r ∈ l6, aI l5 r.snd = true := by
 intro r hr
 obtain ⟨p, hp, rfl⟩ := (kK h.names).1 hr
 exact (aO5 hk h.files (s.inv.inn p hp) (aQ5 hp)).1
theorem Rp.jV (h : Rp l5 l6 l7 l8 i9 i10 i11 i12 b13 i14 x) (s : Small x) (hk : bM (.int .i64) fiK l5) {nm : BA} {n : Nat} (hh : aI l6 (.S nm) = true) (hn : n = (aB l5 (aB l6 (.S nm)).snd).snd.toN) :
  ∃ i, Dk.find x.names (tx nm) = some i ∧ i < x.files.length ∧ held x i = true ∧ dG l5 n = true ∧ aF l5 n ∈ l5 ∧ (aF l5 n).snd.toN = n ∧ strip (aF l5 n) = bD i (fileAt x i) := by
 obtain ⟨f1, f2⟩ := aB8 h.names s.inv.sn nm
 cases hf : Dk.find x.names (tx nm) with
 | none => rw [f1 hf] at hh; cases hh
 | some i =>
  have hm := Dk.lV hf
  obtain ⟨_, g2⟩ := f2 i hf
  have hi := s.inv.inn _ hm
  have hhd := aQ5 hm
  obtain ⟨g3, g4, g5⟩ := aO5 hk h.files hi hhd
  have hn : n = (aB l5 (.I ((i : Int) + 1))).snd.toN := by rw [hn, g2]; rfl
  obtain ⟨a1, a2⟩ := zY hk.2.1 g4
  rw [← hn] at a1 a2
  exact ⟨i, rfl, hi, hhd, a1, by rw [a2]; exact g4, by rw [a2, hn], by rw [a2]; exact g5⟩
theorem Rp.aP0 (h : Rp l5 l6 l7 l8 i9 i10 i11 i12 b13 i14 x) (s : Small x) {nm : BA} (hh : aI l6 (.S nm) = false) : Dk.find x.names (tx nm) = none := by
 obtain ⟨f1, f2⟩ := aB8 h.names s.inv.sn nm
 cases hf : Dk.find x.names (tx nm) with
 | none => rfl
 | some i => rw [(f2 i hf).1] at hh; cases hh
theorem Rp.tC (h : Rp l5 l6 l7 l8 i9 i10 i11 i12 b13 i14 x) (s : Small x) : 0 ≤ i14 ∧ i14 ≤ 1000000000 := by
 have := h.calls; have := s.calls; omega
theorem Rp.begin (h : Rp l5 l6 l7 l8 i9 i10 i11 i12 b13 i14 x) {c f n e : Int} {d st : Bool} (he : (c, f, d, n, st, e) = dW i11 i12 b13 i14) :
  Dk.begin x = ({ x with crash := c, fail := f, dead := d, calls := n }, st, if st then 9 else e) ∧ Rp l5 l6 l7 l8 i9 i10 c f d n { x with crash := c, fail := f, dead := d, calls := n } ∧ (e ≠ 0 → st = false) := by
 rw [h.crash, h.fail, h.dead, h.calls] at he
 obtain ⟨h1, h2, h3⟩ := aL1 he
 exact ⟨h1, ⟨h.names, h.safe, h.pend, h.files, h.next, h.room, rfl, rfl, rfl, rfl⟩, h2⟩
theorem Rp.lens (h : Rp l5 l6 l7 l8 i9 i10 i11 i12 b13 i14 x) (s : Small x) : l5.length ≤ 10000000 ∧ l6.length ≤ 10000000 ∧ l7.length ≤ 10000000 ∧ l8.length ≤ 10000000 ∧ 1 ≤ i9 ∧ i9 ≤ 10000001 := by
 have h1 := h.files.length_eq
 rw [List.length_map, live, List.length_map] at h1
 have h2 : (aK x).length ≤ x.files.length := by
  unfold aK
  have := List.length_filter_le (held x) (List.range x.files.length)
  rwa [List.length_range] at this
 have h3 := h.names.length_eq
 rw [List.length_map] at h3
 have h4 := h.safe.length_eq
 rw [List.length_map] at h4
 have h5 : l8.length = x.pend.length := by rw [h.pend, List.length_map]
 have h6 : x.names.length ≤ x.safe.length + x.pend.length := by rw [s.inv.names]; exact Dk.xM _ _
 have := s.files; have := s.names; have := h.next
 omega
theorem Rp.used (h : Rp l5 l6 l7 l8 i9 i10 i11 i12 b13 i14 x) : dD l5 = Dk.used x := cN0 h.files
theorem Rp.bR3 (h : Rp l5 l6 l7 l8 i9 i10 i11 i12 b13 i14 x) (s : Small x) : dD l5 ≤ 1000000000000 := by
 have := cN2 x; have := s.bytes; have := h.used
 omega
theorem Rp.turn (h : Rp l5 l6 l7 l8 i9 i10 i11 i12 b13 i14 x) (hinv : Dk.Inv x) {c : Cg} {nm gn : BA} {file : Int} {l6' l8' : LD} (h6 : l6' = gY l6 nm gn file) (h8 : l8' = l8 ++ [qJ nm gn file])
  (hn : nm = bx c.name) (hg : gn = bx c.gone) (hf : file = if c.name = [] then 0 else (c.file : Int) + 1) (hc : c.name ≠ [] → c.file < x.files.length ∧ held x c.file = true) : Rp l5 l6' l7 l8' i9 i10 i11 i12 b13 i14 (Dk.turn x c) := by
 subst hn hg
 refine ⟨?_, h.safe, ?_, ?_, h.next, h.room, h.crash, h.fail, h.dead, h.calls⟩
 ·rw [h6]
  exact aK2 h.names hinv.sn hinv.nne c (fun hne => by rw [hf, if_neg hne])
 ·rw [h8, h.pend]
  show _ = (x.pend ++ [c]).map cgD
  rw [List.map_append]
  congr 1
  show [qJ (bx c.name) (bx c.gone) file] = [cgD c]
  rw [hf]; rfl
 ·refine bY3 h.files rfl fun i _ => ?_
  rw [bF4 hinv (fun hne => (hc hne).1)]
  cases hh : held x i with
  | true => rfl
  | false =>
   by_cases hne : c.name = []
   ·simp [hne]
   ·have : (c.file == i) = false := by
     rw [beq_eq_false_iff_ne]
     intro he
     rw [← he, (hc hne).2] at hh
     cases hh
    rw [this]; simp
end
theorem eF {n0 n1 n2 n3 : Nat} {v4 : Value} {l5 l6 l7 l8 : LD} {i9 i10 i11 i12 i14 : Int} {b13 : Bool} {tl : LD} {x : Ds}
  (h : bH (.N n0 :: .N n1 :: .N n2 :: .N n3 :: .V v4 :: .L l5 :: .L l6 :: .L l7 :: .L l8 :: .I i9 :: .I i10 :: .I i11 :: .I i12 :: .B b13 :: .I i14 :: tl) 1 x) : Rp l5 l6 l7 l8 i9 i10 i11 i12 b13 i14 x :=
 ⟨h.1, h.2, h.3, h.4, h.5, h.6, h.7, h.8, h.9, h.10⟩
theorem gJ.pure : gJ.Pure := by
 intro n0 n1 n2 n3 v4 l5 l6 l7 l8 i9 i10 i11 i12 b13 i14 s15 _ _ _ _ _ _ hk _ _ _ hp
 obtain ⟨x0, hx0, sx0⟩ := hp
 have hx0 := eF hx0
 refine ⟨⟨hx0.nJ sx0 hk, fun n16 hf => ⟨fun h => absurd rfl h, fun _ => ?_⟩⟩, hx0.nJ sx0 hk, fun i16 hf _ => ⟨fun hne => ?_, fun h0 => ?_⟩⟩
 ·obtain ⟨f1, f2, f3⟩ : b13 = false ∧ aI l6 (.S s15) = true ∧ n16 = (aB l5 (aB l6 (.S s15)).snd).snd.toN := hf
  obtain ⟨_, _, _, _, a1, _⟩ := hx0.jV sx0 hk f2 f3
  refine ⟨a1, fun _ => ?_⟩
  intro x hx sx
  have hx := eF hx
  obtain ⟨i, b1, b2, b3, b4, b5, b6, b7⟩ := hx.jV sx hk f2 f3
  show (tx (((aF l5 n16).toL.getD 2 default).toS), (0 : Int)) = Dk.read x (tx s15)
  unfold Dk.read
  rw [← hx.dead, f1, b1, (iK b7).1]
  rfl
 ·obtain ⟨f1, f2⟩ : i16 = (if b13 then 9 else 5) ∧ (b13 = false → aI l6 (.S s15) = false) := hf
  intro x hx sx
  have hx := eF hx
  show (tx ⟨#[]⟩, i16) = Dk.read x (tx s15)
  unfold Dk.read
  rw [← hx.dead]
  cases hb : b13 with
  | true => rw [f1, hb]; rfl
  | false => rw [hx.aP0 sx (f2 hb), f1, hb]; rfl
 ·obtain ⟨f1, _⟩ : i16 = (if b13 then 9 else 5) ∧ (b13 = false → aI l6 (.S s15) = false) := hf
  exfalso
  rw [h0] at f1
  cases b13 <;> simp at f1
theorem eP.pure : eP.Pure := by
 intro n0 n1 n2 n3 v4 l5 l6 l7 l8 i9 i10 i11 i12 b13 i14 s15 _ _ _ _ _ _ hk _ _ _ hp
 have fin : ∀ {m1 m2 m3 : Nat} {u4 : Value} {k5 k6 k7 k8 : LD} {j9 j10 j11 j12 j14 e : Int} {c13 : Bool}, (∀ x, Rp l5 l6 l7 l8 i9 i10 i11 i12 b13 i14 x → Small x → Rp k5 k6 k7 k8 j9 j10 j11 j12 c13 j14 (Dk.create x (tx s15)).1 ∧ e = (Dk.create x (tx s15)).2) →
   eP.sig.post [.N n0, .N n1, .N n2, .N n3, .V v4, .L l5, .L l6, .L l7, .L l8, .I i9, .I i10, .I i11, .I i12, .B b13, .I i14, .S s15, .N m1, .N m2, .N m3, .V u4, .L k5, .L k6, .L k7, .L k8, .I j9, .I j10, .I j11, .I j12, .B c13, .I j14, .I e] := by
  intro m1 m2 m3 u4 k5 k6 k7 k8 j9 j10 j11 j12 j14 e c13 h x hx sx
  obtain ⟨h1, h2⟩ := h x (eF hx) sx
  exact ⟨⟨h1.1, h1.2, h1.3, h1.4, h1.5, h1.6, h1.7, h1.8, h1.9, h1.10⟩, h2⟩
 obtain ⟨x0, hx0, sx0⟩ := hp
 have hx0 := eF hx0
 have hl := hx0.lens sx0
 refine ⟨fun hb => fin fun x hx sx => ?_, fun hb => ⟨fun hs => fin fun x hx sx => ?_, fun hs => ⟨fun hh => fin fun x hx sx => ?_, fun hh => ⟨hx0.tC sx0, ?_⟩⟩⟩⟩
 ·unfold Dk.create
  rw [← hx.dead, hb]
  exact ⟨by subst hb; exact hx, rfl⟩
 ·have hn : tx s15 = [] := by rw [hs]; rfl
  unfold Dk.create
  rw [← hx.dead, hb, hn]
  exact ⟨by subst hb; exact hx, rfl⟩
 ·have hne : tx s15 ≠ [] := fun e => hs (by rw [← bx_tx s15, e]; rfl)
  have hfd : (Dk.find x.names (tx s15)).isSome = true := by
   cases hf : Dk.find x.names (tx s15) with
   | some i => rfl
   | none => rw [(aB8 hx.names sx.inv.sn s15).1 hf] at hh; cases hh
  unfold Dk.create
  rw [← hx.dead, hb, if_neg (by simp), if_neg hne, if_pos hfd]
  exact ⟨by subst hb; exact hx, rfl⟩
 ·have hne : tx s15 ≠ [] := fun e => hs (by rw [← bx_tx s15, e]; rfl)
  have cr : ∀ x, Rp l5 l6 l7 l8 i9 i10 i11 i12 b13 i14 x → Small x → Dk.create x (tx s15) = (match Dk.begin x with | (d, stops, e) => if e ≠ 0 ∧ stops = false then (d, e) else (Dk.turn { d with files := d.files ++ [⟨[], 0⟩] } ⟨[], tx s15, d.files.length⟩, e)) := by
   intro x hx sx
   unfold Dk.create
   rw [← hx.dead, hb, if_neg (by simp), if_neg hne, hx.aP0 sx hh]
   rfl
  intro i16 i17 b18 i19 b20 i21 hbeg _ _ _ _
  have hbeg : (i16, i17, b18, i19, b20, i21) = dW i11 i12 b13 i14 := hbeg
  refine ⟨fun he => fin fun x hx sx => ?_, fun he n22 => ⟨?_, fun _ => ⟨(⟨by omega, by omega⟩ : l6.length ≤ 100000000 ∧ l8.length ≤ 100000000), fun v23 l24 l25 ht _ _ => ⟨trivial, fun i26 hend _ => fin fun x hx sx => ?_⟩⟩⟩⟩
  ·obtain ⟨b1, b2, b3⟩ := hx.begin hbeg
   rw [cr x hx sx, b1, b3 he]
   dsimp only
   rw [if_pos ⟨by simpa using he, rfl⟩]
   exact ⟨b2, by simp⟩
  ·have := wB l5 (.I i9) (D.L [D.I i9, .N n22, .S ⟨#[]⟩, .I 0])
   have hl1 := hl.1
   show (((aU l5 (.I i9) (D.L [D.I i9, .N n22, .S ⟨#[]⟩, .I 0])).length : Nat) : Int) ≤ 1000000000
   omega
  ·obtain ⟨b1, b2, b3⟩ := hx.begin hbeg
   obtain ⟨t1, t2⟩ : l24 = gY l6 s15 ⟨#[]⟩ i9 ∧ l25 = l8 ++ [qJ s15 ⟨#[]⟩ i9] := ht
   have hend : i26 = if b20 then 9 else 0 := hend
   have hnot : ¬ ((if b20 then (9 : Int) else i21) ≠ 0 ∧ b20 = false) := by
    rintro ⟨h1, h2⟩
    rw [h2] at h1
    exact h1 (by simpa using he)
   rw [cr x hx sx, b1]
   dsimp only
   rw [if_neg hnot]
   refine ⟨?_, by rw [hend, he]⟩
   obtain ⟨x1, hx1⟩ : ∃ x1, x1 = ({ x with crash := i16, fail := i17, dead := b18, calls := i19 } : Ds) := ⟨_, rfl⟩
   rw [← hx1] at b2
   have hi1 : Dk.Inv x1 := sx.inv.same (by rw [hx1]) (by rw [hx1]) (by rw [hx1]) (by rw [hx1])
   have hnew := bY2 hi1 b2.files (r := .L [.I i9, .N n22, .S ⟨#[]⟩, .I 0]) (name := tx s15) hne (by rw [b2.next]; rfl)
   have hno := no_row b2.files
   rw [← b2.next] at hno
   have hset : aU l5 (.I i9) (D.L [D.I i9, .N n22, .S ⟨#[]⟩, .I 0]) = l5 ++ [D.L [D.I i9, .N n22, .S ⟨#[]⟩, .I 0]] := cI9 hno
   have hw : IntKind.i64.wrap (i9 + 1) = i9 + 1 := wrap64 (by omega) (by omega)
   have hns := aK2 b2.names hi1.sn hi1.nne ⟨[], tx s15, x1.files.length⟩ (file := i9) (fun _ => b2.next)
   have e0 : bx (tx s15) = s15 := bx_tx s15
   have goal : Rp (aU l5 (.I i9) (D.L [D.I i9, .N n22, .S ⟨#[]⟩, .I 0])) l24 l7 l25 (IntKind.i64.wrap (i9 + 1)) i10 i16 i17 b18 i19 (Dk.turn { x1 with files := x1.files ++ [⟨[], 0⟩] } ⟨[], tx s15, x1.files.length⟩) := by
    refine ⟨?_, b2.safe, ?_, ?_, ?_, b2.room, b2.crash, b2.fail, b2.dead, b2.calls⟩
    ·rw [t1]
     rw [show bx (Cg.mk [] (tx s15) x1.files.length).name = s15 from e0] at hns
     exact hns
    ·rw [t2, b2.pend]
     show _ = (x1.pend ++ [_]).map cgD
     rw [List.map_append]
     congr 1
     show [qJ s15 ⟨#[]⟩ i9] = [cgD ⟨[], tx s15, x1.files.length⟩]
     have : cgD ⟨[], tx s15, x1.files.length⟩ = .L [.S (bx (tx s15)), .S (bx []), .I ((x1.files.length : Int) + 1)] := by
      unfold cgD; dsimp only; rw [if_neg hne]
     rw [this, e0, ← b2.next]; rfl
    ·rw [hset]; exact hnew
    ·rw [hw, b2.next]
     show _ = (((x1.files ++ [_]).length : Nat) : Int) + 1
     rw [List.length_append]; simp
   rw [hx1] at goal
   exact goal
end Go.Vc
namespace Go.Vc
open Dk (Fi Cg Ds held fileAt)
theorem yG {n0 n1 n2 n3 : Nat} {v4 : Value} {l5 l6 l7 l8 : LD} {i9 i10 i11 i12 i14 : Int} {b13 : Bool} {mid : LD} {m1 m2 m3 : Nat} {u4 : Value} {k5 k6 k7 k8 : LD} {j9 j10 j11 j12 j14 e : Int} {c13 : Bool} {op : Ds → Ds × Int} {k : Nat}
  (_hk : k = 15 + mid.length) (hm : ∀ i, i < 16 → arg (.N n0 :: .N n1 :: .N n2 :: .N n3 :: .V v4 :: .L l5 :: .L l6 :: .L l7 :: .L l8 :: .I i9 :: .I i10 :: .I i11 :: .I i12 :: .B b13 :: .I i14 :: (mid ++ [.N m1, .N m2, .N m3, .V u4, .L k5, .L k6, .L k7, .L k8, .I j9, .I j10, .I j11, .I j12, .B c13, .I j14, .I e])) (k + i) = arg [.N m1, .N m2, .N m3, .V u4, .L k5, .L k6, .L k7, .L k8, .I j9, .I j10, .I j11, .I j12, .B c13, .I j14, .I e] i)
  (h : ∀ x, Rp l5 l6 l7 l8 i9 i10 i11 i12 b13 i14 x → Small x → Rp k5 k6 k7 k8 j9 j10 j11 j12 c13 j14 (op x).1 ∧ e = (op x).2) :
  oL (.N n0 :: .N n1 :: .N n2 :: .N n3 :: .V v4 :: .L l5 :: .L l6 :: .L l7 :: .L l8 :: .I i9 :: .I i10 :: .I i11 :: .I i12 :: .B b13 :: .I i14 :: (mid ++ [.N m1, .N m2, .N m3, .V u4, .L k5, .L k6, .L k7, .L k8, .I j9, .I j10, .I j11, .I j12, .B c13, .I j14, .I e])) k op := by
 intro x hx sx
 obtain ⟨h1, h2⟩ := h x (eF hx) sx
 refine ⟨⟨?_, ?_, ?_, ?_, ?_, ?_, ?_, ?_, ?_, ?_⟩, ?_⟩
 ·rw [hm 5 (by omega)]; exact h1.1
 ·rw [hm 6 (by omega)]; exact h1.2
 ·rw [hm 7 (by omega)]; exact h1.3
 ·rw [hm 4 (by omega)]; exact h1.4
 ·rw [hm 8 (by omega)]; exact h1.5
 ·rw [hm 9 (by omega)]; exact h1.6
 ·rw [hm 10 (by omega)]; exact h1.7
 ·rw [hm 11 (by omega)]; exact h1.8
 ·rw [hm 12 (by omega)]; exact h1.9
 ·rw [hm 13 (by omega)]; exact h1.10
 ·rw [hm 14 (by omega)]; exact h2
theorem bO3 {r : D} : ∀ {L : LD}, r ∈ L → sizeOf r ≤ dD L
 | [], h => by cases h
 | x :: L, h => by
  show sizeOf r ≤ sizeOf x + dD L
  rcases List.mem_cons.1 h with rfl | h
  ·omega
  ·have := bO3 h; omega
theorem aB7 {b : Bool} {i : Int} (h : i = (if b then 9 else 5)) : i ≠ 0 := by
 rw [h]; cases b <;> simp
section
variable {l5 l6 l7 l8 : LD} {i9 i10 i11 i12 i14 : Int} {b13 : Bool} {x : Ds}
theorem Rp.none (h : Rp l5 l6 l7 l8 i9 i10 i11 i12 b13 i14 x) (s : Small x) {nm : BA} {i : Int} (hi : i = (if b13 then 9 else 5)) (hh : b13 = false → aI l6 (.S nm) = false) :
  (∀ t, Dk.append x (tx nm) t = (x, i)) ∧ Dk.sync x (tx nm) = (x, i) ∧ (∀ t, Dk.rename x (tx nm) t = (x, i)) ∧ Dk.remove x (tx nm) = (x, i) := by
 unfold Dk.append Dk.sync Dk.rename Dk.remove
 rw [← h.dead]
 cases hb : b13 with
 | true => rw [hi, hb]; simp
 | false => rw [h.aP0 s (hh hb), hi, hb]; simp
end
theorem fD.pure : fD.Pure := by
 intro n0 n1 n2 n3 v4 l5 l6 l7 l8 i9 i10 i11 i12 b13 i14 s15 s16 _ _ _ _ _ _ _ hk _ _ _ hp
 obtain ⟨x0, hx0, sx0⟩ := hp
 have hx0 := eF hx0
 have fin : ∀ {m1 m2 m3 : Nat} {u4 : Value} {k5 k6 k7 k8 : LD} {j9 j10 j11 j12 j14 e : Int} {c13 : Bool}, (∀ x, Rp l5 l6 l7 l8 i9 i10 i11 i12 b13 i14 x → Small x → Rp k5 k6 k7 k8 j9 j10 j11 j12 c13 j14 (Dk.append x (tx s15) (tx s16)).1 ∧ e = (Dk.append x (tx s15) (tx s16)).2) →
   fD.sig.post [.N n0, .N n1, .N n2, .N n3, .V v4, .L l5, .L l6, .L l7, .L l8, .I i9, .I i10, .I i11, .I i12, .B b13, .I i14, .S s15, .S s16, .N m1, .N m2, .N m3, .V u4, .L k5, .L k6, .L k7, .L k8, .I j9, .I j10, .I j11, .I j12, .B c13, .I j14, .I e] :=
  fun h => yG (mid := [.S s15, .S s16]) rfl (fun i hi => by rw [show 17 + i = i + 17 from by omega]; rfl) h
 have frp : dD l5 ≤ 1000000000000 ∧ 0 ≤ i10 := ⟨hx0.bR3 sx0, by have := hx0.room; have := sx0.room; omega⟩
 refine ⟨⟨hx0.nJ sx0 hk, fun n17 hf => ⟨fun h => absurd rfl h, fun _ => ⟨frp, fun i18 hfr _ => ⟨fun hlt => fin fun x hx sx => ?_, fun hge => ⟨hx0.tC sx0, ?_⟩⟩⟩⟩⟩, hx0.nJ sx0 hk, fun i17 hf _ => ⟨fun hne => fin fun x hx sx => ?_, fun h0 => ?_⟩⟩
 ·obtain ⟨f1, f2, f3⟩ : b13 = false ∧ aI l6 (.S s15) = true ∧ n17 = (aB l5 (aB l6 (.S s15)).snd).snd.toN := hf
  obtain ⟨i, b1, b2, b3, b4, b5, b6, b7⟩ := hx.jV sx hk f2 f3
  have hfr : i18 = max (i10 - dD l5) 0 := hfr
  have hd : x.dead = false := by rw [← hx.dead]; exact f1
  have e : Dk.append x (tx s15) (tx s16) = (x, 7) := by
   unfold Dk.append
   rw [hd, b1]
   simp only [Bool.false_eq_true, if_false]
   rw [if_pos]
   unfold Dk.free
   rw [← hx.used, ← hx.room, ← hfr]
   exact hlt
  rw [e]
  exact ⟨hx, rfl⟩
 ·obtain ⟨f1, f2, f3⟩ : b13 = false ∧ aI l6 (.S s15) = true ∧ n17 = (aB l5 (aB l6 (.S s15)).snd).snd.toN := hf
  have hfr : i18 = max (i10 - dD l5) 0 := hfr
  have ap : ∀ x, Rp l5 l6 l7 l8 i9 i10 i11 i12 b13 i14 x → Small x → ∀ i, Dk.find x.names (tx s15) = some i → Dk.append x (tx s15) (tx s16) = (match Dk.begin x with | (d, stops, e) => if e ≠ 0 ∧ stops = false then (d, e) else (Dk.set d i ⟨(fileAt d i).data ++ tx s16, (fileAt d i).safe⟩, e)) := by
   intro x hx sx i hi
   have hd : x.dead = false := by rw [← hx.dead]; exact f1
   unfold Dk.append
   rw [hd, hi]
   simp only [Bool.false_eq_true, if_false]
   rw [if_neg]
   unfold Dk.free
   rw [← hx.used, ← hx.room, ← hfr]
   have : ((tx s16).length : Int) = (s16.size : Int) := by rw [wL]
   omega
  intro i19 i20 b21 i22 b23 i24 hbeg _ _ _ _
  have hbeg : (i19, i20, b21, i22, b23, i24) = dW i11 i12 b13 i14 := hbeg
  refine ⟨fun he => fin fun x hx sx => ?_, fun he => ?_⟩
  ·obtain ⟨i, b1, _⟩ := hx.jV sx hk f2 f3
   obtain ⟨g1, g2, g3⟩ := hx.begin hbeg
   rw [ap x hx sx i b1, g1, g3 he]
   dsimp only
   rw [if_pos ⟨by simpa using he, rfl⟩]
   exact ⟨g2, by simp⟩
  ·obtain ⟨i, b1, b2, b3, b4, b5, b6, b7⟩ := hx0.jV sx0 hk f2 f3
   refine ⟨b4, fun _ => ⟨?_, fun _ => ⟨trivial, fun i25 hend _ => fin fun x hx sx => ?_⟩⟩⟩
   ·have hd := (iK b7).1
    show ((((((aF l5 n17).toL.getD 2 default).toS ++ s16).size : Nat)) : Int) ≤ 9223372036854775807
    rw [hd]
    show (((bx (fileAt x0 i).data ++ s16).size : Nat) : Int) ≤ 9223372036854775807
    rw [← wL, aX4, tx_bx, List.length_append, wL]
    have h1 : (fileAt x0 i).data.length ≤ dD l5 := by
     have : sizeOf (aF l5 n17) ≤ dD l5 := bO3 b5
     have e : sizeOf (aF l5 n17) = (fileAt x0 i).data.length := by
      unfold sizeOf
      rw [hd]
      rfl
     omega
    have := frp.1
    have := hx0.room
    omega
   ·obtain ⟨i, b1, b2, b3, b4, b5, b6, b7⟩ := hx.jV sx hk f2 f3
    obtain ⟨g1, g2, g3⟩ := hx.begin hbeg
    have hend : i25 = if b23 then 9 else 0 := hend
    have hnot : ¬ ((if b23 then (9 : Int) else i24) ≠ 0 ∧ b23 = false) := by
     rintro ⟨h1, h2⟩
     rw [h2] at h1
     exact h1 (by simpa using he)
    rw [ap x hx sx i b1, g1]
    dsimp only
    rw [if_neg hnot]
    refine ⟨?_, by rw [hend, he]⟩
    obtain ⟨x1, hx1⟩ : ∃ x1, x1 = ({ x with crash := i19, fail := i20, dead := b21, calls := i22 } : Ds) := ⟨_, rfl⟩
    have hfa : fileAt ({ x with crash := i19, fail := i20, dead := b21, calls := i22 } : Ds) i = fileAt x i := rfl
    rw [hfa, ← hx1]
    rw [← hx1] at g2
    have hrow : ∀ d, strip (.L [(aF l5 n17).toL.getD 0 default, .N ((aF l5 n17).toL.getD 1 default).toN, .S d, .I ((aF l5 n17).toL.getD 3 default).toI]) = .L [(aF l5 n17).key, .S d, .I ((aF l5 n17).toL.getD 3 default).toI] := fun d => rfl
    have hs' : strip (.L [(aF l5 n17).toL.getD 0 default, .N ((aF l5 n17).toL.getD 1 default).toN, .S (((aF l5 n17).toL.getD 2 default).toS ++ s16), .I ((aF l5 n17).toL.getD 3 default).toI]) = bD i ⟨(fileAt x i).data ++ tx s16, (fileAt x i).safe⟩ := by
     rw [hrow, uF b7, (iK b7).1, (iK b7).2]
     have : bx (fileAt x i).data ++ s16 = bx ((fileAt x i).data ++ tx s16) := gG (by rw [aX4, tx_bx, tx_bx])
     show D.L [_, .S (bx (fileAt x i).data ++ s16), _] = _
     rw [this]; rfl
    have hfx : fileAt x1 i = fileAt x i := by rw [hx1]; rfl
    have hset := bD5 (x := x1) hk.2.1 g2.files (i := i) (f' := ⟨(fileAt x i).data ++ tx s16, (fileAt x i).safe⟩) (by rw [hx1]; exact b2) (by rw [hx1]; exact b3) b5 (by rw [hfx]; exact b7) hs'
    rw [b6] at hset
    refine ⟨g2.names, g2.safe, g2.pend, hset, ?_, g2.room, g2.crash, g2.fail, g2.dead, g2.calls⟩
    rw [g2.next]
    simp [Dk.set]
 ·obtain ⟨f1, f2⟩ : i17 = (if b13 then 9 else 5) ∧ (b13 = false → aI l6 (.S s15) = false) := hf
  rw [(hx.none sx f1 f2).1]
  exact ⟨hx, rfl⟩
 ·obtain ⟨f1, _⟩ : i17 = (if b13 then 9 else 5) ∧ (b13 = false → aI l6 (.S s15) = false) := hf
  exact absurd h0 (aB7 f1)
theorem iV.pure : iV.Pure := by
 intro n0 n1 n2 n3 v4 l5 l6 l7 l8 i9 i10 i11 i12 b13 i14 s15 _ _ _ _ _ _ hk _ _ _ hp
 obtain ⟨x0, hx0, sx0⟩ := hp
 have hx0 := eF hx0
 have fin : ∀ {m1 m2 m3 : Nat} {u4 : Value} {k5 k6 k7 k8 : LD} {j9 j10 j11 j12 j14 e : Int} {c13 : Bool}, (∀ x, Rp l5 l6 l7 l8 i9 i10 i11 i12 b13 i14 x → Small x → Rp k5 k6 k7 k8 j9 j10 j11 j12 c13 j14 (Dk.sync x (tx s15)).1 ∧ e = (Dk.sync x (tx s15)).2) →
   iV.sig.post [.N n0, .N n1, .N n2, .N n3, .V v4, .L l5, .L l6, .L l7, .L l8, .I i9, .I i10, .I i11, .I i12, .B b13, .I i14, .S s15, .N m1, .N m2, .N m3, .V u4, .L k5, .L k6, .L k7, .L k8, .I j9, .I j10, .I j11, .I j12, .B c13, .I j14, .I e] :=
  fun h => yG (mid := [.S s15]) rfl (fun i hi => by rw [show 16 + i = i + 16 from by omega]; rfl) h
 refine ⟨⟨hx0.nJ sx0 hk, fun n16 hf => ⟨fun h => absurd rfl h, fun _ => ⟨hx0.tC sx0, ?_⟩⟩⟩, hx0.nJ sx0 hk, fun i16 hf _ => ⟨fun hne => fin fun x hx sx => ?_, fun h0 => ?_⟩⟩
 ·obtain ⟨f1, f2, f3⟩ : b13 = false ∧ aI l6 (.S s15) = true ∧ n16 = (aB l5 (aB l6 (.S s15)).snd).snd.toN := hf
  have sy : ∀ x, Rp l5 l6 l7 l8 i9 i10 i11 i12 b13 i14 x → ∀ i, Dk.find x.names (tx s15) = some i → Dk.sync x (tx s15) = (match Dk.begin x with | (d, _, e) => if e ≠ 0 then (d, e) else (Dk.set d i ⟨(fileAt d i).data, (fileAt d i).data.length⟩, 0)) := by
   intro x hx i hi
   have hd : x.dead = false := by rw [← hx.dead]; exact f1
   unfold Dk.sync
   rw [hd, hi]
   simp only [Bool.false_eq_true, if_false]
  intro i17 i18 b19 i20 b21 i22 hbeg _ _ _ _
  have hbeg : (i17, i18, b19, i20, b21, i22) = dW i11 i12 b13 i14 := hbeg
  have errs : ∀ {e : Int}, (b21 = true ∨ i22 ≠ 0) → e = max i22 (if b21 then 9 else 0) → ∀ x, Rp l5 l6 l7 l8 i9 i10 i11 i12 b13 i14 x → Small x → Rp l5 l6 l7 l8 i9 i10 i17 i18 b19 i20 (Dk.sync x (tx s15)).1 ∧ e = (Dk.sync x (tx s15)).2 := by
   intro e hor he x hx sx
   obtain ⟨i, b1, _⟩ := hx.jV sx hk f2 f3
   obtain ⟨g1, g2, g3⟩ := hx.begin hbeg
   have hbb := hbeg
   rw [hx.crash, hx.fail, hx.dead, hx.calls] at hbb
   have hb4 := (aL1 hbb).2.2.1
   rw [sy x hx i b1, g1]
   dsimp only
   have hne : (if b21 = true then (9 : Int) else i22) ≠ 0 := by
    rcases hor with h | h
    ·rw [h]; simp
    ·rw [g3 h]; simpa using h
   rw [if_pos hne]
   refine ⟨g2, ?_⟩
   rw [he]
   cases hb : b21 with
   | true =>
    have : i22 = 0 := Classical.byContradiction fun h => by rw [g3 h] at hb; cases hb
    rw [this]; rfl
   | false =>
    show max i22 0 = i22
    omega
  refine ⟨fun he => ⟨trivial, fun i23 hend _ => fin (errs (.inr he) ?_)⟩, fun he => ⟨fun hb => ⟨trivial, fun i23 hend _ => fin (errs (.inl hb) ?_)⟩, fun hb => ?_⟩⟩
  ·have hend : i23 = if b21 then 9 else 0 := hend
   rw [tV, hend]
  ·have hend : i23 = if b21 then 9 else 0 := hend
   rw [tV, hend]
  ·obtain ⟨i, b1, b2, b3, b4, b5, b6, b7⟩ := hx0.jV sx0 hk f2 f3
   refine ⟨b4, fun _ => fin fun x hx sx => ?_⟩
   obtain ⟨i, b1, b2, b3, b4, b5, b6, b7⟩ := hx.jV sx hk f2 f3
   obtain ⟨g1, g2, g3⟩ := hx.begin hbeg
   rw [sy x hx i b1, g1]
   dsimp only
   rw [if_neg (by rw [hb, he]; simp)]
   refine ⟨?_, rfl⟩
   obtain ⟨x1, hx1⟩ : ∃ x1, x1 = ({ x with crash := i17, fail := i18, dead := b19, calls := i20 } : Ds) := ⟨_, rfl⟩
   have hfa : fileAt ({ x with crash := i17, fail := i18, dead := b19, calls := i20 } : Ds) i = fileAt x i := rfl
   rw [hfa, ← hx1]
   rw [← hx1] at g2
   have hs' : strip (.L [(aF l5 n16).toL.getD 0 default, .N ((aF l5 n16).toL.getD 1 default).toN, .S ((aF l5 n16).toL.getD 2 default).toS, .I ((((aF l5 n16).toL.getD 2 default).toS.size : Nat) : Int)]) = bD i ⟨(fileAt x i).data, (fileAt x i).data.length⟩ := by
    show D.L [(aF l5 n16).key, .S ((aF l5 n16).toL.getD 2 default).toS, .I ((((aF l5 n16).toL.getD 2 default).toS.size : Nat) : Int)] = _
    rw [uF b7, (iK b7).1]
    rfl
   have hfx : fileAt x1 i = fileAt x i := by rw [hx1]; rfl
   have hset := bD5 (x := x1) hk.2.1 g2.files (i := i) (f' := ⟨(fileAt x i).data, (fileAt x i).data.length⟩) (by rw [hx1]; exact b2) (by rw [hx1]; exact b3) b5 (by rw [hfx]; exact b7) hs'
   rw [b6] at hset
   refine ⟨g2.names, g2.safe, g2.pend, hset, ?_, g2.room, g2.crash, g2.fail, g2.dead, g2.calls⟩
   rw [g2.next]
   simp [Dk.set]
 ·obtain ⟨f1, f2⟩ : i16 = (if b13 then 9 else 5) ∧ (b13 = false → aI l6 (.S s15) = false) := hf
  rw [(hx.none sx f1 f2).2.1]
  exact ⟨hx, rfl⟩
 ·obtain ⟨f1, _⟩ : i16 = (if b13 then 9 else 5) ∧ (b13 = false → aI l6 (.S s15) = false) := hf
  exact absurd h0 (aB7 f1)
theorem iH.pure : iH.Pure := by
 intro n0 n1 n2 n3 v4 l5 l6 l7 l8 i9 i10 i11 i12 b13 i14 _ _ _ _ _ hk _ _ _ hp
 obtain ⟨x0, hx0, sx0⟩ := hp
 have hx0 := eF hx0
 have hl := hx0.lens sx0
 have fin : ∀ {m1 m2 m3 : Nat} {u4 : Value} {k5 k6 k7 k8 : LD} {j9 j10 j11 j12 j14 e : Int} {c13 : Bool}, (∀ x, Rp l5 l6 l7 l8 i9 i10 i11 i12 b13 i14 x → Small x → Rp k5 k6 k7 k8 j9 j10 j11 j12 c13 j14 (Dk.fM x).1 ∧ e = (Dk.fM x).2) →
   iH.sig.post [.N n0, .N n1, .N n2, .N n3, .V v4, .L l5, .L l6, .L l7, .L l8, .I i9, .I i10, .I i11, .I i12, .B b13, .I i14, .N m1, .N m2, .N m3, .V u4, .L k5, .L k6, .L k7, .L k8, .I j9, .I j10, .I j11, .I j12, .B c13, .I j14, .I e] :=
  fun h => yG (mid := []) rfl (fun i hi => by rw [show 15 + i = i + 15 from by omega]; rfl) h
 refine ⟨hx0.tC sx0, ?_⟩
 intro i15 i16 b17 i18 b19 i20 hbeg _ _ _ _
 have hbeg : (i15, i16, b17, i18, b19, i20) = dW i11 i12 b13 i14 := hbeg
 have errs : ∀ {e : Int}, (b19 = true ∨ i20 ≠ 0) → e = max i20 (if b19 then 9 else 0) → ∀ x, Rp l5 l6 l7 l8 i9 i10 i11 i12 b13 i14 x → Small x → Rp l5 l6 l7 l8 i9 i10 i15 i16 b17 i18 (Dk.fM x).1 ∧ e = (Dk.fM x).2 := by
  intro e hor he x hx sx
  obtain ⟨g1, g2, g3⟩ := hx.begin hbeg
  have hbb := hbeg
  rw [hx.crash, hx.fail, hx.dead, hx.calls] at hbb
  have hb4 := (aL1 hbb).2.2.1
  unfold Dk.fM
  rw [g1]
  dsimp only
  have hne : (if b19 = true then (9 : Int) else i20) ≠ 0 := by
   rcases hor with h | h
   ·rw [h]; simp
   ·rw [g3 h]; simpa using h
  rw [if_pos hne]
  refine ⟨g2, ?_⟩
  rw [he]
  cases hb : b19 with
  | true =>
   have : i20 = 0 := Classical.byContradiction fun h => by rw [g3 h] at hb; cases hb
   rw [this]; rfl
  | false =>
   show max i20 0 = i20
   omega
 refine ⟨fun he => ⟨trivial, fun i21 hend _ => fin (errs (.inr he) ?_)⟩, fun he => ⟨fun hb => ⟨trivial, fun i21 hend _ => fin (errs (.inl hb) ?_)⟩, fun hb => ⟨trivial, fun n21 _ _ v22 => ⟨(⟨by omega, by omega, by simp⟩ : l6.length ≤ 100000000 ∧ l6.length ≤ 100000000 ∧ ([] : LD).length ≤ 100000000), fun l23 hsw _ => fin fun x hx sx => ?_⟩⟩⟩⟩
 ·have hend : i21 = if b19 then 9 else 0 := hend
  rw [tV, hend]
 ·have hend : i21 = if b19 then 9 else 0 := hend
  rw [tV, hend]
 ·have hsw : l23.Perm (l5.filter fun r => pK l6 l6 [] r.key.toI) := hsw
  obtain ⟨g1, g2, g3⟩ := hx.begin hbeg
  unfold Dk.fM
  rw [g1]
  dsimp only
  rw [if_neg (by rw [hb, he]; simp)]
  refine ⟨⟨g2.names, g2.names, rfl, ?_, g2.next, g2.room, g2.crash, g2.fail, g2.dead, g2.calls⟩, rfl⟩
  refine bD4 g2.files (pK l6 l6 []) hsw rfl (fun i _ _ => ?_) fun i _ hi => ?_
  ·unfold pK
   rw [bE9 g2.names]
   show _ = (x.names.any (fun p => p.2 == i) || x.names.any (fun p => p.2 == i) || ([] : List Cg).any _)
   rfl
  ·have hi : (x.names.any (fun p => p.2 == i) || x.names.any (fun p => p.2 == i) || ([] : List Cg).any _) = true := hi
   rw [List.any_nil, Bool.or_false, Bool.or_self] at hi
   obtain ⟨p, hp, he⟩ := List.any_eq_true.1 hi
   have he : p.2 = i := by simpa using he
   rw [← he]
   exact aQ5 (x := x) hp
theorem mY.pure : mY.Pure := by
 intro n0 n1 n2 n3 v4 l5 l6 l7 l8 i9 i10 i11 i12 b13 i14 _ _ _ _ _ hk _ _ _ hp v15
 obtain ⟨x0, hx0, sx0⟩ := hp
 have hx0 := eF hx0
 have hl := hx0.lens sx0
 refine ⟨fun hb v16 x hx sx => ?_, fun hb => ⟨trivial, fun n16 _ => ⟨(show l6.length ≤ 1000000000 by omega), fun v17 l18 hs _ x hx sx => ?_⟩⟩⟩
 ·have hx := eF hx
  have hd : x.dead = true := by rw [← hx.dead]; exact hb
  rw [hd]
  exact ⟨rfl, rfl⟩
 ·have hx := eF hx
  have hd : x.dead = false := by rw [← hx.dead]; exact hb
  rw [hd]
  refine ⟨rfl, ?_⟩
  have hs : D.L l18 = nO l6 := hs
  have hs : l18 = ((l6.map fun r => r.key.toS.data.toList).mergeSort leB).map fun x => D.S ⟨x.toArray⟩ := by injection hs
  show l18 = x.names.map fun p => .S (bx p.1)
  rw [hs]
  have hp : (l6.map fun r => r.key.toS.data.toList).Perm (x.names.map (·.1)) := by
   refine (hx.names.map _).trans (List.Perm.of_eq ?_)
   rw [List.map_map]
   rfl
  rw [mergeSort_of_perm hp, List.mergeSort_of_pairwise]
  ·rw [List.map_map]; rfl
  ·rw [List.pairwise_map]
   exact sx.inv.sn.imp fun {a b} hab => by
    show decide (a.1 ≤ b.1) = true
    rw [decide_eq_true_eq]
    exact List.le_of_lt hab
end Go.Vc
namespace Go.Vc
open Dk (Fi Cg Ds held fileAt)
theorem fE.pure : fE.Pure := by
 intro n0 n1 n2 n3 v4 l5 l6 l7 l8 i9 i10 i11 i12 b13 i14 s15 s16 _ _ _ _ _ _ _ hk _ _ _ hp
 obtain ⟨x0, hx0, sx0⟩ := hp
 have hx0 := eF hx0
 have hl := hx0.lens sx0
 have fin : ∀ {m1 m2 m3 : Nat} {u4 : Value} {k5 k6 k7 k8 : LD} {j9 j10 j11 j12 j14 e : Int} {c13 : Bool}, (∀ x, Rp l5 l6 l7 l8 i9 i10 i11 i12 b13 i14 x → Small x → Rp k5 k6 k7 k8 j9 j10 j11 j12 c13 j14 (Dk.rename x (tx s15) (tx s16)).1 ∧ e = (Dk.rename x (tx s15) (tx s16)).2) →
   fE.sig.post [.N n0, .N n1, .N n2, .N n3, .V v4, .L l5, .L l6, .L l7, .L l8, .I i9, .I i10, .I i11, .I i12, .B b13, .I i14, .S s15, .S s16, .N m1, .N m2, .N m3, .V u4, .L k5, .L k6, .L k7, .L k8, .I j9, .I j10, .I j11, .I j12, .B c13, .I j14, .I e] :=
  fun h => yG (mid := [.S s15, .S s16]) rfl (fun i hi => by rw [show 17 + i = i + 17 from by omega]; rfl) h
 have tp : l6.length ≤ 100000000 ∧ l8.length ≤ 100000000 := ⟨by omega, by omega⟩
 refine ⟨⟨hx0.nJ sx0 hk, fun n17 hf => ⟨fun h => absurd rfl h, fun _ => ?_⟩⟩, hx0.nJ sx0 hk, fun i17 hf _ => ⟨fun hne => fin fun x hx sx => ?_, fun h0 => ?_⟩⟩
 ·obtain ⟨f1, f2, f3⟩ : b13 = false ∧ aI l6 (.S s15) = true ∧ n17 = (aB l5 (aB l6 (.S s15)).snd).snd.toN := hf
  have arg1 : (tx s16 = [] ∨ tx s16 = tx s15) → ∀ x, Rp l5 l6 l7 l8 i9 i10 i11 i12 b13 i14 x → Small x → Dk.rename x (tx s15) (tx s16) = (x, 1) := by
   intro h x hx sx
   have hd : x.dead = false := by rw [← hx.dead]; exact f1
   obtain ⟨i, b1, _⟩ := hx.jV sx hk f2 f3
   unfold Dk.rename
   rw [hd, b1]
   simp only [Bool.false_eq_true, if_false]
   rw [if_pos h]
  refine ⟨fun hs => fin fun x hx sx => ?_, fun hs => ⟨fun hs2 => fin fun x hx sx => ?_, fun hs2 => ⟨hx0.tC sx0, ?_⟩⟩⟩
  ·rw [arg1 (.inl (by rw [hs]; rfl)) x hx sx]
   exact ⟨hx, rfl⟩
  ·rw [arg1 (.inr (by rw [hs2])) x hx sx]
   exact ⟨hx, rfl⟩
  ·have hne : ¬ (tx s16 = [] ∨ tx s16 = tx s15) := by
    rintro (h | h)
    ·exact hs (by rw [← bx_tx s16, h]; rfl)
    ·exact hs2 (gG h)
   have rn : ∀ x, Rp l5 l6 l7 l8 i9 i10 i11 i12 b13 i14 x → ∀ i, Dk.find x.names (tx s15) = some i → Dk.rename x (tx s15) (tx s16) = (match Dk.begin x with | (d, stops, e) => if e ≠ 0 ∧ stops = false then (d, e) else (Dk.turn d ⟨tx s15, tx s16, i⟩, e)) := by
    intro x hx i hi
    have hd : x.dead = false := by rw [← hx.dead]; exact f1
    unfold Dk.rename
    rw [hd, hi]
    simp only [Bool.false_eq_true, if_false]
    rw [if_neg hne]
   intro i18 i19 b20 i21 b22 i23 hbeg _ _ _ _
   have hbeg : (i18, i19, b20, i21, b22, i23) = dW i11 i12 b13 i14 := hbeg
   refine ⟨fun he => fin fun x hx sx => ?_, fun he => ⟨fun _ => ⟨tp, fun v24 l25 l26 ht _ _ => ⟨trivial, fun i27 hend _ => fin fun x hx sx => ?_⟩⟩, fun hh => ?_⟩⟩
   ·obtain ⟨i, b1, _⟩ := hx.jV sx hk f2 f3
    obtain ⟨g1, g2, g3⟩ := hx.begin hbeg
    rw [rn x hx i b1, g1, g3 he]
    dsimp only
    rw [if_pos ⟨by simpa using he, rfl⟩]
    exact ⟨g2, by simp⟩
   ·obtain ⟨i, b1, b2, b3, _⟩ := hx.jV sx hk f2 f3
    obtain ⟨g1, g2, g3⟩ := hx.begin hbeg
    have hend : i27 = if b22 then 9 else 0 := hend
    have hnot : ¬ ((if b22 then (9 : Int) else i23) ≠ 0 ∧ b22 = false) := by
     rintro ⟨h1, h2⟩
     rw [h2] at h1
     exact h1 (by simpa using he)
    rw [rn x hx i b1, g1]
    dsimp only
    rw [if_neg hnot]
    refine ⟨?_, by rw [hend, he]⟩
    obtain ⟨_, q2⟩ := (aB8 hx.names sx.inv.sn s15).2 i b1
    have ht : l25 = gY l6 s16 s15 (aB l6 (.S s15)).snd.toI ∧ l26 = l8 ++ [qJ s16 s15 (aB l6 (.S s15)).snd.toI] := ht
    rw [q2] at ht
    have hne16 : tx s16 ≠ [] := fun h => hne (.inl h)
    refine g2.turn (sx.inv.same rfl rfl rfl rfl) ht.1 ht.2 (bx_tx s16).symm (bx_tx s15).symm ?_ fun _ => ⟨b2, b3⟩
    show ((i : Int) + 1) = if tx s16 = [] then 0 else (i : Int) + 1
    rw [if_neg hne16]
   ·rw [f2] at hh; cases hh
 ·obtain ⟨f1, f2⟩ : i17 = (if b13 then 9 else 5) ∧ (b13 = false → aI l6 (.S s15) = false) := hf
  rw [(hx.none sx f1 f2).2.2.1]
  exact ⟨hx, rfl⟩
 ·obtain ⟨f1, _⟩ : i17 = (if b13 then 9 else 5) ∧ (b13 = false → aI l6 (.S s15) = false) := hf
  exact absurd h0 (aB7 f1)
theorem jG.pure : jG.Pure := by
 intro n0 n1 n2 n3 v4 l5 l6 l7 l8 i9 i10 i11 i12 b13 i14 s15 _ _ _ _ _ _ hk _ _ _ hp
 obtain ⟨x0, hx0, sx0⟩ := hp
 have hx0 := eF hx0
 have hl := hx0.lens sx0
 have fin : ∀ {m1 m2 m3 : Nat} {u4 : Value} {k5 k6 k7 k8 : LD} {j9 j10 j11 j12 j14 e : Int} {c13 : Bool}, (∀ x, Rp l5 l6 l7 l8 i9 i10 i11 i12 b13 i14 x → Small x → Rp k5 k6 k7 k8 j9 j10 j11 j12 c13 j14 (Dk.remove x (tx s15)).1 ∧ e = (Dk.remove x (tx s15)).2) →
   jG.sig.post [.N n0, .N n1, .N n2, .N n3, .V v4, .L l5, .L l6, .L l7, .L l8, .I i9, .I i10, .I i11, .I i12, .B b13, .I i14, .S s15, .N m1, .N m2, .N m3, .V u4, .L k5, .L k6, .L k7, .L k8, .I j9, .I j10, .I j11, .I j12, .B c13, .I j14, .I e] :=
  fun h => yG (mid := [.S s15]) rfl (fun i hi => by rw [show 16 + i = i + 16 from by omega]; rfl) h
 have tp : l6.length ≤ 100000000 ∧ l8.length ≤ 100000000 := ⟨by omega, by omega⟩
 refine ⟨⟨hx0.nJ sx0 hk, fun n16 hf => ⟨fun h => absurd rfl h, fun _ => ⟨hx0.tC sx0, ?_⟩⟩⟩, hx0.nJ sx0 hk, fun i16 hf _ => ⟨fun hne => fin fun x hx sx => ?_, fun h0 => ?_⟩⟩
 ·obtain ⟨f1, f2, f3⟩ : b13 = false ∧ aI l6 (.S s15) = true ∧ n16 = (aB l5 (aB l6 (.S s15)).snd).snd.toN := hf
  have rm : ∀ x, Rp l5 l6 l7 l8 i9 i10 i11 i12 b13 i14 x → ∀ i, Dk.find x.names (tx s15) = some i → Dk.remove x (tx s15) = (match Dk.begin x with | (d, stops, e) => if e ≠ 0 ∧ stops = false then (d, e) else (Dk.turn d ⟨tx s15, [], 0⟩, e)) := by
   intro x hx i hi
   have hd : x.dead = false := by rw [← hx.dead]; exact f1
   unfold Dk.remove
   rw [hd, hi]
   simp only [Bool.false_eq_true, if_false]
  intro i17 i18 b19 i20 b21 i22 hbeg _ _ _ _
  have hbeg : (i17, i18, b19, i20, b21, i22) = dW i11 i12 b13 i14 := hbeg
  refine ⟨fun he => fin fun x hx sx => ?_, fun he => ⟨tp, fun v23 l24 l25 ht _ _ => ⟨trivial, fun i26 hend _ => fin fun x hx sx => ?_⟩⟩⟩
  ·obtain ⟨i, b1, _⟩ := hx.jV sx hk f2 f3
   obtain ⟨g1, g2, g3⟩ := hx.begin hbeg
   rw [rm x hx i b1, g1, g3 he]
   dsimp only
   rw [if_pos ⟨by simpa using he, rfl⟩]
   exact ⟨g2, by simp⟩
  ·obtain ⟨i, b1, b2, b3, _⟩ := hx.jV sx hk f2 f3
   obtain ⟨g1, g2, g3⟩ := hx.begin hbeg
   have hend : i26 = if b21 then 9 else 0 := hend
   have hnot : ¬ ((if b21 then (9 : Int) else i22) ≠ 0 ∧ b21 = false) := by
    rintro ⟨h1, h2⟩
    rw [h2] at h1
    exact h1 (by simpa using he)
   rw [rm x hx i b1, g1]
   dsimp only
   rw [if_neg hnot]
   refine ⟨?_, by rw [hend, he]⟩
   have ht : l24 = gY l6 ⟨#[]⟩ s15 0 ∧ l25 = l8 ++ [qJ ⟨#[]⟩ s15 0] := ht
   exact g2.turn (c := ⟨tx s15, [], 0⟩) (sx.inv.same rfl rfl rfl rfl) ht.1 ht.2 rfl (bx_tx s15).symm rfl fun h => absurd rfl h
 ·obtain ⟨f1, f2⟩ : i16 = (if b13 then 9 else 5) ∧ (b13 = false → aI l6 (.S s15) = false) := hf
  rw [(hx.none sx f1 f2).2.2.2]
  exact ⟨hx, rfl⟩
 ·obtain ⟨f1, _⟩ : i16 = (if b13 then 9 else 5) ∧ (b13 = false → aI l6 (.S s15) = false) := hf
  exact absurd h0 (aB7 f1)
end Go.Vc