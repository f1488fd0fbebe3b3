/-
 The lexer's laws: contracts of the document's functions, and of the laws' own.
 Printed by wip/vct.py: the conditions of functions, by their contracts.
 The lexer's laws: plain conditions of the document's numbers and tokens.
 The lexer's laws: plain conditions of the document's tokens.
 The lexer's laws: plain conditions of the document's lines.
 The lexer's laws: plain conditions of the laws.
 The lexer's laws: two texts joined.
-/
import Derived.Test.YtdppcnngoclehaaDoorLexm
import Derived.KernelRfl
import Derived.Test.YtdppcnngoclehaaDoorLexa
set_option linter.unusedVariables false
set_option linter.unusedSimpArgs false
open _root_.Go.IntKind (wrap)
namespace Go.Vc
def gG.sig : Sig := bQ [.s, .i .i64] [.s] (fun l => 0 ≤ (arg l 1).toI) fun l => (arg l 2).toS = (arg l 0).toS.extract 0 (arg l 1).toI.toNat
def fZ.sig : Sig := bQ [.i .u8] [.b] (fun _ => True) fun l => (arg l 1).toB = Lx.small (b8 (arg l 0).toI)
def cO.sig : Sig := bQ [.i .u8] [.b] (fun _ => True) fun l => (arg l 1).toB = Lx.digit (b8 (arg l 0).toI)
def bM.sig : Sig := bQ [.i .u64, .i .u64, .i .u64] [.i .u64, .b] (fun l => (arg l 1).toI ≤ 1000) fun l => isNum (if (arg l 0).toI * (arg l 1).toI + (arg l 2).toI < 18446744073709551616 then some ((arg l 0).toI * (arg l 1).toI + (arg l 2).toI).toNat else none) (arg l 3).toI (arg l 4).toB
def bM.I0 : LD → Prop := fun l => 0 ≤ (arg l 4).toI ∧ (arg l 4).toI ≤ (arg l 1).toI ∧ (arg l 3).toI = (arg l 0).toI * (arg l 4).toI + (arg l 2).toI
def bM.I0M : LD → Nat := fun l => ((arg l 1).toI - (arg l 4).toI).toNat
def aK.sig : Sig := bQ [.s] [.i .u64, .b] (fun l => (arg l 0).toS.size ≤ 1000000) fun l => isNum (Lx.num (tx (arg l 0).toS)) (arg l 1).toI (arg l 2).toB
def aK.I0 : LD → Prop := bK.I0
def aK.I0M : LD → Nat := bK.I0M
def aF.sig : Sig := bQ [.s] [.l vM, .b] (fun l => (arg l 0).toS.size ≤ 1000000) fun l => mJ (Lx.toks (tx (arg l 0).toS)) (arg l 2).toL (arg l 3).toB
def aF.I0 : LD → Prop := fun l => ∃ T, (arg l 1).toL = T.map fA ∧ 0 ≤ (arg l 2).toI ∧ (arg l 2).toI ≤ (arg l 0).toS.size ∧ (arg l 1).toL.length ≤ (arg l 2).toI ∧
 Lx.toks (tx (arg l 0).toS) = (Lx.toks ((tx (arg l 0).toS).drop (arg l 2).toI.toNat)).map (T ++ ·)
def aF.I0M : LD → Nat := fun l => ((arg l 0).toS.size - (arg l 2).toI).toNat
def aF.I1 : LD → Prop := fun l => 0 ≤ (arg l 1).toI ∧ (arg l 1).toI ≤ (arg l 2).toI ∧ (arg l 2).toI ≤ (arg l 0).toS.size ∧
 ∀ c ∈ ((tx (arg l 0).toS).drop (arg l 1).toI.toNat).take ((arg l 2).toI - (arg l 1).toI).toNat, Lx.aH c = true
def aF.I1M : LD → Nat := fun l => ((arg l 0).toS.size - (arg l 2).toI).toNat
def aF.J0 : LD → Prop := fun l => (arg l 5).toI ≤ (arg l 6).toI ∧ (arg l 6).toI ≤ (arg l 0).toS.size ∧
 ((arg l 6).toI - (arg l 5).toI).toNat = (((tx (arg l 0).toS).drop (arg l 5).toI.toNat).takeWhile Lx.aH).length ∧ Lx.aH ((tx (arg l 0).toS).getD (arg l 5).toI.toNat 0) = true
def aF.J0M : LD → Nat := fun _ => 0
def aF.T : St := ⟨[.one (.lf (.str (.at 0)))] ++ List.replicate 3 (.one (.lf .junk)) ++ [.one (.lf (.sl (.at 3))), .one (.lf (.int .i64 (.at 5))), .one (.lf (.int .u8 (.o2 .byte (.at 0) (.at 5)))), .one (.lf (.int .i64 (.at 6)))] ++ List.replicate 3 (.one (.lf .junk)) ++ [.one (.lf (.sl (.at 2)))] ++ List.replicate 88 (.one (.lf .junk)), [.osl (.at 3) vM (.at 4), .osl (.at 1) vM .lnil], [.S, .V, .V, .V, .L, .I, .I]⟩
def bF.sig : Sig := bQ [.s] [.l xH, .i .i64, .i .i64] (fun _ => True) fun l => dG (tx (arg l 0).toS) (arg l 2).toL (arg l 3).toI (arg l 4).toI
def lZ (l : Tx) : List Tx → List Tx
 | [] => [l]
 | x :: xs => (l ++ x) :: xs
def mX (M : List (Nat × List Lx.Tok)) : Except Nat (List (Nat × List Lx.Tok)) → Except Nat (List (Nat × List Lx.Tok))
 | .error k => .error k
 | .ok r => .ok (M ++ r)
def kE (s : Tx) (M : List (Nat × List Lx.Tok)) (n : Nat) (l : Tx) (i : Nat) : Prop := if i ≤ s.length then Lx.aV 1 (aC s) = mX M (Lx.aV n (lZ l (aC (s.drop i)))) else Lx.aV 1 (aC s) = .ok M
def bF.I0 : LD → Prop := fun l => 0 ≤ (arg l 4).toI ∧ (arg l 4).toI ≤ (arg l 0).toS.size + 1 ∧ 1 ≤ (arg l 2).toI ∧ (arg l 2).toI ≤ (arg l 4).toI + 1 ∧ (arg l 1).toL.length ≤ (arg l 4).toI ∧ (arg l 3).toS.size ≤ (arg l 4).toI ∧
 ∃ M, fD (arg l 1).toL M ∧ kE (tx (arg l 0).toS) M (arg l 2).toI.toNat (tx (arg l 3).toS) (arg l 4).toI.toNat
def bF.I0M : LD → Nat := fun l => ((arg l 0).toS.size + 1 - (arg l 4).toI).toNat
def dF.sig : Sig := bQ [] [.b] (fun _ => True) fun l => (arg l 0).toB = true
def bP.sig : Sig := bQ [.l xH, .l xH] [.i .i64] (fun l => (arg l 1).toL.length ≤ 1000000 ∧ ∃ M, fD (arg l 1).toL M ∧ fD (arg l 3).toL M ∧ ∀ m ∈ M, m.2.length ≤ 1000000) fun l => (arg l 4).toI = 0
def bP.I0 : LD → Prop := fun l => 0 ≤ (arg l 4).toI ∧ (arg l 4).toI ≤ (arg l 3).toL.length
def bP.I0M : LD → Nat := fun l => ((arg l 3).toL.length - (arg l 4).toI).toNat
def bP.I1 : LD → Prop := fun l => 0 ≤ (arg l 4).toI
def bP.I1M : LD → Nat := fun l => (1000000 - (arg l 4).toI).toNat
def kG.sig : Sig := bQ [.s] [.b] (fun _ => True) yes
def aU.sig : Sig := bQ [.s, .s] [.b] (fun _ => True) yes
def aU.I0 : LD → Prop := fun l => 0 ≤ (arg l 3).toI ∧ (arg l 3).toI ≤ ((arg l 0).toS.extract 0 (300 : Int).toNat).size ∧
 (arg l 2).toI = 1 + ((tx ((arg l 0).toS.extract 0 (300 : Int).toNat)).take (arg l 3).toI.toNat).count 10
def aU.I0M : LD → Nat := fun l => (((arg l 0).toS.extract 0 (300 : Int).toNat).size - (arg l 3).toI).toNat
def aU.I1 : LD → Prop := fun l => 0 ≤ (arg l 2).toI
def aU.I1M : LD → Nat := fun l => (1000000 - (arg l 2).toI).toNat
end Go.Vc
namespace Go.Vc
set_option linter.unusedVariables false
set_option maxRecDepth 100000
def gG.Pure : Prop :=
 ∀ s0 : BA,
 ∀ i1 : Int,
 ((s0.size : Int) ≤ 9223372036854775807) →
 R64 i1 →
 gG.sig.pre [.S s0, .I i1] →
 ((
 (i1 < (s0.size : Int)) →
 Im (0 ≤ i1) (
 Im (i1 ≤ (s0.size : Int)) (
  gG.sig.post [.S s0, .I i1, .S (s0.extract (0 : Int).toNat i1.toNat)]))) ∧ (
 ((s0.size : Int) ≤ i1) →
  gG.sig.post [.S s0, .I i1, .S s0]))
def fZ.Pure : Prop :=
 ∀ i0 : Int,
 (0 ≤ i0 ∧ i0 < 256) →
 fZ.sig.pre [.I i0] →
 ((
 (97 ≤ i0) →
  fZ.sig.post [.I i0, .B (decide (i0 ≤ 122))]) ∧ (
 (i0 < 97) →
  fZ.sig.post [.I i0, .B false]))
def cO.Pure : Prop :=
 ∀ i0 : Int,
 (0 ≤ i0 ∧ i0 < 256) →
 cO.sig.pre [.I i0] →
 ((
 (48 ≤ i0) →
  cO.sig.post [.I i0, .B (decide (i0 ≤ 57))]) ∧ (
 (i0 < 48) →
  cO.sig.post [.I i0, .B false]))
def bM.Pure : Prop :=
 ∀ i0 i1 i2 : Int,
 U64 i0 →
 U64 i1 →
 U64 i2 →
 bM.sig.pre [.I i0, .I i1, .I i2] →
 bM.I0 [.I i0, .I i1, .I i2, .I i2, .I 0] ∧ (
 ∀ i3 i4 : Int,
 U64 i3 →
 U64 i4 →
 bM.I0 [.I i0, .I i1, .I i2, .I i3, .I i4] →
 ((
 (i4 < i1) →
 ((
 ((wrap .u64 (i3 + i0)) < i3) →
   bM.sig.post [.I i0, .I i1, .I i2, .I 0, .B false]) ∧ (
 (i3 ≤ (wrap .u64 (i3 + i0))) →
  Bk bM.I0 bM.I0M [.I i0, .I i1, .I i2, .I (wrap .u64 (i3 + i0)), .I (wrap .u64 (i4 + 1))] [.I i0, .I i1, .I i2, .I i3, .I i4]))) ∧ (
 (i1 ≤ i4) →
  bM.sig.post [.I i0, .I i1, .I i2, .I i3, .B true])))
abbrev aK.K0 (s0 : BA) : Prop :=
 ((
 ((s0.size : Int) = (0 : Int)) →
   aK.sig.post [.S s0, .I 0, .B false]) ∧ (
 ((s0.size : Int) ≠ (0 : Int)) →
   aK.I0 [.S s0, .I 0, .I 0] ∧ (
 ∀ i1 i2 : Int,
 U64 i1 →
 R64 i2 →
   aK.I0 [.S s0, .I i1, .I i2] →
 ((
 (i2 < (s0.size : Int)) →
 Im (0 ≤ i2) (
   cO.sig.pre [.I (byteAt s0 i2)] ∧ (
 ∀ b3 : Bool,
   cO.sig.post [.I (byteAt s0 i2), .B b3] →
 ((
 (b3 = true) →
 ((
 (10 ≤ (wrap .u64 ((wrap .u64 (byteAt s0 i2)) - 48))) →
        aK.sig.post [.S s0, .I 0, .B false]) ∧ (
 ((wrap .u64 ((wrap .u64 (byteAt s0 i2)) - 48)) < 10) →
    bM.sig.pre [.I i1, .I 10, .I (wrap .u64 ((wrap .u64 (byteAt s0 i2)) - 48))] ∧ (
 ∀ i4 : Int,
 ∀ b5 : Bool,
    bM.sig.post [.I i1, .I 10, .I (wrap .u64 ((wrap .u64 (byteAt s0 i2)) - 48)), .I i4, .B b5] →
 U64 i4 →
 ((
 (b5 = false) →
     aK.sig.post [.S s0, .I 0, .B false]) ∧ (
 (b5 = true) →
     Bk aK.I0 aK.I0M [.S s0, .I i4, .I (wrap .i64 (i2 + 1))] [.S s0, .I i1, .I i2])))))) ∧ (
 (b3 = false) →
 ((
 (97 ≤ (byteAt s0 i2)) →
 ((
 ((byteAt s0 i2) ≤ 102) →
 ((
 (10 ≤ (wrap .u64 ((wrap .u64 (byteAt s0 i2)) - 87))) →
     aK.sig.post [.S s0, .I 0, .B false]) ∧ (
 ((wrap .u64 ((wrap .u64 (byteAt s0 i2)) - 87)) < 10) →
     bM.sig.pre [.I i1, .I 10, .I (wrap .u64 ((wrap .u64 (byteAt s0 i2)) - 87))] ∧ (
 ∀ i4 : Int,
 ∀ b5 : Bool,
     bM.sig.post [.I i1, .I 10, .I (wrap .u64 ((wrap .u64 (byteAt s0 i2)) - 87)), .I i4, .B b5] →
 U64 i4 →
 ((
 (b5 = false) →
      aK.sig.post [.S s0, .I 0, .B false]) ∧ (
 (b5 = true) →
      Bk aK.I0 aK.I0M [.S s0, .I i4, .I (wrap .i64 (i2 + 1))] [.S s0, .I i1, .I i2])))))) ∧ (
 (102 < (byteAt s0 i2)) →
         aK.sig.post [.S s0, .I 0, .B false]))) ∧ (
 ((byteAt s0 i2) < 97) →
    aK.sig.post [.S s0, .I 0, .B false]))))))) ∧ (
 ((s0.size : Int) ≤ i2) →
   aK.sig.post [.S s0, .I i1, .B true])))))
def aK.Pure : Prop :=
 ∀ s0 : BA,
 ((s0.size : Int) ≤ 9223372036854775807) →
 aK.sig.pre [.S s0] →
 ((
 (1 < (s0.size : Int)) →
 Im (0 < (s0.size : Int)) (
 ((
 ((byteAt s0 0) = 48) →
 ((
 ((byteAt s0 1) = 120) →
 Im (2 ≤ (s0.size : Int)) (
 ((
 (((s0.extract (2 : Int).toNat (s0.size : Int).toNat).size : Int) = (0 : Int)) →
   aK.sig.post [.S s0, .I 0, .B false]) ∧ (
 (((s0.extract (2 : Int).toNat (s0.size : Int).toNat).size : Int) ≠ (0 : Int)) →
   aK.I0 [.S s0, .I 0, .I 0] ∧ (
 ∀ i1 i2 : Int,
 U64 i1 →
 R64 i2 →
   aK.I0 [.S s0, .I i1, .I i2] →
 ((
 (i2 < ((s0.extract (2 : Int).toNat (s0.size : Int).toNat).size : Int)) →
 Im (0 ≤ i2) (
   cO.sig.pre [.I (byteAt (s0.extract (2 : Int).toNat (s0.size : Int).toNat) i2)] ∧ (
 ∀ b3 : Bool,
   cO.sig.post [.I (byteAt (s0.extract (2 : Int).toNat (s0.size : Int).toNat) i2), .B b3] →
 ((
 (b3 = true) →
 ((
 (16 ≤ (wrap .u64 ((wrap .u64 (byteAt (s0.extract (2 : Int).toNat (s0.size : Int).toNat) i2)) - 48))) →
        aK.sig.post [.S s0, .I 0, .B false]) ∧ (
 ((wrap .u64 ((wrap .u64 (byteAt (s0.extract (2 : Int).toNat (s0.size : Int).toNat) i2)) - 48)) < 16) →
    bM.sig.pre [.I i1, .I 16, .I (wrap .u64 ((wrap .u64 (byteAt (s0.extract (2 : Int).toNat (s0.size : Int).toNat) i2)) - 48))] ∧ (
 ∀ i4 : Int,
 ∀ b5 : Bool,
    bM.sig.post [.I i1, .I 16, .I (wrap .u64 ((wrap .u64 (byteAt (s0.extract (2 : Int).toNat (s0.size : Int).toNat) i2)) - 48)), .I i4, .B b5] →
 U64 i4 →
 ((
 (b5 = false) →
     aK.sig.post [.S s0, .I 0, .B false]) ∧ (
 (b5 = true) →
     Bk aK.I0 aK.I0M [.S s0, .I i4, .I (wrap .i64 (i2 + 1))] [.S s0, .I i1, .I i2])))))) ∧ (
 (b3 = false) →
 ((
 (97 ≤ (byteAt (s0.extract (2 : Int).toNat (s0.size : Int).toNat) i2)) →
 ((
 ((byteAt (s0.extract (2 : Int).toNat (s0.size : Int).toNat) i2) ≤ 102) →
 ((
 (16 ≤ (wrap .u64 ((wrap .u64 (byteAt (s0.extract (2 : Int).toNat (s0.size : Int).toNat) i2)) - 87))) →
     aK.sig.post [.S s0, .I 0, .B false]) ∧ (
 ((wrap .u64 ((wrap .u64 (byteAt (s0.extract (2 : Int).toNat (s0.size : Int).toNat) i2)) - 87)) < 16) →
     bM.sig.pre [.I i1, .I 16, .I (wrap .u64 ((wrap .u64 (byteAt (s0.extract (2 : Int).toNat (s0.size : Int).toNat) i2)) - 87))] ∧ (
 ∀ i4 : Int,
 ∀ b5 : Bool,
     bM.sig.post [.I i1, .I 16, .I (wrap .u64 ((wrap .u64 (byteAt (s0.extract (2 : Int).toNat (s0.size : Int).toNat) i2)) - 87)), .I i4, .B b5] →
 U64 i4 →
 ((
 (b5 = false) →
      aK.sig.post [.S s0, .I 0, .B false]) ∧ (
 (b5 = true) →
      Bk aK.I0 aK.I0M [.S s0, .I i4, .I (wrap .i64 (i2 + 1))] [.S s0, .I i1, .I i2])))))) ∧ (
 (102 < (byteAt (s0.extract (2 : Int).toNat (s0.size : Int).toNat) i2)) →
         aK.sig.post [.S s0, .I 0, .B false]))) ∧ (
 ((byteAt (s0.extract (2 : Int).toNat (s0.size : Int).toNat) i2) < 97) →
    aK.sig.post [.S s0, .I 0, .B false]))))))) ∧ (
 (((s0.extract (2 : Int).toNat (s0.size : Int).toNat).size : Int) ≤ i2) →
   aK.sig.post [.S s0, .I i1, .B true]))))))) ∧ (
 ((byteAt s0 1) ≠ 120) →
 (aK.K0 s0)))) ∧ (
 ((byteAt s0 0) ≠ 48) →
 (aK.K0 s0))))) ∧ (
 ((s0.size : Int) ≤ (1 : Int)) →
 (aK.K0 s0)))
abbrev aF.K0 (s0 : BA) (v1 : Value) (v2 : Value) (v3 : Value) (l4 : LD) (i5 : Int) : Prop :=
 (
 (
 ∀ i6 : Int,
 R64 i6 →
      aF.J0 [.S s0, .V v1, .V v2, .V v3, .L l4, .I i5, .I i6] →
 Im (i5 ≤ i6) (
 Im (0 ≤ i5) (
 Im (i6 ≤ (s0.size : Int)) (
 ∀ n7 : Nat,
      cO.sig.pre [.I (byteAt s0 i5)] ∧ (
 ∀ b8 : Bool,
      cO.sig.post [.I (byteAt s0 i5), .B b8] →
 ((
 (b8 = true) →
       aK.sig.pre [.S (s0.extract i5.toNat i6.toNat)] ∧ (
 ∀ i9 : Int,
 ∀ b10 : Bool,
       aK.sig.post [.S (s0.extract i5.toNat i6.toNat), .I i9, .B b10] →
 U64 i9 →
 ((
 (b10 = false) →
 ∀ v11 : Value,
       aF.sig.post [.S s0, .V v11, .L ([] : LD), .B false]) ∧ (
 (b10 = true) →
 ∀ v11 : Value,
 Im (((l4 ++ ((D.L ((D.I (2 : Int)) :: ((D.S (s0.extract i5.toNat i6.toNat)) :: ((D.I i9) :: ([] : LD))))) :: ([] : LD))).length : Int) ≤ (4398046511104 : Int)) (
 ∀ v12 : Value,
       Bk aF.I0 aF.I0M [.S s0, .L (l4 ++ ((D.L ((D.I 2) :: ((D.S (s0.extract i5.toNat i6.toNat)) :: ((D.I i9) :: ([] : LD))))) :: ([] : LD))), .I i6] [.S s0, .L l4, .I i5]))))) ∧ (
 (b8 = false) →
 ∀ v9 : Value,
 Im (((l4 ++ ((D.L ((D.I (1 : Int)) :: ((D.S (s0.extract i5.toNat i6.toNat)) :: ((D.I (0 : Int)) :: ([] : LD))))) :: ([] : LD))).length : Int) ≤ (4398046511104 : Int)) (
 ∀ v10 : Value,
       Bk aF.I0 aF.I0M [.S s0, .L (l4 ++ ((D.L ((D.I 1) :: ((D.S (s0.extract i5.toNat i6.toNat)) :: ((D.I 0) :: ([] : LD))))) :: ([] : LD))), .I i6] [.S s0, .L l4, .I i5])))))))))
def aF.Pure : Prop :=
 ∀ s0 : BA,
 ((s0.size : Int) ≤ 9223372036854775807) →
 aF.sig.pre [.S s0] →
 ∀ v1 v2 : Value,
 aF.I0 [.S s0, .L ([] : LD), .I 0] ∧ (
 ∀ v3 : Value,
 ∀ l4 : LD,
 ∀ i5 : Int,
 R64 i5 →
 (EK.ok [.int .i64, .str, .int .u64] (D.L l4)) →
 aF.I0 [.S s0, .L l4, .I i5] →
 ((
 (i5 < (s0.size : Int)) →
 Im (0 ≤ i5) (
 ((
 ((byteAt s0 i5) = 35) →
   aF.sig.post [.S s0, .V v3, .L l4, .B true]) ∧ (
 ((byteAt s0 i5) ≠ 35) →
 ((
 ((byteAt s0 i5) = 32) →
  Bk aF.I0 aF.I0M [.S s0, .L l4, .I (wrap .i64 (i5 + 1))] [.S s0, .L l4, .I i5]) ∧ (
 ((byteAt s0 i5) ≠ 32) →
 ((
 ((byteAt s0 i5) = 9) →
   Bk aF.I0 aF.I0M [.S s0, .L l4, .I (wrap .i64 (i5 + 1))] [.S s0, .L l4, .I i5]) ∧ (
 ((byteAt s0 i5) ≠ 9) →
 ((
 ((byteAt s0 i5) = 61) →
 Im (i5 ≤ (wrap .i64 (i5 + 1))) (
 Im ((wrap .i64 (i5 + 1)) ≤ (s0.size : Int)) (
 ∀ v6 : Value,
 Im (((l4 ++ ((D.L ((D.I (3 : Int)) :: ((D.S (s0.extract i5.toNat (wrap .i64 (i5 + (1 : Int))).toNat)) :: ((D.I (0 : Int)) :: ([] : LD))))) :: ([] : LD))).length : Int) ≤ (4398046511104 : Int)) (
 ∀ v7 : Value,
   Bk aF.I0 aF.I0M [.S s0, .L (l4 ++ ((D.L ((D.I 3) :: ((D.S (s0.extract i5.toNat (wrap .i64 (i5 + 1)).toNat)) :: ((D.I 0) :: ([] : LD))))) :: ([] : LD))), .I (wrap .i64 (i5 + 1))] [.S s0, .L l4, .I i5])))) ∧ (
 ((byteAt s0 i5) ≠ 61) →
 ((
 ((byteAt s0 i5) = 58) →
 Im (i5 ≤ (wrap .i64 (i5 + 1))) (
 Im ((wrap .i64 (i5 + 1)) ≤ (s0.size : Int)) (
 ∀ v6 : Value,
 Im (((l4 ++ ((D.L ((D.I (3 : Int)) :: ((D.S (s0.extract i5.toNat (wrap .i64 (i5 + (1 : Int))).toNat)) :: ((D.I (0 : Int)) :: ([] : LD))))) :: ([] : LD))).length : Int) ≤ (4398046511104 : Int)) (
 ∀ v7 : Value,
    Bk aF.I0 aF.I0M [.S s0, .L (l4 ++ ((D.L ((D.I 3) :: ((D.S (s0.extract i5.toNat (wrap .i64 (i5 + 1)).toNat)) :: ((D.I 0) :: ([] : LD))))) :: ([] : LD))), .I (wrap .i64 (i5 + 1))] [.S s0, .L l4, .I i5])))) ∧ (
 ((byteAt s0 i5) ≠ 58) →
    fZ.sig.pre [.I (byteAt s0 i5)] ∧ (
 ∀ b6 : Bool,
    fZ.sig.post [.I (byteAt s0 i5), .B b6] →
 ((
 (b6 = false) →
    cO.sig.pre [.I (byteAt s0 i5)] ∧ (
 ∀ b7 : Bool,
    cO.sig.post [.I (byteAt s0 i5), .B b7] →
 ((
 (b7 = false) →
 ∀ v8 : Value,
     aF.sig.post [.S s0, .V v8, .L ([] : LD), .B false]) ∧ (
 (b7 = true) →
     aF.I1 [.S s0, .I i5, .I i5] ∧ (
 ∀ i8 : Int,
 R64 i8 →
     aF.I1 [.S s0, .I i5, .I i8] →
 ((
 (i8 < (s0.size : Int)) →
 Im (0 ≤ i8) (
     fZ.sig.pre [.I (byteAt s0 i8)] ∧ (
 ∀ b9 : Bool,
     fZ.sig.post [.I (byteAt s0 i8), .B b9] →
 ((
 (b9 = true) →
      Bk aF.I1 aF.I1M [.S s0, .I i5, .I (wrap .i64 (i8 + 1))] [.S s0, .I i5, .I i8]) ∧ (
 (b9 = false) →
      cO.sig.pre [.I (byteAt s0 i8)] ∧ (
 ∀ b10 : Bool,
      cO.sig.post [.I (byteAt s0 i8), .B b10] →
 ((
 (b10 = true) →
      Bk aF.I1 aF.I1M [.S s0, .I i5, .I (wrap .i64 (i8 + 1))] [.S s0, .I i5, .I i8]) ∧ (
 (b10 = false) →
      aF.J0 [.S s0, .V v1, .V v2, .V v3, .L l4, .I i5, .I i8] ∧ (aF.K0 s0 v1 v2 v3 l4 i5))))))))) ∧ (
 ((s0.size : Int) ≤ i8) →
     aF.J0 [.S s0, .V v1, .V v2, .V v3, .L l4, .I i5, .I i8] ∧ (aF.K0 s0 v1 v2 v3 l4 i5)))))))) ∧ (
 (b6 = true) →
    aF.I1 [.S s0, .I i5, .I i5] ∧ (
 ∀ i7 : Int,
 R64 i7 →
    aF.I1 [.S s0, .I i5, .I i7] →
 ((
 (i7 < (s0.size : Int)) →
 Im (0 ≤ i7) (
     fZ.sig.pre [.I (byteAt s0 i7)] ∧ (
 ∀ b8 : Bool,
     fZ.sig.post [.I (byteAt s0 i7), .B b8] →
 ((
 (b8 = true) →
     Bk aF.I1 aF.I1M [.S s0, .I i5, .I (wrap .i64 (i7 + 1))] [.S s0, .I i5, .I i7]) ∧ (
 (b8 = false) →
     cO.sig.pre [.I (byteAt s0 i7)] ∧ (
 ∀ b9 : Bool,
     cO.sig.post [.I (byteAt s0 i7), .B b9] →
 ((
 (b9 = true) →
      Bk aF.I1 aF.I1M [.S s0, .I i5, .I (wrap .i64 (i7 + 1))] [.S s0, .I i5, .I i7]) ∧ (
 (b9 = false) →
      aF.J0 [.S s0, .V v1, .V v2, .V v3, .L l4, .I i5, .I i7] ∧ (aF.K0 s0 v1 v2 v3 l4 i5))))))))) ∧ (
 ((s0.size : Int) ≤ i7) →
     aF.J0 [.S s0, .V v1, .V v2, .V v3, .L l4, .I i5, .I i7] ∧ (aF.K0 s0 v1 v2 v3 l4 i5))))))))))))))))))) ∧ (
 ((s0.size : Int) ≤ i5) →
  aF.sig.post [.S s0, .V v3, .L l4, .B true])))
abbrev bF.K0 (b10 : Bool) (s0 : BA) (i5 : Int) (l9 : LD) (l4 : LD) (v8 : Value) (i7 : Int) (s6 : BA) : Prop :=
 ((
 (b10 = false) →
 ∀ v11 : Value,
    bF.sig.post [.S s0, .V v11, .L ([] : LD), .I i5, .I 10]) ∧ (
 (b10 = true) →
 ((
 (0 < (l9.length : Int)) →
 ∀ v11 : Value,
 Im (((l4 ++ ((D.L ((D.I i5) :: ((D.L ((D.V v8) :: ((D.L l9) :: ([] : LD)))) :: ([] : LD)))) :: ([] : LD))).length : Int) ≤ (4398046511104 : Int)) (
 ∀ v12 : Value,
     Bk bF.I0 bF.I0M [.S s0, .L (l4 ++ ((D.L ((D.I i5) :: ((D.L ((D.V v8) :: ((D.L l9) :: ([] : LD)))) :: ([] : LD)))) :: ([] : LD))), .I (wrap .i64 (i5 + 1)), .S (⟨#[]⟩ : BA), .I (wrap .i64 (i7 + 1))] [.S s0, .L l4, .I i5, .S s6, .I i7])) ∧ (
 ((l9.length : Int) ≤ (0 : Int)) →
     Bk bF.I0 bF.I0M [.S s0, .L l4, .I (wrap .i64 (i5 + 1)), .S (⟨#[]⟩ : BA), .I (wrap .i64 (i7 + 1))] [.S s0, .L l4, .I i5, .S s6, .I i7]))))
abbrev bF.K1 (s6 : BA) (s0 : BA) (i5 : Int) (l4 : LD) (i7 : Int) : Prop :=
 ((
 (0 < (s6.size : Int)) →
 Im ((0 : Int) ≤ (wrap .i64 ((s6.size : Int) - (1 : Int)))) (
 Im ((wrap .i64 ((s6.size : Int) - (1 : Int))) < (s6.size : Int)) (
 ((
 ((byteAt s6 (wrap .i64 ((s6.size : Int) - (1 : Int)))) = (13 : Int)) →
 Im ((wrap .i64 ((s6.size : Int) - (1 : Int))) ≤ (s6.size : Int)) (
    aF.sig.pre [.S (s6.extract (0 : Int).toNat (wrap .i64 ((s6.size : Int) - (1 : Int))).toNat)] ∧ (
 ∀ v8 : Value,
 ∀ l9 : LD,
 ∀ b10 : Bool,
    aF.sig.post [.S (s6.extract (0 : Int).toNat (wrap .i64 ((s6.size : Int) - (1 : Int))).toNat), .V v8, .L l9, .B b10] →
 (EK.ok [.int .i64, .str, .int .u64] (D.L l9)) →
 (bF.K0 b10 s0 i5 l9 l4 v8 i7 s6)))) ∧ (
 ((byteAt s6 (wrap .i64 ((s6.size : Int) - (1 : Int)))) ≠ (13 : Int)) →
    aF.sig.pre [.S s6] ∧ (
 ∀ v8 : Value,
 ∀ l9 : LD,
 ∀ b10 : Bool,
    aF.sig.post [.S s6, .V v8, .L l9, .B b10] →
 (EK.ok [.int .i64, .str, .int .u64] (D.L l9)) →
 (bF.K0 b10 s0 i5 l9 l4 v8 i7 s6))))))) ∧ (
 ((s6.size : Int) ≤ (0 : Int)) →
   aF.sig.pre [.S s6] ∧ (
 ∀ v8 : Value,
 ∀ l9 : LD,
 ∀ b10 : Bool,
   aF.sig.post [.S s6, .V v8, .L l9, .B b10] →
 (EK.ok [.int .i64, .str, .int .u64] (D.L l9)) →
 (bF.K0 b10 s0 i5 l9 l4 v8 i7 s6))))
def bF.Pure : Prop :=
 ∀ s0 : BA,
 ((s0.size : Int) ≤ 9223372036854775807) →
 bF.sig.pre [.S s0] →
 ∀ v1 : Value,
 ((
 (2000 < (s0.size : Int)) →
 ∀ v2 : Value,
  bF.sig.post [.S s0, .V v2, .L ([] : LD), .I 0, .I 17]) ∧ (
 ((s0.size : Int) ≤ (2000 : Int)) →
 ∀ v2 : Value,
  bF.I0 [.S s0, .L ([] : LD), .I 1, .S (⟨#[]⟩ : BA), .I 0] ∧ (
 ∀ v3 : Value,
 ∀ l4 : LD,
 ∀ i5 : Int,
 ∀ s6 : BA,
 ∀ i7 : Int,
 R64 i5 →
 ((s6.size : Int) ≤ 9223372036854775807) →
 R64 i7 →
 (EK.ok [.int .i64, .sl [.int .i64, .str, .int .u64]] (D.L l4)) →
  bF.I0 [.S s0, .L l4, .I i5, .S s6, .I i7] →
 ((
 (i7 ≤ (s0.size : Int)) →
 ((
 (i7 < (s0.size : Int)) →
 Im (0 ≤ i7) (
 ((
 ((byteAt s0 i7) ≠ 10) →
 Im (i7 ≤ (wrap .i64 (i7 + 1))) (
 Im ((wrap .i64 (i7 + 1)) ≤ (s0.size : Int)) (
 Im (((s6 ++ (s0.extract i7.toNat (wrap .i64 (i7 + (1 : Int))).toNat)).size : Int) ≤ (9223372036854775807 : Int)) (
     Bk bF.I0 bF.I0M [.S s0, .L l4, .I i5, .S (s6 ++ (s0.extract i7.toNat (wrap .i64 (i7 + 1)).toNat)), .I (wrap .i64 (i7 + 1))] [.S s0, .L l4, .I i5, .S s6, .I i7])))) ∧ (
 ((byteAt s0 i7) = 10) →
 (bF.K1 s6 s0 i5 l4 i7))))) ∧ (
 ((s0.size : Int) ≤ i7) →
 (bF.K1 s6 s0 i5 l4 i7)))) ∧ (
 ((s0.size : Int) < i7) →
   bF.sig.post [.S s0, .V v3, .L l4, .I 0, .I 0])))))
def dF.Pure : Prop :=
 dF.sig.pre [] →
 bD.sig.pre [.S (⟨#[10, 115, 116, 111, 114, 101, 32, 120, 32, 48, 120, 49, 48, 32, 35, 32, 97, 32, 110, 111, 116, 101]⟩ : BA)] ∧ (
 ∀ v0 : Value,
 ∀ l1 : LD,
 ∀ i2 i3 : Int,
 bD.sig.post [.S (⟨#[10, 115, 116, 111, 114, 101, 32, 120, 32, 48, 120, 49, 48, 32, 35, 32, 97, 32, 110, 111, 116, 101]⟩ : BA), .V v0, .L l1, .I i2, .I i3] →
 R64 i2 →
 R64 i3 →
 (EK.ok [.int .i64, .sl [.int .i64, .str, .int .u64]] (D.L l1)) →
 bD.sig.pre [.S (⟨#[120, 10, 49, 120]⟩ : BA)] ∧ (
 ∀ v4 : Value,
 ∀ l5 : LD,
 ∀ i6 i7 : Int,
 bD.sig.post [.S (⟨#[120, 10, 49, 120]⟩ : BA), .V v4, .L l5, .I i6, .I i7] →
 R64 i6 →
 R64 i7 →
 (EK.ok [.int .i64, .sl [.int .i64, .str, .int .u64]] (D.L l5)) →
 ((
 (i3 = 0) →
 ((
 ((l1.length : Int) = (1 : Int)) →
 Im (0 < (l1.length : Int)) (
 ((
 (((l1.getD (0 : Int).toNat default).toL.getD (0 : Int).toNat default).toI = 2) →
 ((
 (((((l1.getD (0 : Int).toNat default).toL.getD (1 : Int).toNat default).toL.getD (1 : Int).toNat default).toL.length : Int) = (3 : Int)) →
 Im (2 < ((((l1.getD (0 : Int).toNat default).toL.getD (1 : Int).toNat default).toL.getD (1 : Int).toNat default).toL.length : Int)) (
 ((
 (((((((l1.getD (0 : Int).toNat default).toL.getD (1 : Int).toNat default).toL.getD (1 : Int).toNat default).toL.getD (2 : Int).toNat default).toL.getD (0 : Int).toNat default).toI = 2) ∧ (((((((l1.getD (0 : Int).toNat default).toL.getD (1 : Int).toNat default).toL.getD (1 : Int).toNat default).toL.getD (2 : Int).toNat default).toL.getD (1 : Int).toNat default).toS = (⟨#[48, 120, 49, 48]⟩ : BA)) ∧ ((((((l1.getD (0 : Int).toNat default).toL.getD (1 : Int).toNat default).toL.getD (1 : Int).toNat default).toL.getD (2 : Int).toNat default).toL.getD (2 : Int).toNat default).toI = 16))) →
 ((
 (i7 = 10) →
    dF.sig.post [.B (i6 == 2)]) ∧ (
 (i7 ≠ 10) →
    dF.sig.post [.B false]))) ∧ (
 (((((((l1.getD (0 : Int).toNat default).toL.getD (1 : Int).toNat default).toL.getD (1 : Int).toNat default).toL.getD (2 : Int).toNat default).toL.getD (0 : Int).toNat default).toI ≠ 2) ∨ (((((((l1.getD (0 : Int).toNat default).toL.getD (1 : Int).toNat default).toL.getD (1 : Int).toNat default).toL.getD (2 : Int).toNat default).toL.getD (1 : Int).toNat default).toS ≠ (⟨#[48, 120, 49, 48]⟩ : BA)) ∨ ((((((l1.getD (0 : Int).toNat default).toL.getD (1 : Int).toNat default).toL.getD (1 : Int).toNat default).toL.getD (2 : Int).toNat default).toL.getD (2 : Int).toNat default).toI ≠ 16))) →
      dF.sig.post [.B false])))) ∧ (
 (((((l1.getD (0 : Int).toNat default).toL.getD (1 : Int).toNat default).toL.getD (1 : Int).toNat default).toL.length : Int) ≠ (3 : Int)) →
     dF.sig.post [.B false]))) ∧ (
 (((l1.getD (0 : Int).toNat default).toL.getD (0 : Int).toNat default).toI ≠ 2) →
    dF.sig.post [.B false])))) ∧ (
 ((l1.length : Int) ≠ (1 : Int)) →
   dF.sig.post [.B false]))) ∧ (
 (i3 ≠ 0) →
  dF.sig.post [.B false]))))
def bP.Pure : Prop :=
 ∀ v0 : Value,
 ∀ l1 : LD,
 ∀ v2 : Value,
 ∀ l3 : LD,
 (EK.ok [.int .i64, .sl [.int .i64, .str, .int .u64]] (D.L l1)) →
 (EK.ok [.int .i64, .sl [.int .i64, .str, .int .u64]] (D.L l3)) →
 bP.sig.pre [.V v0, .L l1, .V v2, .L l3] →
 ((
 ((l1.length : Int) ≠ (l3.length : Int)) →
  bP.sig.post [.V v0, .L l1, .V v2, .L l3, .I (-1 : Int)]) ∧ (
 ((l1.length : Int) = (l3.length : Int)) →
  bP.I0 [.V v0, .L l1, .V v2, .L l3, .I 0] ∧ (
 ∀ i4 : Int,
 R64 i4 →
  bP.I0 [.V v0, .L l1, .V v2, .L l3, .I i4] →
 ((
 (i4 < (l3.length : Int)) →
 Im (0 ≤ i4) (
 Im (i4 < (l1.length : Int)) (
 ((
 (((l1.getD i4.toNat default).toL.getD (0 : Int).toNat default).toI ≠ ((l3.getD i4.toNat default).toL.getD (0 : Int).toNat default).toI) →
    bP.sig.post [.V v0, .L l1, .V v2, .L l3, .I (-1 : Int)]) ∧ (
 (((l1.getD i4.toNat default).toL.getD (0 : Int).toNat default).toI = ((l3.getD i4.toNat default).toL.getD (0 : Int).toNat default).toI) →
 ((
 (((((l1.getD i4.toNat default).toL.getD (1 : Int).toNat default).toL.getD (1 : Int).toNat default).toL.length : Int) ≠ ((((l3.getD i4.toNat default).toL.getD (1 : Int).toNat default).toL.getD (1 : Int).toNat default).toL.length : Int)) →
     bP.sig.post [.V v0, .L l1, .V v2, .L l3, .I (-1 : Int)]) ∧ (
 (((((l1.getD i4.toNat default).toL.getD (1 : Int).toNat default).toL.getD (1 : Int).toNat default).toL.length : Int) = ((((l3.getD i4.toNat default).toL.getD (1 : Int).toNat default).toL.getD (1 : Int).toNat default).toL.length : Int)) →
     bP.I1 [.V v0, .L l1, .V v2, .L l3, .I 0] ∧ (
 ∀ i5 : Int,
 R64 i5 →
   bP.I1 [.V v0, .L l1, .V v2, .L l3, .I i5] →
 ((
 (i5 < ((((l3.getD i4.toNat default).toL.getD (1 : Int).toNat default).toL.getD (1 : Int).toNat default).toL.length : Int)) →
 Im (0 ≤ i5) (
 Im (i5 < ((((l1.getD i4.toNat default).toL.getD (1 : Int).toNat default).toL.getD (1 : Int).toNat default).toL.length : Int)) (
 ((
 (((((((l1.getD i4.toNat default).toL.getD (1 : Int).toNat default).toL.getD (1 : Int).toNat default).toL.getD i5.toNat default).toL.getD (0 : Int).toNat default).toI ≠ (((((l3.getD i4.toNat default).toL.getD (1 : Int).toNat default).toL.getD (1 : Int).toNat default).toL.getD i5.toNat default).toL.getD (0 : Int).toNat default).toI) ∨ (((((((l1.getD i4.toNat default).toL.getD (1 : Int).toNat default).toL.getD (1 : Int).toNat default).toL.getD i5.toNat default).toL.getD (1 : Int).toNat default).toS ≠ (((((l3.getD i4.toNat default).toL.getD (1 : Int).toNat default).toL.getD (1 : Int).toNat default).toL.getD i5.toNat default).toL.getD (1 : Int).toNat default).toS) ∨ ((((((l1.getD i4.toNat default).toL.getD (1 : Int).toNat default).toL.getD (1 : Int).toNat default).toL.getD i5.toNat default).toL.getD (2 : Int).toNat default).toI ≠ (((((l3.getD i4.toNat default).toL.getD (1 : Int).toNat default).toL.getD (1 : Int).toNat default).toL.getD i5.toNat default).toL.getD (2 : Int).toNat default).toI))) →
       bP.sig.post [.V v0, .L l1, .V v2, .L l3, .I (-1 : Int)]) ∧ (
 (((((((l1.getD i4.toNat default).toL.getD (1 : Int).toNat default).toL.getD (1 : Int).toNat default).toL.getD i5.toNat default).toL.getD (0 : Int).toNat default).toI = (((((l3.getD i4.toNat default).toL.getD (1 : Int).toNat default).toL.getD (1 : Int).toNat default).toL.getD i5.toNat default).toL.getD (0 : Int).toNat default).toI) ∧ (((((((l1.getD i4.toNat default).toL.getD (1 : Int).toNat default).toL.getD (1 : Int).toNat default).toL.getD i5.toNat default).toL.getD (1 : Int).toNat default).toS = (((((l3.getD i4.toNat default).toL.getD (1 : Int).toNat default).toL.getD (1 : Int).toNat default).toL.getD i5.toNat default).toL.getD (1 : Int).toNat default).toS) ∧ ((((((l1.getD i4.toNat default).toL.getD (1 : Int).toNat default).toL.getD (1 : Int).toNat default).toL.getD i5.toNat default).toL.getD (2 : Int).toNat default).toI = (((((l3.getD i4.toNat default).toL.getD (1 : Int).toNat default).toL.getD (1 : Int).toNat default).toL.getD i5.toNat default).toL.getD (2 : Int).toNat default).toI))) →
       Bk bP.I1 bP.I1M [.V v0, .L l1, .V v2, .L l3, .I (wrap .i64 (i5 + 1))] [.V v0, .L l1, .V v2, .L l3, .I i5]))))) ∧ (
 (((((l3.getD i4.toNat default).toL.getD (1 : Int).toNat default).toL.getD (1 : Int).toNat default).toL.length : Int) ≤ i5) →
      Bk bP.I0 bP.I0M [.V v0, .L l1, .V v2, .L l3, .I (wrap .i64 (i4 + 1))] [.V v0, .L l1, .V v2, .L l3, .I i4])))))))))) ∧ (
 ((l3.length : Int) ≤ i4) →
   bP.sig.post [.V v0, .L l1, .V v2, .L l3, .I 0])))))
def kG.Pure : Prop :=
 ∀ s0 : BA,
 ((s0.size : Int) ≤ 9223372036854775807) →
 kG.sig.pre [.S s0] →
 gG.sig.pre [.S s0, .I 2010] ∧ (
 ∀ s1 : BA,
 gG.sig.post [.S s0, .I 2010, .S s1] →
 ((s1.size : Int) ≤ 9223372036854775807) →
 bD.sig.pre [.S s1] ∧ (
 ∀ v2 : Value,
 ∀ l3 : LD,
 ∀ i4 i5 : Int,
 bD.sig.post [.S s1, .V v2, .L l3, .I i4, .I i5] →
 R64 i4 →
 R64 i5 →
 (EK.ok [.int .i64, .sl [.int .i64, .str, .int .u64]] (D.L l3)) →
 bF.sig.pre [.S s1] ∧ (
 ∀ v6 : Value,
 ∀ l7 : LD,
 ∀ i8 i9 : Int,
 bF.sig.post [.S s1, .V v6, .L l7, .I i8, .I i9] →
 R64 i8 →
 R64 i9 →
 (EK.ok [.int .i64, .sl [.int .i64, .str, .int .u64]] (D.L l7)) →
 dF.sig.pre [] ∧ (
 ∀ b10 : Bool,
 dF.sig.post [.B b10] →
 ((
 (b10 = true) →
 ((
 (i5 = i9) →
 ((
 (i4 = i8) →
  bP.sig.pre [.V v2, .L l3, .V v6, .L l7] ∧ (
 ∀ i11 : Int,
  bP.sig.post [.V v2, .L l3, .V v6, .L l7, .I i11] →
 R64 i11 →
  kG.sig.post [.S s0, .B (i11 == 0)])) ∧ (
 (i4 ≠ i8) →
  kG.sig.post [.S s0, .B false]))) ∧ (
 (i5 ≠ i9) →
  kG.sig.post [.S s0, .B false]))) ∧ (
 (b10 = false) →
  kG.sig.post [.S s0, .B false]))))))
def aU.Pure : Prop :=
 ∀ s0 s1 : BA,
 ((s0.size : Int) ≤ 9223372036854775807) →
 ((s1.size : Int) ≤ 9223372036854775807) →
 aU.sig.pre [.S s0, .S s1] →
 gG.sig.pre [.S s0, .I 300] ∧ (
 ∀ s2 : BA,
 gG.sig.post [.S s0, .I 300, .S s2] →
 ((s2.size : Int) ≤ 9223372036854775807) →
 gG.sig.pre [.S s1, .I 300] ∧ (
 ∀ s3 : BA,
 gG.sig.post [.S s1, .I 300, .S s3] →
 ((s3.size : Int) ≤ 9223372036854775807) →
 bD.sig.pre [.S s2] ∧ (
 ∀ v4 : Value,
 ∀ l5 : LD,
 ∀ i6 i7 : Int,
 bD.sig.post [.S s2, .V v4, .L l5, .I i6, .I i7] →
 R64 i6 →
 R64 i7 →
 (EK.ok [.int .i64, .sl [.int .i64, .str, .int .u64]] (D.L l5)) →
 bD.sig.pre [.S s3] ∧ (
 ∀ v8 : Value,
 ∀ l9 : LD,
 ∀ i10 i11 : Int,
 bD.sig.post [.S s3, .V v8, .L l9, .I i10, .I i11] →
 R64 i10 →
 R64 i11 →
 (EK.ok [.int .i64, .sl [.int .i64, .str, .int .u64]] (D.L l9)) →
 Im (((s2 ++ (⟨#[10]⟩ : BA)).size : Int) ≤ (9223372036854775807 : Int)) (
 Im ((((s2 ++ (⟨#[10]⟩ : BA)) ++ s3).size : Int) ≤ (9223372036854775807 : Int)) (
 bD.sig.pre [.S ((s2 ++ (⟨#[10]⟩ : BA)) ++ s3)] ∧ (
 ∀ v12 : Value,
 ∀ l13 : LD,
 ∀ i14 i15 : Int,
 bD.sig.post [.S ((s2 ++ (⟨#[10]⟩ : BA)) ++ s3), .V v12, .L l13, .I i14, .I i15] →
 R64 i14 →
 R64 i15 →
 (EK.ok [.int .i64, .sl [.int .i64, .str, .int .u64]] (D.L l13)) →
 ((
 (i7 ≠ 0) →
  dF.sig.pre [] ∧ (
 ∀ b16 : Bool,
  dF.sig.post [.B b16] →
 ((
 (b16 = true) →
  aU.sig.post [.S s0, .S s1, .B (i15 == 10)]) ∧ (
 (b16 = false) →
  aU.sig.post [.S s0, .S s1, .B false])))) ∧ (
 (i7 = 0) →
 ((
 (i11 ≠ 0) →
  dF.sig.pre [] ∧ (
 ∀ b16 : Bool,
  dF.sig.post [.B b16] →
 ((
 (b16 = true) →
  aU.sig.post [.S s0, .S s1, .B (i15 == 10)]) ∧ (
 (b16 = false) →
  aU.sig.post [.S s0, .S s1, .B false])))) ∧ (
 (i11 = 0) →
  aU.I0 [.S s0, .S s1, .I 1, .I 0] ∧ (
 ∀ i16 i17 : Int,
 R64 i16 →
 R64 i17 →
  aU.I0 [.S s0, .S s1, .I i16, .I i17] →
 ((
 (i17 < (s2.size : Int)) →
 Im (0 ≤ i17) (
 ((
 ((byteAt s2 i17) = 10) →
   Bk aU.I0 aU.I0M [.S s0, .S s1, .I (wrap .i64 (i16 + 1)), .I (wrap .i64 (i17 + 1))] [.S s0, .S s1, .I i16, .I i17]) ∧ (
 ((byteAt s2 i17) ≠ 10) →
   Bk aU.I0 aU.I0M [.S s0, .S s1, .I i16, .I (wrap .i64 (i17 + 1))] [.S s0, .S s1, .I i16, .I i17])))) ∧ (
 ((s2.size : Int) ≤ i17) →
 ((
 (i15 ≠ 0) →
   aU.sig.post [.S s0, .S s1, .B false]) ∧ (
 (i15 = 0) →
 ((
 ((l13.length : Int) ≠ (wrap .i64 ((l5.length : Int) + (l9.length : Int)))) →
   aU.sig.post [.S s0, .S s1, .B false]) ∧ (
 ((l13.length : Int) = (wrap .i64 ((l5.length : Int) + (l9.length : Int)))) →
   aU.I1 [.S s0, .S s1, .I 0] ∧ (
 ∀ i18 : Int,
 R64 i18 →
   aU.I1 [.S s0, .S s1, .I i18] →
 ((
 (i18 < (l13.length : Int)) →
 ∀ v19 : Value,
 ∀ n20 : Nat,
 ∀ v21 : Value,
 ((
 (i18 < (l5.length : Int)) →
 Im (0 ≤ i18) (
 ((
 (((l13.getD i18.toNat default).toL.getD (0 : Int).toNat default).toI ≠ ((l5.getD i18.toNat default).toL.getD (0 : Int).toNat default).toI) →
     aU.sig.post [.S s0, .S s1, .B false]) ∧ (
 (((l13.getD i18.toNat default).toL.getD (0 : Int).toNat default).toI = ((l5.getD i18.toNat default).toL.getD (0 : Int).toNat default).toI) →
 ((
 (((((l13.getD i18.toNat default).toL.getD (1 : Int).toNat default).toL.getD (1 : Int).toNat default).toL.length : Int) ≠ ((((l5.getD i18.toNat default).toL.getD (1 : Int).toNat default).toL.getD (1 : Int).toNat default).toL.length : Int)) →
     aU.sig.post [.S s0, .S s1, .B false]) ∧ (
 (((((l13.getD i18.toNat default).toL.getD (1 : Int).toNat default).toL.getD (1 : Int).toNat default).toL.length : Int) = ((((l5.getD i18.toNat default).toL.getD (1 : Int).toNat default).toL.getD (1 : Int).toNat default).toL.length : Int)) →
     Bk aU.I1 aU.I1M [.S s0, .S s1, .I (wrap .i64 (i18 + 1))] [.S s0, .S s1, .I i18])))))) ∧ (
 ((l5.length : Int) ≤ i18) →
 Im (0 ≤ (wrap .i64 (i18 - (l5.length : Int)))) (
 Im ((wrap .i64 (i18 - (l5.length : Int))) < (l9.length : Int)) (
 Im (0 ≤ i18) (
 ((
 (((l13.getD i18.toNat default).toL.getD (0 : Int).toNat default).toI ≠ (wrap .i64 (((l9.getD (wrap .i64 (i18 - (l5.length : Int))).toNat default).toL.getD (0 : Int).toNat default).toI + i16))) →
     aU.sig.post [.S s0, .S s1, .B false]) ∧ (
 (((l13.getD i18.toNat default).toL.getD (0 : Int).toNat default).toI = (wrap .i64 (((l9.getD (wrap .i64 (i18 - (l5.length : Int))).toNat default).toL.getD (0 : Int).toNat default).toI + i16))) →
 ((
 (((((l13.getD i18.toNat default).toL.getD (1 : Int).toNat default).toL.getD (1 : Int).toNat default).toL.length : Int) ≠ ((((l9.getD (wrap .i64 (i18 - (l5.length : Int))).toNat default).toL.getD (1 : Int).toNat default).toL.getD (1 : Int).toNat default).toL.length : Int)) →
     aU.sig.post [.S s0, .S s1, .B false]) ∧ (
 (((((l13.getD i18.toNat default).toL.getD (1 : Int).toNat default).toL.getD (1 : Int).toNat default).toL.length : Int) = ((((l9.getD (wrap .i64 (i18 - (l5.length : Int))).toNat default).toL.getD (1 : Int).toNat default).toL.getD (1 : Int).toNat default).toL.length : Int)) →
     Bk aU.I1 aU.I1M [.S s0, .S s1, .I (wrap .i64 (i18 + 1))] [.S s0, .S s1, .I i18])))))))))) ∧ (
 ((l13.length : Int) ≤ i18) →
    dF.sig.pre [] ∧ (
 ∀ b19 : Bool,
    dF.sig.post [.B b19] →
    aU.sig.post [.S s0, .S s1, .B b19]))))))))))))))))))))))
end Go.Vc
namespace Go.Vc
open Lx
theorem gG.pure : gG.Pure := by
 intro s0 i1 _ _ hp
 have hp : 0 ≤ i1 := hp
 refine ⟨fun h => ⟨hp, fun _ => ⟨by omega, fun _ => rfl⟩⟩, fun h => ?_⟩
 show s0 = s0.extract 0 i1.toNat
 apply sO
 rw [iW, List.drop_zero, List.take_of_length_le (by rw [sQ]; omega)]
theorem fZ.pure : fZ.Pure := iE.pure
theorem cO.pure : cO.Pure := fH.pure
theorem qA (s : BA) (i : Int) : byteAt s i = (((tx s).getD i.toNat 0).toNat : Int) := by rw [aA7, wF]
theorem bM.pure : bM.Pure := by
 intro n b v hn hb hv hp
 have hp : b ≤ 1000 := hp
 refine ⟨⟨Int.le_refl _, hb.1, by show v = n * 0 + v; simp⟩, fun s i hs hi hI => ?_⟩
 obtain ⟨a0, a1, a2⟩ : 0 ≤ i ∧ i ≤ b ∧ s = n * i + v := hI
 have e1 : n * (i + 1) = n * i + n := by rw [Int.mul_add, Int.mul_one]
 refine ⟨fun h => ⟨fun h' => ?_, fun h' => ?_⟩, fun h => ?_⟩
 ·rw [IntKind.wrap_u64] at h'
  show isNum (if n * b + v < 18446744073709551616 then _ else none) 0 false
  have h2 : n * (i + 1) ≤ n * b := Int.mul_le_mul_of_nonneg_left (by omega) hn.1
  rw [if_neg (by omega)]; rfl
 ·rw [IntKind.wrap_u64] at h' ⊢
  have h3 : (s + n) % 18446744073709551616 = s + n := by omega
  rw [h3, kP (x := i + 1) (by omega) (by omega)]
  refine ⟨⟨by show 0 ≤ i + 1; omega, by show i + 1 ≤ b; omega, by show s + n = n * (i + 1) + v; omega⟩, by show (b - (i + 1)).toNat < (b - i).toNat; omega⟩
 ·have hib : i = b := by omega
  rw [hib] at a2
  show isNum (if n * b + v < 18446744073709551616 then some (n * b + v).toNat else none) s true
  rw [if_pos (by omega)]
  exact ⟨by omega, rfl⟩
theorem aZ3 {s0 x : BA} {base : Int} {B : Nat} (hB : base = B) (hb : B = 10 ∨ B = 16) (hx : aT (tx s0) = (B, tx x)) (hp : s0.size ≤ 1000000) (hxs : x.size ≤ s0.size) (hne : x.size ≠ 0) {i1 i2 : Int}
  (hI : aK.I0 [.S s0, .I i1, .I i2]) :
  ((i2 < ((x.size : Nat) : Int)) →
    ((0 : Int) ≤ i2) ∧ (((0 : Int) ≤ i2) →
    cO.sig.pre [(D.I (byteAt x i2))] ∧ (
    ∀ b3 : Bool,
    cO.sig.post [(D.I (byteAt x i2)), (D.B b3)] →
    ((
     (b3 = true) →
     ((
      (base ≤ (wrap .u64 ((wrap .u64 (byteAt x i2)) - (48 : Int)))) →
      aK.sig.post [(D.S s0), (D.I (0 : Int)), (D.B false)]) ∧ (
      ((wrap .u64 ((wrap .u64 (byteAt x i2)) - (48 : Int))) < base) →
      bM.sig.pre [(D.I i1), (D.I base), (D.I (wrap .u64 ((wrap .u64 (byteAt x i2)) - (48 : Int))))] ∧ (
      ∀ i4 : Int,
      ∀ b5 : Bool,
      bM.sig.post [(D.I i1), (D.I base), (D.I (wrap .u64 ((wrap .u64 (byteAt x i2)) - (48 : Int)))), (D.I i4), (D.B b5)] →
      (0 ≤ i4 ∧ i4 < 18446744073709551616) →
      ((
       (b5 = false) →
       aK.sig.post [(D.S s0), (D.I (0 : Int)), (D.B false)]) ∧ (
       (b5 = true) →
       aK.I0 [(D.S s0), (D.I i4), (D.I (wrap .i64 (i2 + (1 : Int))))] ∧ aK.I0M [(D.S s0), (D.I i4), (D.I (wrap .i64 (i2 + (1 : Int))))] < aK.I0M [(D.S s0), (D.I i1), (D.I i2)])))))) ∧ (
     (b3 = false) →
     ((
      ((97 : Int) ≤ (byteAt x i2)) →
      ((
       ((byteAt x i2) ≤ (102 : Int)) →
       ((
        (base ≤ (wrap .u64 ((wrap .u64 (byteAt x i2)) - (87 : Int)))) →
        aK.sig.post [(D.S s0), (D.I (0 : Int)), (D.B false)]) ∧ (
        ((wrap .u64 ((wrap .u64 (byteAt x i2)) - (87 : Int))) < base) →
        bM.sig.pre [(D.I i1), (D.I base), (D.I (wrap .u64 ((wrap .u64 (byteAt x i2)) - (87 : Int))))] ∧ (
        ∀ i4 : Int,
        ∀ b5 : Bool,
        bM.sig.post [(D.I i1), (D.I base), (D.I (wrap .u64 ((wrap .u64 (byteAt x i2)) - (87 : Int)))), (D.I i4), (D.B b5)] →
        (0 ≤ i4 ∧ i4 < 18446744073709551616) →
        ((
         (b5 = false) →
         aK.sig.post [(D.S s0), (D.I (0 : Int)), (D.B false)]) ∧ (
         (b5 = true) →
         aK.I0 [(D.S s0), (D.I i4), (D.I (wrap .i64 (i2 + (1 : Int))))] ∧ aK.I0M [(D.S s0), (D.I i4), (D.I (wrap .i64 (i2 + (1 : Int))))] < aK.I0M [(D.S s0), (D.I i1), (D.I i2)])))))) ∧ (
       ((102 : Int) < (byteAt x i2)) →
       aK.sig.post [(D.S s0), (D.I (0 : Int)), (D.B false)]))) ∧ (
      ((byteAt x i2) < (97 : Int)) →
      aK.sig.post [(D.S s0), (D.I (0 : Int)), (D.B false)]))))))) ∧ (
    (((x.size : Nat) : Int) ≤ i2) →
    aK.sig.post [(D.S s0), (D.I i1), (D.B true)]) := by
 have hI : 0 ≤ i2 ∧ i2 ≤ (aT (tx s0)).2.length ∧ 0 ≤ i1 ∧ i1 < 18446744073709551616 ∧ bU (aT (tx s0)).1 0 (aT (tx s0)).2 = bU (aT (tx s0)).1 i1.toNat ((aT (tx s0)).2.drop i2.toNat) := hI
 rw [hx] at hI
 dsimp only at hI
 obtain ⟨a0, a1, a2, a3, a4⟩ := hI
 have hl : (tx x).length = x.size := rfl
 have hne : tx x ≠ [] := fun hh => by rw [hh] at hl; simp at hl; omega
 have hnum : tx x ≠ [] → num (tx s0) = bU B 0 (tx x) := fun h => by rw [mP, hx, if_neg h]
 have fin : ∀ n b, isNum (num (tx s0)) n b → aK.sig.post [.S s0, .I n, .B b] := fun n b h => h
 refine ⟨fun h1 => ⟨a0, fun _ => ⟨trivial, fun b3 h3 => ?_⟩⟩, fun h1 => ?_⟩
 ·have hne : tx x ≠ [] := fun hh => by rw [hh] at hl; simp at hl; omega
  have h3 : b3 = Lx.digit (b8 (byteAt x i2)) := h3
  rw [lT] at h3
  rw [qA]
  rw [drop_at (by omega : i2.toNat < (tx x).length), bU] at a4
  generalize (tx x).getD i2.toNat 0 = c at h3 a4 ⊢
  have hc := c.toNat_lt
  have bad : ¬ val c < B → aK.sig.post [.S s0, .I 0, .B false] := fun h => fin _ _ (by rw [hnum hne, a4, if_neg (fun hh => h hh.1)]; rfl)
  have good : ∀ v : Int, v = (val c : Nat) → ((base ≤ v → aK.sig.post [(D.S s0), (D.I (0 : Int)), (D.B false)]) ∧ (v < base →
    bM.sig.pre [(D.I i1), (D.I base), (D.I v)] ∧ (∀ (i4 : Int), ∀ (b5 : Bool), bM.sig.post [(D.I i1), (D.I base), (D.I v), (D.I i4), (D.B b5)] → (0 ≤ i4 ∧ i4 < 18446744073709551616) →
    ((b5 = false → aK.sig.post [(D.S s0), (D.I (0 : Int)), (D.B false)]) ∧ (b5 = true →
     aK.I0 [(D.S s0), (D.I i4), (D.I (wrap .i64 (i2 + (1 : Int))))] ∧ aK.I0M [(D.S s0), (D.I i4), (D.I (wrap .i64 (i2 + (1 : Int))))] < aK.I0M [(D.S s0), (D.I i1), (D.I i2)]))))) := fun v hv => by
   refine ⟨fun h => bad (by omega), fun h => ⟨by show base ≤ 1000; omega, fun i4 b5 h5 r4 => ?_⟩⟩
   have h5 : isNum (if i1 * base + v < 18446744073709551616 then some (i1 * base + v).toNat else none) i4 b5 := h5
   have hpos : 0 ≤ i1 * base := Int.mul_nonneg a2 (by omega)
   have hnat : ((i1.toNat * B + val c : Nat) : Int) = i1 * base + v := by
    rw [Int.natCast_add, Int.natCast_mul, Int.toNat_of_nonneg a2, hv, hB]
   by_cases hh : i1 * base + v < 18446744073709551616
   ·rw [if_pos hh] at h5
    obtain ⟨h6, h7⟩ := h5
    rw [h7]
    refine ⟨nofun, fun _ => ?_⟩
    rw [wrap64 (by omega) (by omega)]
    refine ⟨⟨by show 0 ≤ i2 + 1; omega, by show i2 + 1 ≤ (aT (tx s0)).2.length; rw [hx]; show i2 + 1 ≤ (tx x).length; omega, r4.1, r4.2, ?_⟩, by show (s0.size - (i2 + 1)).toNat < (s0.size - i2).toNat; omega⟩
    show bU (aT (tx s0)).1 0 (aT (tx s0)).2 = bU (aT (tx s0)).1 i4.toNat ((aT (tx s0)).2.drop (i2 + 1).toNat)
    rw [hx]
    show bU B 0 (tx x) = bU B i4.toNat ((tx x).drop (i2 + 1).toNat)
    rw [a4, if_pos ⟨by omega, by omega⟩, show (i2 + 1).toNat = i2.toNat + 1 by omega, show i4.toNat = i1.toNat * B + val c by omega]
   ·rw [if_neg hh] at h5
    have h5 : b5 = false := h5
    rw [h5]
    refine ⟨fun _ => fin _ _ ?_, nofun⟩
    rw [hnum hne, a4, if_neg (fun hh' => by omega)]; rfl
  refine ⟨fun h => ?_, fun h => ⟨fun h97 => ⟨fun h102 => ?_, fun h102 => bad ?_⟩, fun h97 => bad ?_⟩⟩
  ·rw [h] at h3
   have hd : 48 ≤ c.toNat ∧ c.toNat ≤ 57 := by have := h3.symm; simpa [digit] using this
   rw [kP (x := (c.toNat : Int)) (by omega) (by omega), kP (by omega) (by omega)]
   refine good _ ?_
   rw [val, if_pos h3.symm]; omega
  ·rw [h] at h3
   rw [kP (x := (c.toNat : Int)) (by omega) (by omega), kP (by omega) (by omega)]
   refine good _ ?_
   rw [val, if_neg (by rw [← h3]; simp), if_pos (by omega)]; omega
  ·rw [h] at h3
   rw [val, if_neg (by rw [← h3]; simp), if_neg (by omega)]; omega
  ·rw [h] at h3
   rw [val, if_neg (by rw [← h3]; simp), if_neg (by omega)]; omega
 ·refine fin _ _ ?_
  rw [List.drop_eq_nil_of_le (by omega), bU] at a4
  rw [hnum hne, a4]
  exact ⟨by omega, rfl⟩
theorem aK.pure : aK.Pure := by
 intro s0 _ hp
 have hp : s0.size ≤ 1000000 := hp
 have hl : (tx s0).length = s0.size := rfl
 have hK : (tx s0).take 2 ≠ [48, 120] → aK.K0 s0 := fun hne => by
  have e : aT (tx s0) = (10, tx s0) := if_neg hne
  refine ⟨fun h => ?_, fun h => ⟨⟨Int.le_refl _, Int.natCast_nonneg _, Int.le_refl _, by show (0 : Int) < 18446744073709551616; omega, rfl⟩, fun i1 i2 _ _ hI => aZ3 (B := 10) rfl (.inl rfl) e hp (Nat.le_refl _) (by omega) hI⟩⟩
  show isNum (num (tx s0)) 0 false
  have : tx s0 = [] := List.eq_nil_of_length_eq_zero (by omega)
  rw [this]; rfl
 have hb : ∀ i : Nat, byteAt s0 (i : Int) = (((tx s0).getD i 0).toNat : Int) := fun i => by rw [qA, Int.toNat_natCast]
 have h0 := hb 0
 have h1 := hb 1
 refine ⟨fun h => ⟨by omega, fun _ => ⟨fun e0 => ⟨fun e1 => ⟨by omega, fun _ => ?_⟩, fun e1 => hK fun hh => ?_⟩, fun e0 => hK fun hh => ?_⟩⟩, fun h => hK fun hh => ?_⟩
 ·obtain ⟨a, b, r, hs⟩ : ∃ a b r, tx s0 = a :: b :: r := by
   match hx : tx s0 with
   | [] => rw [hx] at hl; simp at hl; omega
   | [_] => rw [hx] at hl; simp at hl; omega
   | a :: b :: r => exact ⟨a, b, r, rfl⟩
  rw [hs] at h0 h1
  have ea : a = 48 := UInt8.toNat_inj.1 (by have h0 : byteAt s0 0 = (a.toNat : Int) := h0; show a.toNat = 48; omega)
  have eb : b = 120 := UInt8.toNat_inj.1 (by have h1 : byteAt s0 1 = (b.toNat : Int) := h1; show b.toNat = 120; omega)
  have ex : tx (s0.extract (2 : Int).toNat ((s0.size : Nat) : Int).toNat) = r := by
   rw [iW, List.take_of_length_le (by rw [hl]; simp), hs]; rfl
  have e : aT (tx s0) = (16, tx (s0.extract (2 : Int).toNat ((s0.size : Nat) : Int).toNat)) := by rw [ex, hs, ea, eb]; rfl
  have hxs : (s0.extract (2 : Int).toNat ((s0.size : Nat) : Int).toNat).size ≤ s0.size := by
   have : (s0.extract (2 : Int).toNat ((s0.size : Nat) : Int).toNat).size = r.length := by rw [← ex]; rfl
   rw [this, ← hl, hs]; simp only [List.length_cons]; omega
  refine ⟨fun h => ?_, fun h => ⟨⟨Int.le_refl _, Int.natCast_nonneg _, Int.le_refl _, by show (0 : Int) < 18446744073709551616; omega, rfl⟩, fun i1 i2 _ _ hI => aZ3 (B := 16) rfl (.inr rfl) e hp hxs (by omega) hI⟩⟩
  show isNum (num (tx s0)) 0 false
  have : tx (s0.extract (2 : Int).toNat ((s0.size : Nat) : Int).toNat) = [] := List.eq_nil_of_length_eq_zero (by rw [sQ]; omega)
  rw [mP, e, if_pos this]; rfl
 all_goals
  have hh' := congrArg List.length hh
  rw [List.length_take] at hh'
  simp at hh'
  first
   | omega
   | skip
 ·have : (tx s0).getD 1 0 = 120 := by rw [show (tx s0).getD 1 0 = ((tx s0).take 2).getD 1 0 by simp [List.getD], hh]; rfl
  rw [this] at h1; exact e1 h1
 ·have : (tx s0).getD 0 0 = 48 := by rw [show (tx s0).getD 0 0 = ((tx s0).take 2).getD 0 0 by simp [List.getD], hh]; rfl
  rw [this] at h0; exact e0 h0
end Go.Vc
namespace Go.Vc
open Lx
theorem bA6 (l : Tx) : (Lx.bare l).takeWhile aH = l.takeWhile aH ∧ (Lx.bare l).dropWhile aH = Lx.bare (l.dropWhile aH) := by
 induction l with
 | nil => exact ⟨rfl, rfl⟩
 | cons c l ih =>
  unfold Lx.bare at ih ⊢
  by_cases h : c = 35
  ·subst h
   have : aH 35 = false := by decide
   rw [List.takeWhile_cons_of_neg (by simp), List.dropWhile_cons_of_neg (by simp [this]), List.takeWhile_cons_of_neg (by simp [this]), List.takeWhile_cons_of_neg (by simp)]
   exact ⟨rfl, rfl⟩
  ·rw [List.takeWhile_cons_of_pos (by simpa using h)]
   by_cases ha : aH c = true
   ·rw [List.takeWhile_cons_of_pos ha, List.takeWhile_cons_of_pos ha, List.dropWhile_cons_of_pos ha, List.dropWhile_cons_of_pos ha, ih.1, ih.2]; exact ⟨rfl, rfl⟩
   ·rw [List.takeWhile_cons_of_neg ha, List.takeWhile_cons_of_neg ha, List.dropWhile_cons_of_neg ha, List.dropWhile_cons_of_neg ha, List.takeWhile_cons_of_pos (by simpa using h)]; exact ⟨rfl, rfl⟩
theorem zY {c : UInt8} (h : c ≠ 35) (r : Tx) : Lx.bare (c :: r) = c :: Lx.bare r := List.takeWhile_cons_of_pos (by simpa using h)
theorem zZ (l : Tx) : (Lx.bare l).length ≤ l.length := (List.takeWhile_sublist _).length_le
theorem bH9 {c : UInt8} (h : c ≠ 35) (r : Tx) : next (c :: Lx.bare r) = (next (c :: r)).map fun p => (p.1, Lx.bare p.2) := by
 have hb := bA6 (c :: r)
 rw [zY h] at hb
 simp only [next, hb.1, hb.2]
 split
 ·rfl
 ·split
  ·cases num ((c :: r).takeWhile aH) <;> rfl
  ·split <;> rfl
theorem bN0 (r : Tx) : toks (35 :: r) = some [] := by
 have : Lx.bare (35 :: r) = [] := List.takeWhile_cons_of_neg (by simp)
 rw [toks, this]; rfl
theorem bM9 {c : UInt8} (hb : Lx.blank c = true) (r : Tx) : toks (c :: r) = toks r := by
 have hc : c ≠ 35 := fun e => by subst e; exact absurd hb (by decide)
 have hl := zZ r
 have hd : ((Lx.bare r).dropWhile Lx.blank).length ≤ (Lx.bare r).length := (List.dropWhile_sublist _).length_le
 rw [toks, zY hc, aK2 (g := r.length + 1) (by simp only [List.length_cons]; omega) (by rw [List.dropWhile_cons_of_pos hb]; omega), List.dropWhile_cons_of_pos hb, toks, aY3]
theorem aY5 {c : UInt8} (h : c ≠ 35) (hb : Lx.blank c = false) (r : Tx) : toks (c :: r) = match next (c :: r) with
  | none => none
  | some (t, s') => (toks s').map (t :: ·) := by
 rw [toks, zY h]
 simp only [bW]
 rw [List.dropWhile_cons_of_neg (by rw [hb]; simp)]
 simp only [bH9 h]
 cases hn : next (c :: r) with
 | none => rfl
 | some p =>
  obtain ⟨t, s'⟩ := p
  have := xX hn
  have hl := zZ s'
  simp only [List.length_cons] at this
  show (bW (c :: r).length (Lx.bare s')).map _ = (bW (s'.length + 1) (Lx.bare s')).map _
  rw [aK3 (c :: r).length (s'.length + 1) (Lx.bare s') (by simp only [List.length_cons]; omega) (by omega)]
theorem zT {s0 : BA} {l4 : LD} {i5 i6 : Int} (hI : aF.I0 [.S s0, .L l4, .I i5]) {ts : List Tok} (hlt : i5 < i6) (hle : i6 ≤ s0.size) (hz : s0.size ≤ 1000000) (hn : ts.length ≤ 1)
  (h : toks ((tx s0).drop i5.toNat) = (toks ((tx s0).drop i6.toNat)).map (ts ++ ·)) {row : LD} (hr : row = ts.map fA) :
  ((l4 ++ row).length : Int) ≤ 4398046511104 ∧ aF.I0 [.S s0, .L (l4 ++ row), .I i6] ∧ aF.I0M [.S s0, .L (l4 ++ row), .I i6] < aF.I0M [.S s0, .L l4, .I i5] := by
 obtain ⟨T, a0, a1, a2, a3, a4⟩ : ∃ T : List Tok, l4 = T.map fA ∧ 0 ≤ i5 ∧ i5 ≤ s0.size ∧ l4.length ≤ i5 ∧ toks (tx s0) = (toks ((tx s0).drop i5.toNat)).map (T ++ ·) := hI
 have hrl : row.length ≤ 1 := by rw [hr, List.length_map]; exact hn
 have hll : (l4 ++ row).length = l4.length + row.length := List.length_append
 refine ⟨by omega, ⟨T ++ ts, ?_, by show 0 ≤ i6; omega, hle, by show ((l4 ++ row).length : Int) ≤ i6; omega, ?_⟩, by show (s0.size - i6).toNat < (s0.size - i5).toNat; omega⟩
 ·show l4 ++ row = (T ++ ts).map fA
  rw [a0, hr, List.map_append]
 ·show toks (tx s0) = (toks ((tx s0).drop i6.toNat)).map ((T ++ ts) ++ ·)
  rw [a4, h]
  cases toks ((tx s0).drop i6.toNat) <;> simp
theorem aF.pure : aF.Pure := by
 intro s0 _ hp v1 v2
 have hp : s0.size ≤ 1000000 := hp
 have hl : (tx s0).length = s0.size := rfl
 refine ⟨⟨[], rfl, Int.le_refl _, Int.natCast_nonneg _, Int.le_refl _, ?_⟩, fun v3 l4 i5 _ _ hI => ?_⟩
 ·show toks (tx s0) = (toks ((tx s0).drop 0)).map ([] ++ ·)
  rw [List.drop_zero]; cases toks (tx s0) <;> rfl
 obtain ⟨T, a0, a1, a2, a3, a4⟩ : ∃ T : List Tok, l4 = T.map fA ∧ 0 ≤ i5 ∧ i5 ≤ s0.size ∧ l4.length ≤ i5 ∧ toks (tx s0) = (toks ((tx s0).drop i5.toNat)).map (T ++ ·) := id hI
 have done : toks ((tx s0).drop i5.toNat) = some [] → aF.sig.post [.S s0, .V v3, .L l4, .B true] := fun h => by
  show mJ (toks (tx s0)) l4 true
  rw [a4, h]
  exact ⟨by show l4 = (T ++ []).map fA; rw [List.append_nil]; exact a0, rfl⟩
 have bad : toks ((tx s0).drop i5.toNat) = none → ∀ v, aF.sig.post [.S s0, .V v, .L [], .B false] := fun h v => by
  show mJ (toks (tx s0)) [] false
  rw [a4, h]; rfl
 refine ⟨fun hlt => ⟨a1, fun _ => ?_⟩, fun hge => done ?_⟩
 rotate_left
 ·rw [List.drop_eq_nil_of_le (by omega)]; rfl
 have hd := drop_at (l := tx s0) (i := i5.toNat) (by omega)
 have hlen := congrArg List.length hd
 have hby := qA s0 i5
 have hb8 := lT s0 i5
 have hone : tx (s0.extract i5.toNat (i5 + 1).toNat) = [(tx s0).getD i5.toNat 0] := by
  rw [iW, List.drop_take, hd, show (i5 + 1).toNat - i5.toNat = 1 by omega]; rfl
 rw [show i5.toNat + 1 = (i5 + 1).toNat by omega] at hd
 generalize hgc : (tx s0).getD i5.toNat 0 = c at hd hby hone hb8
 have hcn : ∀ k : Nat, k < 256 → (byteAt s0 i5 = (k : Int) ↔ c = UInt8.ofNat k) := fun k hk => by
  rw [hby, ← UInt8.toNat_inj]
  have : (UInt8.ofNat k).toNat = k := by simp; omega
  omega
 rw [wrap64 (n := i5 + 1) (by omega) (by omega)]
 have skp : Lx.blank c = true → aF.I0 [.S s0, .L l4, .I (i5 + 1)] ∧ aF.I0M [.S s0, .L l4, .I (i5 + 1)] < aF.I0M [.S s0, .L l4, .I i5] := fun h => by
  have := (zT hI (i6 := i5 + 1) (ts := []) (by omega) (by omega) hp (by simp) (by rw [hd, bM9 h]; cases toks ((tx s0).drop (i5 + 1).toNat) <;> rfl) (row := []) rfl).2
  rwa [List.append_nil] at this
 have sign : (c = 61 ∨ c = 58) → ((((l4 ++ ((D.L ((D.I (3 : Int)) :: ((D.S (s0.extract i5.toNat (i5 + 1).toNat)) :: ((D.I (0 : Int)) :: ([] : LD))))) :: ([] : LD))).length : Nat) : Int) ≤ (4398046511104 : Int)) ∧
   aF.I0 [(D.S s0), (D.L (l4 ++ ((D.L ((D.I (3 : Int)) :: ((D.S (s0.extract i5.toNat (i5 + 1).toNat)) :: ((D.I (0 : Int)) :: ([] : LD))))) :: ([] : LD)))), (D.I (i5 + 1))] ∧ aF.I0M [(D.S s0), (D.L (l4 ++ ((D.L ((D.I (3 : Int)) :: ((D.S (s0.extract i5.toNat (i5 + 1).toNat)) :: ((D.I (0 : Int)) :: ([] : LD))))) :: ([] : LD)))), (D.I (i5 + 1))] < aF.I0M [(D.S s0), (D.L l4), (D.I i5)] := fun h => by
  have h35 : c ≠ 35 := fun e => by subst e; exact absurd h (by decide)
  refine zT hI (ts := [⟨3, [c], 0⟩]) (by omega) (by omega) hp (by simp) ?_ ?_
  ·rw [hd, aY5 h35 (by rcases h with rfl | rfl <;> rfl)]
   have : next (c :: (tx s0).drop (i5 + 1).toNat) = some (⟨3, [c], 0⟩, (tx s0).drop (i5 + 1).toNat) := by
    simp only [next]
    rw [if_neg (by rcases h with rfl | rfl <;> decide), if_neg (by rcases h with rfl | rfl <;> decide), if_pos h]
   rw [this]; rfl
  ·have : s0.extract i5.toNat (i5 + 1).toNat = bx [c] := sO (by rw [hone, tx_bx])
   rw [this]; rfl
 refine ⟨fun h => done ?_, fun h35 => ⟨fun h => skp (by rw [(hcn 32 (by omega)).1 h]; rfl), fun h32 => ⟨fun h => skp (by rw [(hcn 9 (by omega)).1 h]; rfl), fun h9 => ?_⟩⟩⟩
 ·rw [hd, (hcn 35 (by omega)).1 h]; exact bN0 _
 have n35 : c ≠ 35 := fun e => h35 ((hcn 35 (by omega)).2 e)
 have nbl : Lx.blank c = false := by
  cases hx : Lx.blank c with
  | false => rfl
  | true =>
   have : c = 32 ∨ c = 9 := by simpa [Lx.blank] using hx
   rcases this with e | e
   ·exact absurd ((hcn 32 (by omega)).2 e) h32
   ·exact absurd ((hcn 9 (by omega)).2 e) h9
 refine ⟨fun h => ⟨by omega, fun _ => ⟨by omega, fun _ v6 => ⟨(sign (.inl ((hcn 61 (by omega)).1 h))).1, fun _ v7 => (sign (.inl ((hcn 61 (by omega)).1 h))).2⟩⟩⟩, fun h61 => ⟨fun h => ⟨by omega, fun _ => ⟨by omega, fun _ v6 => ⟨(sign (.inr ((hcn 58 (by omega)).1 h))).1, fun _ v7 => (sign (.inr ((hcn 58 (by omega)).1 h))).2⟩⟩⟩, fun h58 => ⟨trivial, fun b6 hb6 => ?_⟩⟩⟩
 have hb6 : b6 = small (b8 (byteAt s0 i5)) := hb6
 rw [hb8] at hb6
 have hstep := aY5 n35 nbl ((tx s0).drop (i5 + 1).toNat)
 rw [← hd] at hstep
 have hdig : cO.sig.pre [.I (byteAt s0 i5)] := trivial
 obtain ⟨w1, w2⟩ := aY2 (p := aH) ((tx s0).drop i5.toNat)
 have hK : aF.K0 s0 v1 v2 v3 l4 i5 := by
  intro i6 _ hJ
  obtain ⟨j0, j1, j2, j3⟩ : i5 ≤ i6 ∧ i6 ≤ s0.size ∧ (i6 - i5).toNat = (((tx s0).drop i5.toNat).takeWhile aH).length ∧ aH ((tx s0).getD i5.toNat 0) = true := hJ
  rw [hgc] at j3
  have hpos : 0 < (((tx s0).drop i5.toNat).takeWhile aH).length := by rw [hd, List.takeWhile_cons_of_pos j3, List.length_cons]; omega
  refine ⟨j0, fun _ => ⟨a1, fun _ => ⟨j1, fun _ n7 => ⟨trivial, fun b8' hb8' => ?_⟩⟩⟩⟩
  have hb8' : b8' = digit (b8 (byteAt s0 i5)) := hb8'
  rw [hb8] at hb8'
  have hw : s0.extract i5.toNat i6.toNat = bx (((tx s0).drop i5.toNat).takeWhile aH) := sO (by
   rw [iW, List.drop_take, tx_bx, ← w1, show i6.toNat - i5.toNat = (i6 - i5).toNat by omega, j2])
  have hr : (tx s0).drop i6.toNat = ((tx s0).drop i5.toNat).dropWhile aH := by
   rw [← w2, ← j2, List.drop_drop, show i5.toNat + (i6 - i5).toNat = i6.toNat by omega]
  rw [hw]
  refine ⟨fun h => ?_, fun h => ?_⟩
  ·have hsm : small c = false := by
    have : digit c = true := by rw [← hb8', h]
    simp only [digit, small, Bool.and_eq_true, decide_eq_true_eq] at this ⊢
    rw [decide_eq_false (by omega : ¬ 97 ≤ c.toNat)]; rfl
   have hn : next ((tx s0).drop i5.toNat) = (num (((tx s0).drop i5.toNat).takeWhile aH)).map fun n => (⟨2, ((tx s0).drop i5.toNat).takeWhile aH, n⟩, ((tx s0).drop i5.toNat).dropWhile aH) := by
    rw [hd]; simp only [next]
    rw [if_neg (by rw [hsm]; simp), if_pos (by rw [← hb8', h])]
   rw [hn] at hstep
   have hsz : (bx (((tx s0).drop i5.toNat).takeWhile aH)).size = (((tx s0).drop i5.toNat).takeWhile aH).length := rfl
   refine ⟨by show (bx (((tx s0).drop i5.toNat).takeWhile aH)).size ≤ 1000000; omega, fun i9 b10 h9 _ => ?_⟩
   have h9 : isNum (num (((tx s0).drop i5.toNat).takeWhile aH)) i9 b10 := h9
   cases hx : num (((tx s0).drop i5.toNat).takeWhile aH) with
   | none =>
    rw [hx] at h9 hstep
    have h9 : b10 = false := h9
    rw [h9]
    exact ⟨fun _ => bad hstep, nofun⟩
   | some n =>
    rw [hx] at h9 hstep
    obtain ⟨rfl, rfl⟩ := h9
    refine ⟨nofun, fun _ v11 => ?_⟩
    have := zT hI (i6 := i6) (ts := [⟨2, ((tx s0).drop i5.toNat).takeWhile aH, n⟩]) (by omega) j1 hp (by simp) (by rw [hstep, hr]; rfl) (row := [D.L [.I 2, .S (bx (((tx s0).drop i5.toNat).takeWhile aH)), .I n]]) rfl
    exact ⟨this.1, fun _ v12 => this.2⟩
  ·have hsm : small c = true := by
    have : aH c = true := j3
    unfold aH at this
    rw [← hb8', h, Bool.or_false] at this; exact this
   have hn : next ((tx s0).drop i5.toNat) = some (⟨1, ((tx s0).drop i5.toNat).takeWhile aH, 0⟩, ((tx s0).drop i5.toNat).dropWhile aH) := by
    rw [hd]; simp only [next]
    rw [if_pos hsm]
   rw [hn] at hstep
   intro v9
   have := zT hI (i6 := i6) (ts := [⟨1, ((tx s0).drop i5.toNat).takeWhile aH, 0⟩]) (by omega) j1 hp (by simp) (by rw [hstep, hr]; rfl) (row := [D.L [.I 1, .S (bx (((tx s0).drop i5.toNat).takeWhile aH)), .I 0]]) rfl
   exact ⟨this.1, fun _ v10 => this.2⟩
 have hloop : aH c = true → aF.I1 [(D.S s0), (D.I i5), (D.I i5)] ∧ (
    ∀ i8 : Int,
    (-9223372036854775808 ≤ i8 ∧ i8 < 9223372036854775808) →
    aF.I1 [(D.S s0), (D.I i5), (D.I i8)] →
    ((
     (i8 < ((s0.size : Nat) : Int)) →
     ((0 : Int) ≤ i8) ∧ (((0 : Int) ≤ i8) →
     fZ.sig.pre [(D.I (byteAt s0 i8))] ∧ (
     ∀ b9 : Bool,
     fZ.sig.post [(D.I (byteAt s0 i8)), (D.B b9)] →
     ((
      (b9 = true) →
      aF.I1 [(D.S s0), (D.I i5), (D.I (wrap .i64 (i8 + (1 : Int))))] ∧ aF.I1M [(D.S s0), (D.I i5), (D.I (wrap .i64 (i8 + (1 : Int))))] < aF.I1M [(D.S s0), (D.I i5), (D.I i8)]) ∧ (
      (b9 = false) →
      cO.sig.pre [(D.I (byteAt s0 i8))] ∧ (
      ∀ b10 : Bool,
      cO.sig.post [(D.I (byteAt s0 i8)), (D.B b10)] →
      ((
       (b10 = true) →
       aF.I1 [(D.S s0), (D.I i5), (D.I (wrap .i64 (i8 + (1 : Int))))] ∧ aF.I1M [(D.S s0), (D.I i5), (D.I (wrap .i64 (i8 + (1 : Int))))] < aF.I1M [(D.S s0), (D.I i5), (D.I i8)]) ∧ (
       (b10 = false) →
       aF.J0 [(D.S s0), (D.V v1), (D.V v2), (D.V v3), (D.L l4), (D.I i5), (D.I i8)] ∧ (aF.K0 s0 v1 v2 v3 l4 i5))))))))) ∧ (
     (((s0.size : Nat) : Int) ≤ i8) →
     aF.J0 [(D.S s0), (D.V v1), (D.V v2), (D.V v3), (D.L l4), (D.I i5), (D.I i8)] ∧ (aF.K0 s0 v1 v2 v3 l4 i5)))) := fun hal => by
  refine ⟨⟨a1, Int.le_refl _, a2, fun d hd' => ?_⟩, fun i8 _ hI1 => ?_⟩
  ·have hd' : d ∈ ((tx s0).drop i5.toNat).take (i5 - i5).toNat := hd'
   rw [show (i5 - i5).toNat = 0 by omega] at hd'; cases hd'
  obtain ⟨_, e1, e2, e3⟩ : 0 ≤ i5 ∧ i5 ≤ i8 ∧ i8 ≤ s0.size ∧ ∀ d ∈ ((tx s0).drop i5.toNat).take (i8 - i5).toNat, aH d = true := hI1
  have hdl : ((tx s0).drop i5.toNat).length = s0.size - i5.toNat := List.length_drop
  have hat : ((tx s0).drop i5.toNat)[(i8 - i5).toNat]? = (tx s0)[i8.toNat]? := by rw [List.getElem?_drop, show i5.toNat + (i8 - i5).toNat = i8.toNat by omega]
  have out : (∀ d, (tx s0)[i8.toNat]? = some d → aH d = false) → aF.J0 [(D.S s0), (D.V v1), (D.V v2), (D.V v3), (D.L l4), (D.I i5), (D.I i8)] ∧ (aF.K0 s0 v1 v2 v3 l4 i5) := fun h => by
   refine ⟨⟨e1, e2, ?_, by show aH ((tx s0).getD i5.toNat 0) = true; rw [hgc]; exact hal⟩, hK⟩
   exact (zK e3 (by omega) (by rw [hat]; exact h)).symm
  refine ⟨fun h8 => ⟨by omega, fun _ => ⟨trivial, fun b9 h9 => ?_⟩⟩, fun h8 => out fun d hd' => by rw [List.getElem?_eq_none (by omega)] at hd'; cases hd'⟩
  have h9 : b9 = small (b8 (byteAt s0 i8)) := h9
  have hi : i8.toNat < (tx s0).length := by omega
  have hc : (tx s0)[i8.toNat]? = some ((tx s0).getD i8.toNat 0) := by rw [List.getD, List.getElem?_eq_getElem hi]; rfl
  have hb := lT s0 i8
  rw [hb] at h9
  have step : aH ((tx s0).getD i8.toNat 0) = true → aF.I1 [.S s0, .I i5, .I (wrap .i64 (i8 + 1))] ∧ aF.I1M [.S s0, .I i5, .I (wrap .i64 (i8 + 1))] < aF.I1M [.S s0, .I i5, .I i8] := fun ha => by
   rw [wrap64 (by omega) (by omega)]
   refine ⟨⟨a1, by show i5 ≤ i8 + 1; omega, by show i8 + 1 ≤ s0.size; omega, fun d hd' => ?_⟩, by show (s0.size - (i8 + 1)).toNat < (s0.size - i8).toNat; omega⟩
   have hd' : d ∈ ((tx s0).drop i5.toNat).take (i8 + 1 - i5).toNat := hd'
   rw [show (i8 + 1 - i5).toNat = (i8 - i5).toNat + 1 by omega, List.take_add_one, hat, hc, List.mem_append] at hd'
   rcases hd' with hd' | hd'
   ·exact e3 d hd'
   ·obtain rfl : d = (tx s0).getD i8.toNat 0 := by simpa using hd'
    exact ha
  refine ⟨fun h2 => step (by unfold aH; rw [← h9, h2]; rfl), fun h2 => ⟨trivial, fun b3 h3 => ?_⟩⟩
  have h3 : b3 = digit (b8 (byteAt s0 i8)) := h3
  rw [hb] at h3
  refine ⟨fun h4 => step (by unfold aH; rw [← h3, h4, Bool.or_true]), fun h4 => out fun d hd' => ?_⟩
  rw [hc] at hd'; cases hd'
  unfold aH; rw [← h3, ← h9, h2, h4]; rfl
 refine ⟨fun h => ⟨trivial, fun b7 h7 => ?_⟩, fun h => hloop (by unfold aH; rw [← hb6, h]; rfl)⟩
 have h7 : b7 = digit (b8 (byteAt s0 i5)) := h7
 rw [hb8] at h7
 refine ⟨fun h' v8 => bad ?_ v8, fun h' => hloop (by unfold aH; rw [← h7, h', Bool.or_true])⟩
 have : next ((tx s0).drop i5.toNat) = none := by
  rw [hd]; simp only [next]
  rw [if_neg (by rw [← hb6, h]; simp), if_neg (by rw [← h7, h']; simp), if_neg]
  exact fun e => e.elim (fun e => h61 ((hcn 61 (by omega)).2 e)) (fun e => h58 ((hcn 58 (by omega)).2 e))
 rw [hstep, this]
end Go.Vc
namespace Go.Vc
open Lx
theorem aF6 (l : Tx) : aC l ≠ [] := by
 cases l with
 | nil => simp [aC]
 | cons c l =>
  simp only [aC]
  split
  ·simp
  ·split <;> simp
theorem aM2 (l : Tx) : lZ [] (aC l) = aC l := by
 cases h : aC l with
 | nil => exact absurd h (aF6 l)
 | cons x xs => rfl
theorem bC1 {c : UInt8} (h : c ≠ 10) (l r : Tx) : lZ l (aC (c :: r)) = lZ (l ++ [c]) (aC r) := by
 simp only [aC]
 rw [if_neg h]
 cases aC r with
 | nil => rfl
 | cons x xs => simp [lZ]
theorem bJ2 (M M' : List (Nat × List Tok)) (x : Except Nat (List (Nat × List Tok))) : mX M (mX M' x) = mX (M ++ M') x := by
 cases x <;> simp [mX]
theorem aR1 (n : Nat) (l : Tx) (ls : List Tx) : aV n (l :: ls) = match toks (trim l) with
  | none => .error n
  | some t => mX (if t = [] then [] else [(n, t)]) (aV (n + 1) ls) := by
 simp only [aV]
 cases toks (trim l) with
 | none => rfl
 | some t =>
  dsimp only
  cases aV (n + 1) ls with
  | error k => rfl
  | ok r => dsimp only; split <;> rfl
theorem bF.pure : bF.Pure := by
 intro s0 _ _ v1
 have hl : (tx s0).length = s0.size := rfl
 refine ⟨fun h v2 => ?_, fun h v2 => ⟨⟨Int.le_refl _, by show (0 : Int) ≤ s0.size + 1; omega, Int.le_refl _, Int.le_refl _, Int.le_refl _, Int.le_refl _, [], trivial, ?_⟩, fun v3 l4 i5 s6 i7 _ _ _ _ hI => ?_⟩⟩
 ·show dG (tx s0) [] 0 17
  unfold dG lines
  rw [if_pos (by omega)]
  exact ⟨trivial, rfl, rfl⟩
 ·show kE (tx s0) [] 1 [] 0
  unfold kE
  rw [if_pos (by omega), List.drop_zero, aM2]
  cases aV 1 (aC (tx s0)) <;> rfl
 have hlines : lines (tx s0) = match aV 1 (aC (tx s0)) with | .error k => ([], k, 10) | .ok r => (r, 0, 0) := if_neg (by omega)
 obtain ⟨a0, a1, a2, a3, a4, a5, M, a6, a7⟩ : 0 ≤ i7 ∧ i7 ≤ s0.size + 1 ∧ 1 ≤ i5 ∧ i5 ≤ i7 + 1 ∧ l4.length ≤ i7 ∧ s6.size ≤ i7 ∧ ∃ M, fD l4 M ∧ kE (tx s0) M i5.toNat (tx s6) i7.toNat := hI
 refine ⟨fun hle => ?_, fun hgt => ?_⟩
 rotate_left
 ·unfold kE at a7
  rw [if_neg (by omega)] at a7
  show dG (tx s0) l4 0 0
  unfold dG
  rw [hlines, a7]
  exact ⟨a6, rfl, rfl⟩
 unfold kE at a7
 rw [if_pos (by omega)] at a7
 rw [wrap64 (n := i7 + 1) (by omega) (by omega)]
 have hK : ∀ ls, lZ (tx s6) (aC ((tx s0).drop i7.toNat)) = tx s6 :: ls → (∀ M' n, aV 1 (aC (tx s0)) = mX M' (aV n ls) → kE (tx s0) M' n [] (i7 + 1).toNat) → bF.K1 s6 s0 i5 l4 i7 := fun ls hls hgo => by
  rw [hls, aR1] at a7
  have hz : (tx s6).length = s6.size := rfl
  have end_ : ∀ (v8 : Value) (l9 : LD) (b10 : Bool), mJ (toks (trim (tx s6))) l9 b10 → bF.K0 b10 s0 i5 l9 l4 v8 i7 s6 := fun v8 l9 b10 ht => by
   show _ ∧ _
   rw [wrap64 (n := i7 + 1) (by omega) (by omega), wrap64 (n := i5 + 1) (by omega) (by omega)]
   cases hx : toks (trim (tx s6)) with
   | none =>
    rw [hx] at ht a7
    have ht : b10 = false := ht
    rw [ht]
    refine ⟨fun _ v11 => ?_, nofun⟩
    show dG (tx s0) [] i5 10
    unfold dG
    rw [hlines, a7]
    exact ⟨trivial, by show i5 = (i5.toNat : Int); omega, rfl⟩
   | some T =>
    rw [hx] at ht a7
    obtain ⟨t1, t2⟩ := ht
    rw [t2]
    have hT : T = [] ↔ l9.length = 0 := by rw [t1, List.length_map]; exact List.length_eq_zero_iff.symm
    dsimp only at a7
    rw [bJ2] at a7
    have hgo := hgo _ _ a7
    rw [show i5.toNat + 1 = (i5 + 1).toNat by omega] at hgo
    refine ⟨nofun, fun _ => ⟨fun hp v11 => ⟨by simp only [List.length_append, List.length_cons, List.length_nil]; omega, fun _ v12 => ⟨⟨by show 0 ≤ i7 + 1; omega, by show i7 + 1 ≤ s0.size + 1; omega, by show 1 ≤ i5 + 1; omega, by show i5 + 1 ≤ i7 + 1 + 1; omega, ?_, by show (0 : Int) ≤ i7 + 1; omega, _, ?_, hgo⟩, by show (s0.size + 1 - (i7 + 1)).toNat < (s0.size + 1 - i7).toNat; omega⟩⟩,
     fun hp => ⟨⟨by show 0 ≤ i7 + 1; omega, by show i7 + 1 ≤ s0.size + 1; omega, by show 1 ≤ i5 + 1; omega, by show i5 + 1 ≤ i7 + 1 + 1; omega, by show (l4.length : Int) ≤ i7 + 1; omega, by show (0 : Int) ≤ i7 + 1; omega, _, ?_, hgo⟩, by show (s0.size + 1 - (i7 + 1)).toNat < (s0.size + 1 - i7).toNat; omega⟩⟩⟩
    ·show ((l4 ++ [_]).length : Int) ≤ i7 + 1
     rw [List.length_append]; simp only [List.length_cons, List.length_nil]; omega
    ·rw [if_neg (fun he => by have := hT.1 he; omega)]
     refine aF8 a6 ⟨⟨v8, ?_⟩, trivial⟩
     rw [t1, show i5 = ((i5.toNat : Nat) : Int) by omega]; rfl
    ·rw [if_pos (hT.2 (by omega)), List.append_nil]; exact a6
  have call : ∀ x : BA, x.size ≤ 1000000 → tx x = trim (tx s6) → aF.sig.pre [.S x] ∧ ∀ (v8 : Value) (l9 : LD) (b10 : Bool), aF.sig.post [.S x, .V v8, .L l9, .B b10] → EK.ok [.int .i64, .str, .int .u64] (D.L l9) → bF.K0 b10 s0 i5 l9 l4 v8 i7 s6 := fun x hx ex =>
   ⟨hx, fun v8 l9 b10 ht _ => end_ v8 l9 b10 (by rw [← ex]; exact ht)⟩
  refine ⟨fun hpos => ?_, fun h0 => call s6 (by omega) ?_⟩
  ·rw [wrap64 (by omega) (by omega)]
   have hat : byteAt s6 ((s6.size : Int) - 1) = 13 ↔ (tx s6).getLast? = some 13 := by
    rw [← aQ3 (by omega), qA, show ((s6.size : Int) - 1).toNat = (tx s6).length - 1 by omega, drop_at (by omega : (tx s6).length - 1 < (tx s6).length), List.drop_eq_nil_of_le (by omega)]
    constructor
    ·intro e
     rw [UInt8.toNat_inj.1 (show ((tx s6).getD ((tx s6).length - 1) 0).toNat = (13 : UInt8).toNat by show _ = 13; omega)]
    ·intro e
     rw [(List.cons.inj e).1]; rfl
   refine ⟨by omega, fun _ => ⟨by omega, fun _ => ⟨fun e => ⟨by omega, fun _ => ?_⟩, fun e => call s6 (by omega) ?_⟩⟩⟩
   ·have ex : tx (s6.extract (0 : Int).toNat ((s6.size : Int) - 1).toNat) = trim (tx s6) := by
     rw [iW, trim, if_pos (hat.1 e), List.dropLast_eq_take, show ((s6.size : Int) - 1).toNat = (tx s6).length - 1 by omega]; rfl
    refine call _ ?_ ex
    rw [← sQ, ex]
    have := aK4 (tx s6)
    omega
   ·rw [trim, if_neg (fun hh => e (hat.2 hh))]
  ·have : tx s6 = [] := List.eq_nil_of_length_eq_zero (by omega)
   rw [this]; rfl
 refine ⟨fun hlt => ⟨a0, fun _ => ?_⟩, fun hge => hK [] ?_ fun M' n h => ?_⟩
 ·have hd := drop_at (l := tx s0) (i := i7.toNat) (by omega)
  have hby := qA s0 i7
  have hone : tx (s0.extract i7.toNat (i7 + 1).toNat) = [(tx s0).getD i7.toNat 0] := by
   rw [iW, List.drop_take, hd, show (i7 + 1).toNat - i7.toNat = 1 by omega]; rfl
  rw [show i7.toNat + 1 = (i7 + 1).toNat by omega] at hd
  generalize hgc : (tx s0).getD i7.toNat 0 = c at hd hby hone
  have h10 : byteAt s0 i7 = 10 ↔ c = 10 := by
   rw [hby, ← UInt8.toNat_inj]
   show (c.toNat : Int) = 10 ↔ c.toNat = 10
   omega
  refine ⟨fun hne => ⟨by omega, fun _ => ⟨by omega, fun _ => ?_⟩⟩, fun he => hK (aC ((tx s0).drop (i7 + 1).toNat)) ?_ fun M' n h => ?_⟩
  ·have hsz : (s6 ++ s0.extract i7.toNat (i7 + 1).toNat).size = s6.size + 1 := by
    rw [← sQ, vN, hone, List.length_append]; rfl
   refine ⟨by omega, fun _ => ⟨⟨by show 0 ≤ i7 + 1; omega, by show i7 + 1 ≤ s0.size + 1; omega, a2, by show i5 ≤ i7 + 1 + 1; omega, by show (l4.length : Int) ≤ i7 + 1; omega, by show ((s6 ++ s0.extract i7.toNat (i7 + 1).toNat).size : Int) ≤ i7 + 1; omega, M, a6, ?_⟩, by show (s0.size + 1 - (i7 + 1)).toNat < (s0.size + 1 - i7).toNat; omega⟩⟩
   show kE (tx s0) M i5.toNat (tx (s6 ++ s0.extract i7.toNat (i7 + 1).toNat)) (i7 + 1).toNat
   unfold kE
   rw [if_pos (by omega), vN, hone, ← bC1 (fun e => hne (h10.2 e)), ← hd]
   exact a7
  ·rw [hd, h10.1 he]
   simp only [aC, if_true, lZ, List.append_nil]
  ·unfold kE
   rw [if_pos (by omega), aM2]
   exact h
 ·rw [List.drop_eq_nil_of_le (by omega)]
  simp only [aC, lZ, List.append_nil]
 ·unfold kE
  rw [if_neg (by omega), h]
  simp [aV, mX]
end Go.Vc
namespace Go.Vc
open Lx
theorem mO : ∀ {L : LD} {M : List (Nat × List Tok)}, fD L M → L.length = M.length
 | [], [], _ => rfl
 | _ :: _, _ :: _, h => by rw [List.length_cons, List.length_cons, mO h.2]
 | [], _ :: _, h => h.elim
 | _ :: _, [], h => h.elim
theorem pF : ∀ {L : LD} {M : List (Nat × List Tok)} {i : Nat}, fD L M → i < L.length → ∃ m v, M[i]? = some m ∧ L.getD i default = .L [.I m.1, .L [.V v, .L (m.2.map fA)]]
 | [], _, _, _, h => absurd h (by simp)
 | _ :: _, [], _, h, _ => h.elim
 | r :: L, m :: M, 0, h, _ => by
  obtain ⟨v, h⟩ := h.1
  exact ⟨m, v, rfl, h⟩
 | r :: L, m :: M, i + 1, h, hi => by
  obtain ⟨m', v, h1, h2⟩ := pF (i := i) h.2 (by simpa using hi)
  exact ⟨m', v, by simpa using h1, by simpa using h2⟩
theorem aY4 : ∀ {f : Nat} {s : Tx} {T : List Tok}, bW f s = some T → T.length ≤ s.length
 | 0, _, _, h => by simp [bW] at h
 | f + 1, s, T, h => by
  have hd : (s.dropWhile Lx.blank).length ≤ s.length := (List.dropWhile_sublist _).length_le
  simp only [bW] at h
  split at h
  ·cases h; simp
  ·rename_i c r he
   rw [he] at hd
   split at h
   ·cases h
   ·rename_i t s' hn
    have := xX hn
    cases hx : bW f s' with
    | none => rw [hx] at h; cases h
    | some T' =>
     rw [hx] at h; cases h
     have := aY4 hx
     simp only [List.length_cons] at *; omega
theorem xI : ∀ {ls : List Tx} {n : Nat} {M : List (Nat × List Tok)}, aV n ls = .ok M → M.length ≤ ls.length ∧ ∀ m ∈ M, m.1 < n + ls.length ∧ ∃ l ∈ ls, m.2.length ≤ l.length
 | [], _, _, h => by cases h; simp
 | l :: ls, n, M, h => by
  rw [aR1] at h
  cases hx : toks (trim l) with
  | none => rw [hx] at h; cases h
  | some t =>
   rw [hx] at h
   cases hy : aV (n + 1) ls with
   | error k => rw [hy] at h; cases h
   | ok r =>
    rw [hy] at h
    have e : M = (if t = [] then [] else [(n, t)]) ++ r := by cases h; rfl
    obtain ⟨h1, h2⟩ := xI hy
    have ht : t.length ≤ l.length := Nat.le_trans (aY4 hx) (Nat.le_trans (zZ _) (aK4 l))
    have hr : ∀ m ∈ r, m.1 < n + (ls.length + 1) ∧ ∃ x ∈ l :: ls, m.2.length ≤ x.length := fun m hm => by
     obtain ⟨g1, x, g2, g3⟩ := h2 m hm
     exact ⟨by omega, x, by simp [g2], g3⟩
    rw [e]
    split
    ·exact ⟨by simp only [List.nil_append, List.length_cons]; omega, fun m hm => hr m (by simpa using hm)⟩
    ·refine ⟨by simp only [List.cons_append, List.nil_append, List.length_cons]; omega, fun m hm => ?_⟩
     rcases List.mem_cons.1 (by simpa using hm) with rfl | hm
     ·exact ⟨by simp only [List.length_cons]; omega, l, by simp, ht⟩
     ·exact hr m hm
theorem bG5 (s : Tx) : (lines s).1.length ≤ 3000 ∧ ∀ m ∈ (lines s).1, m.1 ≤ 3000 ∧ m.2.length ≤ 2000 := by
 unfold lines
 split
 ·simp
 ·rename_i h
  cases hx : aV 1 (aC s) with
  | error k => simp
  | ok M =>
   obtain ⟨h1, h2⟩ := xI hx
   have := xJ s
   refine ⟨by dsimp only; omega, fun m hm => ?_⟩
   obtain ⟨g1, x, g2, g3⟩ := h2 m hm
   have := qX g2
   exact ⟨by omega, by omega⟩
def bN8 : List (Nat × List Tok) := [(2, [⟨1, [115, 116, 111, 114, 101], 0⟩, ⟨1, [120], 0⟩, ⟨2, [48, 120, 49, 48], 16⟩])]
theorem bN6 : lines [10, 115, 116, 111, 114, 101, 32, 120, 32, 48, 120, 49, 48, 32, 35, 32, 97, 32, 110, 111, 116, 101] = (bN8, 0, 0) := by decide +kernel
theorem bN7 : lines [120, 10, 49, 120] = ([], 2, 10) := by decide +kernel
theorem dF.pure : dF.Pure := by
 intro _
 refine ⟨trivial, fun v0 l1 i2 i3 h1 _ _ _ => ⟨trivial, fun v4 l5 i6 i7 h5 _ _ _ => ?_⟩⟩
 have h1 : dG [10, 115, 116, 111, 114, 101, 32, 120, 32, 48, 120, 49, 48, 32, 35, 32, 97, 32, 110, 111, 116, 101] l1 i2 i3 := h1
 have h5 : dG [120, 10, 49, 120] l5 i6 i7 := h5
 unfold dG at h1 h5
 rw [bN6] at h1
 rw [bN7] at h5
 obtain ⟨a0, a1, a2⟩ := h1
 obtain ⟨b0, b1, b2⟩ := h5
 have a2 : i3 = 0 := a2
 have b1 : i6 = 2 := b1
 have b2 : i7 = 10 := b2
 have hl : l1.length = 1 := mO a0
 obtain ⟨m, v, g1, g2⟩ := pF (i := 0) a0 (by omega)
 cases g1
 rw [a2, b1, b2, hl]
 have g2 : l1.getD (0 : Int).toNat default = .L [.I 2, .L [.V v, .L [fA ⟨1, [115, 116, 111, 114, 101], 0⟩, fA ⟨1, [120], 0⟩, fA ⟨2, [48, 120, 49, 48], 16⟩]]] := g2
 rw [g2]
 refine ⟨fun _ => ⟨fun _ => ⟨by decide, fun _ => ⟨fun _ => ⟨fun _ => ⟨by show (2 : Int) < 3; omega, fun _ => ⟨fun _ => ⟨fun _ => rfl, fun h => absurd rfl h⟩, fun h => ?_⟩⟩, fun h => absurd rfl h⟩, fun h => absurd rfl h⟩⟩, fun h => absurd rfl h⟩, fun h => absurd rfl h⟩
 rcases h with h | h | h <;> exact absurd rfl h
theorem bP.pure : bP.Pure := by
 intro v0 l1 v2 l3 _ _ hp
 obtain ⟨p0, M, p1, p2, p3⟩ : l1.length ≤ 1000000 ∧ ∃ M, fD l1 M ∧ fD l3 M ∧ ∀ m ∈ M, m.2.length ≤ 1000000 := hp
 have e1 := mO p1
 have e3 := mO p2
 refine ⟨fun h => absurd (by omega) h, fun _ => ⟨⟨Int.le_refl _, Int.natCast_nonneg _⟩, fun i4 _ hI => ?_⟩⟩
 obtain ⟨a0, a1⟩ : 0 ≤ i4 ∧ i4 ≤ l3.length := hI
 refine ⟨fun hi => ?_, fun _ => rfl⟩
 obtain ⟨m, u1, g1, r1⟩ := pF (i := i4.toNat) p1 (by omega)
 obtain ⟨m', u3, g3, r3⟩ := pF (i := i4.toNat) p2 (by omega)
 rw [g1] at g3; cases g3
 have hm := p3 m (List.mem_of_getElem? g1)
 rw [r1, r3]
 have hml : (m.2.map fA).length = m.2.length := List.length_map _
 refine ⟨a0, fun _ => ⟨by omega, fun _ => ⟨fun h => absurd rfl h, fun _ => ⟨fun h => absurd rfl h, fun _ => ⟨Int.le_refl _, fun i5 _ hI1 => ?_⟩⟩⟩⟩⟩
 have hI1 : 0 ≤ i5 := hI1
 refine ⟨fun h5 => ?_, fun _ => ?_⟩
 ·have h5' : i5 < ((m.2.map fA).length : Int) := h5
  rw [wrap64 (n := i5 + 1) (by omega) (by omega)]
  exact ⟨hI1, fun _ => ⟨h5, fun _ => ⟨fun h => by rcases h with h | h | h <;> exact absurd rfl h, fun _ => ⟨by show 0 ≤ i5 + 1; omega, by show (1000000 - (i5 + 1)).toNat < (1000000 - i5).toNat; omega⟩⟩⟩⟩
 ·rw [wrap64 (n := i4 + 1) (by omega) (by omega)]
  exact ⟨⟨by show 0 ≤ i4 + 1; omega, by show i4 + 1 ≤ l3.length; omega⟩, by show (l3.length - (i4 + 1)).toNat < (l3.length - i4).toNat; omega⟩
theorem kG.pure : kG.Pure := by
 intro s0 _ _
 refine ⟨by show (0 : Int) ≤ 2010; omega, fun s1 _ _ => ⟨trivial, fun v2 l3 i4 i5 h1 _ _ _ => ⟨trivial, fun v6 l7 i8 i9 h2 _ _ _ => ⟨trivial, fun b10 hb => ?_⟩⟩⟩⟩
 obtain ⟨a0, a1, a2⟩ : dG (tx s1) l3 i4 i5 := h1
 obtain ⟨b0, b1, b2⟩ : dG (tx s1) l7 i8 i9 := h2
 have hb : b10 = true := hb
 rw [a1, a2, b1, b2, hb]
 obtain ⟨c1, c2⟩ := bG5 (tx s1)
 have := mO a0
 refine ⟨fun _ => ⟨fun _ => ⟨fun _ => ⟨⟨by show l3.length ≤ 1000000; omega, _, a0, b0, fun m hm => by have := (c2 m hm).2; omega⟩, fun i11 h11 _ => ?_⟩, fun h => absurd rfl h⟩, fun h => absurd rfl h⟩, nofun⟩
 have h11 : i11 = 0 := h11
 rw [h11]; rfl
end Go.Vc
namespace Go.Vc
open Lx
theorem bG4 (a b : Tx) : aC (a ++ [10] ++ b) = aC a ++ aC b := by
 induction a with
 | nil => simp [aC]
 | cons c a ih =>
  have ih' : aC (a ++ 10 :: b) = aC a ++ aC b := by rw [← ih]; simp
  simp only [List.cons_append, List.append_assoc, List.nil_append, aC, ih']
  split
  ·rfl
  ·cases h : aC a with
   | nil => exact absurd h (aF6 a)
   | cons x xs => rfl
theorem bG3 (a : Tx) : (aC a).length = 1 + a.count 10 := by
 induction a with
 | nil => rfl
 | cons c a ih =>
  simp only [aC]
  by_cases h : c = 10
  ·subst h
   rw [if_pos rfl, List.length_cons, ih, List.count_cons_self]; omega
  ·rw [if_neg h, List.count_cons_of_ne (fun e => h e), ← ih]
   cases h' : aC a with
   | nil => exact absurd h' (aF6 a)
   | cons x xs => rfl
theorem aR2 (k : Nat) : ∀ (ls : List Tx) (n : Nat), aV (n + k) ls = match aV n ls with
  | .error e => .error (e + k)
  | .ok r => .ok (r.map fun m => (m.1 + k, m.2))
 | [], _ => rfl
 | l :: ls, n => by
  simp only [aV]
  cases toks (trim l) with
  | none => rfl
  | some t =>
   dsimp only
   rw [show n + k + 1 = n + 1 + k by omega, aR2 k ls (n + 1)]
   cases aV (n + 1) ls with
   | error e => rfl
   | ok r => dsimp only; split <;> rfl
theorem aU.pure : aU.Pure := by
 intro s0 s1 _ _ _
 refine ⟨by show (0 : Int) ≤ 300; omega, fun s2 h2 _ => ⟨by show (0 : Int) ≤ 300; omega, fun s3 h3 _ => ⟨trivial, fun v4 l5 i6 i7 hA _ _ _ => ⟨trivial, fun v8 l9 i10 i11 hB _ _ _ => ?_⟩⟩⟩⟩
 have h2 : s2 = s0.extract 0 (300 : Int).toNat := h2
 have h3 : s3 = s1.extract 0 (300 : Int).toNat := h3
 have z2 : (tx s2).length ≤ 300 := by rw [h2, iW, List.drop_zero, List.length_take]; show min 300 _ ≤ 300; omega
 have z3 : (tx s3).length ≤ 300 := by rw [h3, iW, List.drop_zero, List.length_take]; show min 300 _ ≤ 300; omega
 have ej : tx ((s2 ++ (⟨#[10]⟩ : BA)) ++ s3) = tx s2 ++ [10] ++ tx s3 := by rw [vN, vN]; rfl
 have zj : ((s2 ++ (⟨#[10]⟩ : BA)) ++ s3).size ≤ 601 := by rw [← sQ, ej, List.length_append, List.length_append]; simp only [List.length_cons, List.length_nil]; omega
 have zi : (s2 ++ (⟨#[10]⟩ : BA)).size ≤ 601 := by rw [← sQ, vN, List.length_append]; show _ + 1 ≤ 601; omega
 refine ⟨by omega, fun _ => ⟨by omega, fun _ => ⟨trivial, fun v12 l13 i14 i15 hJ _ _ _ => ?_⟩⟩⟩
 have hJ : dG (tx ((s2 ++ (⟨#[10]⟩ : BA)) ++ s3)) l13 i14 i15 := hJ
 have hA : dG (tx s2) l5 i6 i7 := hA
 have hB : dG (tx s3) l9 i10 i11 := hB
 rw [ej] at hJ
 have z2' : (tx s2).length = s2.size := rfl
 unfold dG at hA hB hJ
 have pA : lines (tx s2) = match aV 1 (aC (tx s2)) with | .error k => ([], k, 10) | .ok r => (r, 0, 0) := if_neg (by omega)
 have pB : lines (tx s3) = match aV 1 (aC (tx s3)) with | .error k => ([], k, 10) | .ok r => (r, 0, 0) := if_neg (by omega)
 have pJ : lines (tx s2 ++ [10] ++ tx s3) = match aV 1 (aC (tx s2 ++ [10] ++ tx s3)) with | .error k => ([], k, 10) | .ok r => (r, 0, 0) := if_neg (by rw [List.length_append, List.length_append]; simp only [List.length_cons, List.length_nil]; omega)
 rw [bG4, xK, Nat.add_comm 1, Nat.add_comm _ 1, aR2] at pJ
 rw [pA] at hA
 rw [pB] at hB
 rw [pJ] at hJ
 have hnlA := xJ (tx s2)
 have hnlB := xJ (tx s3)
 have hcnt := bG3 (tx s2)
 cases hxA : aV 1 (aC (tx s2)) with
 | error k =>
  rw [hxA] at hA hJ
  have hA : i7 = 10 := hA.2.2
  have hJ : i15 = 10 := hJ.2.2
  rw [hA, hJ]
  refine ⟨fun _ => ⟨trivial, fun b16 hb => ?_⟩, fun h => absurd h (by omega)⟩
  have hb : b16 = true := hb
  rw [hb]; exact ⟨fun _ => rfl, nofun⟩
 | ok Ma =>
  rw [hxA] at hA hJ
  obtain ⟨rA, _, hA⟩ := hA
  have hA : i7 = 0 := hA
  refine ⟨fun h => absurd hA h, fun _ => ?_⟩
  cases hxB : aV 1 (aC (tx s3)) with
  | error k =>
   rw [hxB] at hB hJ
   have hB : i11 = 10 := hB.2.2
   have hJ : i15 = 10 := hJ.2.2
   rw [hB, hJ]
   refine ⟨fun _ => ⟨trivial, fun b16 hb => ?_⟩, fun h => absurd h (by omega)⟩
   have hb : b16 = true := hb
   rw [hb]; exact ⟨fun _ => rfl, nofun⟩
  | ok Mb =>
   rw [hxB] at hB hJ
   obtain ⟨rB, _, hB⟩ := hB
   have hB : i11 = 0 := hB
   obtain ⟨rJ, _, hJ⟩ := hJ
   have hJ : i15 = 0 := hJ
   have rA : fD l5 Ma := rA
   have rB : fD l9 Mb := rB
   have rJ : fD l13 (Ma ++ Mb.map fun m => (m.1 + (aC (tx s2)).length, m.2)) := rJ
   have lA := mO rA
   have lB := mO rB
   have lJ := mO rJ
   rw [List.length_append, List.length_map] at lJ
   have smA := xI hxA
   have smB := xI hxB
   refine ⟨fun h => absurd hB h, fun _ => ⟨⟨Int.le_refl _, Int.natCast_nonneg _, rfl⟩, fun i16 i17 _ _ hI => ?_⟩⟩
   obtain ⟨a0, a1, a2⟩ : 0 ≤ i17 ∧ i17 ≤ (s0.extract 0 (300 : Int).toNat).size ∧ i16 = 1 + ((tx (s0.extract 0 (300 : Int).toNat)).take i17.toNat).count 10 := hI
   rw [← h2] at a1 a2
   have cle : ∀ n, ((tx s2).take n).count 10 ≤ 300 := fun n => Nat.le_trans List.count_le_length (Nat.le_trans (List.length_take_le' _ _) z2)
   have hle := cle i17.toNat
   refine ⟨fun hi => ⟨a0, fun _ => ?_⟩, fun hi => ?_⟩
   ·rw [wrap64 (n := i16 + 1) (by omega) (by omega), wrap64 (n := i17 + 1) (by omega) (by omega)]
    have hc : (tx s2)[i17.toNat]? = some ((tx s2).getD i17.toNat 0) := by rw [List.getD, List.getElem?_eq_getElem (by omega)]; rfl
    have ht : (tx s2).take (i17 + 1).toNat = (tx s2).take i17.toNat ++ [(tx s2).getD i17.toNat 0] := by
     rw [show (i17 + 1).toNat = i17.toNat + 1 by omega, List.take_add_one, hc]; rfl
    have h10 : byteAt s2 i17 = 10 ↔ (tx s2).getD i17.toNat 0 = 10 := by
     rw [qA, ← UInt8.toNat_inj]
     show (((tx s2).getD i17.toNat 0).toNat : Int) = 10 ↔ ((tx s2).getD i17.toNat 0).toNat = 10
     omega
    have go : ∀ j : Int, j = 1 + ((tx s2).take (i17 + 1).toNat).count 10 → aU.I0 [.S s0, .S s1, .I j, .I (i17 + 1)] ∧ aU.I0M [.S s0, .S s1, .I j, .I (i17 + 1)] < aU.I0M [.S s0, .S s1, .I i16, .I i17] := fun j hj => by
     refine ⟨⟨by show 0 ≤ i17 + 1; omega, ?_, ?_⟩, ?_⟩
     ·show i17 + 1 ≤ (s0.extract 0 (300 : Int).toNat).size
      rw [← h2]; omega
     ·show j = 1 + ((tx (s0.extract 0 (300 : Int).toNat)).take (i17 + 1).toNat).count 10
      rw [← h2]; exact hj
     ·show ((s0.extract 0 (300 : Int).toNat).size - (i17 + 1)).toNat < ((s0.extract 0 (300 : Int).toNat).size - i17).toNat
      rw [← h2]; omega
    refine ⟨fun h => go _ ?_, fun h => go _ ?_⟩
    ·rw [ht, List.count_append, h10.1 h, List.count_singleton_self]; omega
    ·rw [ht, List.count_append, List.count_singleton, if_neg (by simpa using fun e => h (h10.2 e))]; omega
   ·rw [List.take_of_length_le (by omega)] at a2
    refine ⟨fun h => absurd hJ h, fun _ => ?_⟩
    rw [wrap64 (n := (l5.length : Int) + (l9.length : Int)) (by omega) (by omega)]
    refine ⟨fun h => absurd (by omega) h, fun _ => ⟨Int.le_refl _, fun i18 _ hI1 => ?_⟩⟩
    have hI1 : 0 ≤ i18 := hI1
    have next_ : i18 < (l13.length : Nat) → aU.I1 [.S s0, .S s1, .I (wrap .i64 (i18 + 1))] ∧ aU.I1M [.S s0, .S s1, .I (wrap .i64 (i18 + 1))] < aU.I1M [.S s0, .S s1, .I i18] := fun h => by
     rw [wrap64 (n := i18 + 1) (by omega) (by omega)]
     exact ⟨by show 0 ≤ i18 + 1; omega, by show (1000000 - (i18 + 1)).toNat < (1000000 - i18).toNat; omega⟩
    refine ⟨fun hi18 v19 n20 v21 => ?_, fun _ => ⟨trivial, fun b19 hb => by have hb : b19 = true := hb; rw [hb]; rfl⟩⟩
    obtain ⟨m, u, g1, r1⟩ := pF (i := i18.toNat) rJ (by omega)
    rw [r1]
    refine ⟨fun h5 => ⟨hI1, fun _ => ?_⟩, fun h5 => ?_⟩
    ·obtain ⟨m', u', g2, r2⟩ := pF (i := i18.toNat) rA (by omega)
     rw [List.getElem?_append_left (by omega), g2] at g1
     cases g1
     rw [r2]
     exact ⟨fun h => absurd rfl h, fun _ => ⟨fun h => absurd rfl h, fun _ => next_ hi18⟩⟩
    ·rw [wrap64 (n := i18 - (l5.length : Int)) (by omega) (by omega)]
     obtain ⟨m', u', g2, r2⟩ := pF (i := (i18 - (l5.length : Int)).toNat) rB (by omega)
     rw [List.getElem?_append_right (by omega), List.getElem?_map, show i18.toNat - Ma.length = (i18 - (l5.length : Int)).toNat by omega, g2] at g1
     cases g1
     have hm := (smB.2 _ (List.mem_of_getElem? g2)).1
     rw [r2]
     have hN : wrap .i64 ((m'.1 : Int) + i16) = ((m'.1 + (aC (tx s2)).length : Nat) : Int) := by rw [wrap64 (by omega) (by omega)]; omega
     exact ⟨by omega, fun _ => ⟨by omega, fun _ => ⟨hI1, fun _ => ⟨fun h => absurd hN.symm h, fun _ => ⟨fun h => absurd rfl h, fun _ => next_ hi18⟩⟩⟩⟩⟩
end Go.Vc