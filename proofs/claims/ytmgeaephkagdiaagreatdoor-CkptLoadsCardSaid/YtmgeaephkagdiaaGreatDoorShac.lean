/-
 Contracts of the document's sums of 256 bits.
 Printed by wip/vct.py: the conditions of functions, by their contracts.
 The document's sums of 256 bits: the tables, the plain part.
 The document's sums of 256 bits: roots, tables, turns, the plain part.
-/
import Derived.Test.YtmgeaephkagdiaaGreatDoorSha
import Derived.KernelRfl
set_option linter.unusedVariables false
set_option linter.unusedSimpArgs false
open _root_.Go.IntKind (wrap)
namespace Go.Vc
def kJ : LI := [2, 3, 5, 7, 11, 13, 17, 19, 23, 29, 31, 37, 41, 43, 47, 53, 59, 61, 67, 71, 73, 79, 83, 89, 97, 101, 103, 107, 109, 113, 127, 131, 137, 139, 149, 151, 157, 163, 167, 173, 179, 181, 191, 193, 197, 199, 211, 223, 227, 229, 233, 239, 241, 251, 257, 263, 269, 271, 277, 281, 283, 293, 307, 311]
def below (p : Int) : LI := kJ.filter (fun x => decide (x < p))
def dX.pre : LD → Prop
 | [.I n] => n = 8 ∨ n = 64
 | _ => False
def dX.post : LD → Prop
 | [.I n, .V _, .Z r] => r = kJ.take n.toNat
 | _ => False
def dX.sig : Sig := gQ [.i .i64] [.z .u64] dX.pre dX.post
def dX.I0 : LD → Prop
 | [.I n, .Z out, .I p] => 2 ≤ p ∧ p ≤ 400 ∧ out = below p ∧ out.length ≤ n
 | _ => False
def dX.I0M : LD → Nat
 | [.I _, .Z _, .I p] => (400 - p).toNat
 | _ => 0
def dX.I1 : LD → Prop
 | [.I _, .Z out, .I p, .B b, .I q] => 0 ≤ q ∧ b = (out.take q.toNat).all (fun x => decide (p % x ≠ 0))
 | _ => False
def dX.I1M : LD → Nat
 | [.I _, .Z out, .I _, .B _, .I q] => (out.length - q).toNat
 | _ => 0
def bI : LI → Int
 | [] => 0
 | d :: l => d + 4294967296 * bI l
def gI (l : LI) : Prop := ∀ x ∈ l, 0 ≤ x ∧ x < 4294967296
def pI (x k : Int) : Int := if k ≤ 0 then 0 else if k = 1 then x % 4294967296 else x
def dG.pre : LD → Prop
 | [.Z a, .I x] => gI a ∧ bI a * x < 4294967296 ^ 8
 | _ => False
def dG.post : LD → Prop
 | [.Z a, .I x, .Z r] => gI r ∧ bI r = bI a * x
 | _ => False
def dG.sig : Sig := { args := [arr .u64 8 0, aI .u64 1], heap := [], aA := [.Z, .I], res := arr .u64 8 2, heap' := [], news := [.Z], pre := dG.pre, post := dG.post }
def dG.I0 : LD → Prop
 | [.Z a, .I x, .I i, .Z out] => 0 ≤ i ∧ i ≤ 8 ∧ gI out ∧ bI out = bI (a.take i.toNat) * x
 | _ => False
def dG.I0M : LD → Nat
 | [.Z _, .I _, .I i, .Z _] => (8 - i).toNat
 | _ => 0
def dG.I1 : LD → Prop
 | [.Z a, .I x, .I i, .I k, .Z out] => 0 ≤ k ∧ k ≤ 2 ∧ gI out ∧ bI out = bI (a.take i.toNat) * x + a.getD i.toNat 0 * 4294967296 ^ i.toNat * pI x k
 | _ => False
def dG.I1M : LD → Nat
 | [.Z _, .I _, .I _, .I k, .Z _] => (2 - k).toNat
 | _ => 0
def dG.I2 : LD → Prop
 | [.Z a, .I x, .I i, .I k, .I c, .I j, .Z out] => 0 ≤ j ∧ j ≤ 9 ∧ 0 ≤ c ∧ c ≤ 4294967295 * 4294967295 ∧ gI out ∧ bI out + c * 4294967296 ^ j.toNat = bI (a.take i.toNat) * x + a.getD i.toNat 0 * 4294967296 ^ i.toNat * pI x (k + 1)
 | _ => False
def dG.I2M : LD → Nat
 | [.Z _, .I _, .I _, .I _, .I _, .I j, .Z _] => (9 - j).toNat
 | _ => 0
def iT.pre : LD → Prop
 | [.Z a, .I p, .I n] => gI a ∧ 0 ≤ p ∧ p < 4294967296 ∧ 0 ≤ n ∧ n < 8
 | _ => False
def iT.post : LD → Prop
 | [.Z a, .I p, .I n, .B r] => r = decide (p * 4294967296 ^ n.toNat < bI a)
 | _ => False
def iT.sig : Sig := { args := [arr .u64 8 0, aI .u64 1, aI .i64 2], heap := [], aA := [.Z, .I, .I], res := aB 3, heap' := [], news := [.B], pre := iT.pre, post := iT.post }
def iT.I0 : LD → Prop
 | [.Z a, .I p, .I n, .I i] => -1 ≤ i ∧ i < 8 ∧ a.drop (i + 1).toNat = ((List.replicate 8 0).set n.toNat p).drop (i + 1).toNat
 | _ => False
def iT.I0M : LD → Nat
 | [.Z _, .I _, .I _, .I i] => (i + 1).toNat
 | _ => 0
def vN (p : Int) (d : Nat) : Nat → Int → Int
 | 0, x => x
 | k + 1, x => vN p d k (if p * 4294967296 ^ d < (x + 2 ^ k) ^ d then x else x + 2 ^ k)
def uJ (p : Int) (d : Nat) : Int := vN p d 36 0 % 4294967296
def dD.pre : LD → Prop
 | [.I p, .I d] => 2 ≤ p ∧ p ≤ 400 ∧ (d = 2 ∨ d = 3)
 | _ => False
def dD.post : LD → Prop
 | [.I p, .I d, .I r] => r = uJ p d.toNat
 | _ => False
def dD.sig : Sig := gQ [.i .u64, .i .i64] [.i .u32] dD.pre dD.post
def dD.I0 : LD → Prop
 | [.I p, .I d, .I x, .I bit] => ∃ k : Nat, k ≤ 36 ∧ bit = (if k = 0 then 0 else 2 ^ (k - 1)) ∧ 0 ≤ x ∧ x + 2 ^ k ≤ 2 ^ 36 ∧ vN p d.toNat k x = vN p d.toNat 36 0
 | _ => False
def dD.I0M : LD → Nat
 | [.I _, .I _, .I _, .I bit] => bit.toNat
 | _ => 0
def dD.I1 : LD → Prop
 | [.I _, .I d, .I x, .I bit, .I i, .Z a] => 0 ≤ i ∧ i ≤ d ∧ gI a ∧ bI a = (x + bit) ^ i.toNat
 | _ => False
def dD.I1M : LD → Nat
 | [.I _, .I d, .I _, .I _, .I i, .Z _] => (d - i).toNat
 | _ => 0
def bC.post : LD → Prop
 | [.V _, .Z s, .V _, .Z k] => s = dO ∧ k = gK
 | _ => False
def bC.sig : Sig := { args := [], heap := [], aA := [], res := .one (.agg [.lf (.sl (.at 0)), .lf (.sl (.at 2))]), heap' := [.osl (.at 0) [.int .u32] (.at 1), .osl (.at 2) [.int .u32] (.at 3)], news := [.V, .Z, .V, .Z], pre := tru, post := bC.post }
def bC.I0 : LD → Prop
 | [.I i, .Z s, .Z k] => 0 ≤ i ∧ i ≤ 8 ∧ s = dO.take i.toNat ∧ k = []
 | _ => False
def bC.I0M : LD → Nat
 | [.I i, .Z _, .Z _] => (8 - i).toNat
 | _ => 0
def bC.I1 : LD → Prop
 | [.I i, .Z s, .Z k] => 0 ≤ i ∧ i ≤ 64 ∧ s = dO ∧ k = gK.take i.toNat
 | _ => False
def bC.I1M : LD → Nat
 | [.I i, .Z _, .Z _] => (64 - i).toNat
 | _ => 0
def iW (x : Int) : Nat → Int
 | 0 => x
 | n + 1 => iW x n / 2 + iW x n % 2 * 2147483648
def dS.pre : LD → Prop
 | [.I _, .I n] => 0 ≤ n ∧ n ≤ 32
 | _ => False
def dS.post : LD → Prop
 | [.I x, .I n, .I r] => r = iW x n.toNat
 | _ => False
def dS.sig : Sig := gQ [.i .u32, .i .i64] [.i .u32] dS.pre dS.post
def dS.I0 : LD → Prop
 | [.I x, .I n, .I y, .I i] => 0 ≤ i ∧ i ≤ n ∧ y = iW x i.toNat
 | _ => False
def dS.I0M : LD → Nat
 | [.I _, .I n, .I _, .I i] => (n - i).toNat
 | _ => 0
def qQ.post : LD → Prop
 | [.I x, .I r] => r = 4294967295 - x
 | _ => False
def qQ.sig : Sig := gQ [.i .u32] [.i .u32] tru qQ.post
def bW.pre : LD → Prop
 | [.V _, .Z st, .V _, .Z k, .S s] => st.length = 8 ∧ k = gK ∧ s.size = 64
 | _ => False
def bW.post : LD → Prop
 | [.V _, .Z st, .V _, .Z _, .S s, .V _, .Z r] => r = rZ st (bytesOf s)
 | _ => False
def bW.sig : Sig := gQ [.z .u32, .z .u32, .s] [.z .u32] bW.pre bW.post
def bW.I0 : LD → Prop
 | [.V _, .Z _, .V _, .Z _, .S s, .Z w, .I i] => 0 ≤ i ∧ i ≤ 16 ∧ w = (bZ (bytesOf s)).take i.toNat
 | _ => False
def bW.I0M : LD → Nat
 | [.V _, .Z _, .V _, .Z _, .S _, .Z _, .I i] => (16 - i).toNat
 | _ => 0
def bW.I1 : LD → Prop
 | [.V _, .Z _, .V _, .Z _, .S s, .Z w, .I i] => 16 ≤ i ∧ i ≤ 64 ∧ w = (bZ (bytesOf s)).take i.toNat
 | _ => False
def bW.I1M : LD → Nat
 | [.V _, .Z _, .V _, .Z _, .S _, .Z _, .I i] => (64 - i).toNat
 | _ => 0
def bW.I2 : LD → Prop
 | [.V _, .Z st, .V _, .Z _, .S s, .Z v, .I i] => 0 ≤ i ∧ i ≤ 64 ∧ v = jD st (bZ (bytesOf s)) i.toNat
 | _ => False
def bW.I2M : LD → Nat
 | [.V _, .Z _, .V _, .Z _, .S _, .Z _, .I i] => (64 - i).toNat
 | _ => 0
def bW.I3 : LD → Prop
 | [.V _, .Z st, .V _, .Z _, .S s, .I i, .Z v] => 0 ≤ i ∧ i ≤ 8 ∧ v = oN st (jD st (bZ (bytesOf s)) 64) i.toNat
 | _ => False
def bW.I3M : LD → Nat
 | [.V _, .Z _, .V _, .Z _, .S _, .I i, .Z _] => (8 - i).toNat
 | _ => 0
def zH (l : LI) : Int := (l.length : Int) * 8
def fQ (l : LI) : LI := l ++ [128] ++ List.replicate (fM l.length) 0 ++ be8 (zH l)
def rOf.pre : LD → Prop
 | [.V _, .Z st, .V _, .Z k, .S s] => st = dO ∧ k = gK ∧ s.size ≤ 1000000
 | _ => False
def rOf.post : LD → Prop
 | [.V _, .Z _, .V _, .Z _, .S s, .S r] => r = textOf (iU (bytesOf s))
 | _ => False
def rOf.sig : Sig := { args := [.one (.agg [.lf (.sl (.at 0)), .lf (.sl (.at 2))]), aS 4], heap := [.rsl (.at 0) [.int .u32] (.at 1), .rsl (.at 2) [.int .u32] (.at 3)], aA := [.V, .Z, .V, .Z, .S], res := aS 5, heap' := [], news := [.S], pre := rOf.pre, post := rOf.post }
def rOf.I0 : LD → Prop
 | [.V _, .Z _, .V _, .Z _, .S s, .S t, .I i] => 0 ≤ i ∧ i ≤ fM s.size ∧ t = textOf (bytesOf s ++ [128] ++ List.replicate i.toNat 0)
 | _ => False
def rOf.I0M : LD → Nat
 | [.V _, .Z _, .V _, .Z _, .S _, .S _, .I i] => (64 - i).toNat
 | _ => 0
def rOf.I1 : LD → Prop
 | [.V _, .Z _, .V _, .Z _, .S s, .I b, .S n, .I i] => 0 ≤ i ∧ i ≤ 8 ∧ b = (s.size : Int) * 8 / 256 ^ i.toNat ∧ n = textOf (bytesLE ((s.size : Int) * 8) i.toNat).reverse
 | _ => False
def rOf.I1M : LD → Nat
 | [.V _, .Z _, .V _, .Z _, .S _, .I _, .S _, .I i] => (8 - i).toNat
 | _ => 0
def rOf.I2 : LD → Prop
 | [.V _, .Z _, .V _, .Z _, .S s, .Z st, .I i] => 0 ≤ i ∧ i % 64 = 0 ∧ i ≤ (fQ (bytesOf s)).length ∧ st.length = 8 ∧ (bV st ((fQ (bytesOf s)).drop i.toNat)).1 = (bV dO (fQ (bytesOf s))).1
 | _ => False
def rOf.I2M : LD → Nat
 | [.V _, .Z _, .V _, .Z _, .S s, .Z _, .I i] => ((fQ (bytesOf s)).length - i).toNat
 | _ => 0
def rOf.I3 : LD → Prop
 | [.V _, .Z _, .V _, .Z _, .S s, .S out, .I i] => 0 ≤ i ∧ i ≤ 8 ∧ out = textOf (jY ((bV dO (fQ (bytesOf s))).1.take i.toNat))
 | _ => False
def rOf.I3M : LD → Nat
 | [.V _, .Z _, .V _, .Z _, .S _, .S _, .I i] => (8 - i).toNat
 | _ => 0
end Go.Vc
namespace Go.Vc
set_option linter.unusedVariables false
def dX.Pure : Prop :=
 ∀ i0 : Int,
 R64 i0 →
 dX.sig.pre [.I i0] →
 ∀ v1 v2 : Value,
 dX.I0 [.I i0, .Z ([] : LI), .I 2] ∧ (
 ∀ v3 : Value,
 ∀ z4 : LI,
 ∀ i5 : Int,
 U64 i5 →
 (∀ x ∈ z4, IntKind.has .u64 x) →
 dX.I0 [.I i0, .Z z4, .I i5] →
 ((
 (i5 < 400) →
 ((
 ((z4.length : Int) < i0) →
   dX.I1 [.I i0, .Z z4, .I i5, .B true, .I 0] ∧ (
 ∀ b6 : Bool,
 ∀ i7 : Int,
 R64 i7 →
  dX.I1 [.I i0, .Z z4, .I i5, .B b6, .I i7] →
 ((
 (i7 < (z4.length : Int)) →
 Im (0 ≤ i7) (
 Im ((z4.getD i7.toNat 0) ≠ 0) (
 ((
 ((Int.tmod i5 (z4.getD i7.toNat 0)) = 0) →
   Bk dX.I1 dX.I1M [.I i0, .Z z4, .I i5, .B false, .I (wrap .i64 (i7 + 1))] [.I i0, .Z z4, .I i5, .B b6, .I i7]) ∧ (
 ((Int.tmod i5 (z4.getD i7.toNat 0)) ≠ 0) →
   Bk dX.I1 dX.I1M [.I i0, .Z z4, .I i5, .B b6, .I (wrap .i64 (i7 + 1))] [.I i0, .Z z4, .I i5, .B b6, .I i7]))))) ∧ (
 ((z4.length : Int) ≤ i7) →
 ((
 (b6 = true) →
 ∀ v8 : Value,
 Im (((z4 ++ (i5 :: ([] : LI))).length : Int) ≤ (17592186044416 : Int)) (
 ∀ v9 : Value,
   Bk dX.I0 dX.I0M [.I i0, .Z (z4 ++ (i5 :: ([] : LI))), .I (wrap .u64 (i5 + 1))] [.I i0, .Z z4, .I i5])) ∧ (
 (b6 = false) →
   Bk dX.I0 dX.I0M [.I i0, .Z z4, .I (wrap .u64 (i5 + 1))] [.I i0, .Z z4, .I i5])))))) ∧ (
 (i0 ≤ (z4.length : Int)) →
  dX.sig.post [.I i0, .V v3, .Z z4]))) ∧ (
 (400 ≤ i5) →
  dX.sig.post [.I i0, .V v3, .Z z4])))
def dG.Pure : Prop :=
 ∀ z0 : LI,
 ∀ i1 : Int,
 (z0.length = 8) →
 (∀ x ∈ z0, IntKind.has .u64 x) →
 U64 i1 →
 dG.sig.pre [.Z z0, .I i1] →
 ∀ n2 n3 n4 : Nat,
 dG.I0 [.Z z0, .I i1, .I 0, .Z (List.replicate (8 : Int).toNat (0 : Int))] ∧ (
 ∀ i5 : Int,
 ∀ z6 : LI,
 R64 i5 →
 (z6.length = 8) →
 (∀ x ∈ z6, IntKind.has .u64 x) →
 dG.I0 [.Z z0, .I i1, .I i5, .Z z6] →
 ((
 (i5 < 8) →
 Im (0 ≤ i5) (
 ∀ v7 : Value,
  dG.I1 [.Z z0, .I i1, .I i5, .I 0, .Z z6] ∧ (
 ∀ i8 : Int,
 ∀ z9 : LI,
 R64 i8 →
 (z9.length = 8) →
 (∀ x ∈ z9, IntKind.has .u64 x) →
  dG.I1 [.Z z0, .I i1, .I i5, .I i8, .Z z9] →
 ((
 (i8 < (((Int.tmod i1 4294967296) :: ((wrap .u64 (Int.tdiv i1 4294967296)) :: ([] : LI))).length : Int)) →
 Im (0 ≤ i8) (
  dG.I2 [.Z z0, .I i1, .I i5, .I i8, .I (wrap .u64 ((z0.getD i5.toNat 0) * (((Int.tmod i1 4294967296) :: ((wrap .u64 (Int.tdiv i1 4294967296)) :: ([] : LI))).getD i8.toNat 0))), .I (wrap .i64 (i5 + i8)), .Z z9] ∧ (
 ∀ i10 i11 : Int,
 ∀ z12 : LI,
 U64 i10 →
 R64 i11 →
 (z12.length = 8) →
 (∀ x ∈ z12, IntKind.has .u64 x) →
  dG.I2 [.Z z0, .I i1, .I i5, .I i8, .I i10, .I i11, .Z z12] →
 ((
 (i11 < 8) →
 ((
 (0 < i10) →
 Im (0 ≤ i11) (
     Bk dG.I2 dG.I2M [.Z z0, .I i1, .I i5, .I i8, .I (wrap .u64 ((wrap .u64 (Int.tdiv i10 4294967296)) + (wrap .u64 (Int.tdiv ((z12.set i11.toNat (wrap .u64 ((z12.getD i11.toNat 0) + (Int.tmod i10 4294967296)))).getD i11.toNat 0) 4294967296)))), .I (wrap .i64 (i11 + 1)), .Z ((z12.set i11.toNat (wrap .u64 ((z12.getD i11.toNat 0) + (Int.tmod i10 4294967296)))).set i11.toNat (Int.tmod ((z12.set i11.toNat (wrap .u64 ((z12.getD i11.toNat 0) + (Int.tmod i10 4294967296)))).getD i11.toNat 0) 4294967296))] [.Z z0, .I i1, .I i5, .I i8, .I i10, .I i11, .Z z12])) ∧ (
 (i10 ≤ 0) →
   Bk dG.I1 dG.I1M [.Z z0, .I i1, .I i5, .I (wrap .i64 (i8 + 1)), .Z z12] [.Z z0, .I i1, .I i5, .I i8, .Z z9]))) ∧ (
 (8 ≤ i11) →
  Bk dG.I1 dG.I1M [.Z z0, .I i1, .I i5, .I (wrap .i64 (i8 + 1)), .Z z12] [.Z z0, .I i1, .I i5, .I i8, .Z z9]))))) ∧ (
 ((((Int.tmod i1 4294967296) :: ((wrap .u64 (Int.tdiv i1 4294967296)) :: ([] : LI))).length : Int) ≤ i8) →
   Bk dG.I0 dG.I0M [.Z z0, .I i1, .I (wrap .i64 (i5 + 1)), .Z z9] [.Z z0, .I i1, .I i5, .Z z6]))))) ∧ (
 (8 ≤ i5) →
  dG.sig.post [.Z z0, .I i1, .Z z6])))
def iT.Pure : Prop :=
 ∀ z0 : LI,
 ∀ i1 i2 : Int,
 (z0.length = 8) →
 (∀ x ∈ z0, IntKind.has .u64 x) →
 U64 i1 →
 R64 i2 →
 iT.sig.pre [.Z z0, .I i1, .I i2] →
 ∀ n3 n4 : Nat,
 Im (0 ≤ i2) (
 Im (i2 < 8) (
 iT.I0 [.Z z0, .I i1, .I i2, .I 7] ∧ (
 ∀ i5 : Int,
 R64 i5 →
 iT.I0 [.Z z0, .I i1, .I i2, .I i5] →
 ((
 (0 ≤ i5) →
 Im (i5 < 8) (
 ((
 ((z0.getD i5.toNat 0) ≠ (((List.replicate (8 : Int).toNat (0 : Int)).set i2.toNat i1).getD i5.toNat 0)) →
   iT.sig.post [.Z z0, .I i1, .I i2, .B (decide ((((List.replicate (8 : Int).toNat (0 : Int)).set i2.toNat i1).getD i5.toNat 0) < (z0.getD i5.toNat 0)))]) ∧ (
 ((z0.getD i5.toNat 0) = (((List.replicate (8 : Int).toNat (0 : Int)).set i2.toNat i1).getD i5.toNat 0)) →
   Bk iT.I0 iT.I0M [.Z z0, .I i1, .I i2, .I (wrap .i64 (i5 - 1))] [.Z z0, .I i1, .I i2, .I i5])))) ∧ (
 (i5 < 0) →
  iT.sig.post [.Z z0, .I i1, .I i2, .B false])))))
def dD.Pure : Prop :=
 ∀ i0 i1 : Int,
 U64 i0 →
 R64 i1 →
 dD.sig.pre [.I i0, .I i1] →
 dD.I0 [.I i0, .I i1, .I 0, .I 34359738368] ∧ (
 ∀ i2 i3 : Int,
 U64 i2 →
 U64 i3 →
 dD.I0 [.I i0, .I i1, .I i2, .I i3] →
 ((
 (0 < i3) →
 ∀ n4 : Nat,
  dD.I1 [.I i0, .I i1, .I i2, .I i3, .I 0, .Z ((List.replicate (8 : Int).toNat (0 : Int)).set (0 : Int).toNat (1 : Int))] ∧ (
 ∀ i5 : Int,
 ∀ z6 : LI,
 R64 i5 →
 (z6.length = 8) →
 (∀ x ∈ z6, IntKind.has .u64 x) →
  dD.I1 [.I i0, .I i1, .I i2, .I i3, .I i5, .Z z6] →
 ((
 (i5 < i1) →
  dG.sig.pre [.Z z6, .I (wrap .u64 (i2 + i3))] ∧ (
 ∀ z7 : LI,
  dG.sig.post [.Z z6, .I (wrap .u64 (i2 + i3)), .Z z7] →
 (z7.length = 8) →
 (∀ x ∈ z7, IntKind.has .u64 x) →
  Bk dD.I1 dD.I1M [.I i0, .I i1, .I i2, .I i3, .I (wrap .i64 (i5 + 1)), .Z z7] [.I i0, .I i1, .I i2, .I i3, .I i5, .Z z6])) ∧ (
 (i1 ≤ i5) →
  iT.sig.pre [.Z z6, .I i0, .I i1] ∧ (
 ∀ b7 : Bool,
  iT.sig.post [.Z z6, .I i0, .I i1, .B b7] →
 ((
 (b7 = false) →
  Bk dD.I0 dD.I0M [.I i0, .I i1, .I (wrap .u64 (i2 + i3)), .I (wrap .u64 (Int.tdiv i3 2))] [.I i0, .I i1, .I i2, .I i3]) ∧ (
 (b7 = true) →
  Bk dD.I0 dD.I0M [.I i0, .I i1, .I i2, .I (wrap .u64 (Int.tdiv i3 2))] [.I i0, .I i1, .I i2, .I i3]))))))) ∧ (
 (i3 ≤ 0) →
  dD.sig.post [.I i0, .I i1, .I (wrap .u32 (Int.tmod i2 4294967296))])))
def bC.Pure : Prop :=
 bC.sig.pre [] →
 ∀ v0 v1 : Value,
 ∀ n2 : Nat,
 ∀ v3 v4 : Value,
 ∀ n5 : Nat,
 ∀ v6 v7 : Value,
 dX.sig.pre [.I 8] ∧ (
 ∀ v8 : Value,
 ∀ z9 : LI,
 dX.sig.post [.I 8, .V v8, .Z z9] →
 (∀ x ∈ z9, IntKind.has .u64 x) →
 bC.I0 [.I 0, .Z ([] : LI), .Z ([] : LI)] ∧ (
 ∀ i10 : Int,
 ∀ v11 : Value,
 ∀ z12 : LI,
 ∀ v13 : Value,
 ∀ z14 : LI,
 R64 i10 →
 (∀ x ∈ z14, IntKind.has .u32 x) →
 (∀ x ∈ z12, IntKind.has .u32 x) →
 bC.I0 [.I i10, .Z z12, .Z z14] →
 ((
 (i10 < (z9.length : Int)) →
 Im (0 ≤ i10) (
 ((
  dD.sig.pre [.I (z9.getD i10.toNat 0), .I 2] ∧ (
 ∀ i15 : Int,
  dD.sig.post [.I (z9.getD i10.toNat 0), .I 2, .I i15] →
 (0 ≤ i15 ∧ i15 < 4294967296) →
 ∀ v16 : Value,
 Im (((z12 ++ (i15 :: ([] : LI))).length : Int) ≤ (35184372088832 : Int)) (
 ∀ v17 : Value,
  Bk bC.I0 bC.I0M [.I (wrap .i64 (i10 + 1)), .Z (z12 ++ (i15 :: ([] : LI))), .Z z14] [.I i10, .Z z12, .Z z14]))) ∧ (
  dD.sig.pre [.I (z9.getD i10.toNat 0), .I 2] ∧ (
 ∀ i15 : Int,
  dD.sig.post [.I (z9.getD i10.toNat 0), .I 2, .I i15] →
 (0 ≤ i15 ∧ i15 < 4294967296) →
 ((
 ∀ v16 : Value,
 Im (((z12 ++ (i15 :: ([] : LI))).length : Int) ≤ (35184372088832 : Int)) (
 ∀ v17 : Value,
  Bk bC.I0 bC.I0M [.I (wrap .i64 (i10 + 1)), .Z (z12 ++ (i15 :: ([] : LI))), .Z z14] [.I i10, .Z z12, .Z z14])) ∧ (
 ∀ v16 : Value,
 Im (((z12 ++ (i15 :: ([] : LI))).length : Int) ≤ (35184372088832 : Int)) (
 ∀ v17 : Value,
  Bk bC.I0 bC.I0M [.I (wrap .i64 (i10 + 1)), .Z (z12 ++ (i15 :: ([] : LI))), .Z z14] [.I i10, .Z z12, .Z z14])))))))) ∧ (
 ((z9.length : Int) ≤ i10) →
  dX.sig.pre [.I 64] ∧ (
 ∀ v15 : Value,
 ∀ z16 : LI,
  dX.sig.post [.I 64, .V v15, .Z z16] →
 (∀ x ∈ z16, IntKind.has .u64 x) →
  bC.I1 [.I 0, .Z z12, .Z z14] ∧ (
 ∀ i17 : Int,
 ∀ v18 : Value,
 ∀ z19 : LI,
 ∀ v20 : Value,
 ∀ z21 : LI,
 R64 i17 →
 (∀ x ∈ z21, IntKind.has .u32 x) →
 (∀ x ∈ z19, IntKind.has .u32 x) →
  bC.I1 [.I i17, .Z z19, .Z z21] →
 ((
 (i17 < (z16.length : Int)) →
 Im (0 ≤ i17) (
 ((
  dD.sig.pre [.I (z16.getD i17.toNat 0), .I 3] ∧ (
 ∀ i22 : Int,
  dD.sig.post [.I (z16.getD i17.toNat 0), .I 3, .I i22] →
 (0 ≤ i22 ∧ i22 < 4294967296) →
 ∀ v23 : Value,
 Im (((z21 ++ (i22 :: ([] : LI))).length : Int) ≤ (35184372088832 : Int)) (
 ∀ v24 : Value,
  Bk bC.I1 bC.I1M [.I (wrap .i64 (i17 + 1)), .Z z19, .Z (z21 ++ (i22 :: ([] : LI)))] [.I i17, .Z z19, .Z z21]))) ∧ (
  dD.sig.pre [.I (z16.getD i17.toNat 0), .I 3] ∧ (
 ∀ i22 : Int,
  dD.sig.post [.I (z16.getD i17.toNat 0), .I 3, .I i22] →
 (0 ≤ i22 ∧ i22 < 4294967296) →
 ((
 ∀ v23 : Value,
 Im (((z21 ++ (i22 :: ([] : LI))).length : Int) ≤ (35184372088832 : Int)) (
 ∀ v24 : Value,
   Bk bC.I1 bC.I1M [.I (wrap .i64 (i17 + 1)), .Z z19, .Z (z21 ++ (i22 :: ([] : LI)))] [.I i17, .Z z19, .Z z21])) ∧ (
 ∀ v23 : Value,
 Im (((z21 ++ (i22 :: ([] : LI))).length : Int) ≤ (35184372088832 : Int)) (
 ∀ v24 : Value,
   Bk bC.I1 bC.I1M [.I (wrap .i64 (i17 + 1)), .Z z19, .Z (z21 ++ (i22 :: ([] : LI)))] [.I i17, .Z z19, .Z z21])))))))) ∧ (
 ((z16.length : Int) ≤ i17) →
   bC.sig.post [.V v18, .Z z19, .V v20, .Z z21]))))))))
def dS.Pure : Prop :=
 ∀ i0 i1 : Int,
 (0 ≤ i0 ∧ i0 < 4294967296) →
 R64 i1 →
 dS.sig.pre [.I i0, .I i1] →
 dS.I0 [.I i0, .I i1, .I i0, .I 0] ∧ (
 ∀ i2 i3 : Int,
 (0 ≤ i2 ∧ i2 < 4294967296) →
 R64 i3 →
 dS.I0 [.I i0, .I i1, .I i2, .I i3] →
 ((
 (i3 < i1) →
  Bk dS.I0 dS.I0M [.I i0, .I i1, .I (wrap .u32 ((wrap .u32 (Int.tdiv i2 2)) + (wrap .u32 ((Int.tmod i2 2) * 2147483648)))), .I (wrap .i64 (i3 + 1))] [.I i0, .I i1, .I i2, .I i3]) ∧ (
 (i1 ≤ i3) →
  dS.sig.post [.I i0, .I i1, .I i2])))
def qQ.Pure : Prop :=
 ∀ i0 : Int,
 (0 ≤ i0 ∧ i0 < 4294967296) →
 qQ.sig.pre [.I i0] →
 qQ.sig.post [.I i0, .I (wrap .u32 (4294967295 - i0))]
def bW.Pure : Prop :=
 ∀ v0 : Value,
 ∀ z1 : LI,
 ∀ v2 : Value,
 ∀ z3 : LI,
 ∀ s4 : BA,
 ((s4.size : Int) ≤ 9223372036854775807) →
 (∀ x ∈ z1, IntKind.has .u32 x) →
 (∀ x ∈ z3, IntKind.has .u32 x) →
 bW.sig.pre [.V v0, .Z z1, .V v2, .Z z3, .S s4] →
 ∀ v5 v6 : Value,
 bW.I0 [.V v0, .Z z1, .V v2, .Z z3, .S s4, .Z ([] : LI), .I 0] ∧ (
 ∀ v7 : Value,
 ∀ z8 : LI,
 ∀ i9 : Int,
 R64 i9 →
 (∀ x ∈ z8, IntKind.has .u32 x) →
 bW.I0 [.V v0, .Z z1, .V v2, .Z z3, .S s4, .Z z8, .I i9] →
 ((
 (i9 < 16) →
 Im (0 ≤ (wrap .i64 (4 * i9))) (
 Im ((wrap .i64 (4 * i9)) < (s4.size : Int)) (
 Im (0 ≤ (wrap .i64 ((wrap .i64 (4 * i9)) + 1))) (
 Im ((wrap .i64 ((wrap .i64 (4 * i9)) + 1)) < (s4.size : Int)) (
 Im (0 ≤ (wrap .i64 ((wrap .i64 (4 * i9)) + 2))) (
 Im ((wrap .i64 ((wrap .i64 (4 * i9)) + 2)) < (s4.size : Int)) (
 Im (0 ≤ (wrap .i64 ((wrap .i64 (4 * i9)) + 3))) (
 Im ((wrap .i64 ((wrap .i64 (4 * i9)) + 3)) < (s4.size : Int)) (
 ∀ v10 : Value,
 Im (((z8 ++ ((wrap .u32 ((wrap .u32 ((wrap .u32 ((wrap .u32 ((wrap .u32 (byteAt s4 (wrap .i64 ((4 : Int) * i9)))) * (16777216 : Int))) + (wrap .u32 ((wrap .u32 (byteAt s4 (wrap .i64 ((wrap .i64 ((4 : Int) * i9)) + (1 : Int))))) * (65536 : Int))))) + (wrap .u32 ((wrap .u32 (byteAt s4 (wrap .i64 ((wrap .i64 ((4 : Int) * i9)) + (2 : Int))))) * (256 : Int))))) + (wrap .u32 (byteAt s4 (wrap .i64 ((wrap .i64 ((4 : Int) * i9)) + (3 : Int))))))) :: ([] : LI))).length : Int) ≤ (35184372088832 : Int)) (
 ∀ v11 : Value,
  Bk bW.I0 bW.I0M [.V v0, .Z z1, .V v2, .Z z3, .S s4, .Z (z8 ++ ((wrap .u32 ((wrap .u32 ((wrap .u32 ((wrap .u32 ((wrap .u32 (byteAt s4 (wrap .i64 (4 * i9)))) * 16777216)) + (wrap .u32 ((wrap .u32 (byteAt s4 (wrap .i64 ((wrap .i64 (4 * i9)) + 1)))) * 65536)))) + (wrap .u32 ((wrap .u32 (byteAt s4 (wrap .i64 ((wrap .i64 (4 * i9)) + 2)))) * 256)))) + (wrap .u32 (byteAt s4 (wrap .i64 ((wrap .i64 (4 * i9)) + 3)))))) :: ([] : LI))), .I (wrap .i64 (i9 + 1))] [.V v0, .Z z1, .V v2, .Z z3, .S s4, .Z z8, .I i9])))))))))) ∧ (
 (16 ≤ i9) →
  bW.I1 [.V v0, .Z z1, .V v2, .Z z3, .S s4, .Z z8, .I 16] ∧ (
 ∀ v10 : Value,
 ∀ z11 : LI,
 ∀ i12 : Int,
 R64 i12 →
 (∀ x ∈ z11, IntKind.has .u32 x) →
  bW.I1 [.V v0, .Z z1, .V v2, .Z z3, .S s4, .Z z11, .I i12] →
 ((
 (i12 < 64) →
 Im (0 ≤ (wrap .i64 (i12 - 15))) (
 Im ((wrap .i64 (i12 - 15)) < (z11.length : Int)) (
 Im (0 ≤ (wrap .i64 (i12 - 2))) (
 Im ((wrap .i64 (i12 - 2)) < (z11.length : Int)) (
 Im (0 ≤ (wrap .i64 (i12 - 16))) (
 Im ((wrap .i64 (i12 - 16)) < (z11.length : Int)) (
 Im (0 ≤ (wrap .i64 (i12 - 7))) (
 Im ((wrap .i64 (i12 - 7)) < (z11.length : Int)) (
  dS.sig.pre [.I (z11.getD (wrap .i64 (i12 - 15)).toNat 0), .I 7] ∧ (
 ∀ i13 : Int,
  dS.sig.post [.I (z11.getD (wrap .i64 (i12 - 15)).toNat 0), .I 7, .I i13] →
 (0 ≤ i13 ∧ i13 < 4294967296) →
  dS.sig.pre [.I (z11.getD (wrap .i64 (i12 - 15)).toNat 0), .I 18] ∧ (
 ∀ i14 : Int,
  dS.sig.post [.I (z11.getD (wrap .i64 (i12 - 15)).toNat 0), .I 18, .I i14] →
 (0 ≤ i14 ∧ i14 < 4294967296) →
  dS.sig.pre [.I (z11.getD (wrap .i64 (i12 - 2)).toNat 0), .I 17] ∧ (
 ∀ i15 : Int,
  dS.sig.post [.I (z11.getD (wrap .i64 (i12 - 2)).toNat 0), .I 17, .I i15] →
 (0 ≤ i15 ∧ i15 < 4294967296) →
  dS.sig.pre [.I (z11.getD (wrap .i64 (i12 - 2)).toNat 0), .I 19] ∧ (
 ∀ i16 : Int,
  dS.sig.post [.I (z11.getD (wrap .i64 (i12 - 2)).toNat 0), .I 19, .I i16] →
 (0 ≤ i16 ∧ i16 < 4294967296) →
 ∀ v17 : Value,
 Im (((z11 ++ ((wrap .u32 ((wrap .u32 ((wrap .u32 ((z11.getD (wrap .i64 (i12 - (16 : Int))).toNat 0) + (Go.bits .xor .u32 (Go.bits .xor .u32 i13 i14) (wrap .u32 (Int.tdiv (z11.getD (wrap .i64 (i12 - (15 : Int))).toNat 0) (8 : Int)))))) + (z11.getD (wrap .i64 (i12 - (7 : Int))).toNat 0))) + (Go.bits .xor .u32 (Go.bits .xor .u32 i15 i16) (wrap .u32 (Int.tdiv (z11.getD (wrap .i64 (i12 - (2 : Int))).toNat 0) (1024 : Int)))))) :: ([] : LI))).length : Int) ≤ (35184372088832 : Int)) (
 ∀ v18 : Value,
  Bk bW.I1 bW.I1M [.V v0, .Z z1, .V v2, .Z z3, .S s4, .Z (z11 ++ ((wrap .u32 ((wrap .u32 ((wrap .u32 ((z11.getD (wrap .i64 (i12 - 16)).toNat 0) + (Go.bits .xor .u32 (Go.bits .xor .u32 i13 i14) (wrap .u32 (Int.tdiv (z11.getD (wrap .i64 (i12 - 15)).toNat 0) 8))))) + (z11.getD (wrap .i64 (i12 - 7)).toNat 0))) + (Go.bits .xor .u32 (Go.bits .xor .u32 i15 i16) (wrap .u32 (Int.tdiv (z11.getD (wrap .i64 (i12 - 2)).toNat 0) 1024))))) :: ([] : LI))), .I (wrap .i64 (i12 + 1))] [.V v0, .Z z1, .V v2, .Z z3, .S s4, .Z z11, .I i12])))))))))))))) ∧ (
 (64 ≤ i12) →
 ∀ v13 : Value,
 Im (((([] : LI) ++ z1).length : Int) ≤ (35184372088832 : Int)) (
 ∀ v14 : Value,
  bW.I2 [.V v0, .Z z1, .V v2, .Z z3, .S s4, .Z (([] : LI) ++ z1), .I 0] ∧ (
 ∀ v15 : Value,
 ∀ z16 : LI,
 ∀ i17 : Int,
 R64 i17 →
 (∀ x ∈ z16, IntKind.has .u32 x) →
  bW.I2 [.V v0, .Z z1, .V v2, .Z z3, .S s4, .Z z16, .I i17] →
 ((
 (i17 < 64) →
 Im (7 < (z16.length : Int)) (
 Im (4 < (z16.length : Int)) (
 Im (5 < (z16.length : Int)) (
 Im (6 < (z16.length : Int)) (
 Im (0 ≤ i17) (
 Im (i17 < (z3.length : Int)) (
 Im (i17 < (z11.length : Int)) (
  dS.sig.pre [.I (z16.getD (4 : Int).toNat 0), .I 6] ∧ (
 ∀ i18 : Int,
  dS.sig.post [.I (z16.getD (4 : Int).toNat 0), .I 6, .I i18] →
 (0 ≤ i18 ∧ i18 < 4294967296) →
  dS.sig.pre [.I (z16.getD (4 : Int).toNat 0), .I 11] ∧ (
 ∀ i19 : Int,
  dS.sig.post [.I (z16.getD (4 : Int).toNat 0), .I 11, .I i19] →
 (0 ≤ i19 ∧ i19 < 4294967296) →
  dS.sig.pre [.I (z16.getD (4 : Int).toNat 0), .I 25] ∧ (
 ∀ i20 : Int,
  dS.sig.post [.I (z16.getD (4 : Int).toNat 0), .I 25, .I i20] →
 (0 ≤ i20 ∧ i20 < 4294967296) →
  qQ.sig.pre [.I (z16.getD (4 : Int).toNat 0)] ∧ (
 ∀ i21 : Int,
  qQ.sig.post [.I (z16.getD (4 : Int).toNat 0), .I i21] →
 (0 ≤ i21 ∧ i21 < 4294967296) →
 Im (0 < (z16.length : Int)) (
 Im (1 < (z16.length : Int)) (
 Im (2 < (z16.length : Int)) (
  dS.sig.pre [.I (z16.getD (0 : Int).toNat 0), .I 2] ∧ (
 ∀ i22 : Int,
  dS.sig.post [.I (z16.getD (0 : Int).toNat 0), .I 2, .I i22] →
 (0 ≤ i22 ∧ i22 < 4294967296) →
  dS.sig.pre [.I (z16.getD (0 : Int).toNat 0), .I 13] ∧ (
 ∀ i23 : Int,
  dS.sig.post [.I (z16.getD (0 : Int).toNat 0), .I 13, .I i23] →
 (0 ≤ i23 ∧ i23 < 4294967296) →
  dS.sig.pre [.I (z16.getD (0 : Int).toNat 0), .I 22] ∧ (
 ∀ i24 : Int,
  dS.sig.post [.I (z16.getD (0 : Int).toNat 0), .I 22, .I i24] →
 (0 ≤ i24 ∧ i24 < 4294967296) →
 ∀ v25 : Value,
 Im (7 ≤ (z16.length : Int)) (
 ∀ v26 : Value,
 Im (((((wrap .u32 ((wrap .u32 ((wrap .u32 ((wrap .u32 ((wrap .u32 ((z16.getD (7 : Int).toNat 0) + (Go.bits .xor .u32 (Go.bits .xor .u32 i18 i19) i20))) + (Go.bits .xor .u32 (Go.bits .and .u32 (z16.getD (4 : Int).toNat 0) (z16.getD (5 : Int).toNat 0)) (Go.bits .and .u32 i21 (z16.getD (6 : Int).toNat 0))))) + (z3.getD i17.toNat 0))) + (z11.getD i17.toNat 0))) + (wrap .u32 ((Go.bits .xor .u32 (Go.bits .xor .u32 i22 i23) i24) + (Go.bits .xor .u32 (Go.bits .xor .u32 (Go.bits .and .u32 (z16.getD (0 : Int).toNat 0) (z16.getD (1 : Int).toNat 0)) (Go.bits .and .u32 (z16.getD (0 : Int).toNat 0) (z16.getD (2 : Int).toNat 0))) (Go.bits .and .u32 (z16.getD (1 : Int).toNat 0) (z16.getD (2 : Int).toNat 0))))))) :: ([] : LI)) ++ (z16.take (7 : Int).toNat)).length : Int) ≤ (35184372088832 : Int)) (
 ∀ v27 : Value,
 Im (4 < ((((wrap .u32 ((wrap .u32 ((wrap .u32 ((wrap .u32 ((wrap .u32 ((z16.getD (7 : Int).toNat 0) + (Go.bits .xor .u32 (Go.bits .xor .u32 i18 i19) i20))) + (Go.bits .xor .u32 (Go.bits .and .u32 (z16.getD (4 : Int).toNat 0) (z16.getD (5 : Int).toNat 0)) (Go.bits .and .u32 i21 (z16.getD (6 : Int).toNat 0))))) + (z3.getD i17.toNat 0))) + (z11.getD i17.toNat 0))) + (wrap .u32 ((Go.bits .xor .u32 (Go.bits .xor .u32 i22 i23) i24) + (Go.bits .xor .u32 (Go.bits .xor .u32 (Go.bits .and .u32 (z16.getD (0 : Int).toNat 0) (z16.getD (1 : Int).toNat 0)) (Go.bits .and .u32 (z16.getD (0 : Int).toNat 0) (z16.getD (2 : Int).toNat 0))) (Go.bits .and .u32 (z16.getD (1 : Int).toNat 0) (z16.getD (2 : Int).toNat 0))))))) :: ([] : LI)) ++ (z16.take (7 : Int).toNat)).length : Int)) (
  Bk bW.I2 bW.I2M [.V v0, .Z z1, .V v2, .Z z3, .S s4, .Z ((((wrap .u32 ((wrap .u32 ((wrap .u32 ((wrap .u32 ((wrap .u32 ((z16.getD (7 : Int).toNat 0) + (Go.bits .xor .u32 (Go.bits .xor .u32 i18 i19) i20))) + (Go.bits .xor .u32 (Go.bits .and .u32 (z16.getD (4 : Int).toNat 0) (z16.getD (5 : Int).toNat 0)) (Go.bits .and .u32 i21 (z16.getD (6 : Int).toNat 0))))) + (z3.getD i17.toNat 0))) + (z11.getD i17.toNat 0))) + (wrap .u32 ((Go.bits .xor .u32 (Go.bits .xor .u32 i22 i23) i24) + (Go.bits .xor .u32 (Go.bits .xor .u32 (Go.bits .and .u32 (z16.getD (0 : Int).toNat 0) (z16.getD (1 : Int).toNat 0)) (Go.bits .and .u32 (z16.getD (0 : Int).toNat 0) (z16.getD (2 : Int).toNat 0))) (Go.bits .and .u32 (z16.getD (1 : Int).toNat 0) (z16.getD (2 : Int).toNat 0))))))) :: ([] : LI)) ++ (z16.take (7 : Int).toNat)).set (4 : Int).toNat (wrap .u32 (((((wrap .u32 ((wrap .u32 ((wrap .u32 ((wrap .u32 ((wrap .u32 ((z16.getD (7 : Int).toNat 0) + (Go.bits .xor .u32 (Go.bits .xor .u32 i18 i19) i20))) + (Go.bits .xor .u32 (Go.bits .and .u32 (z16.getD (4 : Int).toNat 0) (z16.getD (5 : Int).toNat 0)) (Go.bits .and .u32 i21 (z16.getD (6 : Int).toNat 0))))) + (z3.getD i17.toNat 0))) + (z11.getD i17.toNat 0))) + (wrap .u32 ((Go.bits .xor .u32 (Go.bits .xor .u32 i22 i23) i24) + (Go.bits .xor .u32 (Go.bits .xor .u32 (Go.bits .and .u32 (z16.getD (0 : Int).toNat 0) (z16.getD (1 : Int).toNat 0)) (Go.bits .and .u32 (z16.getD (0 : Int).toNat 0) (z16.getD (2 : Int).toNat 0))) (Go.bits .and .u32 (z16.getD (1 : Int).toNat 0) (z16.getD (2 : Int).toNat 0))))))) :: ([] : LI)) ++ (z16.take (7 : Int).toNat)).getD (4 : Int).toNat 0) + (wrap .u32 ((wrap .u32 ((wrap .u32 ((wrap .u32 ((z16.getD (7 : Int).toNat 0) + (Go.bits .xor .u32 (Go.bits .xor .u32 i18 i19) i20))) + (Go.bits .xor .u32 (Go.bits .and .u32 (z16.getD (4 : Int).toNat 0) (z16.getD (5 : Int).toNat 0)) (Go.bits .and .u32 i21 (z16.getD (6 : Int).toNat 0))))) + (z3.getD i17.toNat 0))) + (z11.getD i17.toNat 0)))))), .I (wrap .i64 (i17 + 1))] [.V v0, .Z z1, .V v2, .Z z3, .S s4, .Z z16, .I i17]))))))))))))))))))))) ∧ (
 (64 ≤ i17) →
  bW.I3 [.V v0, .Z z1, .V v2, .Z z3, .S s4, .I 0, .Z z16] ∧ (
 ∀ i18 : Int,
 ∀ z19 : LI,
 R64 i18 →
 (∀ x ∈ z19, IntKind.has .u32 x) →
  bW.I3 [.V v0, .Z z1, .V v2, .Z z3, .S s4, .I i18, .Z z19] →
 ((
 (i18 < (z16.length : Int)) →
 Im (0 ≤ i18) (
 Im (i18 < (z19.length : Int)) (
 Im (i18 < (z1.length : Int)) (
     Bk bW.I3 bW.I3M [.V v0, .Z z1, .V v2, .Z z3, .S s4, .I (wrap .i64 (i18 + 1)), .Z (z19.set i18.toNat (wrap .u32 ((z19.getD i18.toNat 0) + (z1.getD i18.toNat 0))))] [.V v0, .Z z1, .V v2, .Z z3, .S s4, .I i18, .Z z19])))) ∧ (
 ((z16.length : Int) ≤ i18) →
   bW.sig.post [.V v0, .Z z1, .V v2, .Z z3, .S s4, .V v15, .Z z19])))))))))))))
def rOf.Pure : Prop :=
 ∀ v0 : Value,
 ∀ z1 : LI,
 ∀ v2 : Value,
 ∀ z3 : LI,
 ∀ s4 : BA,
 ((s4.size : Int) ≤ 9223372036854775807) →
 (∀ x ∈ z1, IntKind.has .u32 x) →
 (∀ x ∈ z3, IntKind.has .u32 x) →
 rOf.sig.pre [.V v0, .Z z1, .V v2, .Z z3, .S s4] →
 ∀ n5 : Nat,
 Im (((s4 ++ (⟨#[128]⟩ : BA)).size : Int) ≤ (9223372036854775807 : Int)) (
 rOf.I0 [.V v0, .Z z1, .V v2, .Z z3, .S s4, .S (s4 ++ (⟨#[128]⟩ : BA)), .I 0] ∧ (
 ∀ s6 : BA,
 ∀ i7 : Int,
 ((s6.size : Int) ≤ 9223372036854775807) →
 R64 i7 →
 rOf.I0 [.V v0, .Z z1, .V v2, .Z z3, .S s4, .S s6, .I i7] →
 ((
 (i7 < 64) →
 ((
 ((Int.tmod (s6.size : Int) 64) ≠ 56) →
 Im (((s6 ++ (⟨#[0]⟩ : BA)).size : Int) ≤ (9223372036854775807 : Int)) (
  Bk rOf.I0 rOf.I0M [.V v0, .Z z1, .V v2, .Z z3, .S s4, .S (s6 ++ (⟨#[0]⟩ : BA)), .I (wrap .i64 (i7 + 1))] [.V v0, .Z z1, .V v2, .Z z3, .S s4, .S s6, .I i7])) ∧ (
 ((Int.tmod (s6.size : Int) 64) = 56) →
   rOf.I1 [.V v0, .Z z1, .V v2, .Z z3, .S s4, .I (wrap .u64 ((wrap .u64 (s4.size : Int)) * 8)), .S (⟨#[]⟩ : BA), .I 0] ∧ (
 ∀ i8 : Int,
 ∀ s9 : BA,
 ∀ i10 : Int,
 U64 i8 →
 ((s9.size : Int) ≤ 9223372036854775807) →
 R64 i10 →
  rOf.I1 [.V v0, .Z z1, .V v2, .Z z3, .S s4, .I i8, .S s9, .I i10] →
 ((
 (i10 < 8) →
 ∀ v11 : Value,
 Im ((((textOf ((wrap .u8 (Int.tmod i8 (256 : Int))) :: ([] : LI))) ++ s9).size : Int) ≤ (9223372036854775807 : Int)) (
  Bk rOf.I1 rOf.I1M [.V v0, .Z z1, .V v2, .Z z3, .S s4, .I (wrap .u64 (Int.tdiv i8 256)), .S ((textOf ((wrap .u8 (Int.tmod i8 256)) :: ([] : LI))) ++ s9), .I (wrap .i64 (i10 + 1))] [.V v0, .Z z1, .V v2, .Z z3, .S s4, .I i8, .S s9, .I i10])) ∧ (
 (8 ≤ i10) →
 Im (((s6 ++ s9).size : Int) ≤ (9223372036854775807 : Int)) (
  rOf.I2 [.V v0, .Z z1, .V v2, .Z z3, .S s4, .Z z1, .I 0] ∧ (
 ∀ v11 : Value,
 ∀ z12 : LI,
 ∀ i13 : Int,
 R64 i13 →
 (∀ x ∈ z12, IntKind.has .u32 x) →
  rOf.I2 [.V v0, .Z z1, .V v2, .Z z3, .S s4, .Z z12, .I i13] →
 ((
 (i13 < ((s6 ++ s9).size : Int)) →
 Im (i13 ≤ (wrap .i64 (i13 + 64))) (
 Im (0 ≤ i13) (
 Im ((wrap .i64 (i13 + 64)) ≤ ((s6 ++ s9).size : Int)) (
     bW.sig.pre [.V v11, .Z z12, .V v2, .Z z3, .S ((s6 ++ s9).extract i13.toNat (wrap .i64 (i13 + 64)).toNat)] ∧ (
 ∀ v14 : Value,
 ∀ z15 : LI,
   bW.sig.post [.V v11, .Z z12, .V v2, .Z z3, .S ((s6 ++ s9).extract i13.toNat (wrap .i64 (i13 + 64)).toNat), .V v14, .Z z15] →
 (∀ x ∈ z15, IntKind.has .u32 x) →
   Bk rOf.I2 rOf.I2M [.V v0, .Z z1, .V v2, .Z z3, .S s4, .Z z15, .I (wrap .i64 (i13 + 64))] [.V v0, .Z z1, .V v2, .Z z3, .S s4, .Z z12, .I i13]))))) ∧ (
 (((s6 ++ s9).size : Int) ≤ i13) →
   rOf.I3 [.V v0, .Z z1, .V v2, .Z z3, .S s4, .S (⟨#[]⟩ : BA), .I 0] ∧ (
 ∀ s14 : BA,
 ∀ i15 : Int,
 ((s14.size : Int) ≤ 9223372036854775807) →
 R64 i15 →
   rOf.I3 [.V v0, .Z z1, .V v2, .Z z3, .S s4, .S s14, .I i15] →
 ((
 (i15 < (z12.length : Int)) →
 Im (0 ≤ i15) (
 ∀ v16 : Value,
 Im (((s14 ++ (textOf ((wrap .u8 (wrap .u32 (Int.tdiv (z12.getD i15.toNat 0) (16777216 : Int)))) :: ((wrap .u8 (Int.tmod (wrap .u32 (Int.tdiv (z12.getD i15.toNat 0) (65536 : Int))) (256 : Int))) :: ((wrap .u8 (Int.tmod (wrap .u32 (Int.tdiv (z12.getD i15.toNat 0) (256 : Int))) (256 : Int))) :: ((wrap .u8 (Int.tmod (z12.getD i15.toNat 0) (256 : Int))) :: ([] : LI))))))).size : Int) ≤ (9223372036854775807 : Int)) (
      Bk rOf.I3 rOf.I3M [.V v0, .Z z1, .V v2, .Z z3, .S s4, .S (s14 ++ (textOf ((wrap .u8 (wrap .u32 (Int.tdiv (z12.getD i15.toNat 0) 16777216))) :: ((wrap .u8 (Int.tmod (wrap .u32 (Int.tdiv (z12.getD i15.toNat 0) 65536)) 256)) :: ((wrap .u8 (Int.tmod (wrap .u32 (Int.tdiv (z12.getD i15.toNat 0) 256)) 256)) :: ((wrap .u8 (Int.tmod (z12.getD i15.toNat 0) 256)) :: ([] : LI))))))), .I (wrap .i64 (i15 + 1))] [.V v0, .Z z1, .V v2, .Z z3, .S s4, .S s14, .I i15]))) ∧ (
 ((z12.length : Int) ≤ i15) →
   rOf.sig.post [.V v0, .Z z1, .V v2, .Z z3, .S s4, .S s14]))))))))))))) ∧ (
 (64 ≤ i7) →
  rOf.I1 [.V v0, .Z z1, .V v2, .Z z3, .S s4, .I (wrap .u64 ((wrap .u64 (s4.size : Int)) * 8)), .S (⟨#[]⟩ : BA), .I 0] ∧ (
 ∀ i8 : Int,
 ∀ s9 : BA,
 ∀ i10 : Int,
 U64 i8 →
 ((s9.size : Int) ≤ 9223372036854775807) →
 R64 i10 →
  rOf.I1 [.V v0, .Z z1, .V v2, .Z z3, .S s4, .I i8, .S s9, .I i10] →
 ((
 (i10 < 8) →
 ∀ v11 : Value,
 Im ((((textOf ((wrap .u8 (Int.tmod i8 (256 : Int))) :: ([] : LI))) ++ s9).size : Int) ≤ (9223372036854775807 : Int)) (
  Bk rOf.I1 rOf.I1M [.V v0, .Z z1, .V v2, .Z z3, .S s4, .I (wrap .u64 (Int.tdiv i8 256)), .S ((textOf ((wrap .u8 (Int.tmod i8 256)) :: ([] : LI))) ++ s9), .I (wrap .i64 (i10 + 1))] [.V v0, .Z z1, .V v2, .Z z3, .S s4, .I i8, .S s9, .I i10])) ∧ (
 (8 ≤ i10) →
 Im (((s6 ++ s9).size : Int) ≤ (9223372036854775807 : Int)) (
  rOf.I2 [.V v0, .Z z1, .V v2, .Z z3, .S s4, .Z z1, .I 0] ∧ (
 ∀ v11 : Value,
 ∀ z12 : LI,
 ∀ i13 : Int,
 R64 i13 →
 (∀ x ∈ z12, IntKind.has .u32 x) →
  rOf.I2 [.V v0, .Z z1, .V v2, .Z z3, .S s4, .Z z12, .I i13] →
 ((
 (i13 < ((s6 ++ s9).size : Int)) →
 Im (i13 ≤ (wrap .i64 (i13 + 64))) (
 Im (0 ≤ i13) (
 Im ((wrap .i64 (i13 + 64)) ≤ ((s6 ++ s9).size : Int)) (
  bW.sig.pre [.V v11, .Z z12, .V v2, .Z z3, .S ((s6 ++ s9).extract i13.toNat (wrap .i64 (i13 + 64)).toNat)] ∧ (
 ∀ v14 : Value,
 ∀ z15 : LI,
  bW.sig.post [.V v11, .Z z12, .V v2, .Z z3, .S ((s6 ++ s9).extract i13.toNat (wrap .i64 (i13 + 64)).toNat), .V v14, .Z z15] →
 (∀ x ∈ z15, IntKind.has .u32 x) →
  Bk rOf.I2 rOf.I2M [.V v0, .Z z1, .V v2, .Z z3, .S s4, .Z z15, .I (wrap .i64 (i13 + 64))] [.V v0, .Z z1, .V v2, .Z z3, .S s4, .Z z12, .I i13]))))) ∧ (
 (((s6 ++ s9).size : Int) ≤ i13) →
    rOf.I3 [.V v0, .Z z1, .V v2, .Z z3, .S s4, .S (⟨#[]⟩ : BA), .I 0] ∧ (
 ∀ s14 : BA,
 ∀ i15 : Int,
 ((s14.size : Int) ≤ 9223372036854775807) →
 R64 i15 →
  rOf.I3 [.V v0, .Z z1, .V v2, .Z z3, .S s4, .S s14, .I i15] →
 ((
 (i15 < (z12.length : Int)) →
 Im (0 ≤ i15) (
 ∀ v16 : Value,
 Im (((s14 ++ (textOf ((wrap .u8 (wrap .u32 (Int.tdiv (z12.getD i15.toNat 0) (16777216 : Int)))) :: ((wrap .u8 (Int.tmod (wrap .u32 (Int.tdiv (z12.getD i15.toNat 0) (65536 : Int))) (256 : Int))) :: ((wrap .u8 (Int.tmod (wrap .u32 (Int.tdiv (z12.getD i15.toNat 0) (256 : Int))) (256 : Int))) :: ((wrap .u8 (Int.tmod (z12.getD i15.toNat 0) (256 : Int))) :: ([] : LI))))))).size : Int) ≤ (9223372036854775807 : Int)) (
     Bk rOf.I3 rOf.I3M [.V v0, .Z z1, .V v2, .Z z3, .S s4, .S (s14 ++ (textOf ((wrap .u8 (wrap .u32 (Int.tdiv (z12.getD i15.toNat 0) 16777216))) :: ((wrap .u8 (Int.tmod (wrap .u32 (Int.tdiv (z12.getD i15.toNat 0) 65536)) 256)) :: ((wrap .u8 (Int.tmod (wrap .u32 (Int.tdiv (z12.getD i15.toNat 0) 256)) 256)) :: ((wrap .u8 (Int.tmod (z12.getD i15.toNat 0) 256)) :: ([] : LI))))))), .I (wrap .i64 (i15 + 1))] [.V v0, .Z z1, .V v2, .Z z3, .S s4, .S s14, .I i15]))) ∧ (
 ((z12.length : Int) ≤ i15) →
   rOf.sig.post [.V v0, .Z z1, .V v2, .Z z3, .S s4, .S s14]))))))))))))))
end Go.Vc
namespace Go.Vc
theorem dM9 : ∀ p : Fin 312, 2 ≤ p.val → below ((p.val : Int) + 1) = if (below (p.val : Int)).all (fun x => decide ((p.val : Int) % x ≠ 0)) then below (p.val : Int) ++ [(p.val : Int)] else below (p.val : Int) := by decide +kernel
theorem dN0 : ∀ p : Fin 401, below (p.val : Int) = kJ.take (below (p.val : Int)).length := by decide +kernel
theorem cL0 : ∀ p : Fin 401, 312 ≤ p.val → (below (p.val : Int)).length = 64 := by decide +kernel
theorem cX5 {p x : Int} (h : x ∈ below p) : 2 ≤ x := by
 have h : x ∈ kJ := (List.mem_filter.1 h).1
 have : ∀ y ∈ kJ, (2 : Int) ≤ y := by decide
 exact this x h
theorem cV2 {l : LI} {f : Int → Bool} {q : Nat} (h : q < l.length) : (l.take (q + 1)).all f = ((l.take q).all f && f (l.getD q 0)) := by
 rw [aE2 h, List.all_append]
 simp
theorem dM8 {n i5 : Int} (hn : n = 8 ∨ n = 64) (a1 : 2 ≤ i5) (a2 : i5 < 400) (hl : ((below i5).length : Int) < n) :
  below (i5 + 1) = if (below i5).all (fun x => decide (i5 % x ≠ 0)) then below i5 ++ [i5] else below i5 := by
 have h312 : i5 < 312 := by
  refine Int.lt_of_not_ge fun hc => ?_
  have := cL0 ⟨i5.toNat, by omega⟩ (by show 312 ≤ i5.toNat; omega)
  simp only [show ((i5.toNat : Nat) : Int) = i5 from by omega] at this
  omega
 have := dM9 ⟨i5.toNat, by omega⟩ (by show 2 ≤ i5.toNat; omega)
 simp only [show ((i5.toNat : Nat) : Int) = i5 from by omega] at this
 exact this
theorem dX.pure : dX.Pure := by
 intro i0 h1 h2 v1 v2
 have hn : i0 = 8 ∨ i0 = 64 := h2
 refine ⟨⟨by decide, by decide, by decide +kernel, by show ((0 : Nat) : Int) ≤ i0; omega⟩, ?_⟩
 intro v3 z4 i5 h3 h4 h5
 obtain ⟨a1, a2, a3, a4⟩ : 2 ≤ i5 ∧ i5 ≤ 400 ∧ z4 = below i5 ∧ (z4.length : Int) ≤ i0 := h5
 have hend : i0 ≤ (z4.length : Int) → dX.sig.post [(D.I i0), (D.V v3), (D.Z z4)] := by
  intro hc
  show z4 = kJ.take i0.toNat
  have := dN0 ⟨i5.toNat, by omega⟩
  simp only [show ((i5.toNat : Nat) : Int) = i5 from by omega] at this
  rw [← a3] at this
  rw [show i0.toNat = z4.length from by omega]
  exact this
 refine ⟨fun h6 => ⟨fun h7 => ?_, fun h7 => hend h7⟩, fun h6 => ?_⟩
 ·refine ⟨⟨by decide, by simp⟩, ?_⟩
  intro b6 i7 h8 h9
  obtain ⟨c1, c2⟩ : 0 ≤ i7 ∧ b6 = (z4.take i7.toNat).all (fun x => decide (i5 % x ≠ 0)) := h9
  have ep : wrap .u64 (i5 + 1) = i5 + 1 := eY (by omega) (by omega)
  have hnx := dM8 hn a1 h6 (by rw [← a3]; exact h7)
  rw [← a3] at hnx
  refine ⟨fun h10 => ⟨c1, fun h11 => ?_⟩, fun h10 => ?_⟩
  ·have hm : z4.getD i7.toNat 0 ∈ below i5 := by
    rw [a3, List.getD, List.getElem?_eq_getElem (by rw [← a3]; omega)]
    exact List.getElem_mem _
   have h2' := cX5 hm
   have ei : wrap .i64 (i7 + 1) = i7 + 1 := aH (by omega) (by omega)
   have em : Int.tmod i5 (z4.getD i7.toNat 0) = i5 % z4.getD i7.toNat 0 := Int.tmod_eq_emod_of_nonneg (by omega)
   have ht := cV2 (l := z4) (f := fun x => decide (i5 % x ≠ 0)) (q := i7.toNat) (by omega)
   rw [ei, em]
   refine ⟨by omega, fun h12 => ⟨fun h13 => ⟨⟨by omega, ?_⟩, ?_⟩, fun h13 => ⟨⟨by omega, ?_⟩, ?_⟩⟩⟩
   ·rw [show (i7 + 1).toNat = i7.toNat + 1 from by omega, ht, decide_eq_false (fun h => h h13), Bool.and_false]
   ·show (z4.length - (i7 + 1)).toNat < (z4.length - i7).toNat; omega
   ·rw [show (i7 + 1).toNat = i7.toNat + 1 from by omega, ht, c2, decide_eq_true h13, Bool.and_true]
   ·show (z4.length - (i7 + 1)).toNat < (z4.length - i7).toNat; omega
  ·rw [List.take_of_length_le (by omega)] at c2
   rw [ep, ← c2] at *
   refine ⟨fun h11 v8 => ?_, fun h11 => ?_⟩
   ·rw [h11, if_pos rfl] at hnx
    have hl : (z4 ++ (i5 :: ([] : LI))).length = z4.length + 1 := by simp
    refine ⟨by omega, fun _ v9 => ⟨⟨by omega, by omega, hnx.symm, by omega⟩, ?_⟩⟩
    show (400 - (i5 + 1)).toNat < (400 - i5).toNat; omega
   ·rw [h11, if_neg (by decide)] at hnx
    refine ⟨⟨by omega, by omega, hnx.symm, a4⟩, ?_⟩
    show (400 - (i5 + 1)).toNat < (400 - i5).toNat; omega
 ·refine hend ?_
  have := cL0 ⟨i5.toNat, by omega⟩ (by show 312 ≤ i5.toNat; omega)
  simp only [show ((i5.toNat : Nat) : Int) = i5 from by omega] at this
  rw [← a3] at this
  omega
theorem bQ5 : ∀ (l : LI) (j : Nat) (v : Int), j < l.length → bI (l.set j v) = bI l + (v - l.getD j 0) * 4294967296 ^ j
 | [], j, v, h => by simp at h
 | x :: l, 0, v, _ => by simp [bI]; omega
 | x :: l, j + 1, v, h => by
  have ih := bQ5 l j v (by simpa using h)
  simp only [List.set_cons_succ, bI, List.getD_cons_succ, ih, Int.pow_succ]
  grind
theorem bQ6 : ∀ (l : LI) (i : Nat), i < l.length → bI (l.take (i + 1)) = bI (l.take i) + l.getD i 0 * 4294967296 ^ i
 | [], i, h => by simp at h
 | x :: l, 0, _ => by simp [bI]
 | x :: l, i + 1, h => by
  have ih := bQ6 l i (by simpa using h)
  simp only [List.take_succ_cons, bI, List.getD_cons_succ, ih, Int.pow_succ]
  grind
theorem bV8 {l : LI} {j : Nat} {v : Int} (h : gI l) (hv : 0 ≤ v ∧ v < 4294967296) : gI (l.set j v) := by
 intro x hx
 rcases List.mem_or_eq_of_mem_set hx with h1 | h1
 ·exact h x h1
 ·rw [h1]; exact hv
theorem bE3 {l : LI} (h : gI l) (j : Nat) : 0 ≤ l.getD j 0 ∧ l.getD j 0 < 4294967296 := by
 rw [List.getD]
 cases hc : l[j]? with
 | none => simp
 | some x => exact h x (List.mem_of_getElem? hc)
theorem bQ3 : ∀ {l : LI}, gI l → 0 ≤ bI l
 | [], _ => by simp [bI]
 | x :: l, h => by
  have ih := bQ3 (l := l) (fun y hy => h y (by simp [hy]))
  have := h x (by simp)
  simp only [bI]; omega
theorem cT8 : ∀ (l : LI) (i : Nat), gI l → bI (l.take i) ≤ bI l
 | [], i, _ => by simp [bI]
 | x :: l, 0, h => by have := bQ3 h; simpa [bI] using this
 | x :: l, i + 1, h => by
  have ih := cT8 l i (fun y hy => h y (by simp [hy]))
  simp only [List.take_succ_cons, bI]; omega
theorem bQ2 : ∀ (i : Nat) (a b : LI), gI a → gI b → i < a.length → i < b.length → a.drop (i + 1) = b.drop (i + 1) → a.getD i 0 < b.getD i 0 → bI a < bI b
 | i, [], b, _, _, h, _, _, _ => by simp at h
 | i, _ :: _, [], _, _, _, h, _, _ => by simp at h
 | 0, x :: a, y :: b, ha, hb, _, _, hd, hl => by
  have : a = b := by simpa using hd
  subst this
  have hl : x < y := by simpa using hl
  simp only [bI]; omega
 | i + 1, x :: a, y :: b, ha, hb, h1, h2, hd, hl => by
  have ih := bQ2 i a b (fun z hz => ha z (by simp [hz])) (fun z hz => hb z (by simp [hz])) (by simpa using h1) (by simpa using h2) (by simpa using hd) (by simpa using hl)
  have hx := ha x (by simp)
  have hy := hb y (by simp)
  simp only [bI]; omega
theorem dM2 {x k : Int} (hx : 0 ≤ x) : 0 ≤ pI x k ∧ pI x k ≤ x := by
 unfold pI
 split
 ·omega
 ·split <;> omega
theorem dV6 {a : LI} {x i k : Int} (ha : gI a) (hl : a.length = 8) (hx : 0 ≤ x) (hi : 0 ≤ i) (hi8 : i < 8) :
  bI (a.take i.toNat) * x + a.getD i.toNat 0 * 4294967296 ^ i.toNat * pI x k ≤ bI a * x := by
 have h1 := bQ6 a i.toNat (by omega)
 have h2 := cT8 a (i.toNat + 1) ha
 have hp := dM2 (k := k) hx
 have hA := bE3 ha i.toNat
 have hP : (0 : Int) ≤ 4294967296 ^ i.toNat := Int.le_of_lt (Int.pow_pos (by decide))
 have hAP := Int.mul_nonneg hA.1 hP
 generalize a.getD i.toNat 0 * 4294967296 ^ i.toNat = Q at *
 have e1 : Q * pI x k ≤ Q * x := Int.mul_le_mul_of_nonneg_left hp.2 hAP
 have e2 : bI (a.take (i.toNat + 1)) * x ≤ bI a * x := Int.mul_le_mul_of_nonneg_right h2 hx
 rw [h1, Int.add_mul] at e2
 omega
theorem dV5 {a out : LI} {x i k c j : Int} (ha : gI a) (hl : a.length = 8) (hx : 0 ≤ x) (hi : 0 ≤ i) (hi8 : i < 8) (hb : bI a * x < 4294967296 ^ 8) (hj : 8 ≤ j) (hc : 0 ≤ c) (ho : gI out)
  (h : bI out + c * 4294967296 ^ j.toNat = bI (a.take i.toNat) * x + a.getD i.toNat 0 * 4294967296 ^ i.toNat * pI x (k + 1)) : c = 0 := by
 have h1 := dV6 (k := k + 1) ha hl hx hi hi8
 have h2 := bQ3 ho
 refine Classical.byContradiction fun hn => ?_
 have h3 : (4294967296 : Int) ^ 8 ≤ 4294967296 ^ j.toNat := by
  obtain ⟨m, hm⟩ := Nat.exists_eq_add_of_le (show 8 ≤ j.toNat by omega)
  rw [hm, Int.pow_add]
  have h5 : (1 : Int) ≤ 4294967296 ^ m := Int.pow_pos (by decide)
  have h6 : (4294967296 : Int) ^ 8 * 1 ≤ 4294967296 ^ 8 * 4294967296 ^ m := Int.mul_le_mul_of_nonneg_left h5 (by decide)
  rwa [Int.mul_one] at h6
 have h4 : 1 * 4294967296 ^ j.toNat ≤ c * 4294967296 ^ j.toNat := Int.mul_le_mul_of_nonneg_right (by omega) (Int.le_of_lt (Int.pow_pos (by decide)))
 rw [Int.one_mul] at h4
 omega
theorem dG.pure : dG.Pure := by
 intro z0 i1 h1 h2 h3 h4 n2 n3 n4
 obtain ⟨ha, hb⟩ : gI z0 ∧ bI z0 * i1 < 4294967296 ^ 8 := h4
 refine ⟨⟨by decide, by decide, by unfold gI; decide, by show (0 : Int) = bI [] * i1; simp [bI]⟩, ?_⟩
 intro i5 z6 h5 h6 h7 h8
 obtain ⟨a1, a2, a3, a4⟩ : 0 ≤ i5 ∧ i5 ≤ 8 ∧ gI z6 ∧ bI z6 = bI (z0.take i5.toNat) * i1 := h8
 refine ⟨fun h9 => ⟨a1, fun h10 v7 => ?_⟩, fun h9 => ?_⟩
 ·refine ⟨⟨by decide, by decide, a3, by rw [a4]; simp [pI]⟩, ?_⟩
  intro i8 z9 h11 h12 h13 h14
  obtain ⟨b1, b2, b3, b4⟩ : 0 ≤ i8 ∧ i8 ≤ 2 ∧ gI z9 ∧ bI z9 = bI (z0.take i5.toNat) * i1 + z0.getD i5.toNat 0 * 4294967296 ^ i5.toNat * pI i1 i8 := h14
  have em : Int.tmod i1 4294967296 = i1 % 4294967296 := Int.tmod_eq_emod_of_nonneg h3.1
  have ed : wrap .u64 (Int.tdiv i1 4294967296) = i1 / 4294967296 := by rw [Int.tdiv_eq_ediv_of_nonneg h3.1]; exact eY (by omega) (by omega)
  have ll : ((((Int.tmod i1 (4294967296 : Int)) :: ((wrap .u64 (Int.tdiv i1 (4294967296 : Int))) :: ([] : LI))).length : Nat) : Int) = 2 := rfl
  have hA := bE3 ha i5.toNat
  have ek : wrap .i64 (i8 + 1) = i8 + 1 := aH (by omega) (by omega)
  have e5 : wrap .i64 (i5 + 1) = i5 + 1 := aH (by omega) (by omega)
  rw [ll, em, ed, ek, e5]
  refine ⟨fun h15 => ⟨b1, fun h16 => ?_⟩, fun h15 => ?_⟩
  ·have hy : 0 ≤ ([i1 % 4294967296, i1 / 4294967296] : LI).getD i8.toNat 0 ∧ ([i1 % 4294967296, i1 / 4294967296] : LI).getD i8.toNat 0 < 4294967296 := by
    rcases (by omega : i8 = 0 ∨ i8 = 1) with rfl | rfl
    ·show 0 ≤ i1 % 4294967296 ∧ i1 % 4294967296 < 4294967296; omega
    ·show 0 ≤ i1 / 4294967296 ∧ i1 / 4294967296 < 4294967296; omega
   have hpart : pI i1 i8 + ([i1 % 4294967296, i1 / 4294967296] : LI).getD i8.toNat 0 * 4294967296 ^ i8.toNat = pI i1 (i8 + 1) := by
    rcases (by omega : i8 = 0 ∨ i8 = 1) with rfl | rfl
    ·show 0 + i1 % 4294967296 * 1 = i1 % 4294967296; omega
    ·show i1 % 4294967296 + i1 / 4294967296 * 4294967296 = i1; omega
   generalize ([i1 % 4294967296, i1 / 4294967296] : LI).getD i8.toNat 0 = y at *
   have hm1 : z0.getD i5.toNat 0 * y ≤ 4294967295 * 4294967295 := Int.mul_le_mul (by omega) (by omega) hy.1 (by decide)
   have hm0 : 0 ≤ z0.getD i5.toNat 0 * y := Int.mul_nonneg hA.1 hy.1
   rw [eY hm0 (by omega), aH (x := i5 + i8) (by omega) (by omega)]
   refine ⟨⟨by omega, by omega, hm0, hm1, b3, ?_⟩, ?_⟩
   ·rw [b4, ← hpart, show (i5 + i8).toNat = i5.toNat + i8.toNat from by omega, Int.pow_add]
    grind
   intro i10 i11 z12 h17 h18 h19 h20 h21
   obtain ⟨c1, c2, c3, c4, c5, c6⟩ : 0 ≤ i11 ∧ i11 ≤ 9 ∧ 0 ≤ i10 ∧ i10 ≤ 4294967295 * 4294967295 ∧ gI z12 ∧ bI z12 + i10 * 4294967296 ^ i11.toNat = bI (z0.take i5.toNat) * i1 + z0.getD i5.toNat 0 * 4294967296 ^ i5.toNat * pI i1 (i8 + 1) := h21
   have out : i10 = 0 → dG.I1 [(D.Z z0), (D.I i1), (D.I i5), (D.I (i8 + 1)), (D.Z z12)] ∧ dG.I1M [(D.Z z0), (D.I i1), (D.I i5), (D.I (i8 + 1)), (D.Z z12)] < dG.I1M [(D.Z z0), (D.I i1), (D.I i5), (D.I i8), (D.Z z9)] := by
    intro hc
    refine ⟨⟨by omega, by omega, c5, ?_⟩, ?_⟩
    ·rw [← c6, hc]; omega
    ·show (2 - (i8 + 1)).toNat < (2 - i8).toNat; omega
   refine ⟨fun h22 => ⟨fun h23 => ⟨c1, fun h24 => ?_⟩, fun h23 => out (by omega)⟩, fun h22 => out (dV5 ha h1 h3.1 a1 h9 hb h22 c3 c5 c6)⟩
   have hg := bE3 c5 i11.toNat
   have etm : Int.tmod i10 4294967296 = i10 % 4294967296 := Int.tmod_eq_emod_of_nonneg c3
   have etd : wrap .u64 (Int.tdiv i10 4294967296) = i10 / 4294967296 := by rw [Int.tdiv_eq_ediv_of_nonneg c3]; exact eY (by omega) (by omega)
   have es : wrap .u64 (z12.getD i11.toNat 0 + i10 % 4294967296) = z12.getD i11.toNat 0 + i10 % 4294967296 := eY (by omega) (by omega)
   have ej : wrap .i64 (i11 + 1) = i11 + 1 := aH (by omega) (by omega)
   rw [etm, etd, es, ej]
   generalize hs : z12.getD i11.toNat 0 + i10 % 4294967296 = s at *
   have hgs : (z12.set i11.toNat s).getD i11.toNat 0 = s := by simp [List.getD, show i11.toNat < z12.length from by omega]
   rw [hgs]
   have esd : wrap .u64 (Int.tdiv s 4294967296) = s / 4294967296 := by rw [Int.tdiv_eq_ediv_of_nonneg (by omega)]; exact eY (by omega) (by omega)
   have esm : Int.tmod s 4294967296 = s % 4294967296 := Int.tmod_eq_emod_of_nonneg (by omega)
   rw [esd, esm, eY (x := i10 / 4294967296 + s / 4294967296) (by omega) (by omega), List.set_set]
   refine ⟨⟨by omega, by omega, by omega, by omega, bV8 c5 (by omega), ?_⟩, ?_⟩
   ·rw [← c6, bQ5 _ _ _ (by omega), show (i11 + 1).toNat = i11.toNat + 1 from by omega, Int.pow_succ]
    have k1 : s = 4294967296 * (s / 4294967296) + s % 4294967296 := by omega
    have k2 : i10 = 4294967296 * (i10 / 4294967296) + i10 % 4294967296 := by omega
    generalize (4294967296 : Int) ^ i11.toNat = P at *
    generalize z12.getD i11.toNat 0 = g at *
    generalize s / 4294967296 = sd at *
    generalize s % 4294967296 = sm at *
    generalize i10 / 4294967296 = cd at *
    generalize i10 % 4294967296 = cm at *
    grind
   ·show (9 - (i11 + 1)).toNat < (9 - i11).toNat; omega
  ·have e2 : i8 = 2 := by omega
   refine ⟨⟨by omega, by omega, b3, ?_⟩, ?_⟩
   ·rw [b4, e2, show (i5 + 1).toNat = i5.toNat + 1 from by omega, bQ6 _ _ (by omega), Int.add_mul]
    rfl
   ·show (8 - (i5 + 1)).toNat < (8 - i5).toNat; omega
 ·refine ⟨a3, ?_⟩
  rw [a4, List.take_of_length_le (by omega)]
end Go.Vc
namespace Go.Vc
theorem mY {x : Int} (h : 0 ≤ x) (h' : x < 4294967296) : IntKind.u32.wrap x = x := by rw [IntKind.wrap_u32]; omega
theorem bQ4 : ∀ n, bI (List.replicate n 0) = 0
 | 0 => rfl
 | n + 1 => by simp [List.replicate_succ, bI, bQ4 n]
theorem dB1 (n : Nat) : gI (List.replicate n 0) := by
 intro x hx
 have := List.eq_of_mem_replicate hx
 omega
theorem iT.pure : iT.Pure := by
 intro z0 i1 i2 h1 h2 h3 h4 h5 n3 n4
 obtain ⟨ha, p0, p1, n0, n1⟩ : gI z0 ∧ 0 ≤ i1 ∧ i1 < 4294967296 ∧ 0 ≤ i2 ∧ i2 < 8 := h5
 refine ⟨n0, fun _ => ⟨n1, fun _ => ⟨⟨by decide, by decide, ?_⟩, ?_⟩⟩⟩
 ·rw [List.drop_eq_nil_of_le (by rw [h1]; decide), List.drop_eq_nil_of_le (by simp)]
 have hb : gI ((List.replicate 8 0).set i2.toNat i1) := bV8 (dB1 8) ⟨p0, p1⟩
 have hv : bI ((List.replicate 8 0).set i2.toNat i1) = i1 * 4294967296 ^ i2.toNat := by
  rw [bQ5 _ _ _ (by simp; omega), bQ4]
  have : (List.replicate 8 (0 : Int)).getD i2.toNat 0 = 0 := by
   rw [List.getD, List.getElem?_replicate]; split <;> rfl
  rw [this]; simp
 have hl : ((List.replicate 8 (0 : Int)).set i2.toNat i1).length = 8 := by simp
 intro i5 h6 h7
 obtain ⟨a1, a2, a3⟩ : -1 ≤ i5 ∧ i5 < 8 ∧ z0.drop (i5 + 1).toNat = ((List.replicate 8 0).set i2.toNat i1).drop (i5 + 1).toNat := h7
 have e8 : ((8 : Int)).toNat = 8 := rfl
 rw [e8]
 generalize hbb : (List.replicate 8 (0 : Int)).set i2.toNat i1 = b at *
 refine ⟨fun h8 => ⟨a2, fun h9 => ⟨fun h10 => ?_, fun h10 => ?_⟩⟩, fun h8 => ?_⟩
 ·show decide _ = decide (i1 * 4294967296 ^ i2.toNat < bI z0)
  rw [show (i5 + 1).toNat = i5.toNat + 1 from by omega] at a3
  rw [← hv]
  congr 1
  apply propext
  constructor
  ·intro h; exact bQ2 i5.toNat b z0 hb ha (by omega) (by omega) a3.symm h
  ·intro h
   refine Int.lt_of_not_ge fun hc => ?_
   have := bQ2 i5.toNat z0 b ha hb (by omega) (by omega) a3 (by omega)
   omega
 ·have ei : wrap .i64 (i5 - 1) = i5 - 1 := aH (by omega) (by omega)
  rw [ei]
  refine ⟨⟨by omega, by omega, ?_⟩, ?_⟩
  ·show z0.drop (i5 - 1 + 1).toNat = ((List.replicate 8 0).set i2.toNat i1).drop (i5 - 1 + 1).toNat
   rw [hbb, show (i5 - 1 + 1).toNat = i5.toNat from by omega, List.drop_eq_getElem_cons (by omega), List.drop_eq_getElem_cons (l := b) (by omega)]
   rw [show (i5 + 1).toNat = i5.toNat + 1 from by omega] at a3
   rw [a3]
   congr 1
   have e1 : z0.getD i5.toNat 0 = z0[i5.toNat]'(by omega) := by simp [List.getD, show i5.toNat < z0.length from by omega]
   have e2 : b.getD i5.toNat 0 = b[i5.toNat]'(by omega) := by simp [List.getD, show i5.toNat < b.length from by omega]
   rw [← e1, ← e2]; exact h10
  ·show (i5 - 1 + 1).toNat < (i5 + 1).toNat; omega
 ·show false = decide (i1 * 4294967296 ^ i2.toNat < bI z0)
  have e : i5 = -1 := by omega
  subst e
  have a3 : z0 = b := by simpa using a3
  rw [← hv, a3]; simp
theorem dM7 {y : Int} {n : Nat} (hy : 0 ≤ y) (hy' : y ≤ 2 ^ 36) (hn : n ≤ 3) : 0 ≤ y ^ n ∧ y ^ n < 4294967296 ^ 8 := by
 have h2 : y * y ≤ 2 ^ 36 * 2 ^ 36 := Int.mul_le_mul hy' hy' hy (by decide)
 have h20 : 0 ≤ y * y := Int.mul_nonneg hy hy
 have h3 : y * y * y ≤ 2 ^ 36 * 2 ^ 36 * 2 ^ 36 := Int.mul_le_mul h2 hy' hy (by decide)
 have h30 : 0 ≤ y * y * y := Int.mul_nonneg h20 hy
 rcases (by omega : n = 0 ∨ n = 1 ∨ n = 2 ∨ n = 3) with rfl | rfl | rfl | rfl
 ·rw [Int.pow_zero]; constructor <;> decide
 ·rw [Int.pow_one]; omega
 ·rw [show y ^ 2 = y * y from by rw [Int.pow_succ, Int.pow_one]]; omega
 ·rw [show y ^ 3 = y * y * y from by rw [Int.pow_succ, Int.pow_succ, Int.pow_one]]; omega
theorem dD.pure : dD.Pure := by
 intro i0 i1 h1 h2 h3
 obtain ⟨p1, p2, hd⟩ : 2 ≤ i0 ∧ i0 ≤ 400 ∧ (i1 = 2 ∨ i1 = 3) := h3
 refine ⟨⟨36, Nat.le_refl _, by decide, by decide, by decide, rfl⟩, ?_⟩
 intro i2 i3 h4 h5 h6
 obtain ⟨k, k1, k2, k3, k4, k5⟩ : ∃ k : Nat, k ≤ 36 ∧ i3 = (if k = 0 then 0 else 2 ^ (k - 1)) ∧ 0 ≤ i2 ∧ i2 + 2 ^ k ≤ 2 ^ 36 ∧ vN i0 i1.toNat k i2 = vN i0 i1.toNat 36 0 := h6
 refine ⟨fun h7 n4 => ?_, fun h7 => ?_⟩
 ·have hk : k ≠ 0 := by intro hc; rw [if_pos hc] at k2; omega
  rw [if_neg hk] at k2
  obtain ⟨m, rfl⟩ : ∃ m, k = m + 1 := ⟨k - 1, by omega⟩
  rw [Nat.add_sub_cancel] at k2
  have hp : (2 : Int) ^ (m + 1) = 2 * 2 ^ m := by rw [Int.pow_succ]; omega
  rw [hp, ← k2] at k4
  have hy : i2 + i3 ≤ 2 ^ 36 := by omega
  have ey : wrap .u64 (i2 + i3) = i2 + i3 := eY (by omega) (by omega)
  rw [ey]
  refine ⟨⟨by decide, by omega, by unfold gI; decide, by show (1 : Int) + 4294967296 * bI (List.replicate 7 0) = (i2 + i3) ^ 0; rw [bQ4, Int.pow_zero]; rfl⟩, ?_⟩
  intro i5 z6 h8 h9 h10 h11
  obtain ⟨a1, a2, a3, a4⟩ : 0 ≤ i5 ∧ i5 ≤ i1 ∧ gI z6 ∧ bI z6 = (i2 + i3) ^ i5.toNat := h11
  refine ⟨fun h12 => ?_, fun h12 => ?_⟩
  ·refine ⟨⟨a3, ?_⟩, ?_⟩
   ·rw [a4, ← Int.pow_succ]; exact (dM7 (by omega) hy (by omega)).2
   intro z7 h13 h14 h15
   obtain ⟨b1, b2⟩ : gI z7 ∧ bI z7 = bI z6 * (i2 + i3) := h13
   rw [aH (x := i5 + 1) (by omega) (by omega)]
   refine ⟨⟨by omega, by omega, b1, ?_⟩, ?_⟩
   ·rw [b2, a4, ← Int.pow_succ, show (i5 + 1).toNat = i5.toNat + 1 from by omega]
   ·show (i1 - (i5 + 1)).toNat < (i1 - i5).toNat; omega
  ·refine ⟨⟨a3, by omega, by omega, by omega, by omega⟩, ?_⟩
   intro b7 h13
   have h13 : b7 = decide (i0 * 4294967296 ^ i1.toNat < bI z6) := h13
   have e5 : i5 = i1 := by omega
   rw [a4, e5] at h13
   have ed : wrap .u64 (Int.tdiv i3 2) = i3 / 2 := by rw [Int.tdiv_eq_ediv_of_nonneg (by omega)]; exact eY (by omega) (by omega)
   rw [ed]
   have ebit : i3 / 2 = if m = 0 then 0 else 2 ^ (m - 1) := by
    rw [k2]
    cases m with
    | zero => decide
    | succ m => rw [if_neg (by omega), Nat.add_sub_cancel, Int.pow_succ]; omega
   have less : dD.I0M [(D.I i0), (D.I i1), (D.I i2), (D.I (i3 / 2))] < dD.I0M [(D.I i0), (D.I i1), (D.I i2), (D.I i3)] := by
    show (i3 / 2).toNat < i3.toNat; omega
   have hgo : vN i0 i1.toNat (m + 1) i2 = vN i0 i1.toNat m (if i0 * 4294967296 ^ i1.toNat < (i2 + i3) ^ i1.toNat then i2 else i2 + i3) := by rw [k2]; rfl
   rw [hgo] at k5
   refine ⟨fun h14 => ⟨⟨m, by omega, ebit, by omega, by omega, ?_⟩, less⟩, fun h14 => ⟨⟨m, by omega, ebit, by omega, by omega, ?_⟩, less⟩⟩
   ·rw [h14] at h13
    rw [if_neg (by simpa using h13.symm)] at k5
    exact k5
   ·rw [h14] at h13
    rw [if_pos (by simpa using h13.symm)] at k5
    exact k5
 ·have hk : k = 0 := by
   refine Classical.byContradiction fun hc => ?_
   rw [if_neg hc] at k2
   have : (0 : Int) < 2 ^ (k - 1) := Int.pow_pos (by decide)
   omega
  subst hk
  have k5 : i2 = vN i0 i1.toNat 36 0 := k5
  show wrap .u32 (Int.tmod i2 4294967296) = uJ i0 i1.toNat
  rw [Int.tmod_eq_emod_of_nonneg (by omega), uJ, ← k5, IntKind.wrap_u32]
  omega
theorem dI6 : (kJ.take 8).map (fun p => uJ p 2) = dO := by decide +kernel
theorem dI5 : (kJ.take 64).map (fun p => uJ p 3) = gK := by decide +kernel
theorem cK9 : ∀ i, i < 64 → 2 ≤ kJ.getD i 0 ∧ kJ.getD i 0 ≤ 400 := by decide +kernel
theorem cG8 {t : LI} {d n i : Nat} (h : (kJ.take n).map (fun p => uJ p d) = t) (hn : n ≤ 64) (hi : i < n) : t.take (i + 1) = t.take i ++ [uJ ((kJ.take n).getD i 0) d] := by
 have hl : (kJ.take n).length = n := by rw [List.length_take]; exact Nat.min_eq_left hn
 have ht : t.length = n := by rw [← h, List.length_map, hl]
 have e : t.getD i 0 = uJ ((kJ.take n).getD i 0) d := by
  rw [← h]
  generalize kJ.take n = q at *
  simp [List.getD, hl, hi]
 rw [aE2 (by omega), e]
theorem bP8 {l : LI} {n i : Nat} (h : i < n) : (l.take n).getD i 0 = l.getD i 0 := by
 simp [List.getD, h]
theorem bC.pure : bC.Pure := by
 intro h1 v0 v1 n2 v3 v4 n5 v6 v7
 refine ⟨.inl rfl, ?_⟩
 intro v8 z9 h2 h3
 have h2 : z9 = kJ.take 8 := h2
 have l9 : z9.length = 8 := by rw [h2]; rfl
 refine ⟨⟨by decide, by decide, rfl, rfl⟩, ?_⟩
 intro i10 v11 z12 v13 z14 h4 h5 h6 h7
 obtain ⟨a1, a2, a3, a4⟩ : 0 ≤ i10 ∧ i10 ≤ 8 ∧ z12 = dO.take i10.toNat ∧ z14 = [] := h7
 refine ⟨fun h8 => ⟨a1, fun h9 => ?_⟩, fun h8 => ?_⟩
 ·have hr := cK9 i10.toNat (by omega)
  have hg : z9.getD i10.toNat 0 = kJ.getD i10.toNat 0 := by rw [h2, bP8 (by omega)]
  have pre : dD.sig.pre [(D.I (z9.getD i10.toNat 0)), (D.I (2 : Int))] := by
   rw [hg]; exact ⟨hr.1, hr.2, .inl rfl⟩
  have step : ∀ i15 : Int, dD.sig.post [(D.I (z9.getD i10.toNat 0)), (D.I (2 : Int)), (D.I i15)] → ((((z12 ++ (i15 :: ([] : LI))).length : Nat) : Int) ≤ (35184372088832 : Int)) ∧
    (bC.I0 [(D.I (wrap .i64 (i10 + (1 : Int)))), (D.Z (z12 ++ (i15 :: ([] : LI)))), (D.Z z14)] ∧ bC.I0M [(D.I (wrap .i64 (i10 + (1 : Int)))), (D.Z (z12 ++ (i15 :: ([] : LI)))), (D.Z z14)] < bC.I0M [(D.I i10), (D.Z z12), (D.Z z14)]) := by
   intro i15 hp
   have hp : i15 = uJ (z9.getD i10.toNat 0) 2 := hp
   have hl : z12.length ≤ 8 := by rw [a3, List.length_take]; exact Nat.le_trans (Nat.min_le_right _ _) (by decide)
   have hl2 : (z12 ++ (i15 :: ([] : LI))).length = z12.length + 1 := by simp
   rw [aH (x := i10 + 1) (by omega) (by omega)]
   refine ⟨by omega, ⟨by omega, by omega, ?_, a4⟩, ?_⟩
   ·rw [show (i10 + 1).toNat = i10.toNat + 1 from by omega, cG8 dI6 (by decide) (by omega), a3, hp, h2]
   ·show (8 - (i10 + 1)).toNat < (8 - i10).toNat; omega
  refine ⟨⟨pre, fun i15 hp _ _ => ⟨(step i15 hp).1, fun _ _ => (step i15 hp).2⟩⟩, ⟨pre, fun i15 hp _ => ⟨fun _ => ⟨(step i15 hp).1, fun _ _ => (step i15 hp).2⟩, fun _ => ⟨(step i15 hp).1, fun _ _ => (step i15 hp).2⟩⟩⟩⟩
 ·have e12 : z12 = dO := by rw [a3, show i10.toNat = 8 from by omega]; rfl
  refine ⟨.inr rfl, ?_⟩
  intro v15 z16 h10 h11
  have h10 : z16 = kJ.take 64 := h10
  have l16 : z16.length = 64 := by rw [h10]; rfl
  refine ⟨⟨by decide, by decide, e12, a4⟩, ?_⟩
  intro i17 v18 z19 v20 z21 h12 h13 h14 h15
  obtain ⟨b1, b2, b3, b4⟩ : 0 ≤ i17 ∧ i17 ≤ 64 ∧ z19 = dO ∧ z21 = gK.take i17.toNat := h15
  refine ⟨fun h16 => ⟨b1, fun h17 => ?_⟩, fun h16 => ?_⟩
  ·have hr := cK9 i17.toNat (by omega)
   have hg : z16.getD i17.toNat 0 = kJ.getD i17.toNat 0 := by rw [h10, bP8 (by omega)]
   have pre : dD.sig.pre [(D.I (z16.getD i17.toNat 0)), (D.I (3 : Int))] := by
    rw [hg]; exact ⟨hr.1, hr.2, .inr rfl⟩
   have step : ∀ i22 : Int, dD.sig.post [(D.I (z16.getD i17.toNat 0)), (D.I (3 : Int)), (D.I i22)] → ((((z21 ++ (i22 :: ([] : LI))).length : Nat) : Int) ≤ (35184372088832 : Int)) ∧
     (bC.I1 [(D.I (wrap .i64 (i17 + (1 : Int)))), (D.Z z19), (D.Z (z21 ++ (i22 :: ([] : LI))))] ∧ bC.I1M [(D.I (wrap .i64 (i17 + (1 : Int)))), (D.Z z19), (D.Z (z21 ++ (i22 :: ([] : LI))))] < bC.I1M [(D.I i17), (D.Z z19), (D.Z z21)]) := by
    intro i22 hp
    have hp : i22 = uJ (z16.getD i17.toNat 0) 3 := hp
    have hl : z21.length ≤ 64 := by rw [b4, List.length_take]; exact Nat.le_trans (Nat.min_le_right _ _) (by decide)
    have hl2 : (z21 ++ (i22 :: ([] : LI))).length = z21.length + 1 := by simp
    rw [aH (x := i17 + 1) (by omega) (by omega)]
    refine ⟨by omega, ⟨by omega, by omega, b3, ?_⟩, ?_⟩
    ·rw [show (i17 + 1).toNat = i17.toNat + 1 from by omega, cG8 dI5 (by decide) (by omega), b4, hp, h10]
    ·show (64 - (i17 + 1)).toNat < (64 - i17).toNat; omega
   refine ⟨⟨pre, fun i22 hp _ _ => ⟨(step i22 hp).1, fun _ _ => (step i22 hp).2⟩⟩, ⟨pre, fun i22 hp _ => ⟨fun _ => ⟨(step i22 hp).1, fun _ _ => (step i22 hp).2⟩, fun _ => ⟨(step i22 hp).1, fun _ _ => (step i22 hp).2⟩⟩⟩⟩
  ·refine ⟨b3, ?_⟩
   rw [b4, show i17.toNat = 64 from by omega]; rfl
theorem aY5 {x : Int} (h : 0 ≤ x ∧ x < 4294967296) : ∀ n, 0 ≤ iW x n ∧ iW x n < 4294967296
 | 0 => h
 | n + 1 => by
  have ih := aY5 h n
  simp only [iW]; omega
theorem dS.pure : dS.Pure := by
 intro i0 i1 h1 h2 h3
 obtain ⟨p1, p2⟩ : 0 ≤ i1 ∧ i1 ≤ 32 := h3
 refine ⟨⟨by decide, p1, rfl⟩, ?_⟩
 intro i2 i3 h4 h5 h6
 obtain ⟨a1, a2, a3⟩ : 0 ≤ i3 ∧ i3 ≤ i1 ∧ i2 = iW i0 i3.toNat := h6
 refine ⟨fun h7 => ?_, fun h7 => ?_⟩
 ·have hs := aY5 h1 i3.toNat
  rw [← a3] at hs
  rw [Int.tdiv_eq_ediv_of_nonneg h4.1, Int.tmod_eq_emod_of_nonneg h4.1, mY (x := i2 / 2) (by omega) (by omega), mY (x := i2 % 2 * 2147483648) (by omega) (by omega), mY (by omega) (by omega), aH (x := i3 + 1) (by omega) (by omega)]
  refine ⟨⟨by omega, by omega, ?_⟩, ?_⟩
  ·rw [show (i3 + 1).toNat = i3.toNat + 1 from by omega, a3]; rfl
  ·show (i1 - (i3 + 1)).toNat < (i1 - i3).toNat; omega
 ·show i2 = iW i0 i1.toNat
  rw [a3, show i3 = i1 from by omega]
theorem qQ.pure : qQ.Pure := by
 intro i0 h1 h2
 exact (mY (by omega) (by omega) : wrap .u32 (4294967295 - i0) = 4294967295 - i0)
end Go.Vc