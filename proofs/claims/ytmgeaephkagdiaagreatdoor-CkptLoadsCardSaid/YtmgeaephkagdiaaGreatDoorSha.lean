/-
 Sums of 256 bits, as plain functions of lists of numbers.
 Contracts of sums of 256 bits.
 Printed by wip/vct.py: the conditions of functions, by their contracts.
 Sums of 256 bits: the words of a block, and the rounds.
 Sums of 256 bits: a block goes into the state.
 Sums of 256 bits: bytes that come one by one.
 Sums of 256 bits: the sum, its text, and the law on parts.
-/
import Derived.Test.YtmgeaephkagdiaaGreatDoorWord
import Derived.Test.YtmgeaephkagdiaaGreatDoorTab
import Derived.KernelRfl
set_option linter.unusedVariables false
set_option linter.unusedSimpArgs false
open _root_.Go.IntKind (wrap)
namespace Go.Vc
def gK : LI := [0x428a2f98, 0x71374491, 0xb5c0fbcf, 0xe9b5dba5, 0x3956c25b, 0x59f111f1, 0x923f82a4, 0xab1c5ed5,
 0xd807aa98, 0x12835b01, 0x243185be, 0x550c7dc3, 0x72be5d74, 0x80deb1fe, 0x9bdc06a7, 0xc19bf174,
 0xe49b69c1, 0xefbe4786, 0x0fc19dc6, 0x240ca1cc, 0x2de92c6f, 0x4a7484aa, 0x5cb0a9dc, 0x76f988da,
 0x983e5152, 0xa831c66d, 0xb00327c8, 0xbf597fc7, 0xc6e00bf3, 0xd5a79147, 0x06ca6351, 0x14292967,
 0x27b70a85, 0x2e1b2138, 0x4d2c6dfc, 0x53380d13, 0x650a7354, 0x766a0abb, 0x81c2c92e, 0x92722c85,
 0xa2bfe8a1, 0xa81a664b, 0xc24b8b70, 0xc76c51a3, 0xd192e819, 0xd6990624, 0xf40e3585, 0x106aa070,
 0x19a4c116, 0x1e376c08, 0x2748774c, 0x34b0bcb5, 0x391c0cb3, 0x4ed8aa4a, 0x5b9cca4f, 0x682e6ff3,
 0x748f82ee, 0x78a5636f, 0x84c87814, 0x8cc70208, 0x90befffa, 0xa4506ceb, 0xbef9a3f7, 0xc67178f2]
def dO : LI := [0x6a09e667, 0xbb67ae85, 0x3c6ef372, 0xa54ff53a, 0x510e527f, 0x9b05688c, 0x1f83d9ab, 0x5be0cd19]
def t32 (v n : Int) : Int := Go.bits .or .u32 (fC .u32 v (Go.bits .and .u64 (wrap .u64 n) (31 : Int))) (aW .u32 v (wrap .u64 ((32 : Int) - (Go.bits .and .u64 (wrap .u64 n) (31 : Int)))))
def wordAt (b : LI) (i : Int) : Int :=
 Go.bits .or .u32 (Go.bits .or .u32 (Go.bits .or .u32 (fC .u32 (wrap .u32 (b.getD (wrap .i64 ((4 : Int) * i)).toNat 0)) (24 : Int)) (fC .u32 (wrap .u32 (b.getD (wrap .i64 ((wrap .i64 ((4 : Int) * i)) + (1 : Int))).toNat 0)) (16 : Int))) (fC .u32 (wrap .u32 (b.getD (wrap .i64 ((wrap .i64 ((4 : Int) * i)) + (2 : Int))).toNat 0)) (8 : Int))) (wrap .u32 (b.getD (wrap .i64 ((wrap .i64 ((4 : Int) * i)) + (3 : Int))).toNat 0))
def aI4 (w16 x w7 y : Int) : Int :=
 wrap .u32 ((wrap .u32 ((wrap .u32 (w16 + (Go.bits .xor .u32 (Go.bits .xor .u32 (t32 x (-7)) (t32 x (-18))) (aW .u32 x (3 : Int))))) + w7)) + (Go.bits .xor .u32 (Go.bits .xor .u32 (t32 y (-17)) (t32 y (-19))) (aW .u32 y (10 : Int))))
def bL0 (w : LI) (i : Int) : Int :=
 aI4 (w.getD (wrap .i64 (i - (16 : Int))).toNat 0) (w.getD (wrap .i64 (i - (15 : Int))).toNat 0) (w.getD (wrap .i64 (i - (7 : Int))).toNat 0) (w.getD (wrap .i64 (i - (2 : Int))).toNat 0)
def uK (b : LI) : Nat → LI
 | 0 => List.replicate 64 0
 | n + 1 => (uK b n).set n (wordAt b (n : Int))
def lW (b : LI) : Nat → LI
 | 0 => uK b 16
 | n + 1 => (lW b n).set (n + 16) (bL0 (lW b n) ((n + 16 : Nat) : Int))
def bZ (b : LI) : LI := lW b 48
def rndT (v4 v5 v6 v7 k w : Int) : Int :=
 wrap .u32 ((wrap .u32 ((wrap .u32 ((wrap .u32 (v7 + (Go.bits .xor .u32 (Go.bits .xor .u32 (t32 v4 (-6)) (t32 v4 (-11))) (t32 v4 (-25))))) + (Go.bits .xor .u32 (Go.bits .and .u32 v4 v5) (Go.bits .and .u32 (Go.bits .xor .u32 (4294967295 : Int) v4) v6)))) + k)) + w)
def rndU (v0 v1 v2 : Int) : Int :=
 wrap .u32 ((Go.bits .xor .u32 (Go.bits .xor .u32 (t32 v0 (-2)) (t32 v0 (-13))) (t32 v0 (-22))) + (Go.bits .xor .u32 (Go.bits .xor .u32 (Go.bits .and .u32 v0 v1) (Go.bits .and .u32 v0 v2)) (Go.bits .and .u32 v1 v2)))
def cM6 (v0 v1 v2 v3 v4 v5 v6 t u : Int) : LI := [wrap .u32 (t + u), v0, v1, v2, wrap .u32 (v3 + t), v4, v5, v6]
def rnd (v : LI) (k w : Int) : LI :=
 cM6 (v.getD 0 0) (v.getD 1 0) (v.getD 2 0) (v.getD 3 0) (v.getD 4 0) (v.getD 5 0) (v.getD 6 0) (rndT (v.getD 4 0) (v.getD 5 0) (v.getD 6 0) (v.getD 7 0) k w) (rndU (v.getD 0 0) (v.getD 1 0) (v.getD 2 0))
def jD (st w : LI) : Nat → LI
 | 0 => st
 | n + 1 => rnd (jD st w n) (gK.getD n 0) (w.getD n 0)
def oN (st v : LI) : Nat → LI
 | 0 => v
 | n + 1 => (oN st v n).set n (wrap .u32 ((oN st v n).getD n 0 + st.getD n 0))
def rZ (st b : LI) : LI := oN st (jD st (bZ b) 64) 8
def eat : Nat → LI → LI → LI × LI
 | 0, st, l => (st, l)
 | f + 1, st, l => if l.length < 64 then (st, l) else eat f (rZ st (l.take 64)) (l.drop 64)
def bV (st l : LI) : LI × LI := eat l.length st l
def fM (n : Nat) : Nat := (119 - n % 64) % 64
def jY (st : LI) : LI := st.flatMap fun v => [wrap .u8 (aW .u32 v 24), wrap .u8 (aW .u32 v 16), wrap .u8 (aW .u32 v 8), wrap .u8 v]
def be8 (v : Int) : LI := (bytesLE v 8).reverse
def rC (rest : LI) (count : Int) : LI := rest ++ [128] ++ List.replicate (fM rest.length) 0 ++ be8 (wrap .u64 (8 * count))
def hsum (st rest : LI) (count : Int) : LI := jY (bV st (rC rest count)).1
def eff (op : Bool) (st : LI) : LI := if op then st else dO
def iU (l : LI) : LI := hsum (bV dO l).1 (bV dO l).2 (wrap .u64 (wrap .u64 l.length))
def hexD (n : Int) : Int := if n < 10 then 48 + n else 87 + n
end Go.Vc
namespace Go.Vc
def arr (k : IntKind) (n i : Nat) : SV := .one (.agg [.ints k n (.at i)])
def T32.post : LD → Prop
 | [.I v, .I n, .I r] => r = t32 v n
 | _ => False
def T32.sig : Sig := gQ [.i .u32, .i .i64] [.i .u32] tru T32.post
def bQ.pre : LD → Prop
 | [.V _, .Z b] => b.length = 64
 | _ => False
def bQ.post : LD → Prop
 | [.V _, .Z b, .Z w] => w = bZ b
 | _ => False
def bQ.sig : Sig := { gQ [.z .u8] [] bQ.pre bQ.post with res := arr .u32 64 2, news := [.Z] }
def bQ.I0 : LD → Prop
 | [.V _, .Z b, .I i, .Z w] => 0 ≤ i ∧ i ≤ 16 ∧ w = uK b i.toNat
 | _ => False
def bQ.I0M : LD → Nat
 | [.V _, .Z _, .I i, .Z _] => (16 - i).toNat
 | _ => 0
def bQ.I1 : LD → Prop
 | [.V _, .Z b, .I i, .Z w] => 16 ≤ i ∧ i ≤ 64 ∧ w = lW b (i - 16).toNat
 | _ => False
def bQ.I1M : LD → Nat
 | [.V _, .Z _, .I i, .Z _] => (64 - i).toNat
 | _ => 0
def aF.pre : LD → Prop
 | [.Z _, .V _, .Z b] => b.length = 64
 | _ => False
def aF.post : LD → Prop
 | [.Z st, .V _, .Z b, .Z r] => r = rZ st b
 | _ => False
def aF.sig : Sig := { args := [arr .u32 8 0, .one (.lf (.sl (.at 1)))], heap := [.rsl (.at 1) [.int .u8] (.at 2)], aA := [.Z, .V, .Z], res := arr .u32 8 3, heap' := [], news := [.Z], pre := aF.pre, post := aF.post }
def jk (n : Nat) : List SV := List.replicate n (.one (.lf .junk))
def aF.T : St :=
 ⟨jk 2 ++ [.one (.lf (.ptr (.at 3) 0))] ++ jk 1 ++ [.one (.lf (.ptr (.at 4) 0)), .one (.lf (.ptr (.at 5) 0)), .one (.lf (.ptr (.at 6) 0))] ++ jk 9 ++ [.one (.lf (.int .i64 (.int 0)))] ++ jk 94,
  [.box (.at 6) [.ints .u32 8 (.at 0)], .box (.at 5) [.ints .u32 64 (.at 7)], .box (.at 4) [.ints .u32 8 (.o2 .lirep (.int 8) (.int 0))], .box (.at 3) [.ints .u32 8 (.at 0)], .rsl (.at 1) [.int .u8] (.at 2)], [.Z, .V, .Z, .N, .N, .N, .N, .Z]⟩
def aF.J0 : LD → Prop
 | [.Z _, .V _, .Z b, .Z w] => w = bZ b
 | _ => False
def aF.J0M : LD → Nat
 | _ => 0
def aF.I0 : LD → Prop
 | [.Z st, .V _, .Z b, .I i, .Z v] => 0 ≤ i ∧ i ≤ 64 ∧ v = jD st (bZ b) i.toNat
 | _ => False
def aF.I0M : LD → Nat
 | [.Z _, .V _, .Z _, .I i, .Z _] => (64 - i).toNat
 | _ => 0
def aF.I1 : LD → Prop
 | [.Z st, .V _, .Z b, .I i, .Z v] => 0 ≤ i ∧ i ≤ 8 ∧ v = oN st (jD st (bZ b) 64) i.toNat
 | _ => False
def aF.I1M : LD → Nat
 | [.Z _, .V _, .Z _, .I i, .Z _] => (8 - i).toNat
 | _ => 0
def aR3 (n : Nat) : List Ch := [.box (.at 0) [.lf (.bool (.at n)), .ints .u32 8 (.at (n + 1)), .lf (.sl (.at (n + 2))), .lf (.int .u64 (.at (n + 4)))], .osl (.at (n + 2)) [.int .u8] (.at (n + 3))]
def dP.pre : LD → Prop
 | [.N _, .B _, .Z _, .V _, .Z rest, .I _, .S s] => rest.length ≤ 1000000 ∧ s.size ≤ 1000000
 | _ => False
def dP.post : LD → Prop
 | [.N _, .B o, .Z st, .V _, .Z rest, .I c, .S s, .B o', .Z st', .V _, .Z rest', .I c'] => o' = true ∧ bV (eff o st) (rest ++ bytesOf s) = (st', rest') ∧ c' = wrap .u64 (c + wrap .u64 s.size)
 | _ => False
def dP.sig : Sig :=
 { args := [.one (.lf (.ptr (.at 0) 0)), aS 6], heap := aR3 1, aA := [.N, .B, .Z, .V, .Z, .I, .S], res := .tup [], heap' := aR3 7, news := [.B, .Z, .V, .Z, .I], pre := dP.pre, post := dP.post }
def dP.I0 : LD → Prop
 | [.N _, .B o, .Z st, .V _, .Z rest, .I c, .S s, .B o', .Z st', .Z rest', .I c'] => o' = true ∧ bV st' rest' = bV (eff o st) (rest ++ bytesOf s) ∧ c' = wrap .u64 (c + wrap .u64 s.size) ∧ rest'.length ≤ 2000000
 | _ => False
def dP.I0M : LD → Nat
 | [.N _, .B _, .Z _, .V _, .Z _, .I _, .S _, .B _, .Z _, .Z rest', .I _] => rest'.length
 | _ => 0
def aV.pre : LD → Prop
 | [.N _, .B _, .Z _, .V _, .Z rest, .I _] => rest.length ≤ 1000000
 | _ => False
def aV.post : LD → Prop
 | [.N _, .B o, .Z st, .V _, .Z rest, .I c, .Z r] => r = hsum (eff o st) rest c
 | _ => False
def aV.sig : Sig :=
 { args := [.one (.lf (.ptr (.at 0) 0))], heap := aR3 1, aA := [.N, .B, .Z, .V, .Z, .I], res := arr .u8 32 6, heap' := aR3 1, news := [.Z], pre := aV.pre, post := aV.post }
def aV.I0 : LD → Prop
 | [.N _, .B _, .Z _, .V _, .Z rest, .I _, .Z b] => ∃ k : Nat, k ≤ fM rest.length ∧ b = rest ++ [128] ++ List.replicate k 0
 | _ => False
def aV.I0M : LD → Nat
 | [.N _, .B _, .Z _, .V _, .Z rest, .I _, .Z b] => fM rest.length + rest.length + 1 - b.length
 | _ => 0
def aV.I1 : LD → Prop
 | [.N _, .B o, .Z st, .V _, .Z rest, .I c, .Z b, .Z s'] => b.length % 64 = 0 ∧ (bV s' b).1 = (bV (eff o st) (rC rest c)).1
 | _ => False
def aV.I1M : LD → Nat
 | [.N _, .B _, .Z _, .V _, .Z _, .I _, .Z b, .Z _] => b.length
 | _ => 0
def aV.I2 : LD → Prop
 | [.N _, .B o, .Z st, .V _, .Z rest, .I c, .I i, .Z out] => 0 ≤ i ∧ i ≤ 8 ∧ out.take (4 * i.toNat) = jY ((bV (eff o st) (rC rest c)).1.take i.toNat)
 | _ => False
def aV.I2M : LD → Nat
 | [.N _, .B _, .Z _, .V _, .Z _, .I _, .I i, .Z _] => (8 - i).toNat
 | _ => 0
def HOf.pre : LD → Prop
 | [.S s] => s.size ≤ 1000000
 | _ => False
def HOf.post : LD → Prop
 | [.S s, .Z r] => r = iU (bytesOf s)
 | _ => False
def HOf.sig : Sig := { gQ [.s] [] HOf.pre HOf.post with res := arr .u8 32 1, news := [.Z] }
end Go.Vc
namespace Go.Vc
set_option linter.unusedVariables false
def T32.Pure : Prop :=
 ∀ i0 i1 : Int,
 (0 ≤ i0 ∧ i0 < 4294967296) →
 R64 i1 →
 T32.sig.pre [.I i0, .I i1] →
 T32.sig.post [.I i0, .I i1, .I (Go.bits .or .u32 (fC .u32 i0 (Go.bits .and .u64 (wrap .u64 i1) 31)) (aW .u32 i0 (wrap .u64 (32 - (Go.bits .and .u64 (wrap .u64 i1) 31)))))]
def bQ.Pure : Prop :=
 ∀ v0 : Value,
 ∀ z1 : LI,
 (∀ x ∈ z1, IntKind.has .u8 x) →
 bQ.sig.pre [.V v0, .Z z1] →
 ∀ n2 n3 : Nat,
 bQ.I0 [.V v0, .Z z1, .I 0, .Z (List.replicate (64 : Int).toNat (0 : Int))] ∧ (
 ∀ i4 : Int,
 ∀ z5 : LI,
 R64 i4 →
 (z5.length = 64) →
 (∀ x ∈ z5, IntKind.has .u32 x) →
 bQ.I0 [.V v0, .Z z1, .I i4, .Z z5] →
 ((
 (i4 < 16) →
 Im (0 ≤ (wrap .i64 (4 * i4))) (
 Im ((wrap .i64 (4 * i4)) < (z1.length : Int)) (
 Im (0 ≤ (wrap .i64 ((wrap .i64 (4 * i4)) + 1))) (
 Im ((wrap .i64 ((wrap .i64 (4 * i4)) + 1)) < (z1.length : Int)) (
 Im (0 ≤ (wrap .i64 ((wrap .i64 (4 * i4)) + 2))) (
 Im ((wrap .i64 ((wrap .i64 (4 * i4)) + 2)) < (z1.length : Int)) (
 Im (0 ≤ (wrap .i64 ((wrap .i64 (4 * i4)) + 3))) (
 Im ((wrap .i64 ((wrap .i64 (4 * i4)) + 3)) < (z1.length : Int)) (
 Im (0 ≤ i4) (
 Im (i4 < 64) (
  Bk bQ.I0 bQ.I0M [.V v0, .Z z1, .I (wrap .i64 (i4 + 1)), .Z (z5.set i4.toNat (Go.bits .or .u32 (Go.bits .or .u32 (Go.bits .or .u32 (fC .u32 (wrap .u32 (z1.getD (wrap .i64 (4 * i4)).toNat 0)) 24) (fC .u32 (wrap .u32 (z1.getD (wrap .i64 ((wrap .i64 (4 * i4)) + 1)).toNat 0)) 16)) (fC .u32 (wrap .u32 (z1.getD (wrap .i64 ((wrap .i64 (4 * i4)) + 2)).toNat 0)) 8)) (wrap .u32 (z1.getD (wrap .i64 ((wrap .i64 (4 * i4)) + 3)).toNat 0))))] [.V v0, .Z z1, .I i4, .Z z5]))))))))))) ∧ (
 (16 ≤ i4) →
  bQ.I1 [.V v0, .Z z1, .I 16, .Z z5] ∧ (
 ∀ i6 : Int,
 ∀ z7 : LI,
 R64 i6 →
 (z7.length = 64) →
 (∀ x ∈ z7, IntKind.has .u32 x) →
  bQ.I1 [.V v0, .Z z1, .I i6, .Z z7] →
 ((
 (i6 < 64) →
 Im (0 ≤ (wrap .i64 (i6 - 15))) (
 Im ((wrap .i64 (i6 - 15)) < 64) (
 Im (0 ≤ (wrap .i64 (i6 - 2))) (
 Im ((wrap .i64 (i6 - 2)) < 64) (
  T32.sig.pre [.I (z7.getD (wrap .i64 (i6 - 15)).toNat 0), .I (-7 : Int)] ∧ (
 ∀ i8 : Int,
  T32.sig.post [.I (z7.getD (wrap .i64 (i6 - 15)).toNat 0), .I (-7 : Int), .I i8] →
 (0 ≤ i8 ∧ i8 < 4294967296) →
  T32.sig.pre [.I (z7.getD (wrap .i64 (i6 - 15)).toNat 0), .I (-18 : Int)] ∧ (
 ∀ i9 : Int,
  T32.sig.post [.I (z7.getD (wrap .i64 (i6 - 15)).toNat 0), .I (-18 : Int), .I i9] →
 (0 ≤ i9 ∧ i9 < 4294967296) →
  T32.sig.pre [.I (z7.getD (wrap .i64 (i6 - 2)).toNat 0), .I (-17 : Int)] ∧ (
 ∀ i10 : Int,
  T32.sig.post [.I (z7.getD (wrap .i64 (i6 - 2)).toNat 0), .I (-17 : Int), .I i10] →
 (0 ≤ i10 ∧ i10 < 4294967296) →
  T32.sig.pre [.I (z7.getD (wrap .i64 (i6 - 2)).toNat 0), .I (-19 : Int)] ∧ (
 ∀ i11 : Int,
  T32.sig.post [.I (z7.getD (wrap .i64 (i6 - 2)).toNat 0), .I (-19 : Int), .I i11] →
 (0 ≤ i11 ∧ i11 < 4294967296) →
 Im (0 ≤ (wrap .i64 (i6 - 16))) (
 Im ((wrap .i64 (i6 - 16)) < 64) (
 Im (0 ≤ (wrap .i64 (i6 - 7))) (
 Im ((wrap .i64 (i6 - 7)) < 64) (
 Im (0 ≤ i6) (
  Bk bQ.I1 bQ.I1M [.V v0, .Z z1, .I (wrap .i64 (i6 + 1)), .Z (z7.set i6.toNat (wrap .u32 ((wrap .u32 ((wrap .u32 ((z7.getD (wrap .i64 (i6 - 16)).toNat 0) + (Go.bits .xor .u32 (Go.bits .xor .u32 i8 i9) (aW .u32 (z7.getD (wrap .i64 (i6 - 15)).toNat 0) 3)))) + (z7.getD (wrap .i64 (i6 - 7)).toNat 0))) + (Go.bits .xor .u32 (Go.bits .xor .u32 i10 i11) (aW .u32 (z7.getD (wrap .i64 (i6 - 2)).toNat 0) 10)))))] [.V v0, .Z z1, .I i6, .Z z7])))))))))))))) ∧ (
 (64 ≤ i6) →
  bQ.sig.post [.V v0, .Z z1, .Z z7]))))))
def aF.K0 (z0 : LI) (v1 : Value) (z2 : LI) : Prop :=
 (
 (
 ∀ n3 n4 n5 n6 : Nat,
 ∀ z7 : LI,
 (z7.length = 64) →
 (∀ x ∈ z7, IntKind.has .u32 x) →
  aF.J0 [.Z z0, .V v1, .Z z2, .Z z7] →
  aF.I0 [.Z z0, .V v1, .Z z2, .I 0, .Z z0] ∧ (
 ∀ i8 : Int,
 ∀ z9 : LI,
 R64 i8 →
 (z9.length = 8) →
 (∀ x ∈ z9, IntKind.has .u32 x) →
  aF.I0 [.Z z0, .V v1, .Z z2, .I i8, .Z z9] →
 ((
 (i8 < 64) →
 Im (0 ≤ i8) (
     T32.sig.pre [.I (z9.getD (4 : Int).toNat 0), .I (-6 : Int)] ∧ (
 ∀ i10 : Int,
   T32.sig.post [.I (z9.getD (4 : Int).toNat 0), .I (-6 : Int), .I i10] →
 (0 ≤ i10 ∧ i10 < 4294967296) →
   T32.sig.pre [.I (z9.getD (4 : Int).toNat 0), .I (-11 : Int)] ∧ (
 ∀ i11 : Int,
   T32.sig.post [.I (z9.getD (4 : Int).toNat 0), .I (-11 : Int), .I i11] →
 (0 ≤ i11 ∧ i11 < 4294967296) →
   T32.sig.pre [.I (z9.getD (4 : Int).toNat 0), .I (-25 : Int)] ∧ (
 ∀ i12 : Int,
   T32.sig.post [.I (z9.getD (4 : Int).toNat 0), .I (-25 : Int), .I i12] →
 (0 ≤ i12 ∧ i12 < 4294967296) →
   T32.sig.pre [.I (z9.getD (0 : Int).toNat 0), .I (-2 : Int)] ∧ (
 ∀ i13 : Int,
   T32.sig.post [.I (z9.getD (0 : Int).toNat 0), .I (-2 : Int), .I i13] →
 (0 ≤ i13 ∧ i13 < 4294967296) →
   T32.sig.pre [.I (z9.getD (0 : Int).toNat 0), .I (-13 : Int)] ∧ (
 ∀ i14 : Int,
   T32.sig.post [.I (z9.getD (0 : Int).toNat 0), .I (-13 : Int), .I i14] →
 (0 ≤ i14 ∧ i14 < 4294967296) →
   T32.sig.pre [.I (z9.getD (0 : Int).toNat 0), .I (-22 : Int)] ∧ (
 ∀ i15 : Int,
   T32.sig.post [.I (z9.getD (0 : Int).toNat 0), .I (-22 : Int), .I i15] →
 (0 ≤ i15 ∧ i15 < 4294967296) →
   Bk aF.I0 aF.I0M [.Z z0, .V v1, .Z z2, .I (wrap .i64 (i8 + (1 : Int))), .Z (((((((((List.replicate (8 : Int).toNat (0 : Int)).set (0 : Int).toNat (wrap .u32 ((wrap .u32 ((wrap .u32 ((wrap .u32 ((wrap .u32 ((z9.getD (7 : Int).toNat 0) + (Go.bits .xor .u32 (Go.bits .xor .u32 i10 i11) i12))) + (Go.bits .xor .u32 (Go.bits .and .u32 (z9.getD (4 : Int).toNat 0) (z9.getD (5 : Int).toNat 0)) (Go.bits .and .u32 (Go.bits .xor .u32 (4294967295 : Int) (z9.getD (4 : Int).toNat 0)) (z9.getD (6 : Int).toNat 0))))) + (([1116352408, 1899447441, 3049323471, 3921009573, 961987163, 1508970993, 2453635748, 2870763221, 3624381080, 310598401, 607225278, 1426881987, 1925078388, 2162078206, 2614888103, 3248222580, 3835390401, 4022224774, 264347078, 604807628, 770255983, 1249150122, 1555081692, 1996064986, 2554220882, 2821834349, 2952996808, 3210313671, 3336571891, 3584528711, 113926993, 338241895, 666307205, 773529912, 1294757372, 1396182291, 1695183700, 1986661051, 2177026350, 2456956037, 2730485921, 2820302411, 3259730800, 3345764771, 3516065817, 3600352804, 4094571909, 275423344, 430227734, 506948616, 659060556, 883997877, 958139571, 1322822218, 1537002063, 1747873779, 1955562222, 2024104815, 2227730452, 2361852424, 2428436474, 2756734187, 3204031479, 3329325298] : LI).getD i8.toNat 0))) + (z7.getD i8.toNat 0))) + (wrap .u32 ((Go.bits .xor .u32 (Go.bits .xor .u32 i13 i14) i15) + (Go.bits .xor .u32 (Go.bits .xor .u32 (Go.bits .and .u32 (z9.getD (0 : Int).toNat 0) (z9.getD (1 : Int).toNat 0)) (Go.bits .and .u32 (z9.getD (0 : Int).toNat 0) (z9.getD (2 : Int).toNat 0))) (Go.bits .and .u32 (z9.getD (1 : Int).toNat 0) (z9.getD (2 : Int).toNat 0)))))))).set (1 : Int).toNat (z9.getD (0 : Int).toNat 0)).set (2 : Int).toNat (z9.getD (1 : Int).toNat 0)).set (3 : Int).toNat (z9.getD (2 : Int).toNat 0)).set (4 : Int).toNat (wrap .u32 ((z9.getD (3 : Int).toNat 0) + (wrap .u32 ((wrap .u32 ((wrap .u32 ((wrap .u32 ((z9.getD (7 : Int).toNat 0) + (Go.bits .xor .u32 (Go.bits .xor .u32 i10 i11) i12))) + (Go.bits .xor .u32 (Go.bits .and .u32 (z9.getD (4 : Int).toNat 0) (z9.getD (5 : Int).toNat 0)) (Go.bits .and .u32 (Go.bits .xor .u32 (4294967295 : Int) (z9.getD (4 : Int).toNat 0)) (z9.getD (6 : Int).toNat 0))))) + (([1116352408, 1899447441, 3049323471, 3921009573, 961987163, 1508970993, 2453635748, 2870763221, 3624381080, 310598401, 607225278, 1426881987, 1925078388, 2162078206, 2614888103, 3248222580, 3835390401, 4022224774, 264347078, 604807628, 770255983, 1249150122, 1555081692, 1996064986, 2554220882, 2821834349, 2952996808, 3210313671, 3336571891, 3584528711, 113926993, 338241895, 666307205, 773529912, 1294757372, 1396182291, 1695183700, 1986661051, 2177026350, 2456956037, 2730485921, 2820302411, 3259730800, 3345764771, 3516065817, 3600352804, 4094571909, 275423344, 430227734, 506948616, 659060556, 883997877, 958139571, 1322822218, 1537002063, 1747873779, 1955562222, 2024104815, 2227730452, 2361852424, 2428436474, 2756734187, 3204031479, 3329325298] : LI).getD i8.toNat 0))) + (z7.getD i8.toNat 0)))))).set (5 : Int).toNat (z9.getD (4 : Int).toNat 0)).set (6 : Int).toNat (z9.getD (5 : Int).toNat 0)).set (7 : Int).toNat (z9.getD (6 : Int).toNat 0))] [.Z z0, .V v1, .Z z2, .I i8, .Z z9])))))))) ∧ (
 (64 ≤ i8) →
   aF.I1 [.Z z0, .V v1, .Z z2, .I 0, .Z z9] ∧ (
 ∀ i10 : Int,
 ∀ z11 : LI,
 R64 i10 →
 (z11.length = 8) →
 (∀ x ∈ z11, IntKind.has .u32 x) →
   aF.I1 [.Z z0, .V v1, .Z z2, .I i10, .Z z11] →
 ((
 (i10 < 8) →
 Im (0 ≤ i10) (
   Bk aF.I1 aF.I1M [.Z z0, .V v1, .Z z2, .I (wrap .i64 (i10 + 1)), .Z (z11.set i10.toNat (wrap .u32 ((z11.getD i10.toNat 0) + (z0.getD i10.toNat 0))))] [.Z z0, .V v1, .Z z2, .I i10, .Z z11])) ∧ (
 (8 ≤ i10) →
   aF.sig.post [.Z z0, .V v1, .Z z2, .Z z11]))))))))
def aF.K1 (v1 : Value) (z2 : LI) (z0 : LI) : Prop :=
 (
 ∀ n5 : Nat,
 ((
   bQ.sig.pre [.V v1, .Z z2] ∧ (
 ∀ z6 : LI,
   bQ.sig.post [.V v1, .Z z2, .Z z6] →
 (z6.length = 64) →
 (∀ x ∈ z6, IntKind.has .u32 x) →
 ((
 ∀ n7 : Nat,
   aF.J0 [.Z z0, .V v1, .Z z2, .Z z6] ∧ (aF.K0 z0 v1 z2)) ∧ (
 ∀ n7 : Nat,
 ((
    aF.J0 [.Z z0, .V v1, .Z z2, .Z z6] ∧ (aF.K0 z0 v1 z2)) ∧ (
    aF.J0 [.Z z0, .V v1, .Z z2, .Z z6] ∧ (aF.K0 z0 v1 z2))))))) ∧ (
 ((
 ((
    bQ.sig.pre [.V v1, .Z z2] ∧ (
 ∀ z6 : LI,
    bQ.sig.post [.V v1, .Z z2, .Z z6] →
 (z6.length = 64) →
 (∀ x ∈ z6, IntKind.has .u32 x) →
 ∀ n7 : Nat,
    aF.J0 [.Z z0, .V v1, .Z z2, .Z z6] ∧ (aF.K0 z0 v1 z2))) ∧ (
 ∀ n6 : Nat,
    bQ.sig.pre [.V v1, .Z z2] ∧ (
 ∀ z7 : LI,
    bQ.sig.post [.V v1, .Z z2, .Z z7] →
 (z7.length = 64) →
 (∀ x ∈ z7, IntKind.has .u32 x) →
    aF.J0 [.Z z0, .V v1, .Z z2, .Z z7] ∧ (aF.K0 z0 v1 z2))))) ∧ (
 ∀ n6 : Nat,
 ((
    bQ.sig.pre [.V v1, .Z z2] ∧ (
 ∀ z7 : LI,
    bQ.sig.post [.V v1, .Z z2, .Z z7] →
 (z7.length = 64) →
 (∀ x ∈ z7, IntKind.has .u32 x) →
 ((
    aF.J0 [.Z z0, .V v1, .Z z2, .Z z7] ∧ (aF.K0 z0 v1 z2)) ∧ (
    aF.J0 [.Z z0, .V v1, .Z z2, .Z z7] ∧ (aF.K0 z0 v1 z2))))) ∧ (
    bQ.sig.pre [.V v1, .Z z2] ∧ (
 ∀ z7 : LI,
    bQ.sig.post [.V v1, .Z z2, .Z z7] →
 (z7.length = 64) →
 (∀ x ∈ z7, IntKind.has .u32 x) →
    aF.J0 [.Z z0, .V v1, .Z z2, .Z z7] ∧ (aF.K0 z0 v1 z2)))))))))
def aF.Pure : Prop :=
 ∀ z0 : LI,
 ∀ v1 : Value,
 ∀ z2 : LI,
 (z0.length = 8) →
 (∀ x ∈ z0, IntKind.has .u32 x) →
 (∀ x ∈ z2, IntKind.has .u8 x) →
 aF.sig.pre [.Z z0, .V v1, .Z z2] →
 ∀ n3 n4 : Nat,
 ((
  bQ.sig.pre [.V v1, .Z z2] ∧ (
 ∀ z5 : LI,
  bQ.sig.post [.V v1, .Z z2, .Z z5] →
 (z5.length = 64) →
 (∀ x ∈ z5, IntKind.has .u32 x) →
 ((
 ((
 ∀ n6 n7 : Nat,
  aF.J0 [.Z z0, .V v1, .Z z2, .Z z5] ∧ (aF.K0 z0 v1 z2)) ∧ (
 ∀ n6 n7 : Nat,
  aF.J0 [.Z z0, .V v1, .Z z2, .Z z5] ∧ (aF.K0 z0 v1 z2)))) ∧ (
 ((
 ∀ n6 : Nat,
 ((
 ∀ n7 : Nat,
   aF.J0 [.Z z0, .V v1, .Z z2, .Z z5] ∧ (aF.K0 z0 v1 z2)) ∧ (
 ∀ n7 : Nat,
 ((
   aF.J0 [.Z z0, .V v1, .Z z2, .Z z5] ∧ (aF.K0 z0 v1 z2)) ∧ (
   aF.J0 [.Z z0, .V v1, .Z z2, .Z z5] ∧ (aF.K0 z0 v1 z2)))))) ∧ (
 ∀ n6 : Nat,
 ((
 ∀ n7 : Nat,
   aF.J0 [.Z z0, .V v1, .Z z2, .Z z5] ∧ (aF.K0 z0 v1 z2)) ∧ (
 ∀ n7 : Nat,
 ((
   aF.J0 [.Z z0, .V v1, .Z z2, .Z z5] ∧ (aF.K0 z0 v1 z2)) ∧ (
   aF.J0 [.Z z0, .V v1, .Z z2, .Z z5] ∧ (aF.K0 z0 v1 z2))))))))))) ∧ (
 ((
 ((
  bQ.sig.pre [.V v1, .Z z2] ∧ (
 ∀ z5 : LI,
  bQ.sig.post [.V v1, .Z z2, .Z z5] →
 (z5.length = 64) →
 (∀ x ∈ z5, IntKind.has .u32 x) →
 ((
 ∀ n6 n7 : Nat,
   aF.J0 [.Z z0, .V v1, .Z z2, .Z z5] ∧ (aF.K0 z0 v1 z2)) ∧ (
 ∀ n6 n7 : Nat,
   aF.J0 [.Z z0, .V v1, .Z z2, .Z z5] ∧ (aF.K0 z0 v1 z2))))) ∧ (
 ((
 ∀ n5 : Nat,
 ((
   bQ.sig.pre [.V v1, .Z z2] ∧ (
 ∀ z6 : LI,
   bQ.sig.post [.V v1, .Z z2, .Z z6] →
 (z6.length = 64) →
 (∀ x ∈ z6, IntKind.has .u32 x) →
 ∀ n7 : Nat,
   aF.J0 [.Z z0, .V v1, .Z z2, .Z z6] ∧ (aF.K0 z0 v1 z2))) ∧ (
 ∀ n6 : Nat,
   bQ.sig.pre [.V v1, .Z z2] ∧ (
 ∀ z7 : LI,
   bQ.sig.post [.V v1, .Z z2, .Z z7] →
 (z7.length = 64) →
 (∀ x ∈ z7, IntKind.has .u32 x) →
   aF.J0 [.Z z0, .V v1, .Z z2, .Z z7] ∧ (aF.K0 z0 v1 z2))))) ∧ (
 ∀ n5 : Nat,
 ((
   bQ.sig.pre [.V v1, .Z z2] ∧ (
 ∀ z6 : LI,
   bQ.sig.post [.V v1, .Z z2, .Z z6] →
 (z6.length = 64) →
 (∀ x ∈ z6, IntKind.has .u32 x) →
 ∀ n7 : Nat,
   aF.J0 [.Z z0, .V v1, .Z z2, .Z z6] ∧ (aF.K0 z0 v1 z2))) ∧ (
 ∀ n6 : Nat,
   bQ.sig.pre [.V v1, .Z z2] ∧ (
 ∀ z7 : LI,
   bQ.sig.post [.V v1, .Z z2, .Z z7] →
 (z7.length = 64) →
 (∀ x ∈ z7, IntKind.has .u32 x) →
   aF.J0 [.Z z0, .V v1, .Z z2, .Z z7] ∧ (aF.K0 z0 v1 z2))))))))) ∧ (
 ((aF.K1 v1 z2 z0) ∧ (aF.K1 v1 z2 z0))))))
def dP.Pure : Prop :=
 ∀ n0 : Nat,
 ∀ b1 : Bool,
 ∀ z2 : LI,
 ∀ v3 : Value,
 ∀ z4 : LI,
 ∀ i5 : Int,
 ∀ s6 : BA,
 ((s6.size : Int) ≤ 9223372036854775807) →
 (z2.length = 8) →
 (∀ x ∈ z2, IntKind.has .u32 x) →
 U64 i5 →
 (∀ x ∈ z4, IntKind.has .u8 x) →
 dP.sig.pre [.N n0, .B b1, .Z z2, .V v3, .Z z4, .I i5, .S s6] →
 ((
 (b1 = false) →
 Im (((z4 ++ (bytesOf s6)).length : Int) ≤ (140737488355328 : Int)) (
 ∀ v7 : Value,
  dP.I0 [.N n0, .B b1, .Z z2, .V v3, .Z z4, .I i5, .S s6, .B true, .Z ([1779033703, 3144134277, 1013904242, 2773480762, 1359893119, 2600822924, 528734635, 1541459225] : LI), .Z (z4 ++ (bytesOf s6)), .I (wrap .u64 (i5 + (wrap .u64 (s6.size : Int))))] ∧ (
 ∀ b8 : Bool,
 ∀ z9 : LI,
 ∀ v10 : Value,
 ∀ z11 : LI,
 ∀ i12 : Int,
 (∀ x ∈ z11, IntKind.has .u8 x) →
 (z9.length = 8) →
 (∀ x ∈ z9, IntKind.has .u32 x) →
 U64 i12 →
  dP.I0 [.N n0, .B b1, .Z z2, .V v3, .Z z4, .I i5, .S s6, .B b8, .Z z9, .Z z11, .I i12] →
 ((
 (64 ≤ (z11.length : Int)) →
 ((
 ∀ v13 : Value,
  aF.sig.pre [.Z z9, .V v13, .Z (z11.take (64 : Int).toNat)] ∧ (
 ∀ z14 : LI,
  aF.sig.post [.Z z9, .V v13, .Z (z11.take (64 : Int).toNat), .Z z14] →
 (z14.length = 8) →
 (∀ x ∈ z14, IntKind.has .u32 x) →
 ∀ v15 v16 : Value,
 Im (((([] : LI) ++ (z11.drop (64 : Int).toNat)).length : Int) ≤ (140737488355328 : Int)) (
 ∀ v17 : Value,
  Bk dP.I0 dP.I0M [.N n0, .B b1, .Z z2, .V v3, .Z z4, .I i5, .S s6, .B b8, .Z z14, .Z (([] : LI) ++ (z11.drop (64 : Int).toNat)), .I i12] [.N n0, .B b1, .Z z2, .V v3, .Z z4, .I i5, .S s6, .B b8, .Z z9, .Z z11, .I i12]))) ∧ (
 ((
 ∀ v13 : Value,
   aF.sig.pre [.Z z9, .V v13, .Z (z11.take (64 : Int).toNat)] ∧ (
 ∀ z14 : LI,
   aF.sig.post [.Z z9, .V v13, .Z (z11.take (64 : Int).toNat), .Z z14] →
 (z14.length = 8) →
 (∀ x ∈ z14, IntKind.has .u32 x) →
 ∀ v15 v16 : Value,
 Im (((([] : LI) ++ (z11.drop (64 : Int).toNat)).length : Int) ≤ (140737488355328 : Int)) (
 ∀ v17 : Value,
   Bk dP.I0 dP.I0M [.N n0, .B b1, .Z z2, .V v3, .Z z4, .I i5, .S s6, .B b8, .Z z14, .Z (([] : LI) ++ (z11.drop (64 : Int).toNat)), .I i12] [.N n0, .B b1, .Z z2, .V v3, .Z z4, .I i5, .S s6, .B b8, .Z z9, .Z z11, .I i12]))) ∧ (
 ∀ v13 : Value,
   aF.sig.pre [.Z z9, .V v13, .Z (z11.take (64 : Int).toNat)] ∧ (
 ∀ z14 : LI,
   aF.sig.post [.Z z9, .V v13, .Z (z11.take (64 : Int).toNat), .Z z14] →
 (z14.length = 8) →
 (∀ x ∈ z14, IntKind.has .u32 x) →
 ∀ v15 v16 : Value,
 Im (((([] : LI) ++ (z11.drop (64 : Int).toNat)).length : Int) ≤ (140737488355328 : Int)) (
 ∀ v17 : Value,
   Bk dP.I0 dP.I0M [.N n0, .B b1, .Z z2, .V v3, .Z z4, .I i5, .S s6, .B b8, .Z z14, .Z (([] : LI) ++ (z11.drop (64 : Int).toNat)), .I i12] [.N n0, .B b1, .Z z2, .V v3, .Z z4, .I i5, .S s6, .B b8, .Z z9, .Z z11, .I i12]))))))) ∧ (
 ((z11.length : Int) < (64 : Int)) →
   dP.sig.post [.N n0, .B b1, .Z z2, .V v3, .Z z4, .I i5, .S s6, .B b8, .Z z9, .V v10, .Z z11, .I i12]))))) ∧ (
 (b1 = true) →
 Im (((z4 ++ (bytesOf s6)).length : Int) ≤ (140737488355328 : Int)) (
 ∀ v7 : Value,
  dP.I0 [.N n0, .B b1, .Z z2, .V v3, .Z z4, .I i5, .S s6, .B b1, .Z z2, .Z (z4 ++ (bytesOf s6)), .I (wrap .u64 (i5 + (wrap .u64 (s6.size : Int))))] ∧ (
 ∀ b8 : Bool,
 ∀ z9 : LI,
 ∀ v10 : Value,
 ∀ z11 : LI,
 ∀ i12 : Int,
 (∀ x ∈ z11, IntKind.has .u8 x) →
 (z9.length = 8) →
 (∀ x ∈ z9, IntKind.has .u32 x) →
 U64 i12 →
  dP.I0 [.N n0, .B b1, .Z z2, .V v3, .Z z4, .I i5, .S s6, .B b8, .Z z9, .Z z11, .I i12] →
 ((
 (64 ≤ (z11.length : Int)) →
 ((
 ∀ v13 : Value,
  aF.sig.pre [.Z z9, .V v13, .Z (z11.take (64 : Int).toNat)] ∧ (
 ∀ z14 : LI,
  aF.sig.post [.Z z9, .V v13, .Z (z11.take (64 : Int).toNat), .Z z14] →
 (z14.length = 8) →
 (∀ x ∈ z14, IntKind.has .u32 x) →
 ∀ v15 v16 : Value,
 Im (((([] : LI) ++ (z11.drop (64 : Int).toNat)).length : Int) ≤ (140737488355328 : Int)) (
 ∀ v17 : Value,
  Bk dP.I0 dP.I0M [.N n0, .B b1, .Z z2, .V v3, .Z z4, .I i5, .S s6, .B b8, .Z z14, .Z (([] : LI) ++ (z11.drop (64 : Int).toNat)), .I i12] [.N n0, .B b1, .Z z2, .V v3, .Z z4, .I i5, .S s6, .B b8, .Z z9, .Z z11, .I i12]))) ∧ (
 ((
 ∀ v13 : Value,
   aF.sig.pre [.Z z9, .V v13, .Z (z11.take (64 : Int).toNat)] ∧ (
 ∀ z14 : LI,
   aF.sig.post [.Z z9, .V v13, .Z (z11.take (64 : Int).toNat), .Z z14] →
 (z14.length = 8) →
 (∀ x ∈ z14, IntKind.has .u32 x) →
 ∀ v15 v16 : Value,
 Im (((([] : LI) ++ (z11.drop (64 : Int).toNat)).length : Int) ≤ (140737488355328 : Int)) (
 ∀ v17 : Value,
   Bk dP.I0 dP.I0M [.N n0, .B b1, .Z z2, .V v3, .Z z4, .I i5, .S s6, .B b8, .Z z14, .Z (([] : LI) ++ (z11.drop (64 : Int).toNat)), .I i12] [.N n0, .B b1, .Z z2, .V v3, .Z z4, .I i5, .S s6, .B b8, .Z z9, .Z z11, .I i12]))) ∧ (
 ∀ v13 : Value,
   aF.sig.pre [.Z z9, .V v13, .Z (z11.take (64 : Int).toNat)] ∧ (
 ∀ z14 : LI,
   aF.sig.post [.Z z9, .V v13, .Z (z11.take (64 : Int).toNat), .Z z14] →
 (z14.length = 8) →
 (∀ x ∈ z14, IntKind.has .u32 x) →
 ∀ v15 v16 : Value,
 Im (((([] : LI) ++ (z11.drop (64 : Int).toNat)).length : Int) ≤ (140737488355328 : Int)) (
 ∀ v17 : Value,
   Bk dP.I0 dP.I0M [.N n0, .B b1, .Z z2, .V v3, .Z z4, .I i5, .S s6, .B b8, .Z z14, .Z (([] : LI) ++ (z11.drop (64 : Int).toNat)), .I i12] [.N n0, .B b1, .Z z2, .V v3, .Z z4, .I i5, .S s6, .B b8, .Z z9, .Z z11, .I i12]))))))) ∧ (
 ((z11.length : Int) < (64 : Int)) →
   dP.sig.post [.N n0, .B b1, .Z z2, .V v3, .Z z4, .I i5, .S s6, .B b8, .Z z9, .V v10, .Z z11, .I i12]))))))
def aV.Pure : Prop :=
 ∀ n0 : Nat,
 ∀ b1 : Bool,
 ∀ z2 : LI,
 ∀ v3 : Value,
 ∀ z4 : LI,
 ∀ i5 : Int,
 (z2.length = 8) →
 (∀ x ∈ z2, IntKind.has .u32 x) →
 U64 i5 →
 (∀ x ∈ z4, IntKind.has .u8 x) →
 aV.sig.pre [.N n0, .B b1, .Z z2, .V v3, .Z z4, .I i5] →
 ∀ n6 n7 : Nat,
 ((
 (b1 = true) →
 ∀ v8 : Value,
 Im (((([] : LI) ++ z4).length : Int) ≤ (140737488355328 : Int)) (
 ∀ v9 v10 : Value,
 Im ((((([] : LI) ++ z4) ++ ((128 : Int) :: ([] : LI))).length : Int) ≤ (140737488355328 : Int)) (
 ∀ v11 : Value,
  aV.I0 [.N n0, .B b1, .Z z2, .V v3, .Z z4, .I i5, .Z ((([] : LI) ++ z4) ++ (128 :: ([] : LI)))] ∧ (
 ∀ v12 : Value,
 ∀ z13 : LI,
 (∀ x ∈ z13, IntKind.has .u8 x) →
  aV.I0 [.N n0, .B b1, .Z z2, .V v3, .Z z4, .I i5, .Z z13] →
 ((
 ((Int.tmod (z13.length : Int) 64) ≠ 56) →
 ∀ v14 : Value,
 Im (((z13 ++ ((0 : Int) :: ([] : LI))).length : Int) ≤ (140737488355328 : Int)) (
 ∀ v15 : Value,
  Bk aV.I0 aV.I0M [.N n0, .B b1, .Z z2, .V v3, .Z z4, .I i5, .Z (z13 ++ (0 :: ([] : LI)))] [.N n0, .B b1, .Z z2, .V v3, .Z z4, .I i5, .Z z13])) ∧ (
 ((Int.tmod (z13.length : Int) 64) = 56) →
   Swap.sig.pre [.I (wrap .u64 (8 * i5))] ∧ (
 ∀ i14 : Int,
  Swap.sig.post [.I (wrap .u64 (8 * i5)), .I i14] →
 U64 i14 →
  Bytes.sig.pre [.I i14, .I 8] ∧ (
 ∀ s15 : BA,
  Bytes.sig.post [.I i14, .I 8, .S s15] →
 ((s15.size : Int) ≤ 9223372036854775807) →
 Im (((z13 ++ (bytesOf s15)).length : Int) ≤ (140737488355328 : Int)) (
 ∀ v16 : Value,
  aV.I1 [.N n0, .B b1, .Z z2, .V v3, .Z z4, .I i5, .Z (z13 ++ (bytesOf s15)), .Z z2] ∧ (
 ∀ v17 : Value,
 ∀ z18 z19 : LI,
 (∀ x ∈ z18, IntKind.has .u8 x) →
 (z19.length = 8) →
 (∀ x ∈ z19, IntKind.has .u32 x) →
  aV.I1 [.N n0, .B b1, .Z z2, .V v3, .Z z4, .I i5, .Z z18, .Z z19] →
 ((
 (0 < (z18.length : Int)) →
 ((
 Im (64 ≤ (z18.length : Int)) (
 ∀ v20 : Value,
   aF.sig.pre [.Z z19, .V v20, .Z (z18.take (64 : Int).toNat)] ∧ (
 ∀ z21 : LI,
   aF.sig.post [.Z z19, .V v20, .Z (z18.take (64 : Int).toNat), .Z z21] →
 (z21.length = 8) →
 (∀ x ∈ z21, IntKind.has .u32 x) →
 ∀ v22 : Value,
   Bk aV.I1 aV.I1M [.N n0, .B b1, .Z z2, .V v3, .Z z4, .I i5, .Z (z18.drop (64 : Int).toNat), .Z z21] [.N n0, .B b1, .Z z2, .V v3, .Z z4, .I i5, .Z z18, .Z z19]))) ∧ (
 Im (64 ≤ (z18.length : Int)) (
 ∀ v20 : Value,
   aF.sig.pre [.Z z19, .V v20, .Z (z18.take (64 : Int).toNat)] ∧ (
 ∀ z21 : LI,
   aF.sig.post [.Z z19, .V v20, .Z (z18.take (64 : Int).toNat), .Z z21] →
 (z21.length = 8) →
 (∀ x ∈ z21, IntKind.has .u32 x) →
 ∀ v22 : Value,
   Bk aV.I1 aV.I1M [.N n0, .B b1, .Z z2, .V v3, .Z z4, .I i5, .Z (z18.drop (64 : Int).toNat), .Z z21] [.N n0, .B b1, .Z z2, .V v3, .Z z4, .I i5, .Z z18, .Z z19]))))) ∧ (
 ((z18.length : Int) ≤ (0 : Int)) →
 ∀ n20 : Nat,
  aV.I2 [.N n0, .B b1, .Z z2, .V v3, .Z z4, .I i5, .I 0, .Z (List.replicate (32 : Int).toNat (0 : Int))] ∧ (
 ∀ i21 : Int,
 ∀ z22 : LI,
 R64 i21 →
 (z22.length = 32) →
 (∀ x ∈ z22, IntKind.has .u8 x) →
  aV.I2 [.N n0, .B b1, .Z z2, .V v3, .Z z4, .I i5, .I i21, .Z z22] →
 ((
 (i21 < 8) →
 Im (0 ≤ i21) (
 Im (0 ≤ (wrap .i64 (4 * i21))) (
 Im ((wrap .i64 (4 * i21)) < 32) (
 Im (0 ≤ (wrap .i64 ((wrap .i64 (4 * i21)) + 1))) (
 Im ((wrap .i64 ((wrap .i64 (4 * i21)) + 1)) < 32) (
 Im (0 ≤ (wrap .i64 ((wrap .i64 (4 * i21)) + 2))) (
 Im ((wrap .i64 ((wrap .i64 (4 * i21)) + 2)) < 32) (
 Im (0 ≤ (wrap .i64 ((wrap .i64 (4 * i21)) + 3))) (
 Im ((wrap .i64 ((wrap .i64 (4 * i21)) + 3)) < 32) (
     Bk aV.I2 aV.I2M [.N n0, .B b1, .Z z2, .V v3, .Z z4, .I i5, .I (wrap .i64 (i21 + 1)), .Z ((((z22.set (wrap .i64 (4 * i21)).toNat (wrap .u8 (aW .u32 (z19.getD i21.toNat 0) 24))).set (wrap .i64 ((wrap .i64 (4 * i21)) + 1)).toNat (wrap .u8 (aW .u32 (z19.getD i21.toNat 0) 16))).set (wrap .i64 ((wrap .i64 (4 * i21)) + 2)).toNat (wrap .u8 (aW .u32 (z19.getD i21.toNat 0) 8))).set (wrap .i64 ((wrap .i64 (4 * i21)) + 3)).toNat (wrap .u8 (z19.getD i21.toNat 0)))] [.N n0, .B b1, .Z z2, .V v3, .Z z4, .I i5, .I i21, .Z z22])))))))))) ∧ (
 (8 ≤ i21) →
   aV.sig.post [.N n0, .B b1, .Z z2, .V v3, .Z z4, .I i5, .Z z22]))))))))))))))) ∧ (
 (b1 = false) →
 ∀ v8 : Value,
 Im (((([] : LI) ++ z4).length : Int) ≤ (140737488355328 : Int)) (
 ∀ v9 v10 : Value,
 Im ((((([] : LI) ++ z4) ++ ((128 : Int) :: ([] : LI))).length : Int) ≤ (140737488355328 : Int)) (
 ∀ v11 : Value,
  aV.I0 [.N n0, .B b1, .Z z2, .V v3, .Z z4, .I i5, .Z ((([] : LI) ++ z4) ++ (128 :: ([] : LI)))] ∧ (
 ∀ v12 : Value,
 ∀ z13 : LI,
 (∀ x ∈ z13, IntKind.has .u8 x) →
  aV.I0 [.N n0, .B b1, .Z z2, .V v3, .Z z4, .I i5, .Z z13] →
 ((
 ((Int.tmod (z13.length : Int) 64) ≠ 56) →
 ∀ v14 : Value,
 Im (((z13 ++ ((0 : Int) :: ([] : LI))).length : Int) ≤ (140737488355328 : Int)) (
 ∀ v15 : Value,
  Bk aV.I0 aV.I0M [.N n0, .B b1, .Z z2, .V v3, .Z z4, .I i5, .Z (z13 ++ (0 :: ([] : LI)))] [.N n0, .B b1, .Z z2, .V v3, .Z z4, .I i5, .Z z13])) ∧ (
 ((Int.tmod (z13.length : Int) 64) = 56) →
   Swap.sig.pre [.I (wrap .u64 (8 * i5))] ∧ (
 ∀ i14 : Int,
  Swap.sig.post [.I (wrap .u64 (8 * i5)), .I i14] →
 U64 i14 →
  Bytes.sig.pre [.I i14, .I 8] ∧ (
 ∀ s15 : BA,
  Bytes.sig.post [.I i14, .I 8, .S s15] →
 ((s15.size : Int) ≤ 9223372036854775807) →
 Im (((z13 ++ (bytesOf s15)).length : Int) ≤ (140737488355328 : Int)) (
 ∀ v16 : Value,
  aV.I1 [.N n0, .B b1, .Z z2, .V v3, .Z z4, .I i5, .Z (z13 ++ (bytesOf s15)), .Z ([1779033703, 3144134277, 1013904242, 2773480762, 1359893119, 2600822924, 528734635, 1541459225] : LI)] ∧ (
 ∀ v17 : Value,
 ∀ z18 z19 : LI,
 (∀ x ∈ z18, IntKind.has .u8 x) →
 (z19.length = 8) →
 (∀ x ∈ z19, IntKind.has .u32 x) →
  aV.I1 [.N n0, .B b1, .Z z2, .V v3, .Z z4, .I i5, .Z z18, .Z z19] →
 ((
 (0 < (z18.length : Int)) →
 ((
 Im (64 ≤ (z18.length : Int)) (
 ∀ v20 : Value,
   aF.sig.pre [.Z z19, .V v20, .Z (z18.take (64 : Int).toNat)] ∧ (
 ∀ z21 : LI,
   aF.sig.post [.Z z19, .V v20, .Z (z18.take (64 : Int).toNat), .Z z21] →
 (z21.length = 8) →
 (∀ x ∈ z21, IntKind.has .u32 x) →
 ∀ v22 : Value,
   Bk aV.I1 aV.I1M [.N n0, .B b1, .Z z2, .V v3, .Z z4, .I i5, .Z (z18.drop (64 : Int).toNat), .Z z21] [.N n0, .B b1, .Z z2, .V v3, .Z z4, .I i5, .Z z18, .Z z19]))) ∧ (
 Im (64 ≤ (z18.length : Int)) (
 ∀ v20 : Value,
   aF.sig.pre [.Z z19, .V v20, .Z (z18.take (64 : Int).toNat)] ∧ (
 ∀ z21 : LI,
   aF.sig.post [.Z z19, .V v20, .Z (z18.take (64 : Int).toNat), .Z z21] →
 (z21.length = 8) →
 (∀ x ∈ z21, IntKind.has .u32 x) →
 ∀ v22 : Value,
   Bk aV.I1 aV.I1M [.N n0, .B b1, .Z z2, .V v3, .Z z4, .I i5, .Z (z18.drop (64 : Int).toNat), .Z z21] [.N n0, .B b1, .Z z2, .V v3, .Z z4, .I i5, .Z z18, .Z z19]))))) ∧ (
 ((z18.length : Int) ≤ (0 : Int)) →
 ∀ n20 : Nat,
  aV.I2 [.N n0, .B b1, .Z z2, .V v3, .Z z4, .I i5, .I 0, .Z (List.replicate (32 : Int).toNat (0 : Int))] ∧ (
 ∀ i21 : Int,
 ∀ z22 : LI,
 R64 i21 →
 (z22.length = 32) →
 (∀ x ∈ z22, IntKind.has .u8 x) →
  aV.I2 [.N n0, .B b1, .Z z2, .V v3, .Z z4, .I i5, .I i21, .Z z22] →
 ((
 (i21 < 8) →
 Im (0 ≤ i21) (
 Im (0 ≤ (wrap .i64 (4 * i21))) (
 Im ((wrap .i64 (4 * i21)) < 32) (
 Im (0 ≤ (wrap .i64 ((wrap .i64 (4 * i21)) + 1))) (
 Im ((wrap .i64 ((wrap .i64 (4 * i21)) + 1)) < 32) (
 Im (0 ≤ (wrap .i64 ((wrap .i64 (4 * i21)) + 2))) (
 Im ((wrap .i64 ((wrap .i64 (4 * i21)) + 2)) < 32) (
 Im (0 ≤ (wrap .i64 ((wrap .i64 (4 * i21)) + 3))) (
 Im ((wrap .i64 ((wrap .i64 (4 * i21)) + 3)) < 32) (
     Bk aV.I2 aV.I2M [.N n0, .B b1, .Z z2, .V v3, .Z z4, .I i5, .I (wrap .i64 (i21 + 1)), .Z ((((z22.set (wrap .i64 (4 * i21)).toNat (wrap .u8 (aW .u32 (z19.getD i21.toNat 0) 24))).set (wrap .i64 ((wrap .i64 (4 * i21)) + 1)).toNat (wrap .u8 (aW .u32 (z19.getD i21.toNat 0) 16))).set (wrap .i64 ((wrap .i64 (4 * i21)) + 2)).toNat (wrap .u8 (aW .u32 (z19.getD i21.toNat 0) 8))).set (wrap .i64 ((wrap .i64 (4 * i21)) + 3)).toNat (wrap .u8 (z19.getD i21.toNat 0)))] [.N n0, .B b1, .Z z2, .V v3, .Z z4, .I i5, .I i21, .Z z22])))))))))) ∧ (
 (8 ≤ i21) →
   aV.sig.post [.N n0, .B b1, .Z z2, .V v3, .Z z4, .I i5, .Z z22]))))))))))))))))
def HOf.Pure : Prop :=
 ∀ s0 : BA,
 ((s0.size : Int) ≤ 9223372036854775807) →
 HOf.sig.pre [.S s0] →
 ∀ n1 : Nat,
 ∀ v2 : Value,
 ∀ n3 : Nat,
 dP.sig.pre [.N n3, .B false, .Z (List.replicate (8 : Int).toNat (0 : Int)), .V v2, .Z ([] : LI), .I 0, .S s0] ∧ (
 ∀ b4 : Bool,
 ∀ z5 : LI,
 ∀ v6 : Value,
 ∀ z7 : LI,
 ∀ i8 : Int,
 dP.sig.post [.N n3, .B false, .Z (List.replicate (8 : Int).toNat (0 : Int)), .V v2, .Z ([] : LI), .I 0, .S s0, .B b4, .Z z5, .V v6, .Z z7, .I i8] →
 (z5.length = 8) →
 (∀ x ∈ z5, IntKind.has .u32 x) →
 U64 i8 →
 (∀ x ∈ z7, IntKind.has .u8 x) →
 aV.sig.pre [.N n3, .B b4, .Z z5, .V v6, .Z z7, .I i8] ∧ (
 ∀ z9 : LI,
 aV.sig.post [.N n3, .B b4, .Z z5, .V v6, .Z z7, .I i8, .Z z9] →
 (z9.length = 32) →
 (∀ x ∈ z9, IntKind.has .u8 x) →
 HOf.sig.post [.S s0, .Z z9]))
end Go.Vc
namespace Go.Vc
theorem T32.pure : T32.Pure := by
 intro i0 i1 h0 h1 h2
 rfl
theorem bO6 (b : LI) : ∀ n, (uK b n).length = 64
 | 0 => by simp [uK]
 | n + 1 => by simp [uK, bO6 b n]
theorem aL0 (b : LI) : ∀ n, (lW b n).length = 64
 | 0 => bO6 b 16
 | n + 1 => by simp [lW, aL0 b n]
theorem dR6 (b : LI) : (bZ b).length = 64 := aL0 b 48
theorem cH8 {st w : LI} (h : st.length = 8) : ∀ n, (jD st w n).length = 8
 | 0 => h
 | n + 1 => rfl
theorem aZ6 {st v : LI} (h : v.length = 8) : ∀ n, (oN st v n).length = 8
 | 0 => h
 | n + 1 => by simp [oN, aZ6 h n]
theorem bQ.pure : bQ.Pure := by
 intro v0 z1 h1 h2 n2 n3
 have h2 : z1.length = 64 := h2
 refine ⟨⟨by omega, by omega, rfl⟩, ?_⟩
 intro i4 z5 h3 h4 h5 h6
 obtain ⟨h6, h6', rfl⟩ : 0 ≤ i4 ∧ i4 ≤ 16 ∧ z5 = uK z1 i4.toNat := h6
 refine ⟨?_, ?_⟩
 ·intro h7
  have e0 : wrap .i64 ((4 : Int) * i4) = 4 * i4 := aH (by omega) (by omega)
  have e1 : wrap .i64 ((4 : Int) * i4 + 1) = 4 * i4 + 1 := aH (by omega) (by omega)
  have e2 : wrap .i64 ((4 : Int) * i4 + 2) = 4 * i4 + 2 := aH (by omega) (by omega)
  have e3 : wrap .i64 ((4 : Int) * i4 + 3) = 4 * i4 + 3 := aH (by omega) (by omega)
  have ei : wrap .i64 (i4 + 1) = i4 + 1 := aH (by omega) (by omega)
  refine ⟨by rw [e0]; omega, fun _ => ⟨by rw [e0]; omega, fun _ => ⟨by rw [e0, e1]; omega, fun _ => ⟨by rw [e0, e1]; omega, fun _ => ⟨by rw [e0, e2]; omega, fun _ => ⟨by rw [e0, e2]; omega, fun _ => ⟨by rw [e0, e3]; omega, fun _ => ⟨by rw [e0, e3]; omega, fun _ => ⟨by omega, fun _ => ⟨by omega, fun _ => ⟨?_, ?_⟩⟩⟩⟩⟩⟩⟩⟩⟩⟩⟩
  ·rw [ei]
   refine ⟨by omega, by omega, ?_⟩
   rw [show (i4 + 1).toNat = i4.toNat + 1 from by omega]
   have hi : ((i4.toNat : Nat) : Int) = i4 := by omega
   show _ = (uK z1 i4.toNat).set i4.toNat (wordAt z1 ((i4.toNat : Nat) : Int))
   rw [hi]
   rfl
  ·rw [ei]
   show (16 - (i4 + 1)).toNat < (16 - i4).toNat
   omega
 ·intro h7
  refine ⟨⟨by omega, by omega, ?_⟩, ?_⟩
  ·rw [show i4.toNat = 16 from by omega]; rfl
  intro i6 z7 h8 h9 h10 h11
  obtain ⟨h11, h11', rfl⟩ : 16 ≤ i6 ∧ i6 ≤ 64 ∧ z7 = lW z1 (i6 - 16).toNat := h11
  refine ⟨?_, ?_⟩
  ·intro h12
   have e15 : wrap .i64 (i6 - 15) = i6 - 15 := aH (by omega) (by omega)
   have e2 : wrap .i64 (i6 - 2) = i6 - 2 := aH (by omega) (by omega)
   have e16 : wrap .i64 (i6 - 16) = i6 - 16 := aH (by omega) (by omega)
   have e7 : wrap .i64 (i6 - 7) = i6 - 7 := aH (by omega) (by omega)
   have ei : wrap .i64 (i6 + 1) = i6 + 1 := aH (by omega) (by omega)
   refine ⟨by rw [e15]; omega, fun _ => ⟨by rw [e15]; omega, fun _ => ⟨by rw [e2]; omega, fun _ => ⟨by rw [e2]; omega, fun _ => ⟨trivial, ?_⟩⟩⟩⟩⟩
   intro i8 h17 h18
   refine ⟨trivial, ?_⟩
   intro i9 h19 h20
   refine ⟨trivial, ?_⟩
   intro i10 h21 h22
   refine ⟨trivial, ?_⟩
   intro i11 h23 h24
   refine ⟨by rw [e16]; omega, fun _ => ⟨by rw [e16]; omega, fun _ => ⟨by rw [e7]; omega, fun _ => ⟨by rw [e7]; omega, fun _ => ⟨by omega, fun _ => ⟨?_, ?_⟩⟩⟩⟩⟩⟩
   ·rw [ei]
    refine ⟨by omega, by omega, ?_⟩
    rw [show (i6 + 1 - 16).toNat = (i6 - 16).toNat + 1 from by omega]
    have hi : (((i6 - 16).toNat + 16 : Nat) : Int) = i6 := by omega
    have hn : (i6 - 16).toNat + 16 = i6.toNat := by omega
    show _ = (lW z1 (i6 - 16).toNat).set ((i6 - 16).toNat + 16) (bL0 (lW z1 (i6 - 16).toNat) (((i6 - 16).toNat + 16 : Nat) : Int))
    rw [hi, hn]
    have h17 : i8 = t32 _ _ := h17
    have h19 : i9 = t32 _ _ := h19
    have h21 : i10 = t32 _ _ := h21
    have h23 : i11 = t32 _ _ := h23
    subst h17; subst h19; subst h21; subst h23
    rfl
   ·rw [ei]
    show (64 - (i6 + 1)).toNat < (64 - i6).toNat
    omega
  ·intro h12
   show _ = bZ z1
   rw [show (i6 - 16).toNat = 48 from by omega]
   rfl
end Go.Vc
namespace Go.Vc
def rndV (v : LI) (k w a b c d e f : Int) : LI :=
 cM6 (v.getD 0 0) (v.getD 1 0) (v.getD 2 0) (v.getD 3 0) (v.getD 4 0) (v.getD 5 0) (v.getD 6 0)
  (wrap .u32 ((wrap .u32 ((wrap .u32 ((wrap .u32 (v.getD 7 0 + (Go.bits .xor .u32 (Go.bits .xor .u32 a b) c))) + (Go.bits .xor .u32 (Go.bits .and .u32 (v.getD 4 0) (v.getD 5 0)) (Go.bits .and .u32 (Go.bits .xor .u32 (4294967295 : Int) (v.getD 4 0)) (v.getD 6 0))))) + k)) + w))
  (wrap .u32 ((Go.bits .xor .u32 (Go.bits .xor .u32 d e) f) + (Go.bits .xor .u32 (Go.bits .xor .u32 (Go.bits .and .u32 (v.getD 0 0) (v.getD 1 0)) (Go.bits .and .u32 (v.getD 0 0) (v.getD 2 0))) (Go.bits .and .u32 (v.getD 1 0) (v.getD 2 0)))))
section
variable {z0 z2 x : LI} {v1 : Value} {i : Int}
theorem aI1 (h : aF.I0 [.Z z0, .V v1, .Z z2, .I i, .Z x]) : 0 ≤ i ∧ i ≤ 64 ∧ x = jD z0 (bZ z2) i.toNat := h
theorem cH4 (h0 : 0 ≤ i) (h1 : i ≤ 64) (h : x = jD z0 (bZ z2) i.toNat) : aF.I0 [.Z z0, .V v1, .Z z2, .I i, .Z x] := ⟨h0, h1, h⟩
theorem cH5 (h : aF.I1 [.Z z0, .V v1, .Z z2, .I i, .Z x]) : 0 ≤ i ∧ i ≤ 8 ∧ x = oN z0 (jD z0 (bZ z2) 64) i.toNat := h
theorem cH6 (h0 : 0 ≤ i) (h1 : i ≤ 8) (h : x = oN z0 (jD z0 (bZ z2) 64) i.toNat) : aF.I1 [.Z z0, .V v1, .Z z2, .I i, .Z x] := ⟨h0, h1, h⟩
theorem bS0 {st v : LI} (hi : 0 ≤ i) : (oN st v i.toNat).set i.toNat (wrap .u32 ((oN st v i.toNat).getD i.toNat 0 + st.getD i.toNat 0)) = oN st v (i + 1).toNat := by
 rw [show (i + 1).toNat = i.toNat + 1 from by omega]
 rfl
theorem dJ5 {b c a d e f : Int} (hi : 0 ≤ i) (h6 : T32.sig.post [.I ((jD z0 (bZ z2) i.toNat).getD (4 : Int).toNat 0), .I (-6), .I a])
  (h11 : T32.sig.post [.I ((jD z0 (bZ z2) i.toNat).getD (4 : Int).toNat 0), .I (-11), .I b]) (h25 : T32.sig.post [.I ((jD z0 (bZ z2) i.toNat).getD (4 : Int).toNat 0), .I (-25), .I c])
  (h2 : T32.sig.post [.I ((jD z0 (bZ z2) i.toNat).getD (0 : Int).toNat 0), .I (-2), .I d]) (h13 : T32.sig.post [.I ((jD z0 (bZ z2) i.toNat).getD (0 : Int).toNat 0), .I (-13), .I e])
  (h22 : T32.sig.post [.I ((jD z0 (bZ z2) i.toNat).getD (0 : Int).toNat 0), .I (-22), .I f]) :
  rndV (jD z0 (bZ z2) i.toNat) (gK.getD i.toNat 0) ((bZ z2).getD i.toNat 0) a b c d e f = jD z0 (bZ z2) (i + 1).toNat := by
 have h6 : a = t32 _ _ := h6
 have h11 : b = t32 _ _ := h11
 have h25 : c = t32 _ _ := h25
 have h2 : d = t32 _ _ := h2
 have h13 : e = t32 _ _ := h13
 have h22 : f = t32 _ _ := h22
 subst h6 h11 h25 h2 h13 h22
 rw [show (i + 1).toNat = i.toNat + 1 from by omega]
 rfl
theorem dJ6 {y : LI} {b c a d e f : Int} (hy : y = bZ z2) (h : aF.I0 [.Z z0, .V v1, .Z z2, .I i, .Z x]) (hi : i < 64) (h6 : T32.sig.post [.I (x.getD (4 : Int).toNat 0), .I (-6), .I a])
  (h11 : T32.sig.post [.I (x.getD (4 : Int).toNat 0), .I (-11), .I b]) (h25 : T32.sig.post [.I (x.getD (4 : Int).toNat 0), .I (-25), .I c])
  (h2 : T32.sig.post [.I (x.getD (0 : Int).toNat 0), .I (-2), .I d]) (h13 : T32.sig.post [.I (x.getD (0 : Int).toNat 0), .I (-13), .I e])
  (h22 : T32.sig.post [.I (x.getD (0 : Int).toNat 0), .I (-22), .I f]) :
  aF.I0 [.Z z0, .V v1, .Z z2, .I (wrap .i64 (i + 1)), .Z (rndV x (gK.getD i.toNat 0) (y.getD i.toNat 0) a b c d e f)] := by
 obtain ⟨h0, h1, e1⟩ := aI1 h
 rw [show wrap .i64 (i + 1) = i + 1 from aH (by omega) (by omega)]
 rw [e1] at h6 h11 h25 h2 h13 h22
 exact cH4 (by omega) (by omega) (by rw [e1, hy]; exact dJ5 h0 h6 h11 h25 h2 h13 h22)
theorem dJ3 {x' : LI} (h : aF.I0 [.Z z0, .V v1, .Z z2, .I i, .Z x]) (hi : i < 64) :
  aF.I0M [.Z z0, .V v1, .Z z2, .I (wrap .i64 (i + 1)), .Z x'] < aF.I0M [.Z z0, .V v1, .Z z2, .I i, .Z x] := by
 have h0 : 0 ≤ i := (aI1 h).1
 rw [show wrap .i64 (i + 1) = i + 1 from aH (by omega) (by omega)]
 show (64 - (i + 1)).toNat < (64 - i).toNat
 omega
theorem dJ4 {x' : LI} (h : aF.I1 [.Z z0, .V v1, .Z z2, .I i, .Z x]) (hi : i < 8) :
  aF.I1M [.Z z0, .V v1, .Z z2, .I (wrap .i64 (i + 1)), .Z x'] < aF.I1M [.Z z0, .V v1, .Z z2, .I i, .Z x] := by
 have h0 : 0 ≤ i := (cH5 h).1
 rw [show wrap .i64 (i + 1) = i + 1 from aH (by omega) (by omega)]
 show (8 - (i + 1)).toNat < (8 - i).toNat
 omega
end
theorem aF.kA {z0 z2 : LI} {v1 : Value} : aF.K0 z0 v1 z2 := by
 intro n3 n4 n5 n6 z7 h8 h9 h10
 have h10 : z7 = bZ z2 := h10
 refine ⟨cH4 (by decide) (by decide) rfl, ?_⟩
 intro i8 z9 h11 h12 h13 h14
 refine ⟨?_, ?_⟩
 ·intro h15
  refine ⟨(aI1 h14).1, fun h16 => ⟨trivial, ?_⟩⟩
  intro i10 h17 h18
  refine ⟨trivial, ?_⟩
  intro i11 h19 h20
  refine ⟨trivial, ?_⟩
  intro i12 h21 h22
  refine ⟨trivial, ?_⟩
  intro i13 h23 h24
  refine ⟨trivial, ?_⟩
  intro i14 h25 h26
  refine ⟨trivial, ?_⟩
  intro i15 h27 h28
  exact ⟨dJ6 h10 h14 h15 h17 h19 h21 h23 h25 h27, dJ3 h14 h15⟩
 ·intro h15
  have e64 : i8 = 64 := by have := (aI1 h14).2.1; omega
  refine ⟨cH6 (by decide) (by decide) (by rw [(aI1 h14).2.2, e64]; rfl), ?_⟩
  intro i10 z11 h16 h17 h18 h19
  obtain ⟨a0, a1, a2⟩ := cH5 h19
  refine ⟨?_, ?_⟩
  ·intro h20
   refine ⟨a0, fun h21 => ⟨?_, dJ4 h19 h20⟩⟩
   rw [show wrap .i64 (i10 + 1) = i10 + 1 from aH (by omega) (by omega)]
   exact cH6 (by omega) (by omega) (by rw [a2]; exact bS0 a0)
  ·intro h20
   have e8 : i10 = 8 := by omega
   rw [e8] at a2
   exact (a2 : _ = rZ z0 z2)
theorem mixJ {z0 z2 z5 : LI} {v1 : Value} (h : bQ.sig.post [(D.V v1), (D.Z z2), (D.Z z5)]) : aF.J0 [(D.Z z0), (D.V v1), (D.Z z2), (D.Z z5)] := h
theorem aF.pure : aF.Pure := by
 intro z0 v1 z2 h1 h2 h3 h4 n3 n4
 repeat' first
  | exact aF.kA
  | exact mixJ (by assumption)
  | exact h4
  | refine ⟨?_, ?_⟩
  | intro _
end Go.Vc
namespace Go.Vc
theorem bW5 : ∀ (f g : Nat) (st l : LI), l.length ≤ f → l.length ≤ g → eat f st l = eat g st l
 | 0, g, st, l, hf, _ => by
  have : l = [] := List.length_eq_zero_iff.1 (by omega)
  subst this
  cases g <;> simp [eat]
 | f + 1, 0, st, l, _, hg => by
  have : l = [] := List.length_eq_zero_iff.1 (by omega)
  subst this
  simp [eat]
 | f + 1, g + 1, st, l, hf, hg => by
  simp only [eat]
  split
  ·rfl
  ·exact bW5 f g _ _ (by rw [List.length_drop]; omega) (by rw [List.length_drop]; omega)
theorem rO {st l : LI} (h : l.length < 64) : bV st l = (st, l) := by
 unfold bV
 cases hl : l.length with
 | zero => rfl
 | succ n => simp only [eat]; rw [if_pos h]
theorem wF {st l : LI} (h : 64 ≤ l.length) : bV st l = bV (rZ st (l.take 64)) (l.drop 64) := by
 unfold bV
 obtain ⟨n, hn⟩ : ∃ n, l.length = n + 1 := ⟨l.length - 1, by omega⟩
 rw [hn]
 show (if l.length < 64 then (st, l) else eat n (rZ st (l.take 64)) (l.drop 64)) = _
 rw [if_neg (by omega)]
 exact bW5 _ _ _ _ (by rw [List.length_drop]; omega) (Nat.le_refl _)
theorem bW4 : ∀ (n : Nat) (st l : LI), l.length ≤ n → (bV st l).2.length < 64
 | 0, st, l, h => by rw [rO (by omega)]; show l.length < 64; omega
 | n + 1, st, l, h => by
  by_cases c : l.length < 64
  ·rw [rO c]; exact c
  ·rw [wF (by omega)]
   exact bW4 n _ _ (by rw [List.length_drop]; omega)
theorem bW2 : ∀ (n : Nat) (st a b : LI), a.length ≤ n → bV st (a ++ b) = bV (bV st a).1 ((bV st a).2 ++ b)
 | 0, st, a, b, h => by
  have : a = [] := List.length_eq_zero_iff.1 (by omega)
  subst this
  rw [rO (show ([] : LI).length < 64 by decide)]
 | n + 1, st, a, b, h => by
  by_cases c : a.length < 64
  ·rw [rO c]
  ·rw [wF (l := a) (by omega), wF (l := a ++ b) (by rw [List.length_append]; omega), List.take_append_of_le_length (by omega), List.drop_append_of_le_length (by omega)]
   exact bW2 n _ _ _ (by rw [List.length_drop]; omega)
theorem cH7 {st b : LI} (h : st.length = 8) : (rZ st b).length = 8 := aZ6 (cH8 h 64) 8
theorem bW3 : ∀ (n : Nat) (st l : LI), l.length ≤ n → st.length = 8 → (bV st l).1.length = 8
 | 0, st, l, h, hs => by rw [rO (by omega)]; exact hs
 | n + 1, st, l, h, hs => by
  by_cases c : l.length < 64
  ·rw [rO c]; exact hs
  ·rw [wF (by omega)]
   exact bW3 n _ _ (by rw [List.length_drop]; omega) (cH7 hs)
theorem bM2 (n : Nat) : fM n < 64 := Nat.mod_lt _ (by decide)
theorem bM1 (n : Nat) : (n + 1 + fM n) % 64 = 56 := by unfold fM; omega
theorem cJ8 {n k : Nat} (h : k ≤ fM n) (h' : (n + 1 + k) % 64 = 56) : k = fM n := by unfold fM at *; omega
theorem cJ7 {n k : Nat} (h : k ≤ fM n) (h' : (n + 1 + k) % 64 ≠ 56) : k + 1 ≤ fM n := by
 have := bM1 n
 rcases Nat.lt_or_ge k (fM n) with c | c
 ·exact c
 ·have : k = fM n := by omega
  subst this; exact absurd (bM1 n) h'
theorem bA8 (v : Int) : (be8 v).length = 8 := by simp [be8, sS]
theorem cX1 (v : Int) : ∀ x ∈ be8 v, 0 ≤ x ∧ x < 256 := fun x hx => aN7 v 8 x (List.mem_reverse.1 hx)
theorem cX2 {v r : Int} (h : Swap.post [.I v, .I r]) : bytesLE r 8 = be8 v := by
 have h : ∀ i, i < 64 → bt r i = bt v (8 * (7 - i / 8) + i % 8) := h
 apply List.ext_getElem (by rw [bA8, sS])
 intro j hj0 hj'
 have hj : j < 8 := by rw [sS] at hj0; exact hj0
 have e1 : (bytesLE r 8)[j]'hj0 = r / 256 ^ j % 256 := by simp [bytesLE]
 have e2 : (be8 v)[j]'hj' = v / 256 ^ (7 - j) % 256 := by simp [be8, bytesLE]
 rw [e1, e2]
 have n1 : 0 ≤ r / 256 ^ j % 256 := Int.emod_nonneg _ (by decide)
 have n2 : 0 ≤ v / 256 ^ (7 - j) % 256 := Int.emod_nonneg _ (by decide)
 have l1 : r / 256 ^ j % 256 < 256 := Int.emod_lt_of_pos _ (by decide)
 have l2 : v / 256 ^ (7 - j) % 256 < 256 := Int.emod_lt_of_pos _ (by decide)
 apply bF4 ((rD _).2 ⟨n1, by omega⟩) ((rD _).2 ⟨n2, by omega⟩)
 intro i hi
 by_cases c : i < 8
 ·rw [bC0 _ _ _ c, bC0 _ _ _ c, h _ (by omega)]
  congr 1; omega
 ·rw [oO (w := 8) n1 l1 (by omega), oO (w := 8) n2 l2 (by omega)]
section
variable {n0 : Nat} {b1 b8 : Bool} {z2 z4 z9 z11 : LI} {v3 v13 : Value} {i5 i12 : Int} {s6 : BA}
theorem aA4 (h13 : dP.I0 [(D.N n0), (D.B b1), (D.Z z2), (D.V v3), (D.Z z4), (D.I i5), (D.S s6), (D.B b8), (D.Z z9), (D.Z z11), (D.I i12)]) (h14 : (64 : Int) ≤ ((z11.length : Nat) : Int)) (v13 : Value) :
  aF.sig.pre [(D.Z z9), (D.V v13), (D.Z (z11.take (64 : Int).toNat))] ∧ (
  ∀ z14 : LI,
  aF.sig.post [(D.Z z9), (D.V v13), (D.Z (z11.take (64 : Int).toNat)), (D.Z z14)] →
  (z14.length = 8) →
  (∀ x ∈ z14, IntKind.has .u32 x) →
  ∀ v15 v16 : Value,
  ((((([] : LI) ++ (z11.drop (64 : Int).toNat)).length : Nat) : Int) ≤ (140737488355328 : Int)) ∧ (((((([] : LI) ++ (z11.drop (64 : Int).toNat)).length : Nat) : Int) ≤ (140737488355328 : Int)) →
  ∀ v17 : Value,
  dP.I0 [(D.N n0), (D.B b1), (D.Z z2), (D.V v3), (D.Z z4), (D.I i5), (D.S s6), (D.B b8), (D.Z z14), (D.Z (([] : LI) ++ (z11.drop (64 : Int).toNat))), (D.I i12)] ∧ dP.I0M [(D.N n0), (D.B b1), (D.Z z2), (D.V v3), (D.Z z4), (D.I i5), (D.S s6), (D.B b8), (D.Z z14), (D.Z (([] : LI) ++ (z11.drop (64 : Int).toNat))), (D.I i12)] < dP.I0M [(D.N n0), (D.B b1), (D.Z z2), (D.V v3), (D.Z z4), (D.I i5), (D.S s6), (D.B b8), (D.Z z9), (D.Z z11), (D.I i12)])) := by
 obtain ⟨e1, e2, e3, e4⟩ : b8 = true ∧ bV z9 z11 = bV (eff b1 z2) (z4 ++ bytesOf s6) ∧ i12 = wrap .u64 (i5 + wrap .u64 s6.size) ∧ z11.length ≤ 2000000 := h13
 have hl : 64 ≤ z11.length := by omega
 refine ⟨?_, ?_⟩
 ·show (z11.take 64).length = 64
  rw [List.length_take]; omega
 intro z14 h15 h16 h17 v15 v16
 have h15 : z14 = rZ z9 (z11.take 64) := h15
 have hd : ([] ++ z11.drop (64 : Int).toNat : LI) = z11.drop 64 := rfl
 rw [hd]
 have hdl : (z11.drop 64).length = z11.length - 64 := List.length_drop
 refine ⟨by omega, fun _ v17 => ⟨⟨e1, ?_, e3, by omega⟩, ?_⟩⟩
 ·rw [h15, ← wF hl, e2]
 ·show (z11.drop 64).length < z11.length
  omega
theorem cB9 {v10 : Value} (h13 : dP.I0 [(D.N n0), (D.B b1), (D.Z z2), (D.V v3), (D.Z z4), (D.I i5), (D.S s6), (D.B b8), (D.Z z9), (D.Z z11), (D.I i12)]) (h14 : ((z11.length : Nat) : Int) < (64 : Int)) :
  dP.sig.post [(D.N n0), (D.B b1), (D.Z z2), (D.V v3), (D.Z z4), (D.I i5), (D.S s6), (D.B b8), (D.Z z9), (D.V v10), (D.Z z11), (D.I i12)] := by
 obtain ⟨e1, e2, e3, e4⟩ : b8 = true ∧ bV z9 z11 = bV (eff b1 z2) (z4 ++ bytesOf s6) ∧ i12 = wrap .u64 (i5 + wrap .u64 s6.size) ∧ z11.length ≤ 2000000 := h13
 rw [rO (by omega)] at e2
 exact ⟨e1, e2.symm, e3⟩
end
theorem dP.pure : dP.Pure := by
 intro n0 b1 z2 v3 z4 i5 s6 h1 h2 h3 h4 h5 h6
 obtain ⟨p1, p2⟩ : z4.length ≤ 1000000 ∧ s6.size ≤ 1000000 := h6
 have hl : (z4 ++ bytesOf s6).length = z4.length + s6.size := by rw [List.length_append, bytesOf_length']
 refine ⟨?_, ?_⟩
 ·intro h7
  refine ⟨by omega, fun h8 v7 => ?_⟩
  refine ⟨⟨rfl, by rw [h7]; rfl, rfl, by omega⟩, ?_⟩
  intro b8 z9 v10 z11 i12 h9 h10 h11 h12 h13
  refine ⟨?_, ?_⟩
  ·intro h14
   exact ⟨aA4 h13 h14, aA4 h13 h14, aA4 h13 h14⟩
  ·intro h14
   exact cB9 h13 h14
 ·intro h7
  refine ⟨by omega, fun h8 v7 => ?_⟩
  refine ⟨⟨h7, by rw [h7]; rfl, rfl, by omega⟩, ?_⟩
  intro b8 z9 v10 z11 i12 h9 h10 h11 h12 h13
  refine ⟨?_, ?_⟩
  ·intro h14
   exact ⟨aA4 h13 h14, aA4 h13 h14, aA4 h13 h14⟩
  ·intro h14
   exact cB9 h13 h14
end Go.Vc
namespace Go.Vc
theorem set4 (a b c d : Int) : ∀ (n : Nat) (l : LI), n + 4 ≤ l.length → ((((l.set n a).set (n + 1) b).set (n + 2) c).set (n + 3) d).take (n + 4) = l.take n ++ [a, b, c, d]
 | 0, x :: y :: z :: w :: l, _ => by simp
 | 0, [], h => by simp at h
 | 0, [_], h => by simp at h
 | 0, [_, _], h => by simp at h
 | 0, [_, _, _], h => by simp at h
 | n + 1, [], h => by simp at h
 | n + 1, x :: l, h => by
  have := set4 a b c d n l (by simp only [List.length_cons] at h; omega)
  simp only [show n + 1 + 1 = (n + 1) + 1 from rfl, show n + 1 + 2 = (n + 2) + 1 from rfl, show n + 1 + 3 = (n + 3) + 1 from rfl, show n + 1 + 4 = (n + 4) + 1 from rfl, List.set_cons_succ, List.take_succ_cons, this, List.cons_append]
theorem aE2 {l : LI} {n : Nat} (h : n < l.length) : l.take (n + 1) = l.take n ++ [l.getD n 0] := by
 rw [List.take_add_one]
 simp [List.getD, List.getElem?_eq_getElem h]
theorem cJ3 (a b : LI) : jY (a ++ b) = jY a ++ jY b := by simp [jY]
section
variable {n0 : Nat} {b1 : Bool} {z2 z4 z13 z18 z19 z22 : LI} {v3 : Value} {i5 i21 i14 : Int} {s15 : BA}
theorem cB7 (hz : z4.length ≤ 1000000) (h10 : aV.I0 [(D.N n0), (D.B b1), (D.Z z2), (D.V v3), (D.Z z4), (D.I i5), (D.Z z13)]) (h11 : (Int.tmod ((z13.length : Nat) : Int) (64 : Int)) ≠ (56 : Int)) (v14 : Value) :
  ((((z13 ++ ((0 : Int) :: ([] : LI))).length : Nat) : Int) ≤ (140737488355328 : Int)) ∧ (((((z13 ++ ((0 : Int) :: ([] : LI))).length : Nat) : Int) ≤ (140737488355328 : Int)) →
  ∀ v15 : Value,
  aV.I0 [(D.N n0), (D.B b1), (D.Z z2), (D.V v3), (D.Z z4), (D.I i5), (D.Z (z13 ++ ((0 : Int) :: ([] : LI))))] ∧ aV.I0M [(D.N n0), (D.B b1), (D.Z z2), (D.V v3), (D.Z z4), (D.I i5), (D.Z (z13 ++ ((0 : Int) :: ([] : LI))))] < aV.I0M [(D.N n0), (D.B b1), (D.Z z2), (D.V v3), (D.Z z4), (D.I i5), (D.Z z13)]) := by
 obtain ⟨k, hk, e⟩ : ∃ k : Nat, k ≤ fM z4.length ∧ z13 = z4 ++ [128] ++ List.replicate k 0 := h10
 have hl : z13.length = z4.length + 1 + k := by rw [e]; simp; omega
 have hp := bM2 z4.length
 have hk1 : k + 1 ≤ fM z4.length := cJ7 hk (by
  intro hc
  apply h11
  rw [Int.tmod_eq_emod_of_nonneg (by omega)]
  omega)
 have hl2 : (z13 ++ (0 :: ([] : LI))).length = z13.length + 1 := by simp
 refine ⟨by omega, fun _ _ => ⟨⟨k + 1, hk1, ?_⟩, ?_⟩⟩
 ·rw [e, List.append_assoc, List.replicate_succ']
 ·show fM z4.length + z4.length + 1 - (z13 ++ (0 :: ([] : LI))).length < fM z4.length + z4.length + 1 - z13.length
  omega
theorem cB8 (hz : z4.length ≤ 1000000) (h10 : aV.I0 [(D.N n0), (D.B b1), (D.Z z2), (D.V v3), (D.Z z4), (D.I i5), (D.Z z13)]) (h11 : (Int.tmod ((z13.length : Nat) : Int) (64 : Int)) = (56 : Int))
  (h12 : Swap.sig.post [(D.I (wrap .u64 ((8 : Int) * i5))), (D.I i14)]) (h14 : Bytes.sig.post [(D.I i14), (D.I (8 : Int)), (D.S s15)]) :
  z13 ++ bytesOf s15 = rC z4 i5 ∧ (z13 ++ bytesOf s15).length % 64 = 0 ∧ (z13 ++ bytesOf s15).length ≤ 2000000 := by
 obtain ⟨k, hk, e⟩ : ∃ k : Nat, k ≤ fM z4.length ∧ z13 = z4 ++ [128] ++ List.replicate k 0 := h10
 have hl : z13.length = z4.length + 1 + k := by rw [e]; simp; omega
 have hp := bM2 z4.length
 have ht : (z13.length : Int) % 64 = 56 := by rw [Int.tmod_eq_emod_of_nonneg (by omega)] at h11; exact h11
 have hke : k = fM z4.length := cJ8 hk (by omega)
 have hb : bytesOf s15 = be8 (wrap .u64 ((8 : Int) * i5)) := by
  have h14 : s15 = textOf (bytesLE i14 8) := h14
  rw [h14, lK (aN7 _ _)]
  exact cX2 h12
 have hbl := bA8 (wrap .u64 ((8 : Int) * i5))
 rw [hb]
 have hl3 : (z13 ++ be8 (wrap .u64 ((8 : Int) * i5))).length = z13.length + 8 := by rw [List.length_append, hbl]
 refine ⟨?_, ?_, ?_⟩
 ·rw [e, hke]; rfl
 ·rw [hl3]; omega
 ·rw [hl3]; omega
theorem aR7 (h20 : aV.I1 [(D.N n0), (D.B b1), (D.Z z2), (D.V v3), (D.Z z4), (D.I i5), (D.Z z18), (D.Z z19)]) (h21 : (0 : Int) < ((z18.length : Nat) : Int)) :
  ((64 : Int) ≤ ((z18.length : Nat) : Int)) ∧ (((64 : Int) ≤ ((z18.length : Nat) : Int)) →
   ∀ v20 : Value,
   aF.sig.pre [(D.Z z19), (D.V v20), (D.Z (z18.take (64 : Int).toNat))] ∧ (
   ∀ z21 : LI,
   aF.sig.post [(D.Z z19), (D.V v20), (D.Z (z18.take (64 : Int).toNat)), (D.Z z21)] →
   (z21.length = 8) →
   (∀ x ∈ z21, IntKind.has .u32 x) →
   ∀ v22 : Value,
   aV.I1 [(D.N n0), (D.B b1), (D.Z z2), (D.V v3), (D.Z z4), (D.I i5), (D.Z (z18.drop (64 : Int).toNat)), (D.Z z21)] ∧ aV.I1M [(D.N n0), (D.B b1), (D.Z z2), (D.V v3), (D.Z z4), (D.I i5), (D.Z (z18.drop (64 : Int).toNat)), (D.Z z21)] < aV.I1M [(D.N n0), (D.B b1), (D.Z z2), (D.V v3), (D.Z z4), (D.I i5), (D.Z z18), (D.Z z19)])) := by
 obtain ⟨e1, e2⟩ : z18.length % 64 = 0 ∧ (bV z19 z18).1 = (bV (eff b1 z2) (rC z4 i5)).1 := h20
 have hl : 64 ≤ z18.length := by omega
 refine ⟨by omega, fun _ v20 => ⟨?_, ?_⟩⟩
 ·show (z18.take 64).length = 64
  rw [List.length_take]; omega
 intro z21 h23 _ _ v22
 have h23 : z21 = rZ z19 (z18.take 64) := h23
 have hd : (z18.drop (64 : Int).toNat).length = z18.length - 64 := List.length_drop
 refine ⟨⟨by omega, ?_⟩, ?_⟩
 ·rw [← e2, wF hl, h23]; rfl
 ·show (z18.drop (64 : Int).toNat).length < z18.length
  omega
theorem cB4 (h20 : aV.I1 [(D.N n0), (D.B b1), (D.Z z2), (D.V v3), (D.Z z4), (D.I i5), (D.Z z18), (D.Z z19)]) (h21 : ((z18.length : Nat) : Int) ≤ (0 : Int)) : z19 = (bV (eff b1 z2) (rC z4 i5)).1 := by
 obtain ⟨_, e2⟩ : z18.length % 64 = 0 ∧ (bV z19 z18).1 = (bV (eff b1 z2) (rC z4 i5)).1 := h20
 rw [rO (by omega)] at e2
 exact e2
theorem cB6 (hF : z19 = (bV (eff b1 z2) (rC z4 i5)).1) (h8 : z19.length = 8) (h23 : z22.length = 32) (h25 : aV.I2 [(D.N n0), (D.B b1), (D.Z z2), (D.V v3), (D.Z z4), (D.I i5), (D.I i21), (D.Z z22)]) (h26 : i21 < (8 : Int)) :
  ((0 : Int) ≤ i21) ∧ (((0 : Int) ≤ i21) →
  ((0 : Int) ≤ (wrap .i64 ((4 : Int) * i21))) ∧ (((0 : Int) ≤ (wrap .i64 ((4 : Int) * i21))) →
  ((wrap .i64 ((4 : Int) * i21)) < (32 : Int)) ∧ (((wrap .i64 ((4 : Int) * i21)) < (32 : Int)) →
  ((0 : Int) ≤ (wrap .i64 ((wrap .i64 ((4 : Int) * i21)) + (1 : Int)))) ∧ (((0 : Int) ≤ (wrap .i64 ((wrap .i64 ((4 : Int) * i21)) + (1 : Int)))) →
  ((wrap .i64 ((wrap .i64 ((4 : Int) * i21)) + (1 : Int))) < (32 : Int)) ∧ (((wrap .i64 ((wrap .i64 ((4 : Int) * i21)) + (1 : Int))) < (32 : Int)) →
  ((0 : Int) ≤ (wrap .i64 ((wrap .i64 ((4 : Int) * i21)) + (2 : Int)))) ∧ (((0 : Int) ≤ (wrap .i64 ((wrap .i64 ((4 : Int) * i21)) + (2 : Int)))) →
  ((wrap .i64 ((wrap .i64 ((4 : Int) * i21)) + (2 : Int))) < (32 : Int)) ∧ (((wrap .i64 ((wrap .i64 ((4 : Int) * i21)) + (2 : Int))) < (32 : Int)) →
  ((0 : Int) ≤ (wrap .i64 ((wrap .i64 ((4 : Int) * i21)) + (3 : Int)))) ∧ (((0 : Int) ≤ (wrap .i64 ((wrap .i64 ((4 : Int) * i21)) + (3 : Int)))) →
  ((wrap .i64 ((wrap .i64 ((4 : Int) * i21)) + (3 : Int))) < (32 : Int)) ∧ (((wrap .i64 ((wrap .i64 ((4 : Int) * i21)) + (3 : Int))) < (32 : Int)) →
  aV.I2 [(D.N n0), (D.B b1), (D.Z z2), (D.V v3), (D.Z z4), (D.I i5), (D.I (wrap .i64 (i21 + (1 : Int)))), (D.Z ((((z22.set (wrap .i64 ((4 : Int) * i21)).toNat (wrap .u8 (aW .u32 (z19.getD i21.toNat 0) (24 : Int)))).set (wrap .i64 ((wrap .i64 ((4 : Int) * i21)) + (1 : Int))).toNat (wrap .u8 (aW .u32 (z19.getD i21.toNat 0) (16 : Int)))).set (wrap .i64 ((wrap .i64 ((4 : Int) * i21)) + (2 : Int))).toNat (wrap .u8 (aW .u32 (z19.getD i21.toNat 0) (8 : Int)))).set (wrap .i64 ((wrap .i64 ((4 : Int) * i21)) + (3 : Int))).toNat (wrap .u8 (z19.getD i21.toNat 0))))] ∧
  aV.I2M [(D.N n0), (D.B b1), (D.Z z2), (D.V v3), (D.Z z4), (D.I i5), (D.I (wrap .i64 (i21 + (1 : Int)))), (D.Z ((((z22.set (wrap .i64 ((4 : Int) * i21)).toNat (wrap .u8 (aW .u32 (z19.getD i21.toNat 0) (24 : Int)))).set (wrap .i64 ((wrap .i64 ((4 : Int) * i21)) + (1 : Int))).toNat (wrap .u8 (aW .u32 (z19.getD i21.toNat 0) (16 : Int)))).set (wrap .i64 ((wrap .i64 ((4 : Int) * i21)) + (2 : Int))).toNat (wrap .u8 (aW .u32 (z19.getD i21.toNat 0) (8 : Int)))).set (wrap .i64 ((wrap .i64 ((4 : Int) * i21)) + (3 : Int))).toNat (wrap .u8 (z19.getD i21.toNat 0))))] <
   aV.I2M [(D.N n0), (D.B b1), (D.Z z2), (D.V v3), (D.Z z4), (D.I i5), (D.I i21), (D.Z z22)]))))))))) := by
 obtain ⟨a1, a2, a3⟩ : 0 ≤ i21 ∧ i21 ≤ 8 ∧ z22.take (4 * i21.toNat) = jY ((bV (eff b1 z2) (rC z4 i5)).1.take i21.toNat) := h25
 have e0 : wrap .i64 ((4 : Int) * i21) = 4 * i21 := aH (by omega) (by omega)
 have e1 : wrap .i64 ((4 : Int) * i21 + 1) = 4 * i21 + 1 := aH (by omega) (by omega)
 have e2 : wrap .i64 ((4 : Int) * i21 + 2) = 4 * i21 + 2 := aH (by omega) (by omega)
 have e3 : wrap .i64 ((4 : Int) * i21 + 3) = 4 * i21 + 3 := aH (by omega) (by omega)
 have ei : wrap .i64 (i21 + 1) = i21 + 1 := aH (by omega) (by omega)
 rw [e0, e1, e2, e3, ei]
 refine ⟨a1, fun _ => ⟨by omega, fun _ => ⟨by omega, fun _ => ⟨by omega, fun _ => ⟨by omega, fun _ => ⟨by omega, fun _ => ⟨by omega, fun _ => ⟨by omega, fun _ => ⟨by omega, fun _ => ⟨⟨by omega, by omega, ?_⟩, ?_⟩⟩⟩⟩⟩⟩⟩⟩⟩⟩
 ·rw [show (i21 + 1).toNat = i21.toNat + 1 from by omega, show 4 * (i21.toNat + 1) = 4 * i21.toNat + 4 from by omega, show ((4 : Int) * i21).toNat = 4 * i21.toNat from by omega, show ((4 : Int) * i21 + 1).toNat = 4 * i21.toNat + 1 from by omega,
   show ((4 : Int) * i21 + 2).toNat = 4 * i21.toNat + 2 from by omega, show ((4 : Int) * i21 + 3).toNat = 4 * i21.toNat + 3 from by omega, set4 _ _ _ _ _ _ (by omega), a3, ← hF, aE2 (by omega), cJ3]
  rfl
 ·show (8 - (i21 + 1)).toNat < (8 - i21).toNat
  omega
theorem cB5 (hF : z19 = (bV (eff b1 z2) (rC z4 i5)).1) (h8 : z19.length = 8) (h23 : z22.length = 32) (h25 : aV.I2 [(D.N n0), (D.B b1), (D.Z z2), (D.V v3), (D.Z z4), (D.I i5), (D.I i21), (D.Z z22)]) (h26 : (8 : Int) ≤ i21) :
  aV.sig.post [(D.N n0), (D.B b1), (D.Z z2), (D.V v3), (D.Z z4), (D.I i5), (D.Z z22)] := by
 obtain ⟨a1, a2, a3⟩ : 0 ≤ i21 ∧ i21 ≤ 8 ∧ z22.take (4 * i21.toNat) = jY ((bV (eff b1 z2) (rC z4 i5)).1.take i21.toNat) := h25
 rw [show i21.toNat = 8 from by omega, ← hF, List.take_of_length_le (by omega), List.take_of_length_le (by omega), hF] at a3
 exact a3
end
theorem aV.pure : aV.Pure := by
 intro n0 b1 z2 v3 z4 i5 h1 h2 h3 h4 h5 n6 n7
 have hz : z4.length ≤ 1000000 := h5
 refine ⟨?_, ?_⟩
 ·intro h6 v8
  refine ⟨by rw [List.nil_append]; omega, fun h7 v9 v10 => ?_⟩
  refine ⟨by rw [List.nil_append, List.length_append]; simp only [List.length_cons, List.length_nil]; omega, fun h8 v11 => ?_⟩
  refine ⟨⟨0, Nat.zero_le _, by simp⟩, ?_⟩
  intro v12 z13 h9 h10
  refine ⟨fun h11 v14 => cB7 hz h10 h11 v14, ?_⟩
  intro h11
  refine ⟨trivial, ?_⟩
  intro i14 h12 h13
  refine ⟨trivial, ?_⟩
  intro s15 h14 h15
  obtain ⟨t1, t2, t3⟩ := cB8 hz h10 h11 h12 h14
  refine ⟨by omega, fun h16 v16 => ?_⟩
  refine ⟨⟨t2, by rw [t1, h6]; rfl⟩, ?_⟩
  intro v17 z18 z19 h17 h18 h19 h20
  refine ⟨fun h21 => ⟨aR7 h20 h21, aR7 h20 h21⟩, ?_⟩
  intro h21 n20
  have hF := cB4 h20 h21
  refine ⟨⟨by decide, by decide, by simp [jY]⟩, ?_⟩
  intro i21 z22 h22 h23 h24 h25
  exact ⟨fun h26 => cB6 hF h18 h23 h25 h26, fun h26 => cB5 hF h18 h23 h25 h26⟩
 ·intro h6 v8
  refine ⟨by rw [List.nil_append]; omega, fun h7 v9 v10 => ?_⟩
  refine ⟨by rw [List.nil_append, List.length_append]; simp only [List.length_cons, List.length_nil]; omega, fun h8 v11 => ?_⟩
  refine ⟨⟨0, Nat.zero_le _, by simp⟩, ?_⟩
  intro v12 z13 h9 h10
  refine ⟨fun h11 v14 => cB7 hz h10 h11 v14, ?_⟩
  intro h11
  refine ⟨trivial, ?_⟩
  intro i14 h12 h13
  refine ⟨trivial, ?_⟩
  intro s15 h14 h15
  obtain ⟨t1, t2, t3⟩ := cB8 hz h10 h11 h12 h14
  refine ⟨by omega, fun h16 v16 => ?_⟩
  refine ⟨⟨t2, by rw [t1, h6]; rfl⟩, ?_⟩
  intro v17 z18 z19 h17 h18 h19 h20
  refine ⟨fun h21 => ⟨aR7 h20 h21, aR7 h20 h21⟩, ?_⟩
  intro h21 n20
  have hF := cB4 h20 h21
  refine ⟨⟨by decide, by decide, by simp [jY]⟩, ?_⟩
  intro i21 z22 h22 h23 h24 h25
  exact ⟨fun h26 => cB6 hF h18 h23 h25 h26, fun h26 => cB5 hF h18 h23 h25 h26⟩
theorem HOf.pure : HOf.Pure := by
 intro s0 h1 h2 n1 v2 n3
 have h2 : s0.size ≤ 1000000 := h2
 refine ⟨⟨by simp, h2⟩, ?_⟩
 intro b4 z5 v6 z7 i8 h3 h4 h5 h6 h7
 obtain ⟨rfl, e, h8⟩ : b4 = true ∧ bV (eff false (List.replicate 8 0)) ([] ++ bytesOf s0) = (z5, z7) ∧ i8 = wrap .u64 (0 + wrap .u64 s0.size) := h3
 have e : bV dO (bytesOf s0) = (z5, z7) := e
 have hr : z7.length < 64 := by
  have := bW4 _ dO (bytesOf s0) (Nat.le_refl _)
  rw [e] at this; exact this
 refine ⟨(by omega : z7.length ≤ 1000000), ?_⟩
 intro z9 h9 h10 h11
 have h9 : z9 = hsum z5 z7 i8 := h9
 show z9 = iU (bytesOf s0)
 rw [h9, iU, e, h8, Int.zero_add, bytesOf_length']
end Go.Vc