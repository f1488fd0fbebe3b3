/-
  Contracts of the document's sums of 256 bits.
  Printed by wip/vct.py: the conditions of functions, by their contracts.
  The document's sums of 256 bits: the tables, the plain part.
  The document's sums of 256 bits: roots, tables, turns, the plain part.
-/
import Derived.Test.YtnnjpgenekgciaaDoorSha
import Derived.KernelRfl
set_option linter.unusedVariables false
set_option linter.unusedSimpArgs false
namespace Go.Vc
/-- The first 64 primes. -/
def primeL : List Int := [2, 3, 5, 7, 11, 13, 17, 19, 23, 29, 31, 37, 41, 43, 47, 53, 59, 61, 67, 71, 73, 79, 83, 89, 97, 101, 103, 107, 109, 113, 127, 131, 137, 139, 149, 151, 157, 163, 167, 173, 179, 181, 191, 193, 197, 199, 211, 223, 227, 229, 233, 239, 241, 251, 257, 263, 269, 271, 277, 281, 283, 293, 307, 311]
def below (p : Int) : List Int := primeL.filter (fun x => decide (x < p))
def rPrimes.pre : List D → Prop
  | [.I n] => n = 8 ∨ n = 64
  | _ => False
def rPrimes.post : List D → Prop
  | [.I n, .V _, .Z r] => r = primeL.take n.toNat
  | _ => False
def rPrimes.sig : Sig := sigF [.i .i64] [.z .u64] rPrimes.pre rPrimes.post
def rPrimes.I0 : List D → Prop
  | [.I n, .Z out, .I p] => 2 ≤ p ∧ p ≤ 400 ∧ out = below p ∧ out.length ≤ n
  | _ => False
def rPrimes.I0M : List D → Nat
  | [.I _, .Z _, .I p] => (400 - p).toNat
  | _ => 0
def rPrimes.I1 : List D → Prop
  | [.I _, .Z out, .I p, .B b, .I q] => 0 ≤ q ∧ b = (out.take q.toNat).all (fun x => decide (p % x ≠ 0))
  | _ => False
def rPrimes.I1M : List D → Nat
  | [.I _, .Z out, .I _, .B _, .I q] => (out.length - q).toNat
  | _ => 0
/-- The number of parts of 32 bits, the lowest first. -/
def valB : List Int → Int
  | [] => 0
  | d :: l => d + 4294967296 * valB l
def digs (l : List Int) : Prop := ∀ x ∈ l, 0 ≤ x ∧ x < 4294967296
def partB (x k : Int) : Int := if k ≤ 0 then 0 else if k = 1 then x % 4294967296 else x
def rTimes.pre : List D → Prop
  | [.Z a, .I x] => digs a ∧ valB a * x < 4294967296 ^ 8
  | _ => False
def rTimes.post : List D → Prop
  | [.Z a, .I x, .Z r] => digs r ∧ valB r = valB a * x
  | _ => False
def rTimes.sig : Sig := { args := [arr .u64 8 0, aI .u64 1], heap := [], srts := [.Z, .I], res := arr .u64 8 2, heap' := [], news := [.Z], pre := rTimes.pre, post := rTimes.post }
def rTimes.I0 : List D → Prop
  | [.Z a, .I x, .I i, .Z out] => 0 ≤ i ∧ i ≤ 8 ∧ digs out ∧ valB out = valB (a.take i.toNat) * x
  | _ => False
def rTimes.I0M : List D → Nat
  | [.Z _, .I _, .I i, .Z _] => (8 - i).toNat
  | _ => 0
def rTimes.I1 : List D → Prop
  | [.Z a, .I x, .I i, .I k, .Z out] => 0 ≤ k ∧ k ≤ 2 ∧ digs out ∧ valB out = valB (a.take i.toNat) * x + a.getD i.toNat 0 * 4294967296 ^ i.toNat * partB x k
  | _ => False
def rTimes.I1M : List D → Nat
  | [.Z _, .I _, .I _, .I k, .Z _] => (2 - k).toNat
  | _ => 0
def rTimes.I2 : List D → Prop
  | [.Z a, .I x, .I i, .I k, .I c, .I j, .Z out] => 0 ≤ j ∧ j ≤ 9 ∧ 0 ≤ c ∧ c ≤ 4294967295 * 4294967295 ∧ digs out ∧ valB out + c * 4294967296 ^ j.toNat = valB (a.take i.toNat) * x + a.getD i.toNat 0 * 4294967296 ^ i.toNat * partB x (k + 1)
  | _ => False
def rTimes.I2M : List D → Nat
  | [.Z _, .I _, .I _, .I _, .I _, .I j, .Z _] => (9 - j).toNat
  | _ => 0
def rOver.pre : List D → Prop
  | [.Z a, .I p, .I n] => digs a ∧ 0 ≤ p ∧ p < 4294967296 ∧ 0 ≤ n ∧ n < 8
  | _ => False
def rOver.post : List D → Prop
  | [.Z a, .I p, .I n, .B r] => r = decide (p * 4294967296 ^ n.toNat < valB a)
  | _ => False
def rOver.sig : Sig := { args := [arr .u64 8 0, aI .u64 1, aI .i64 2], heap := [], srts := [.Z, .I, .I], res := aB 3, heap' := [], news := [.B], pre := rOver.pre, post := rOver.post }
def rOver.I0 : List D → Prop
  | [.Z a, .I p, .I n, .I i] => -1 ≤ i ∧ i < 8 ∧ a.drop (i + 1).toNat = ((List.replicate 8 0).set n.toNat p).drop (i + 1).toNat
  | _ => False
def rOver.I0M : List D → Nat
  | [.Z _, .I _, .I _, .I i] => (i + 1).toNat
  | _ => 0
/-- The root, bit by bit. -/
def rootGo (p : Int) (d : Nat) : Nat → Int → Int
  | 0, x => x
  | k + 1, x => rootGo p d k (if p * 4294967296 ^ d < (x + 2 ^ k) ^ d then x else x + 2 ^ k)
def rootF (p : Int) (d : Nat) : Int := rootGo p d 36 0 % 4294967296
def rRoot.pre : List D → Prop
  | [.I p, .I d] => 2 ≤ p ∧ p ≤ 400 ∧ (d = 2 ∨ d = 3)
  | _ => False
def rRoot.post : List D → Prop
  | [.I p, .I d, .I r] => r = rootF p d.toNat
  | _ => False
def rRoot.sig : Sig := sigF [.i .u64, .i .i64] [.i .u32] rRoot.pre rRoot.post
def rRoot.I0 : List D → Prop
  | [.I p, .I d, .I x, .I bit] => ∃ k : Nat, k ≤ 36 ∧ bit = (if k = 0 then 0 else 2 ^ (k - 1)) ∧ 0 ≤ x ∧ x + 2 ^ k ≤ 2 ^ 36 ∧ rootGo p d.toNat k x = rootGo p d.toNat 36 0
  | _ => False
def rRoot.I0M : List D → Nat
  | [.I _, .I _, .I _, .I bit] => bit.toNat
  | _ => 0
def rRoot.I1 : List D → Prop
  | [.I _, .I d, .I x, .I bit, .I i, .Z a] => 0 ≤ i ∧ i ≤ d ∧ digs a ∧ valB a = (x + bit) ^ i.toNat
  | _ => False
def rRoot.I1M : List D → Nat
  | [.I _, .I d, .I _, .I _, .I i, .Z _] => (d - i).toNat
  | _ => 0
def rMade.post : List D → Prop
  | [.V _, .Z s, .V _, .Z k] => s = shaStart ∧ k = shaRounds
  | _ => False
def rMade.sig : Sig := { args := [], heap := [], srts := [], res := .one (.agg [.lf (.sl (.at 0)), .lf (.sl (.at 2))]), heap' := [.osl (.at 0) [.int .u32] (.at 1), .osl (.at 2) [.int .u32] (.at 3)], news := [.V, .Z, .V, .Z], pre := tru, post := rMade.post }
def rMade.I0 : List D → Prop
  | [.I i, .Z s, .Z k] => 0 ≤ i ∧ i ≤ 8 ∧ s = shaStart.take i.toNat ∧ k = []
  | _ => False
def rMade.I0M : List D → Nat
  | [.I i, .Z _, .Z _] => (8 - i).toNat
  | _ => 0
def rMade.I1 : List D → Prop
  | [.I i, .Z s, .Z k] => 0 ≤ i ∧ i ≤ 64 ∧ s = shaStart ∧ k = shaRounds.take i.toNat
  | _ => False
def rMade.I1M : List D → Nat
  | [.I i, .Z _, .Z _] => (64 - i).toNat
  | _ => 0
def turnGo (x : Int) : Nat → Int
  | 0 => x
  | n + 1 => turnGo x n / 2 + turnGo x n % 2 * 2147483648
def rTurn.pre : List D → Prop
  | [.I _, .I n] => 0 ≤ n ∧ n ≤ 32
  | _ => False
def rTurn.post : List D → Prop
  | [.I x, .I n, .I r] => r = turnGo x n.toNat
  | _ => False
def rTurn.sig : Sig := sigF [.i .u32, .i .i64] [.i .u32] rTurn.pre rTurn.post
def rTurn.I0 : List D → Prop
  | [.I x, .I n, .I y, .I i] => 0 ≤ i ∧ i ≤ n ∧ y = turnGo x i.toNat
  | _ => False
def rTurn.I0M : List D → Nat
  | [.I _, .I n, .I _, .I i] => (n - i).toNat
  | _ => 0
def rNot.post : List D → Prop
  | [.I x, .I r] => r = 4294967295 - x
  | _ => False
def rNot.sig : Sig := sigF [.i .u32] [.i .u32] tru rNot.post
def rMix.pre : List D → Prop
  | [.V _, .Z st, .V _, .Z k, .S s] => st.length = 8 ∧ k = shaRounds ∧ s.size = 64
  | _ => False
def rMix.post : List D → Prop
  | [.V _, .Z st, .V _, .Z _, .S s, .V _, .Z r] => r = mixL st (bytesOf s)
  | _ => False
def rMix.sig : Sig := sigF [.z .u32, .z .u32, .s] [.z .u32] rMix.pre rMix.post
def rMix.I0 : List D → Prop
  | [.V _, .Z _, .V _, .Z _, .S s, .Z w, .I i] => 0 ≤ i ∧ i ≤ 16 ∧ w = (schedW (bytesOf s)).take i.toNat
  | _ => False
def rMix.I0M : List D → Nat
  | [.V _, .Z _, .V _, .Z _, .S _, .Z _, .I i] => (16 - i).toNat
  | _ => 0
def rMix.I1 : List D → Prop
  | [.V _, .Z _, .V _, .Z _, .S s, .Z w, .I i] => 16 ≤ i ∧ i ≤ 64 ∧ w = (schedW (bytesOf s)).take i.toNat
  | _ => False
def rMix.I1M : List D → Nat
  | [.V _, .Z _, .V _, .Z _, .S _, .Z _, .I i] => (64 - i).toNat
  | _ => 0
def rMix.I2 : List D → Prop
  | [.V _, .Z st, .V _, .Z _, .S s, .Z v, .I i] => 0 ≤ i ∧ i ≤ 64 ∧ v = mixR st (schedW (bytesOf s)) i.toNat
  | _ => False
def rMix.I2M : List D → Nat
  | [.V _, .Z _, .V _, .Z _, .S _, .Z _, .I i] => (64 - i).toNat
  | _ => 0
def rMix.I3 : List D → Prop
  | [.V _, .Z st, .V _, .Z _, .S s, .I i, .Z v] => 0 ≤ i ∧ i ≤ 8 ∧ v = addS st (mixR st (schedW (bytesOf s)) 64) i.toNat
  | _ => False
def rMix.I3M : List D → Nat
  | [.V _, .Z _, .V _, .Z _, .S _, .I i, .Z _] => (8 - i).toNat
  | _ => 0
/-- All bytes, with what is behind them. -/
def bits8 (l : List Int) : Int := (l.length : Int) * 8
def fullB (l : List Int) : List Int := l ++ [128] ++ List.replicate (padK l.length) 0 ++ be8 (bits8 l)
def rOf.pre : List D → Prop
  | [.V _, .Z st, .V _, .Z k, .S s] => st = shaStart ∧ k = shaRounds ∧ s.size ≤ 1000000
  | _ => False
def rOf.post : List D → Prop
  | [.V _, .Z _, .V _, .Z _, .S s, .S r] => r = textOf (shaL (bytesOf s))
  | _ => False
def rOf.sig : Sig := { args := [.one (.agg [.lf (.sl (.at 0)), .lf (.sl (.at 2))]), aS 4], heap := [.rsl (.at 0) [.int .u32] (.at 1), .rsl (.at 2) [.int .u32] (.at 3)], srts := [.V, .Z, .V, .Z, .S], res := aS 5, heap' := [], news := [.S], pre := rOf.pre, post := rOf.post }
def rOf.I0 : List D → Prop
  | [.V _, .Z _, .V _, .Z _, .S s, .S t, .I i] => 0 ≤ i ∧ i ≤ padK s.size ∧ t = textOf (bytesOf s ++ [128] ++ List.replicate i.toNat 0)
  | _ => False
def rOf.I0M : List D → Nat
  | [.V _, .Z _, .V _, .Z _, .S _, .S _, .I i] => (64 - i).toNat
  | _ => 0
def rOf.I1 : List D → Prop
  | [.V _, .Z _, .V _, .Z _, .S s, .I b, .S n, .I i] => 0 ≤ i ∧ i ≤ 8 ∧ b = (s.size : Int) * 8 / 256 ^ i.toNat ∧ n = textOf (bytesLE ((s.size : Int) * 8) i.toNat).reverse
  | _ => False
def rOf.I1M : List D → Nat
  | [.V _, .Z _, .V _, .Z _, .S _, .I _, .S _, .I i] => (8 - i).toNat
  | _ => 0
def rOf.I2 : List D → Prop
  | [.V _, .Z _, .V _, .Z _, .S s, .Z st, .I i] => 0 ≤ i ∧ i % 64 = 0 ∧ i ≤ (fullB (bytesOf s)).length ∧ st.length = 8 ∧ (eatL st ((fullB (bytesOf s)).drop i.toNat)).1 = (eatL shaStart (fullB (bytesOf s))).1
  | _ => False
def rOf.I2M : List D → Nat
  | [.V _, .Z _, .V _, .Z _, .S s, .Z _, .I i] => ((fullB (bytesOf s)).length - i).toNat
  | _ => 0
def rOf.I3 : List D → Prop
  | [.V _, .Z _, .V _, .Z _, .S s, .S out, .I i] => 0 ≤ i ∧ i ≤ 8 ∧ out = textOf (outB ((eatL shaStart (fullB (bytesOf s))).1.take i.toNat))
  | _ => False
def rOf.I3M : List D → Nat
  | [.V _, .Z _, .V _, .Z _, .S _, .S _, .I i] => (8 - i).toNat
  | _ => 0
end Go.Vc
namespace Go.Vc
set_option linter.unusedVariables false
def rPrimes.vc : VC :=
 (.all .I
 (.know (.has .i64 (.at 0))
 (.post 0 [(.at 0)]
 (.all .V
 (.all .V
 (.inv 0 [(.at 0), (.lis []), (.int 2)]
 (.all .V
 (.all .Z
 (.all .I
 (.know (.has .u64 (.at 5))
 (.know (.allHas .u64 (.at 4))
 (.asm 0 [(.at 0), (.at 4), (.at 5)]
 (.and
 (.imp (.o2 .lt (.at 5) (.int 400)) true
 (.and
 (.imp (.o2 .lt (.o1 .lilen (.at 4)) (.at 0)) true
 (.inv 1 [(.at 0), (.at 4), (.at 5), (.bool true), (.int 0)]
 (.all .B
 (.all .I
 (.know (.has .i64 (.at 7))
 (.asm 1 [(.at 0), (.at 4), (.at 5), (.at 6), (.at 7)]
 (.and
 (.imp (.o2 .lt (.at 7) (.o1 .lilen (.at 4))) true
 (.obl (.o2 .le (.int 0) (.at 7))
 (.obl (.o1 .not (.o2 .eq (.o2 .liget (.at 4) (.at 7)) (.int 0)))
 (.and
 (.imp (.o2 .eq (.o2 .rem (.at 5) (.o2 .liget (.at 4) (.at 7))) (.int 0)) true
 (.back 1 [(.at 0), (.at 4), (.at 5), (.at 6), (.at 7)] [(.at 0), (.at 4), (.at 5), (.bool false), (.o2 (.add .i64) (.at 7) (.int 1))]))
 (.imp (.o2 .eq (.o2 .rem (.at 5) (.o2 .liget (.at 4) (.at 7))) (.int 0)) false
 (.back 1 [(.at 0), (.at 4), (.at 5), (.at 6), (.at 7)] [(.at 0), (.at 4), (.at 5), (.at 6), (.o2 (.add .i64) (.at 7) (.int 1))]))))))
 (.imp (.o2 .lt (.at 7) (.o1 .lilen (.at 4))) false
 (.and
 (.imp (.at 6) true
 (.all .V
 (.obl (.o2 .le (.o1 .lilen (.o2 .liapp (.at 4) (.o2 .licons (.at 5) (.lis [])))) (.int 17592186044416))
 (.all .V
 (.back 0 [(.at 0), (.at 4), (.at 5)] [(.at 0), (.o2 .liapp (.at 4) (.o2 .licons (.at 5) (.lis []))), (.o2 (.add .u64) (.at 5) (.int 1))])))))
 (.imp (.at 6) false
 (.back 0 [(.at 0), (.at 4), (.at 5)] [(.at 0), (.at 4), (.o2 (.add .u64) (.at 5) (.int 1))])))))))))))
 (.imp (.o2 .lt (.o1 .lilen (.at 4)) (.at 0)) false
 (.ret [(.at 0), (.at 3), (.at 4)]))))
 (.imp (.o2 .lt (.at 5) (.int 400)) false
 (.ret [(.at 0), (.at 3), (.at 4)])))))))))))))))
def rPrimes.Pure : Prop :=
 ∀ (i0 : Int),
 (-9223372036854775808 ≤ i0 ∧ i0 < 9223372036854775808) →
 rPrimes.sig.pre [(D.I i0)] →
 ∀ (v1 : Value),
 ∀ (v2 : Value),
 rPrimes.I0 [(D.I i0), (D.Z ([] : List Int)), (D.I (2 : Int))] ∧ (
 ∀ (v3 : Value),
 ∀ (z4 : List Int),
 ∀ (i5 : Int),
 (0 ≤ i5 ∧ i5 < 18446744073709551616) →
 (∀ x ∈ z4, IntKind.has .u64 x) →
 rPrimes.I0 [(D.I i0), (D.Z z4), (D.I i5)] →
 ((
 (i5 < (400 : Int)) →
 ((
 (((z4.length : Nat) : Int) < i0) →
   rPrimes.I1 [(D.I i0), (D.Z z4), (D.I i5), (D.B true), (D.I (0 : Int))] ∧ (
 ∀ (b6 : Bool),
 ∀ (i7 : Int),
 (-9223372036854775808 ≤ i7 ∧ i7 < 9223372036854775808) →
   rPrimes.I1 [(D.I i0), (D.Z z4), (D.I i5), (D.B b6), (D.I i7)] →
 ((
 (i7 < ((z4.length : Nat) : Int)) →
 ((0 : Int) ≤ i7) ∧ (((0 : Int) ≤ i7) →
 ((z4.getD i7.toNat 0) ≠ (0 : Int)) ∧ (((z4.getD i7.toNat 0) ≠ (0 : Int)) →
 ((
 ((Int.tmod i5 (z4.getD i7.toNat 0)) = (0 : Int)) →
     rPrimes.I1 [(D.I i0), (D.Z z4), (D.I i5), (D.B false), (D.I (IntKind.wrap .i64 (i7 + (1 : Int))))] ∧ rPrimes.I1M [(D.I i0), (D.Z z4), (D.I i5), (D.B false), (D.I (IntKind.wrap .i64 (i7 + (1 : Int))))] < rPrimes.I1M [(D.I i0), (D.Z z4), (D.I i5), (D.B b6), (D.I i7)]) ∧ (
 ((Int.tmod i5 (z4.getD i7.toNat 0)) ≠ (0 : Int)) →
     rPrimes.I1 [(D.I i0), (D.Z z4), (D.I i5), (D.B b6), (D.I (IntKind.wrap .i64 (i7 + (1 : Int))))] ∧ rPrimes.I1M [(D.I i0), (D.Z z4), (D.I i5), (D.B b6), (D.I (IntKind.wrap .i64 (i7 + (1 : Int))))] < rPrimes.I1M [(D.I i0), (D.Z z4), (D.I i5), (D.B b6), (D.I i7)]))))) ∧ (
 (((z4.length : Nat) : Int) ≤ i7) →
 ((
 (b6 = true) →
 ∀ (v8 : Value),
 ((((z4 ++ (i5 :: ([] : List Int))).length : Nat) : Int) ≤ (17592186044416 : Int)) ∧ (((((z4 ++ (i5 :: ([] : List Int))).length : Nat) : Int) ≤ (17592186044416 : Int)) →
 ∀ (v9 : Value),
     rPrimes.I0 [(D.I i0), (D.Z (z4 ++ (i5 :: ([] : List Int)))), (D.I (IntKind.wrap .u64 (i5 + (1 : Int))))] ∧ rPrimes.I0M [(D.I i0), (D.Z (z4 ++ (i5 :: ([] : List Int)))), (D.I (IntKind.wrap .u64 (i5 + (1 : Int))))] < rPrimes.I0M [(D.I i0), (D.Z z4), (D.I i5)])) ∧ (
 (b6 = false) →
     rPrimes.I0 [(D.I i0), (D.Z z4), (D.I (IntKind.wrap .u64 (i5 + (1 : Int))))] ∧ rPrimes.I0M [(D.I i0), (D.Z z4), (D.I (IntKind.wrap .u64 (i5 + (1 : Int))))] < rPrimes.I0M [(D.I i0), (D.Z z4), (D.I i5)])))))) ∧ (
 (i0 ≤ ((z4.length : Nat) : Int)) →
   rPrimes.sig.post [(D.I i0), (D.V v3), (D.Z z4)]))) ∧ (
 ((400 : Int) ≤ i5) →
  rPrimes.sig.post [(D.I i0), (D.V v3), (D.Z z4)])))
theorem rPrimes.den : rPrimes.vc.den2 (mkEnv rPrimes.sig [] [(rPrimes.I0, rPrimes.I0M), (rPrimes.I1, rPrimes.I1M)]) [] = rPrimes.Pure := by kernel_rfl
def rTimes.vc : VC :=
 (.all .Z
 (.all .I
 (.know (.len (.at 0) 8)
 (.know (.allHas .u64 (.at 0))
 (.know (.has .u64 (.at 1))
 (.post 0 [(.at 0), (.at 1)]
 (.all .N
 (.all .N
 (.all .N
 (.inv 0 [(.at 0), (.at 1), (.int 0), (.o2 .lirep (.int 8) (.int 0))]
 (.all .I
 (.all .Z
 (.know (.has .i64 (.at 5))
 (.know (.len (.at 6) 8)
 (.know (.allHas .u64 (.at 6))
 (.asm 0 [(.at 0), (.at 1), (.at 5), (.at 6)]
 (.and
 (.imp (.o2 .lt (.at 5) (.int 8)) true
 (.obl (.o2 .le (.int 0) (.at 5))
 (.all .V
 (.inv 1 [(.at 0), (.at 1), (.at 5), (.int 0), (.at 6)]
 (.all .I
 (.all .Z
 (.know (.has .i64 (.at 8))
 (.know (.len (.at 9) 8)
 (.know (.allHas .u64 (.at 9))
 (.asm 1 [(.at 0), (.at 1), (.at 5), (.at 8), (.at 9)]
 (.and
 (.imp (.o2 .lt (.at 8) (.o1 .lilen (.o2 .licons (.o2 .rem (.at 1) (.int 4294967296)) (.o2 .licons (.o2 (.quo .u64) (.at 1) (.int 4294967296)) (.lis []))))) true
 (.obl (.o2 .le (.int 0) (.at 8))
 (.inv 2 [(.at 0), (.at 1), (.at 5), (.at 8), (.o2 (.mul .u64) (.o2 .liget (.at 0) (.at 5)) (.o2 .liget (.o2 .licons (.o2 .rem (.at 1) (.int 4294967296)) (.o2 .licons (.o2 (.quo .u64) (.at 1) (.int 4294967296)) (.lis []))) (.at 8))), (.o2 (.add .i64) (.at 5) (.at 8)), (.at 9)]
 (.all .I
 (.all .I
 (.all .Z
 (.know (.has .u64 (.at 10))
 (.know (.has .i64 (.at 11))
 (.know (.len (.at 12) 8)
 (.know (.allHas .u64 (.at 12))
 (.asm 2 [(.at 0), (.at 1), (.at 5), (.at 8), (.at 10), (.at 11), (.at 12)]
 (.and
 (.imp (.o2 .lt (.at 11) (.int 8)) true
 (.and
 (.imp (.o2 .lt (.int 0) (.at 10)) true
 (.obl (.o2 .le (.int 0) (.at 11))
 (.back 2 [(.at 0), (.at 1), (.at 5), (.at 8), (.at 10), (.at 11), (.at 12)] [(.at 0), (.at 1), (.at 5), (.at 8), (.o2 (.add .u64) (.o2 (.quo .u64) (.at 10) (.int 4294967296)) (.o2 (.quo .u64) (.o2 .liget (.o3 .liset (.at 12) (.at 11) (.o2 (.add .u64) (.o2 .liget (.at 12) (.at 11)) (.o2 .rem (.at 10) (.int 4294967296)))) (.at 11)) (.int 4294967296))), (.o2 (.add .i64) (.at 11) (.int 1)), (.o3 .liset (.o3 .liset (.at 12) (.at 11) (.o2 (.add .u64) (.o2 .liget (.at 12) (.at 11)) (.o2 .rem (.at 10) (.int 4294967296)))) (.at 11) (.o2 .rem (.o2 .liget (.o3 .liset (.at 12) (.at 11) (.o2 (.add .u64) (.o2 .liget (.at 12) (.at 11)) (.o2 .rem (.at 10) (.int 4294967296)))) (.at 11)) (.int 4294967296)))])))
 (.imp (.o2 .lt (.int 0) (.at 10)) false
 (.back 1 [(.at 0), (.at 1), (.at 5), (.at 8), (.at 9)] [(.at 0), (.at 1), (.at 5), (.o2 (.add .i64) (.at 8) (.int 1)), (.at 12)]))))
 (.imp (.o2 .lt (.at 11) (.int 8)) false
 (.back 1 [(.at 0), (.at 1), (.at 5), (.at 8), (.at 9)] [(.at 0), (.at 1), (.at 5), (.o2 (.add .i64) (.at 8) (.int 1)), (.at 12)]))))))))))))))
 (.imp (.o2 .lt (.at 8) (.o1 .lilen (.o2 .licons (.o2 .rem (.at 1) (.int 4294967296)) (.o2 .licons (.o2 (.quo .u64) (.at 1) (.int 4294967296)) (.lis []))))) false
 (.back 0 [(.at 0), (.at 1), (.at 5), (.at 6)] [(.at 0), (.at 1), (.o2 (.add .i64) (.at 5) (.int 1)), (.at 9)])))))))))))))
 (.imp (.o2 .lt (.at 5) (.int 8)) false
 (.ret [(.at 0), (.at 1), (.at 6)])))))))))))))))))))
def rTimes.Pure : Prop :=
 ∀ (z0 : List Int),
 ∀ (i1 : Int),
 (z0.length = 8) →
 (∀ x ∈ z0, IntKind.has .u64 x) →
 (0 ≤ i1 ∧ i1 < 18446744073709551616) →
 rTimes.sig.pre [(D.Z z0), (D.I i1)] →
 ∀ (n2 : Nat),
 ∀ (n3 : Nat),
 ∀ (n4 : Nat),
 rTimes.I0 [(D.Z z0), (D.I i1), (D.I (0 : Int)), (D.Z (List.replicate (8 : Int).toNat (0 : Int)))] ∧ (
 ∀ (i5 : Int),
 ∀ (z6 : List Int),
 (-9223372036854775808 ≤ i5 ∧ i5 < 9223372036854775808) →
 (z6.length = 8) →
 (∀ x ∈ z6, IntKind.has .u64 x) →
 rTimes.I0 [(D.Z z0), (D.I i1), (D.I i5), (D.Z z6)] →
 ((
 (i5 < (8 : Int)) →
 ((0 : Int) ≤ i5) ∧ (((0 : Int) ≤ i5) →
 ∀ (v7 : Value),
  rTimes.I1 [(D.Z z0), (D.I i1), (D.I i5), (D.I (0 : Int)), (D.Z z6)] ∧ (
 ∀ (i8 : Int),
 ∀ (z9 : List Int),
 (-9223372036854775808 ≤ i8 ∧ i8 < 9223372036854775808) →
 (z9.length = 8) →
 (∀ x ∈ z9, IntKind.has .u64 x) →
  rTimes.I1 [(D.Z z0), (D.I i1), (D.I i5), (D.I i8), (D.Z z9)] →
 ((
 (i8 < ((((Int.tmod i1 (4294967296 : Int)) :: ((IntKind.wrap .u64 (Int.tdiv i1 (4294967296 : Int))) :: ([] : List Int))).length : Nat) : Int)) →
 ((0 : Int) ≤ i8) ∧ (((0 : Int) ≤ i8) →
   rTimes.I2 [(D.Z z0), (D.I i1), (D.I i5), (D.I i8), (D.I (IntKind.wrap .u64 ((z0.getD i5.toNat 0) * (((Int.tmod i1 (4294967296 : Int)) :: ((IntKind.wrap .u64 (Int.tdiv i1 (4294967296 : Int))) :: ([] : List Int))).getD i8.toNat 0)))), (D.I (IntKind.wrap .i64 (i5 + i8))), (D.Z z9)] ∧ (
 ∀ (i10 : Int),
 ∀ (i11 : Int),
 ∀ (z12 : List Int),
 (0 ≤ i10 ∧ i10 < 18446744073709551616) →
 (-9223372036854775808 ≤ i11 ∧ i11 < 9223372036854775808) →
 (z12.length = 8) →
 (∀ x ∈ z12, IntKind.has .u64 x) →
   rTimes.I2 [(D.Z z0), (D.I i1), (D.I i5), (D.I i8), (D.I i10), (D.I i11), (D.Z z12)] →
 ((
 (i11 < (8 : Int)) →
 ((
 ((0 : Int) < i10) →
 ((0 : Int) ≤ i11) ∧ (((0 : Int) ≤ i11) →
     rTimes.I2 [(D.Z z0), (D.I i1), (D.I i5), (D.I i8), (D.I (IntKind.wrap .u64 ((IntKind.wrap .u64 (Int.tdiv i10 (4294967296 : Int))) + (IntKind.wrap .u64 (Int.tdiv ((z12.set i11.toNat (IntKind.wrap .u64 ((z12.getD i11.toNat 0) + (Int.tmod i10 (4294967296 : Int))))).getD i11.toNat 0) (4294967296 : Int)))))), (D.I (IntKind.wrap .i64 (i11 + (1 : Int)))), (D.Z ((z12.set i11.toNat (IntKind.wrap .u64 ((z12.getD i11.toNat 0) + (Int.tmod i10 (4294967296 : Int))))).set i11.toNat (Int.tmod ((z12.set i11.toNat (IntKind.wrap .u64 ((z12.getD i11.toNat 0) + (Int.tmod i10 (4294967296 : Int))))).getD i11.toNat 0) (4294967296 : Int))))] ∧ rTimes.I2M [(D.Z z0), (D.I i1), (D.I i5), (D.I i8), (D.I (IntKind.wrap .u64 ((IntKind.wrap .u64 (Int.tdiv i10 (4294967296 : Int))) + (IntKind.wrap .u64 (Int.tdiv ((z12.set i11.toNat (IntKind.wrap .u64 ((z12.getD i11.toNat 0) + (Int.tmod i10 (4294967296 : Int))))).getD i11.toNat 0) (4294967296 : Int)))))), (D.I (IntKind.wrap .i64 (i11 + (1 : Int)))), (D.Z ((z12.set i11.toNat (IntKind.wrap .u64 ((z12.getD i11.toNat 0) + (Int.tmod i10 (4294967296 : Int))))).set i11.toNat (Int.tmod ((z12.set i11.toNat (IntKind.wrap .u64 ((z12.getD i11.toNat 0) + (Int.tmod i10 (4294967296 : Int))))).getD i11.toNat 0) (4294967296 : Int))))] < rTimes.I2M [(D.Z z0), (D.I i1), (D.I i5), (D.I i8), (D.I i10), (D.I i11), (D.Z z12)])) ∧ (
 (i10 ≤ (0 : Int)) →
     rTimes.I1 [(D.Z z0), (D.I i1), (D.I i5), (D.I (IntKind.wrap .i64 (i8 + (1 : Int)))), (D.Z z12)] ∧ rTimes.I1M [(D.Z z0), (D.I i1), (D.I i5), (D.I (IntKind.wrap .i64 (i8 + (1 : Int)))), (D.Z z12)] < rTimes.I1M [(D.Z z0), (D.I i1), (D.I i5), (D.I i8), (D.Z z9)]))) ∧ (
 ((8 : Int) ≤ i11) →
    rTimes.I1 [(D.Z z0), (D.I i1), (D.I i5), (D.I (IntKind.wrap .i64 (i8 + (1 : Int)))), (D.Z z12)] ∧ rTimes.I1M [(D.Z z0), (D.I i1), (D.I i5), (D.I (IntKind.wrap .i64 (i8 + (1 : Int)))), (D.Z z12)] < rTimes.I1M [(D.Z z0), (D.I i1), (D.I i5), (D.I i8), (D.Z z9)]))))) ∧ (
 (((((Int.tmod i1 (4294967296 : Int)) :: ((IntKind.wrap .u64 (Int.tdiv i1 (4294967296 : Int))) :: ([] : List Int))).length : Nat) : Int) ≤ i8) →
   rTimes.I0 [(D.Z z0), (D.I i1), (D.I (IntKind.wrap .i64 (i5 + (1 : Int)))), (D.Z z9)] ∧ rTimes.I0M [(D.Z z0), (D.I i1), (D.I (IntKind.wrap .i64 (i5 + (1 : Int)))), (D.Z z9)] < rTimes.I0M [(D.Z z0), (D.I i1), (D.I i5), (D.Z z6)]))))) ∧ (
 ((8 : Int) ≤ i5) →
  rTimes.sig.post [(D.Z z0), (D.I i1), (D.Z z6)])))
theorem rTimes.den : rTimes.vc.den2 (mkEnv rTimes.sig [] [(rTimes.I0, rTimes.I0M), (rTimes.I1, rTimes.I1M), (rTimes.I2, rTimes.I2M)]) [] = rTimes.Pure := by kernel_rfl
def rOver.vc : VC :=
 (.all .Z
 (.all .I
 (.all .I
 (.know (.len (.at 0) 8)
 (.know (.allHas .u64 (.at 0))
 (.know (.has .u64 (.at 1))
 (.know (.has .i64 (.at 2))
 (.post 0 [(.at 0), (.at 1), (.at 2)]
 (.all .N
 (.all .N
 (.obl (.o2 .le (.int 0) (.at 2))
 (.obl (.o2 .lt (.at 2) (.int 8))
 (.inv 0 [(.at 0), (.at 1), (.at 2), (.int 7)]
 (.all .I
 (.know (.has .i64 (.at 5))
 (.asm 0 [(.at 0), (.at 1), (.at 2), (.at 5)]
 (.and
 (.imp (.o2 .le (.int 0) (.at 5)) true
 (.obl (.o2 .lt (.at 5) (.int 8))
 (.and
 (.imp (.o1 .not (.o2 .eq (.o2 .liget (.at 0) (.at 5)) (.o2 .liget (.o3 .liset (.o2 .lirep (.int 8) (.int 0)) (.at 2) (.at 1)) (.at 5)))) true
 (.ret [(.at 0), (.at 1), (.at 2), (.o2 .lt (.o2 .liget (.o3 .liset (.o2 .lirep (.int 8) (.int 0)) (.at 2) (.at 1)) (.at 5)) (.o2 .liget (.at 0) (.at 5)))]))
 (.imp (.o1 .not (.o2 .eq (.o2 .liget (.at 0) (.at 5)) (.o2 .liget (.o3 .liset (.o2 .lirep (.int 8) (.int 0)) (.at 2) (.at 1)) (.at 5)))) false
 (.back 0 [(.at 0), (.at 1), (.at 2), (.at 5)] [(.at 0), (.at 1), (.at 2), (.o2 (.sub .i64) (.at 5) (.int 1))])))))
 (.imp (.o2 .le (.int 0) (.at 5)) false
 (.ret [(.at 0), (.at 1), (.at 2), (.bool false)])))))))))))))))))))
def rOver.Pure : Prop :=
 ∀ (z0 : List Int),
 ∀ (i1 : Int),
 ∀ (i2 : Int),
 (z0.length = 8) →
 (∀ x ∈ z0, IntKind.has .u64 x) →
 (0 ≤ i1 ∧ i1 < 18446744073709551616) →
 (-9223372036854775808 ≤ i2 ∧ i2 < 9223372036854775808) →
 rOver.sig.pre [(D.Z z0), (D.I i1), (D.I i2)] →
 ∀ (n3 : Nat),
 ∀ (n4 : Nat),
 ((0 : Int) ≤ i2) ∧ (((0 : Int) ≤ i2) →
 (i2 < (8 : Int)) ∧ ((i2 < (8 : Int)) →
 rOver.I0 [(D.Z z0), (D.I i1), (D.I i2), (D.I (7 : Int))] ∧ (
 ∀ (i5 : Int),
 (-9223372036854775808 ≤ i5 ∧ i5 < 9223372036854775808) →
 rOver.I0 [(D.Z z0), (D.I i1), (D.I i2), (D.I i5)] →
 ((
 ((0 : Int) ≤ i5) →
 (i5 < (8 : Int)) ∧ ((i5 < (8 : Int)) →
 ((
 ((z0.getD i5.toNat 0) ≠ (((List.replicate (8 : Int).toNat (0 : Int)).set i2.toNat i1).getD i5.toNat 0)) →
   rOver.sig.post [(D.Z z0), (D.I i1), (D.I i2), (D.B (decide ((((List.replicate (8 : Int).toNat (0 : Int)).set i2.toNat i1).getD i5.toNat 0) < (z0.getD i5.toNat 0))))]) ∧ (
 ((z0.getD i5.toNat 0) = (((List.replicate (8 : Int).toNat (0 : Int)).set i2.toNat i1).getD i5.toNat 0)) →
   rOver.I0 [(D.Z z0), (D.I i1), (D.I i2), (D.I (IntKind.wrap .i64 (i5 - (1 : Int))))] ∧ rOver.I0M [(D.Z z0), (D.I i1), (D.I i2), (D.I (IntKind.wrap .i64 (i5 - (1 : Int))))] < rOver.I0M [(D.Z z0), (D.I i1), (D.I i2), (D.I i5)])))) ∧ (
 (i5 < (0 : Int)) →
  rOver.sig.post [(D.Z z0), (D.I i1), (D.I i2), (D.B false)])))))
theorem rOver.den : rOver.vc.den2 (mkEnv rOver.sig [] [(rOver.I0, rOver.I0M)]) [] = rOver.Pure := by kernel_rfl
def rRoot.vc : VC :=
 (.all .I
 (.all .I
 (.know (.has .u64 (.at 0))
 (.know (.has .i64 (.at 1))
 (.post 0 [(.at 0), (.at 1)]
 (.inv 0 [(.at 0), (.at 1), (.int 0), (.int 34359738368)]
 (.all .I
 (.all .I
 (.know (.has .u64 (.at 2))
 (.know (.has .u64 (.at 3))
 (.asm 0 [(.at 0), (.at 1), (.at 2), (.at 3)]
 (.and
 (.imp (.o2 .lt (.int 0) (.at 3)) true
 (.all .N
 (.inv 1 [(.at 0), (.at 1), (.at 2), (.at 3), (.int 0), (.o3 .liset (.o2 .lirep (.int 8) (.int 0)) (.int 0) (.int 1))]
 (.all .I
 (.all .Z
 (.know (.has .i64 (.at 5))
 (.know (.len (.at 6) 8)
 (.know (.allHas .u64 (.at 6))
 (.asm 1 [(.at 0), (.at 1), (.at 2), (.at 3), (.at 5), (.at 6)]
 (.and
 (.imp (.o2 .lt (.at 5) (.at 1)) true
 (.pre 1 [(.at 6), (.o2 (.add .u64) (.at 2) (.at 3))]
 (.all .Z
 (.post 1 [(.at 6), (.o2 (.add .u64) (.at 2) (.at 3)), (.at 7)]
 (.know (.len (.at 7) 8)
 (.know (.allHas .u64 (.at 7))
 (.back 1 [(.at 0), (.at 1), (.at 2), (.at 3), (.at 5), (.at 6)] [(.at 0), (.at 1), (.at 2), (.at 3), (.o2 (.add .i64) (.at 5) (.int 1)), (.at 7)])))))))
 (.imp (.o2 .lt (.at 5) (.at 1)) false
 (.pre 2 [(.at 6), (.at 0), (.at 1)]
 (.all .B
 (.post 2 [(.at 6), (.at 0), (.at 1), (.at 7)]
 (.and
 (.imp (.o1 .not (.at 7)) true
 (.back 0 [(.at 0), (.at 1), (.at 2), (.at 3)] [(.at 0), (.at 1), (.o2 (.add .u64) (.at 2) (.at 3)), (.o2 (.quo .u64) (.at 3) (.int 2))]))
 (.imp (.o1 .not (.at 7)) false
 (.back 0 [(.at 0), (.at 1), (.at 2), (.at 3)] [(.at 0), (.at 1), (.at 2), (.o2 (.quo .u64) (.at 3) (.int 2))])))))))))))))))))
 (.imp (.o2 .lt (.int 0) (.at 3)) false
 (.ret [(.at 0), (.at 1), (.o1 (.wrap .u32) (.o2 .rem (.at 2) (.int 4294967296)))]))))))))))))))
def rRoot.Pure : Prop :=
 ∀ (i0 : Int),
 ∀ (i1 : Int),
 (0 ≤ i0 ∧ i0 < 18446744073709551616) →
 (-9223372036854775808 ≤ i1 ∧ i1 < 9223372036854775808) →
 rRoot.sig.pre [(D.I i0), (D.I i1)] →
 rRoot.I0 [(D.I i0), (D.I i1), (D.I (0 : Int)), (D.I (34359738368 : Int))] ∧ (
 ∀ (i2 : Int),
 ∀ (i3 : Int),
 (0 ≤ i2 ∧ i2 < 18446744073709551616) →
 (0 ≤ i3 ∧ i3 < 18446744073709551616) →
 rRoot.I0 [(D.I i0), (D.I i1), (D.I i2), (D.I i3)] →
 ((
 ((0 : Int) < i3) →
 ∀ (n4 : Nat),
  rRoot.I1 [(D.I i0), (D.I i1), (D.I i2), (D.I i3), (D.I (0 : Int)), (D.Z ((List.replicate (8 : Int).toNat (0 : Int)).set (0 : Int).toNat (1 : Int)))] ∧ (
 ∀ (i5 : Int),
 ∀ (z6 : List Int),
 (-9223372036854775808 ≤ i5 ∧ i5 < 9223372036854775808) →
 (z6.length = 8) →
 (∀ x ∈ z6, IntKind.has .u64 x) →
  rRoot.I1 [(D.I i0), (D.I i1), (D.I i2), (D.I i3), (D.I i5), (D.Z z6)] →
 ((
 (i5 < i1) →
   rTimes.sig.pre [(D.Z z6), (D.I (IntKind.wrap .u64 (i2 + i3)))] ∧ (
 ∀ (z7 : List Int),
   rTimes.sig.post [(D.Z z6), (D.I (IntKind.wrap .u64 (i2 + i3))), (D.Z z7)] →
 (z7.length = 8) →
 (∀ x ∈ z7, IntKind.has .u64 x) →
   rRoot.I1 [(D.I i0), (D.I i1), (D.I i2), (D.I i3), (D.I (IntKind.wrap .i64 (i5 + (1 : Int)))), (D.Z z7)] ∧ rRoot.I1M [(D.I i0), (D.I i1), (D.I i2), (D.I i3), (D.I (IntKind.wrap .i64 (i5 + (1 : Int)))), (D.Z z7)] < rRoot.I1M [(D.I i0), (D.I i1), (D.I i2), (D.I i3), (D.I i5), (D.Z z6)])) ∧ (
 (i1 ≤ i5) →
   rOver.sig.pre [(D.Z z6), (D.I i0), (D.I i1)] ∧ (
 ∀ (b7 : Bool),
   rOver.sig.post [(D.Z z6), (D.I i0), (D.I i1), (D.B b7)] →
 ((
 (b7 = false) →
    rRoot.I0 [(D.I i0), (D.I i1), (D.I (IntKind.wrap .u64 (i2 + i3))), (D.I (IntKind.wrap .u64 (Int.tdiv i3 (2 : Int))))] ∧ rRoot.I0M [(D.I i0), (D.I i1), (D.I (IntKind.wrap .u64 (i2 + i3))), (D.I (IntKind.wrap .u64 (Int.tdiv i3 (2 : Int))))] < rRoot.I0M [(D.I i0), (D.I i1), (D.I i2), (D.I i3)]) ∧ (
 (b7 = true) →
    rRoot.I0 [(D.I i0), (D.I i1), (D.I i2), (D.I (IntKind.wrap .u64 (Int.tdiv i3 (2 : Int))))] ∧ rRoot.I0M [(D.I i0), (D.I i1), (D.I i2), (D.I (IntKind.wrap .u64 (Int.tdiv i3 (2 : Int))))] < rRoot.I0M [(D.I i0), (D.I i1), (D.I i2), (D.I i3)]))))))) ∧ (
 (i3 ≤ (0 : Int)) →
  rRoot.sig.post [(D.I i0), (D.I i1), (D.I (IntKind.wrap .u32 (Int.tmod i2 (4294967296 : Int))))])))
theorem rRoot.den : rRoot.vc.den2 (mkEnv rRoot.sig [rTimes.sig, rOver.sig] [(rRoot.I0, rRoot.I0M), (rRoot.I1, rRoot.I1M)]) [] = rRoot.Pure := by kernel_rfl
def rMade.vc : VC :=
 (.post 0 []
 (.all .V
 (.all .V
 (.all .N
 (.all .V
 (.all .V
 (.all .N
 (.all .V
 (.all .V
 (.pre 1 [(.int 8)]
 (.all .V
 (.all .Z
 (.post 1 [(.int 8), (.at 8), (.at 9)]
 (.know (.allHas .u64 (.at 9))
 (.inv 0 [(.int 0), (.lis []), (.lis [])]
 (.all .I
 (.all .V
 (.all .Z
 (.all .V
 (.all .Z
 (.know (.has .i64 (.at 10))
 (.know (.allHas .u32 (.at 14))
 (.know (.allHas .u32 (.at 12))
 (.asm 0 [(.at 10), (.at 12), (.at 14)]
 (.and
 (.imp (.o2 .lt (.at 10) (.o1 .lilen (.at 9))) true
 (.obl (.o2 .le (.int 0) (.at 10))
 (.and
 (.pre 2 [(.o2 .liget (.at 9) (.at 10)), (.int 2)]
 (.all .I
 (.post 2 [(.o2 .liget (.at 9) (.at 10)), (.int 2), (.at 15)]
 (.know (.has .u32 (.at 15))
 (.all .V
 (.obl (.o2 .le (.o1 .lilen (.o2 .liapp (.at 12) (.o2 .licons (.at 15) (.lis [])))) (.int 35184372088832))
 (.all .V
 (.back 0 [(.at 10), (.at 12), (.at 14)] [(.o2 (.add .i64) (.at 10) (.int 1)), (.o2 .liapp (.at 12) (.o2 .licons (.at 15) (.lis []))), (.at 14)]))))))))
 (.pre 2 [(.o2 .liget (.at 9) (.at 10)), (.int 2)]
 (.all .I
 (.post 2 [(.o2 .liget (.at 9) (.at 10)), (.int 2), (.at 15)]
 (.know (.has .u32 (.at 15))
 (.and
 (.all .V
 (.obl (.o2 .le (.o1 .lilen (.o2 .liapp (.at 12) (.o2 .licons (.at 15) (.lis [])))) (.int 35184372088832))
 (.all .V
 (.back 0 [(.at 10), (.at 12), (.at 14)] [(.o2 (.add .i64) (.at 10) (.int 1)), (.o2 .liapp (.at 12) (.o2 .licons (.at 15) (.lis []))), (.at 14)]))))
 (.all .V
 (.obl (.o2 .le (.o1 .lilen (.o2 .liapp (.at 12) (.o2 .licons (.at 15) (.lis [])))) (.int 35184372088832))
 (.all .V
 (.back 0 [(.at 10), (.at 12), (.at 14)] [(.o2 (.add .i64) (.at 10) (.int 1)), (.o2 .liapp (.at 12) (.o2 .licons (.at 15) (.lis []))), (.at 14)]))))))))))))
 (.imp (.o2 .lt (.at 10) (.o1 .lilen (.at 9))) false
 (.pre 1 [(.int 64)]
 (.all .V
 (.all .Z
 (.post 1 [(.int 64), (.at 15), (.at 16)]
 (.know (.allHas .u64 (.at 16))
 (.inv 1 [(.int 0), (.at 12), (.at 14)]
 (.all .I
 (.all .V
 (.all .Z
 (.all .V
 (.all .Z
 (.know (.has .i64 (.at 17))
 (.know (.allHas .u32 (.at 21))
 (.know (.allHas .u32 (.at 19))
 (.asm 1 [(.at 17), (.at 19), (.at 21)]
 (.and
 (.imp (.o2 .lt (.at 17) (.o1 .lilen (.at 16))) true
 (.obl (.o2 .le (.int 0) (.at 17))
 (.and
 (.pre 2 [(.o2 .liget (.at 16) (.at 17)), (.int 3)]
 (.all .I
 (.post 2 [(.o2 .liget (.at 16) (.at 17)), (.int 3), (.at 22)]
 (.know (.has .u32 (.at 22))
 (.all .V
 (.obl (.o2 .le (.o1 .lilen (.o2 .liapp (.at 21) (.o2 .licons (.at 22) (.lis [])))) (.int 35184372088832))
 (.all .V
 (.back 1 [(.at 17), (.at 19), (.at 21)] [(.o2 (.add .i64) (.at 17) (.int 1)), (.at 19), (.o2 .liapp (.at 21) (.o2 .licons (.at 22) (.lis [])))]))))))))
 (.pre 2 [(.o2 .liget (.at 16) (.at 17)), (.int 3)]
 (.all .I
 (.post 2 [(.o2 .liget (.at 16) (.at 17)), (.int 3), (.at 22)]
 (.know (.has .u32 (.at 22))
 (.and
 (.all .V
 (.obl (.o2 .le (.o1 .lilen (.o2 .liapp (.at 21) (.o2 .licons (.at 22) (.lis [])))) (.int 35184372088832))
 (.all .V
 (.back 1 [(.at 17), (.at 19), (.at 21)] [(.o2 (.add .i64) (.at 17) (.int 1)), (.at 19), (.o2 .liapp (.at 21) (.o2 .licons (.at 22) (.lis [])))]))))
 (.all .V
 (.obl (.o2 .le (.o1 .lilen (.o2 .liapp (.at 21) (.o2 .licons (.at 22) (.lis [])))) (.int 35184372088832))
 (.all .V
 (.back 1 [(.at 17), (.at 19), (.at 21)] [(.o2 (.add .i64) (.at 17) (.int 1)), (.at 19), (.o2 .liapp (.at 21) (.o2 .licons (.at 22) (.lis [])))]))))))))))))
 (.imp (.o2 .lt (.at 17) (.o1 .lilen (.at 16))) false
 (.ret [(.at 18), (.at 19), (.at 20), (.at 21)]))))))))))))))))))))))))))))))))))))))))))))
def rMade.Pure : Prop :=
 rMade.sig.pre [] →
 ∀ (v0 : Value),
 ∀ (v1 : Value),
 ∀ (n2 : Nat),
 ∀ (v3 : Value),
 ∀ (v4 : Value),
 ∀ (n5 : Nat),
 ∀ (v6 : Value),
 ∀ (v7 : Value),
 rPrimes.sig.pre [(D.I (8 : Int))] ∧ (
 ∀ (v8 : Value),
 ∀ (z9 : List Int),
 rPrimes.sig.post [(D.I (8 : Int)), (D.V v8), (D.Z z9)] →
 (∀ x ∈ z9, IntKind.has .u64 x) →
 rMade.I0 [(D.I (0 : Int)), (D.Z ([] : List Int)), (D.Z ([] : List Int))] ∧ (
 ∀ (i10 : Int),
 ∀ (v11 : Value),
 ∀ (z12 : List Int),
 ∀ (v13 : Value),
 ∀ (z14 : List Int),
 (-9223372036854775808 ≤ i10 ∧ i10 < 9223372036854775808) →
 (∀ x ∈ z14, IntKind.has .u32 x) →
 (∀ x ∈ z12, IntKind.has .u32 x) →
 rMade.I0 [(D.I i10), (D.Z z12), (D.Z z14)] →
 ((
 (i10 < ((z9.length : Nat) : Int)) →
 ((0 : Int) ≤ i10) ∧ (((0 : Int) ≤ i10) →
 ((
   rRoot.sig.pre [(D.I (z9.getD i10.toNat 0)), (D.I (2 : Int))] ∧ (
 ∀ (i15 : Int),
   rRoot.sig.post [(D.I (z9.getD i10.toNat 0)), (D.I (2 : Int)), (D.I i15)] →
 (0 ≤ i15 ∧ i15 < 4294967296) →
 ∀ (v16 : Value),
 ((((z12 ++ (i15 :: ([] : List Int))).length : Nat) : Int) ≤ (35184372088832 : Int)) ∧ (((((z12 ++ (i15 :: ([] : List Int))).length : Nat) : Int) ≤ (35184372088832 : Int)) →
 ∀ (v17 : Value),
   rMade.I0 [(D.I (IntKind.wrap .i64 (i10 + (1 : Int)))), (D.Z (z12 ++ (i15 :: ([] : List Int)))), (D.Z z14)] ∧ rMade.I0M [(D.I (IntKind.wrap .i64 (i10 + (1 : Int)))), (D.Z (z12 ++ (i15 :: ([] : List Int)))), (D.Z z14)] < rMade.I0M [(D.I i10), (D.Z z12), (D.Z z14)]))) ∧ (
   rRoot.sig.pre [(D.I (z9.getD i10.toNat 0)), (D.I (2 : Int))] ∧ (
 ∀ (i15 : Int),
   rRoot.sig.post [(D.I (z9.getD i10.toNat 0)), (D.I (2 : Int)), (D.I i15)] →
 (0 ≤ i15 ∧ i15 < 4294967296) →
 ((
 ∀ (v16 : Value),
 ((((z12 ++ (i15 :: ([] : List Int))).length : Nat) : Int) ≤ (35184372088832 : Int)) ∧ (((((z12 ++ (i15 :: ([] : List Int))).length : Nat) : Int) ≤ (35184372088832 : Int)) →
 ∀ (v17 : Value),
    rMade.I0 [(D.I (IntKind.wrap .i64 (i10 + (1 : Int)))), (D.Z (z12 ++ (i15 :: ([] : List Int)))), (D.Z z14)] ∧ rMade.I0M [(D.I (IntKind.wrap .i64 (i10 + (1 : Int)))), (D.Z (z12 ++ (i15 :: ([] : List Int)))), (D.Z z14)] < rMade.I0M [(D.I i10), (D.Z z12), (D.Z z14)])) ∧ (
 ∀ (v16 : Value),
 ((((z12 ++ (i15 :: ([] : List Int))).length : Nat) : Int) ≤ (35184372088832 : Int)) ∧ (((((z12 ++ (i15 :: ([] : List Int))).length : Nat) : Int) ≤ (35184372088832 : Int)) →
 ∀ (v17 : Value),
    rMade.I0 [(D.I (IntKind.wrap .i64 (i10 + (1 : Int)))), (D.Z (z12 ++ (i15 :: ([] : List Int)))), (D.Z z14)] ∧ rMade.I0M [(D.I (IntKind.wrap .i64 (i10 + (1 : Int)))), (D.Z (z12 ++ (i15 :: ([] : List Int)))), (D.Z z14)] < rMade.I0M [(D.I i10), (D.Z z12), (D.Z z14)])))))))) ∧ (
 (((z9.length : Nat) : Int) ≤ i10) →
  rPrimes.sig.pre [(D.I (64 : Int))] ∧ (
 ∀ (v15 : Value),
 ∀ (z16 : List Int),
  rPrimes.sig.post [(D.I (64 : Int)), (D.V v15), (D.Z z16)] →
 (∀ x ∈ z16, IntKind.has .u64 x) →
  rMade.I1 [(D.I (0 : Int)), (D.Z z12), (D.Z z14)] ∧ (
 ∀ (i17 : Int),
 ∀ (v18 : Value),
 ∀ (z19 : List Int),
 ∀ (v20 : Value),
 ∀ (z21 : List Int),
 (-9223372036854775808 ≤ i17 ∧ i17 < 9223372036854775808) →
 (∀ x ∈ z21, IntKind.has .u32 x) →
 (∀ x ∈ z19, IntKind.has .u32 x) →
  rMade.I1 [(D.I i17), (D.Z z19), (D.Z z21)] →
 ((
 (i17 < ((z16.length : Nat) : Int)) →
 ((0 : Int) ≤ i17) ∧ (((0 : Int) ≤ i17) →
 ((
    rRoot.sig.pre [(D.I (z16.getD i17.toNat 0)), (D.I (3 : Int))] ∧ (
 ∀ (i22 : Int),
    rRoot.sig.post [(D.I (z16.getD i17.toNat 0)), (D.I (3 : Int)), (D.I i22)] →
 (0 ≤ i22 ∧ i22 < 4294967296) →
 ∀ (v23 : Value),
 ((((z21 ++ (i22 :: ([] : List Int))).length : Nat) : Int) ≤ (35184372088832 : Int)) ∧ (((((z21 ++ (i22 :: ([] : List Int))).length : Nat) : Int) ≤ (35184372088832 : Int)) →
 ∀ (v24 : Value),
    rMade.I1 [(D.I (IntKind.wrap .i64 (i17 + (1 : Int)))), (D.Z z19), (D.Z (z21 ++ (i22 :: ([] : List Int))))] ∧ rMade.I1M [(D.I (IntKind.wrap .i64 (i17 + (1 : Int)))), (D.Z z19), (D.Z (z21 ++ (i22 :: ([] : List Int))))] < rMade.I1M [(D.I i17), (D.Z z19), (D.Z z21)]))) ∧ (
    rRoot.sig.pre [(D.I (z16.getD i17.toNat 0)), (D.I (3 : Int))] ∧ (
 ∀ (i22 : Int),
    rRoot.sig.post [(D.I (z16.getD i17.toNat 0)), (D.I (3 : Int)), (D.I i22)] →
 (0 ≤ i22 ∧ i22 < 4294967296) →
 ((
 ∀ (v23 : Value),
 ((((z21 ++ (i22 :: ([] : List Int))).length : Nat) : Int) ≤ (35184372088832 : Int)) ∧ (((((z21 ++ (i22 :: ([] : List Int))).length : Nat) : Int) ≤ (35184372088832 : Int)) →
 ∀ (v24 : Value),
     rMade.I1 [(D.I (IntKind.wrap .i64 (i17 + (1 : Int)))), (D.Z z19), (D.Z (z21 ++ (i22 :: ([] : List Int))))] ∧ rMade.I1M [(D.I (IntKind.wrap .i64 (i17 + (1 : Int)))), (D.Z z19), (D.Z (z21 ++ (i22 :: ([] : List Int))))] < rMade.I1M [(D.I i17), (D.Z z19), (D.Z z21)])) ∧ (
 ∀ (v23 : Value),
 ((((z21 ++ (i22 :: ([] : List Int))).length : Nat) : Int) ≤ (35184372088832 : Int)) ∧ (((((z21 ++ (i22 :: ([] : List Int))).length : Nat) : Int) ≤ (35184372088832 : Int)) →
 ∀ (v24 : Value),
     rMade.I1 [(D.I (IntKind.wrap .i64 (i17 + (1 : Int)))), (D.Z z19), (D.Z (z21 ++ (i22 :: ([] : List Int))))] ∧ rMade.I1M [(D.I (IntKind.wrap .i64 (i17 + (1 : Int)))), (D.Z z19), (D.Z (z21 ++ (i22 :: ([] : List Int))))] < rMade.I1M [(D.I i17), (D.Z z19), (D.Z z21)])))))))) ∧ (
 (((z16.length : Nat) : Int) ≤ i17) →
   rMade.sig.post [(D.V v18), (D.Z z19), (D.V v20), (D.Z z21)]))))))))
theorem rMade.den : rMade.vc.den2 (mkEnv rMade.sig [rPrimes.sig, rRoot.sig] [(rMade.I0, rMade.I0M), (rMade.I1, rMade.I1M)]) [] = rMade.Pure := by kernel_rfl
def rTurn.vc : VC :=
 (.all .I
 (.all .I
 (.know (.has .u32 (.at 0))
 (.know (.has .i64 (.at 1))
 (.post 0 [(.at 0), (.at 1)]
 (.inv 0 [(.at 0), (.at 1), (.at 0), (.int 0)]
 (.all .I
 (.all .I
 (.know (.has .u32 (.at 2))
 (.know (.has .i64 (.at 3))
 (.asm 0 [(.at 0), (.at 1), (.at 2), (.at 3)]
 (.and
 (.imp (.o2 .lt (.at 3) (.at 1)) true
 (.back 0 [(.at 0), (.at 1), (.at 2), (.at 3)] [(.at 0), (.at 1), (.o2 (.add .u32) (.o2 (.quo .u32) (.at 2) (.int 2)) (.o2 (.mul .u32) (.o2 .rem (.at 2) (.int 2)) (.int 2147483648))), (.o2 (.add .i64) (.at 3) (.int 1))]))
 (.imp (.o2 .lt (.at 3) (.at 1)) false
 (.ret [(.at 0), (.at 1), (.at 2)]))))))))))))))
def rTurn.Pure : Prop :=
 ∀ (i0 : Int),
 ∀ (i1 : Int),
 (0 ≤ i0 ∧ i0 < 4294967296) →
 (-9223372036854775808 ≤ i1 ∧ i1 < 9223372036854775808) →
 rTurn.sig.pre [(D.I i0), (D.I i1)] →
 rTurn.I0 [(D.I i0), (D.I i1), (D.I i0), (D.I (0 : Int))] ∧ (
 ∀ (i2 : Int),
 ∀ (i3 : Int),
 (0 ≤ i2 ∧ i2 < 4294967296) →
 (-9223372036854775808 ≤ i3 ∧ i3 < 9223372036854775808) →
 rTurn.I0 [(D.I i0), (D.I i1), (D.I i2), (D.I i3)] →
 ((
 (i3 < i1) →
  rTurn.I0 [(D.I i0), (D.I i1), (D.I (IntKind.wrap .u32 ((IntKind.wrap .u32 (Int.tdiv i2 (2 : Int))) + (IntKind.wrap .u32 ((Int.tmod i2 (2 : Int)) * (2147483648 : Int)))))), (D.I (IntKind.wrap .i64 (i3 + (1 : Int))))] ∧ rTurn.I0M [(D.I i0), (D.I i1), (D.I (IntKind.wrap .u32 ((IntKind.wrap .u32 (Int.tdiv i2 (2 : Int))) + (IntKind.wrap .u32 ((Int.tmod i2 (2 : Int)) * (2147483648 : Int)))))), (D.I (IntKind.wrap .i64 (i3 + (1 : Int))))] < rTurn.I0M [(D.I i0), (D.I i1), (D.I i2), (D.I i3)]) ∧ (
 (i1 ≤ i3) →
  rTurn.sig.post [(D.I i0), (D.I i1), (D.I i2)])))
theorem rTurn.den : rTurn.vc.den2 (mkEnv rTurn.sig [] [(rTurn.I0, rTurn.I0M)]) [] = rTurn.Pure := by kernel_rfl
def rNot.vc : VC :=
 (.all .I
 (.know (.has .u32 (.at 0))
 (.post 0 [(.at 0)]
 (.ret [(.at 0), (.o2 (.sub .u32) (.int 4294967295) (.at 0))]))))
def rNot.Pure : Prop :=
 ∀ (i0 : Int),
 (0 ≤ i0 ∧ i0 < 4294967296) →
 rNot.sig.pre [(D.I i0)] →
 rNot.sig.post [(D.I i0), (D.I (IntKind.wrap .u32 ((4294967295 : Int) - i0)))]
theorem rNot.den : rNot.vc.den2 (mkEnv rNot.sig [] []) [] = rNot.Pure := by kernel_rfl
def rMix.vc : VC :=
 (.all .V
 (.all .Z
 (.all .V
 (.all .Z
 (.all .S
 (.know (.ssz (.at 4))
 (.know (.allHas .u32 (.at 1))
 (.know (.allHas .u32 (.at 3))
 (.post 0 [(.at 0), (.at 1), (.at 2), (.at 3), (.at 4)]
 (.all .V
 (.all .V
 (.inv 0 [(.at 0), (.at 1), (.at 2), (.at 3), (.at 4), (.lis []), (.int 0)]
 (.all .V
 (.all .Z
 (.all .I
 (.know (.has .i64 (.at 9))
 (.know (.allHas .u32 (.at 8))
 (.asm 0 [(.at 0), (.at 1), (.at 2), (.at 3), (.at 4), (.at 8), (.at 9)]
 (.and
 (.imp (.o2 .lt (.at 9) (.int 16)) true
 (.obl (.o2 .le (.int 0) (.o2 (.mul .i64) (.int 4) (.at 9)))
 (.obl (.o2 .lt (.o2 (.mul .i64) (.int 4) (.at 9)) (.o1 .slen (.at 4)))
 (.obl (.o2 .le (.int 0) (.o2 (.add .i64) (.o2 (.mul .i64) (.int 4) (.at 9)) (.int 1)))
 (.obl (.o2 .lt (.o2 (.add .i64) (.o2 (.mul .i64) (.int 4) (.at 9)) (.int 1)) (.o1 .slen (.at 4)))
 (.obl (.o2 .le (.int 0) (.o2 (.add .i64) (.o2 (.mul .i64) (.int 4) (.at 9)) (.int 2)))
 (.obl (.o2 .lt (.o2 (.add .i64) (.o2 (.mul .i64) (.int 4) (.at 9)) (.int 2)) (.o1 .slen (.at 4)))
 (.obl (.o2 .le (.int 0) (.o2 (.add .i64) (.o2 (.mul .i64) (.int 4) (.at 9)) (.int 3)))
 (.obl (.o2 .lt (.o2 (.add .i64) (.o2 (.mul .i64) (.int 4) (.at 9)) (.int 3)) (.o1 .slen (.at 4)))
 (.all .V
 (.obl (.o2 .le (.o1 .lilen (.o2 .liapp (.at 8) (.o2 .licons (.o2 (.add .u32) (.o2 (.add .u32) (.o2 (.add .u32) (.o2 (.mul .u32) (.o1 (.wrap .u32) (.o2 .byte (.at 4) (.o2 (.mul .i64) (.int 4) (.at 9)))) (.int 16777216)) (.o2 (.mul .u32) (.o1 (.wrap .u32) (.o2 .byte (.at 4) (.o2 (.add .i64) (.o2 (.mul .i64) (.int 4) (.at 9)) (.int 1)))) (.int 65536))) (.o2 (.mul .u32) (.o1 (.wrap .u32) (.o2 .byte (.at 4) (.o2 (.add .i64) (.o2 (.mul .i64) (.int 4) (.at 9)) (.int 2)))) (.int 256))) (.o1 (.wrap .u32) (.o2 .byte (.at 4) (.o2 (.add .i64) (.o2 (.mul .i64) (.int 4) (.at 9)) (.int 3))))) (.lis [])))) (.int 35184372088832))
 (.all .V
 (.back 0 [(.at 0), (.at 1), (.at 2), (.at 3), (.at 4), (.at 8), (.at 9)] [(.at 0), (.at 1), (.at 2), (.at 3), (.at 4), (.o2 .liapp (.at 8) (.o2 .licons (.o2 (.add .u32) (.o2 (.add .u32) (.o2 (.add .u32) (.o2 (.mul .u32) (.o1 (.wrap .u32) (.o2 .byte (.at 4) (.o2 (.mul .i64) (.int 4) (.at 9)))) (.int 16777216)) (.o2 (.mul .u32) (.o1 (.wrap .u32) (.o2 .byte (.at 4) (.o2 (.add .i64) (.o2 (.mul .i64) (.int 4) (.at 9)) (.int 1)))) (.int 65536))) (.o2 (.mul .u32) (.o1 (.wrap .u32) (.o2 .byte (.at 4) (.o2 (.add .i64) (.o2 (.mul .i64) (.int 4) (.at 9)) (.int 2)))) (.int 256))) (.o1 (.wrap .u32) (.o2 .byte (.at 4) (.o2 (.add .i64) (.o2 (.mul .i64) (.int 4) (.at 9)) (.int 3))))) (.lis []))), (.o2 (.add .i64) (.at 9) (.int 1))])))))))))))))
 (.imp (.o2 .lt (.at 9) (.int 16)) false
 (.inv 1 [(.at 0), (.at 1), (.at 2), (.at 3), (.at 4), (.at 8), (.int 16)]
 (.all .V
 (.all .Z
 (.all .I
 (.know (.has .i64 (.at 12))
 (.know (.allHas .u32 (.at 11))
 (.asm 1 [(.at 0), (.at 1), (.at 2), (.at 3), (.at 4), (.at 11), (.at 12)]
 (.and
 (.imp (.o2 .lt (.at 12) (.int 64)) true
 (.obl (.o2 .le (.int 0) (.o2 (.sub .i64) (.at 12) (.int 15)))
 (.obl (.o2 .lt (.o2 (.sub .i64) (.at 12) (.int 15)) (.o1 .lilen (.at 11)))
 (.obl (.o2 .le (.int 0) (.o2 (.sub .i64) (.at 12) (.int 2)))
 (.obl (.o2 .lt (.o2 (.sub .i64) (.at 12) (.int 2)) (.o1 .lilen (.at 11)))
 (.obl (.o2 .le (.int 0) (.o2 (.sub .i64) (.at 12) (.int 16)))
 (.obl (.o2 .lt (.o2 (.sub .i64) (.at 12) (.int 16)) (.o1 .lilen (.at 11)))
 (.obl (.o2 .le (.int 0) (.o2 (.sub .i64) (.at 12) (.int 7)))
 (.obl (.o2 .lt (.o2 (.sub .i64) (.at 12) (.int 7)) (.o1 .lilen (.at 11)))
 (.pre 1 [(.o2 .liget (.at 11) (.o2 (.sub .i64) (.at 12) (.int 15))), (.int 7)]
 (.all .I
 (.post 1 [(.o2 .liget (.at 11) (.o2 (.sub .i64) (.at 12) (.int 15))), (.int 7), (.at 13)]
 (.know (.has .u32 (.at 13))
 (.pre 1 [(.o2 .liget (.at 11) (.o2 (.sub .i64) (.at 12) (.int 15))), (.int 18)]
 (.all .I
 (.post 1 [(.o2 .liget (.at 11) (.o2 (.sub .i64) (.at 12) (.int 15))), (.int 18), (.at 14)]
 (.know (.has .u32 (.at 14))
 (.pre 1 [(.o2 .liget (.at 11) (.o2 (.sub .i64) (.at 12) (.int 2))), (.int 17)]
 (.all .I
 (.post 1 [(.o2 .liget (.at 11) (.o2 (.sub .i64) (.at 12) (.int 2))), (.int 17), (.at 15)]
 (.know (.has .u32 (.at 15))
 (.pre 1 [(.o2 .liget (.at 11) (.o2 (.sub .i64) (.at 12) (.int 2))), (.int 19)]
 (.all .I
 (.post 1 [(.o2 .liget (.at 11) (.o2 (.sub .i64) (.at 12) (.int 2))), (.int 19), (.at 16)]
 (.know (.has .u32 (.at 16))
 (.all .V
 (.obl (.o2 .le (.o1 .lilen (.o2 .liapp (.at 11) (.o2 .licons (.o2 (.add .u32) (.o2 (.add .u32) (.o2 (.add .u32) (.o2 .liget (.at 11) (.o2 (.sub .i64) (.at 12) (.int 16))) (.o2 (.bits .xor .u32) (.o2 (.bits .xor .u32) (.at 13) (.at 14)) (.o2 (.quo .u32) (.o2 .liget (.at 11) (.o2 (.sub .i64) (.at 12) (.int 15))) (.int 8)))) (.o2 .liget (.at 11) (.o2 (.sub .i64) (.at 12) (.int 7)))) (.o2 (.bits .xor .u32) (.o2 (.bits .xor .u32) (.at 15) (.at 16)) (.o2 (.quo .u32) (.o2 .liget (.at 11) (.o2 (.sub .i64) (.at 12) (.int 2))) (.int 1024)))) (.lis [])))) (.int 35184372088832))
 (.all .V
 (.back 1 [(.at 0), (.at 1), (.at 2), (.at 3), (.at 4), (.at 11), (.at 12)] [(.at 0), (.at 1), (.at 2), (.at 3), (.at 4), (.o2 .liapp (.at 11) (.o2 .licons (.o2 (.add .u32) (.o2 (.add .u32) (.o2 (.add .u32) (.o2 .liget (.at 11) (.o2 (.sub .i64) (.at 12) (.int 16))) (.o2 (.bits .xor .u32) (.o2 (.bits .xor .u32) (.at 13) (.at 14)) (.o2 (.quo .u32) (.o2 .liget (.at 11) (.o2 (.sub .i64) (.at 12) (.int 15))) (.int 8)))) (.o2 .liget (.at 11) (.o2 (.sub .i64) (.at 12) (.int 7)))) (.o2 (.bits .xor .u32) (.o2 (.bits .xor .u32) (.at 15) (.at 16)) (.o2 (.quo .u32) (.o2 .liget (.at 11) (.o2 (.sub .i64) (.at 12) (.int 2))) (.int 1024)))) (.lis []))), (.o2 (.add .i64) (.at 12) (.int 1))])))))))))))))))))))))))))))))
 (.imp (.o2 .lt (.at 12) (.int 64)) false
 (.all .V
 (.obl (.o2 .le (.o1 .lilen (.o2 .liapp (.lis []) (.at 1))) (.int 35184372088832))
 (.all .V
 (.inv 2 [(.at 0), (.at 1), (.at 2), (.at 3), (.at 4), (.o2 .liapp (.lis []) (.at 1)), (.int 0)]
 (.all .V
 (.all .Z
 (.all .I
 (.know (.has .i64 (.at 17))
 (.know (.allHas .u32 (.at 16))
 (.asm 2 [(.at 0), (.at 1), (.at 2), (.at 3), (.at 4), (.at 16), (.at 17)]
 (.and
 (.imp (.o2 .lt (.at 17) (.int 64)) true
 (.obl (.o2 .lt (.int 7) (.o1 .lilen (.at 16)))
 (.obl (.o2 .lt (.int 4) (.o1 .lilen (.at 16)))
 (.obl (.o2 .lt (.int 5) (.o1 .lilen (.at 16)))
 (.obl (.o2 .lt (.int 6) (.o1 .lilen (.at 16)))
 (.obl (.o2 .le (.int 0) (.at 17))
 (.obl (.o2 .lt (.at 17) (.o1 .lilen (.at 3)))
 (.obl (.o2 .lt (.at 17) (.o1 .lilen (.at 11)))
 (.pre 1 [(.o2 .liget (.at 16) (.int 4)), (.int 6)]
 (.all .I
 (.post 1 [(.o2 .liget (.at 16) (.int 4)), (.int 6), (.at 18)]
 (.know (.has .u32 (.at 18))
 (.pre 1 [(.o2 .liget (.at 16) (.int 4)), (.int 11)]
 (.all .I
 (.post 1 [(.o2 .liget (.at 16) (.int 4)), (.int 11), (.at 19)]
 (.know (.has .u32 (.at 19))
 (.pre 1 [(.o2 .liget (.at 16) (.int 4)), (.int 25)]
 (.all .I
 (.post 1 [(.o2 .liget (.at 16) (.int 4)), (.int 25), (.at 20)]
 (.know (.has .u32 (.at 20))
 (.pre 2 [(.o2 .liget (.at 16) (.int 4))]
 (.all .I
 (.post 2 [(.o2 .liget (.at 16) (.int 4)), (.at 21)]
 (.know (.has .u32 (.at 21))
 (.obl (.o2 .lt (.int 0) (.o1 .lilen (.at 16)))
 (.obl (.o2 .lt (.int 1) (.o1 .lilen (.at 16)))
 (.obl (.o2 .lt (.int 2) (.o1 .lilen (.at 16)))
 (.pre 1 [(.o2 .liget (.at 16) (.int 0)), (.int 2)]
 (.all .I
 (.post 1 [(.o2 .liget (.at 16) (.int 0)), (.int 2), (.at 22)]
 (.know (.has .u32 (.at 22))
 (.pre 1 [(.o2 .liget (.at 16) (.int 0)), (.int 13)]
 (.all .I
 (.post 1 [(.o2 .liget (.at 16) (.int 0)), (.int 13), (.at 23)]
 (.know (.has .u32 (.at 23))
 (.pre 1 [(.o2 .liget (.at 16) (.int 0)), (.int 22)]
 (.all .I
 (.post 1 [(.o2 .liget (.at 16) (.int 0)), (.int 22), (.at 24)]
 (.know (.has .u32 (.at 24))
 (.all .V
 (.obl (.o2 .le (.int 7) (.o1 .lilen (.at 16)))
 (.all .V
 (.obl (.o2 .le (.o1 .lilen (.o2 .liapp (.o2 .licons (.o2 (.add .u32) (.o2 (.add .u32) (.o2 (.add .u32) (.o2 (.add .u32) (.o2 (.add .u32) (.o2 .liget (.at 16) (.int 7)) (.o2 (.bits .xor .u32) (.o2 (.bits .xor .u32) (.at 18) (.at 19)) (.at 20))) (.o2 (.bits .xor .u32) (.o2 (.bits .and .u32) (.o2 .liget (.at 16) (.int 4)) (.o2 .liget (.at 16) (.int 5))) (.o2 (.bits .and .u32) (.at 21) (.o2 .liget (.at 16) (.int 6))))) (.o2 .liget (.at 3) (.at 17))) (.o2 .liget (.at 11) (.at 17))) (.o2 (.add .u32) (.o2 (.bits .xor .u32) (.o2 (.bits .xor .u32) (.at 22) (.at 23)) (.at 24)) (.o2 (.bits .xor .u32) (.o2 (.bits .xor .u32) (.o2 (.bits .and .u32) (.o2 .liget (.at 16) (.int 0)) (.o2 .liget (.at 16) (.int 1))) (.o2 (.bits .and .u32) (.o2 .liget (.at 16) (.int 0)) (.o2 .liget (.at 16) (.int 2)))) (.o2 (.bits .and .u32) (.o2 .liget (.at 16) (.int 1)) (.o2 .liget (.at 16) (.int 2)))))) (.lis [])) (.o2 .litake (.at 16) (.int 7)))) (.int 35184372088832))
 (.all .V
 (.obl (.o2 .lt (.int 4) (.o1 .lilen (.o2 .liapp (.o2 .licons (.o2 (.add .u32) (.o2 (.add .u32) (.o2 (.add .u32) (.o2 (.add .u32) (.o2 (.add .u32) (.o2 .liget (.at 16) (.int 7)) (.o2 (.bits .xor .u32) (.o2 (.bits .xor .u32) (.at 18) (.at 19)) (.at 20))) (.o2 (.bits .xor .u32) (.o2 (.bits .and .u32) (.o2 .liget (.at 16) (.int 4)) (.o2 .liget (.at 16) (.int 5))) (.o2 (.bits .and .u32) (.at 21) (.o2 .liget (.at 16) (.int 6))))) (.o2 .liget (.at 3) (.at 17))) (.o2 .liget (.at 11) (.at 17))) (.o2 (.add .u32) (.o2 (.bits .xor .u32) (.o2 (.bits .xor .u32) (.at 22) (.at 23)) (.at 24)) (.o2 (.bits .xor .u32) (.o2 (.bits .xor .u32) (.o2 (.bits .and .u32) (.o2 .liget (.at 16) (.int 0)) (.o2 .liget (.at 16) (.int 1))) (.o2 (.bits .and .u32) (.o2 .liget (.at 16) (.int 0)) (.o2 .liget (.at 16) (.int 2)))) (.o2 (.bits .and .u32) (.o2 .liget (.at 16) (.int 1)) (.o2 .liget (.at 16) (.int 2)))))) (.lis [])) (.o2 .litake (.at 16) (.int 7)))))
 (.back 2 [(.at 0), (.at 1), (.at 2), (.at 3), (.at 4), (.at 16), (.at 17)] [(.at 0), (.at 1), (.at 2), (.at 3), (.at 4), (.o3 .liset (.o2 .liapp (.o2 .licons (.o2 (.add .u32) (.o2 (.add .u32) (.o2 (.add .u32) (.o2 (.add .u32) (.o2 (.add .u32) (.o2 .liget (.at 16) (.int 7)) (.o2 (.bits .xor .u32) (.o2 (.bits .xor .u32) (.at 18) (.at 19)) (.at 20))) (.o2 (.bits .xor .u32) (.o2 (.bits .and .u32) (.o2 .liget (.at 16) (.int 4)) (.o2 .liget (.at 16) (.int 5))) (.o2 (.bits .and .u32) (.at 21) (.o2 .liget (.at 16) (.int 6))))) (.o2 .liget (.at 3) (.at 17))) (.o2 .liget (.at 11) (.at 17))) (.o2 (.add .u32) (.o2 (.bits .xor .u32) (.o2 (.bits .xor .u32) (.at 22) (.at 23)) (.at 24)) (.o2 (.bits .xor .u32) (.o2 (.bits .xor .u32) (.o2 (.bits .and .u32) (.o2 .liget (.at 16) (.int 0)) (.o2 .liget (.at 16) (.int 1))) (.o2 (.bits .and .u32) (.o2 .liget (.at 16) (.int 0)) (.o2 .liget (.at 16) (.int 2)))) (.o2 (.bits .and .u32) (.o2 .liget (.at 16) (.int 1)) (.o2 .liget (.at 16) (.int 2)))))) (.lis [])) (.o2 .litake (.at 16) (.int 7))) (.int 4) (.o2 (.add .u32) (.o2 .liget (.o2 .liapp (.o2 .licons (.o2 (.add .u32) (.o2 (.add .u32) (.o2 (.add .u32) (.o2 (.add .u32) (.o2 (.add .u32) (.o2 .liget (.at 16) (.int 7)) (.o2 (.bits .xor .u32) (.o2 (.bits .xor .u32) (.at 18) (.at 19)) (.at 20))) (.o2 (.bits .xor .u32) (.o2 (.bits .and .u32) (.o2 .liget (.at 16) (.int 4)) (.o2 .liget (.at 16) (.int 5))) (.o2 (.bits .and .u32) (.at 21) (.o2 .liget (.at 16) (.int 6))))) (.o2 .liget (.at 3) (.at 17))) (.o2 .liget (.at 11) (.at 17))) (.o2 (.add .u32) (.o2 (.bits .xor .u32) (.o2 (.bits .xor .u32) (.at 22) (.at 23)) (.at 24)) (.o2 (.bits .xor .u32) (.o2 (.bits .xor .u32) (.o2 (.bits .and .u32) (.o2 .liget (.at 16) (.int 0)) (.o2 .liget (.at 16) (.int 1))) (.o2 (.bits .and .u32) (.o2 .liget (.at 16) (.int 0)) (.o2 .liget (.at 16) (.int 2)))) (.o2 (.bits .and .u32) (.o2 .liget (.at 16) (.int 1)) (.o2 .liget (.at 16) (.int 2)))))) (.lis [])) (.o2 .litake (.at 16) (.int 7))) (.int 4)) (.o2 (.add .u32) (.o2 (.add .u32) (.o2 (.add .u32) (.o2 (.add .u32) (.o2 .liget (.at 16) (.int 7)) (.o2 (.bits .xor .u32) (.o2 (.bits .xor .u32) (.at 18) (.at 19)) (.at 20))) (.o2 (.bits .xor .u32) (.o2 (.bits .and .u32) (.o2 .liget (.at 16) (.int 4)) (.o2 .liget (.at 16) (.int 5))) (.o2 (.bits .and .u32) (.at 21) (.o2 .liget (.at 16) (.int 6))))) (.o2 .liget (.at 3) (.at 17))) (.o2 .liget (.at 11) (.at 17))))), (.o2 (.add .i64) (.at 17) (.int 1))]))))))))))))))))))))))))))))))))))))))))))))))
 (.imp (.o2 .lt (.at 17) (.int 64)) false
 (.inv 3 [(.at 0), (.at 1), (.at 2), (.at 3), (.at 4), (.int 0), (.at 16)]
 (.all .I
 (.all .Z
 (.know (.has .i64 (.at 18))
 (.know (.allHas .u32 (.at 19))
 (.asm 3 [(.at 0), (.at 1), (.at 2), (.at 3), (.at 4), (.at 18), (.at 19)]
 (.and
 (.imp (.o2 .lt (.at 18) (.o1 .lilen (.at 16))) true
 (.obl (.o2 .le (.int 0) (.at 18))
 (.obl (.o2 .lt (.at 18) (.o1 .lilen (.at 19)))
 (.obl (.o2 .lt (.at 18) (.o1 .lilen (.at 1)))
 (.back 3 [(.at 0), (.at 1), (.at 2), (.at 3), (.at 4), (.at 18), (.at 19)] [(.at 0), (.at 1), (.at 2), (.at 3), (.at 4), (.o2 (.add .i64) (.at 18) (.int 1)), (.o3 .liset (.at 19) (.at 18) (.o2 (.add .u32) (.o2 .liget (.at 19) (.at 18)) (.o2 .liget (.at 1) (.at 18))))])))))
 (.imp (.o2 .lt (.at 18) (.o1 .lilen (.at 16))) false
 (.ret [(.at 0), (.at 1), (.at 2), (.at 3), (.at 4), (.at 15), (.at 19)]))))))))))))))))))))))))))))))))))))))))))))))))))
def rMix.Pure : Prop :=
 ∀ (v0 : Value),
 ∀ (z1 : List Int),
 ∀ (v2 : Value),
 ∀ (z3 : List Int),
 ∀ (s4 : ByteArray),
 ((s4.size : Int) ≤ 9223372036854775807) →
 (∀ x ∈ z1, IntKind.has .u32 x) →
 (∀ x ∈ z3, IntKind.has .u32 x) →
 rMix.sig.pre [(D.V v0), (D.Z z1), (D.V v2), (D.Z z3), (D.S s4)] →
 ∀ (v5 : Value),
 ∀ (v6 : Value),
 rMix.I0 [(D.V v0), (D.Z z1), (D.V v2), (D.Z z3), (D.S s4), (D.Z ([] : List Int)), (D.I (0 : Int))] ∧ (
 ∀ (v7 : Value),
 ∀ (z8 : List Int),
 ∀ (i9 : Int),
 (-9223372036854775808 ≤ i9 ∧ i9 < 9223372036854775808) →
 (∀ x ∈ z8, IntKind.has .u32 x) →
 rMix.I0 [(D.V v0), (D.Z z1), (D.V v2), (D.Z z3), (D.S s4), (D.Z z8), (D.I i9)] →
 ((
 (i9 < (16 : Int)) →
 ((0 : Int) ≤ (IntKind.wrap .i64 ((4 : Int) * i9))) ∧ (((0 : Int) ≤ (IntKind.wrap .i64 ((4 : Int) * i9))) →
 ((IntKind.wrap .i64 ((4 : Int) * i9)) < ((s4.size : Nat) : Int)) ∧ (((IntKind.wrap .i64 ((4 : Int) * i9)) < ((s4.size : Nat) : Int)) →
 ((0 : Int) ≤ (IntKind.wrap .i64 ((IntKind.wrap .i64 ((4 : Int) * i9)) + (1 : Int)))) ∧ (((0 : Int) ≤ (IntKind.wrap .i64 ((IntKind.wrap .i64 ((4 : Int) * i9)) + (1 : Int)))) →
 ((IntKind.wrap .i64 ((IntKind.wrap .i64 ((4 : Int) * i9)) + (1 : Int))) < ((s4.size : Nat) : Int)) ∧ (((IntKind.wrap .i64 ((IntKind.wrap .i64 ((4 : Int) * i9)) + (1 : Int))) < ((s4.size : Nat) : Int)) →
 ((0 : Int) ≤ (IntKind.wrap .i64 ((IntKind.wrap .i64 ((4 : Int) * i9)) + (2 : Int)))) ∧ (((0 : Int) ≤ (IntKind.wrap .i64 ((IntKind.wrap .i64 ((4 : Int) * i9)) + (2 : Int)))) →
 ((IntKind.wrap .i64 ((IntKind.wrap .i64 ((4 : Int) * i9)) + (2 : Int))) < ((s4.size : Nat) : Int)) ∧ (((IntKind.wrap .i64 ((IntKind.wrap .i64 ((4 : Int) * i9)) + (2 : Int))) < ((s4.size : Nat) : Int)) →
 ((0 : Int) ≤ (IntKind.wrap .i64 ((IntKind.wrap .i64 ((4 : Int) * i9)) + (3 : Int)))) ∧ (((0 : Int) ≤ (IntKind.wrap .i64 ((IntKind.wrap .i64 ((4 : Int) * i9)) + (3 : Int)))) →
 ((IntKind.wrap .i64 ((IntKind.wrap .i64 ((4 : Int) * i9)) + (3 : Int))) < ((s4.size : Nat) : Int)) ∧ (((IntKind.wrap .i64 ((IntKind.wrap .i64 ((4 : Int) * i9)) + (3 : Int))) < ((s4.size : Nat) : Int)) →
 ∀ (v10 : Value),
 ((((z8 ++ ((IntKind.wrap .u32 ((IntKind.wrap .u32 ((IntKind.wrap .u32 ((IntKind.wrap .u32 ((IntKind.wrap .u32 (byteAt s4 (IntKind.wrap .i64 ((4 : Int) * i9)))) * (16777216 : Int))) + (IntKind.wrap .u32 ((IntKind.wrap .u32 (byteAt s4 (IntKind.wrap .i64 ((IntKind.wrap .i64 ((4 : Int) * i9)) + (1 : Int))))) * (65536 : Int))))) + (IntKind.wrap .u32 ((IntKind.wrap .u32 (byteAt s4 (IntKind.wrap .i64 ((IntKind.wrap .i64 ((4 : Int) * i9)) + (2 : Int))))) * (256 : Int))))) + (IntKind.wrap .u32 (byteAt s4 (IntKind.wrap .i64 ((IntKind.wrap .i64 ((4 : Int) * i9)) + (3 : Int))))))) :: ([] : List Int))).length : Nat) : Int) ≤ (35184372088832 : Int)) ∧ (((((z8 ++ ((IntKind.wrap .u32 ((IntKind.wrap .u32 ((IntKind.wrap .u32 ((IntKind.wrap .u32 ((IntKind.wrap .u32 (byteAt s4 (IntKind.wrap .i64 ((4 : Int) * i9)))) * (16777216 : Int))) + (IntKind.wrap .u32 ((IntKind.wrap .u32 (byteAt s4 (IntKind.wrap .i64 ((IntKind.wrap .i64 ((4 : Int) * i9)) + (1 : Int))))) * (65536 : Int))))) + (IntKind.wrap .u32 ((IntKind.wrap .u32 (byteAt s4 (IntKind.wrap .i64 ((IntKind.wrap .i64 ((4 : Int) * i9)) + (2 : Int))))) * (256 : Int))))) + (IntKind.wrap .u32 (byteAt s4 (IntKind.wrap .i64 ((IntKind.wrap .i64 ((4 : Int) * i9)) + (3 : Int))))))) :: ([] : List Int))).length : Nat) : Int) ≤ (35184372088832 : Int)) →
 ∀ (v11 : Value),
  rMix.I0 [(D.V v0), (D.Z z1), (D.V v2), (D.Z z3), (D.S s4), (D.Z (z8 ++ ((IntKind.wrap .u32 ((IntKind.wrap .u32 ((IntKind.wrap .u32 ((IntKind.wrap .u32 ((IntKind.wrap .u32 (byteAt s4 (IntKind.wrap .i64 ((4 : Int) * i9)))) * (16777216 : Int))) + (IntKind.wrap .u32 ((IntKind.wrap .u32 (byteAt s4 (IntKind.wrap .i64 ((IntKind.wrap .i64 ((4 : Int) * i9)) + (1 : Int))))) * (65536 : Int))))) + (IntKind.wrap .u32 ((IntKind.wrap .u32 (byteAt s4 (IntKind.wrap .i64 ((IntKind.wrap .i64 ((4 : Int) * i9)) + (2 : Int))))) * (256 : Int))))) + (IntKind.wrap .u32 (byteAt s4 (IntKind.wrap .i64 ((IntKind.wrap .i64 ((4 : Int) * i9)) + (3 : Int))))))) :: ([] : List Int)))), (D.I (IntKind.wrap .i64 (i9 + (1 : Int))))] ∧ rMix.I0M [(D.V v0), (D.Z z1), (D.V v2), (D.Z z3), (D.S s4), (D.Z (z8 ++ ((IntKind.wrap .u32 ((IntKind.wrap .u32 ((IntKind.wrap .u32 ((IntKind.wrap .u32 ((IntKind.wrap .u32 (byteAt s4 (IntKind.wrap .i64 ((4 : Int) * i9)))) * (16777216 : Int))) + (IntKind.wrap .u32 ((IntKind.wrap .u32 (byteAt s4 (IntKind.wrap .i64 ((IntKind.wrap .i64 ((4 : Int) * i9)) + (1 : Int))))) * (65536 : Int))))) + (IntKind.wrap .u32 ((IntKind.wrap .u32 (byteAt s4 (IntKind.wrap .i64 ((IntKind.wrap .i64 ((4 : Int) * i9)) + (2 : Int))))) * (256 : Int))))) + (IntKind.wrap .u32 (byteAt s4 (IntKind.wrap .i64 ((IntKind.wrap .i64 ((4 : Int) * i9)) + (3 : Int))))))) :: ([] : List Int)))), (D.I (IntKind.wrap .i64 (i9 + (1 : Int))))] < rMix.I0M [(D.V v0), (D.Z z1), (D.V v2), (D.Z z3), (D.S s4), (D.Z z8), (D.I i9)])))))))))) ∧ (
 ((16 : Int) ≤ i9) →
  rMix.I1 [(D.V v0), (D.Z z1), (D.V v2), (D.Z z3), (D.S s4), (D.Z z8), (D.I (16 : Int))] ∧ (
 ∀ (v10 : Value),
 ∀ (z11 : List Int),
 ∀ (i12 : Int),
 (-9223372036854775808 ≤ i12 ∧ i12 < 9223372036854775808) →
 (∀ x ∈ z11, IntKind.has .u32 x) →
  rMix.I1 [(D.V v0), (D.Z z1), (D.V v2), (D.Z z3), (D.S s4), (D.Z z11), (D.I i12)] →
 ((
 (i12 < (64 : Int)) →
 ((0 : Int) ≤ (IntKind.wrap .i64 (i12 - (15 : Int)))) ∧ (((0 : Int) ≤ (IntKind.wrap .i64 (i12 - (15 : Int)))) →
 ((IntKind.wrap .i64 (i12 - (15 : Int))) < ((z11.length : Nat) : Int)) ∧ (((IntKind.wrap .i64 (i12 - (15 : Int))) < ((z11.length : Nat) : Int)) →
 ((0 : Int) ≤ (IntKind.wrap .i64 (i12 - (2 : Int)))) ∧ (((0 : Int) ≤ (IntKind.wrap .i64 (i12 - (2 : Int)))) →
 ((IntKind.wrap .i64 (i12 - (2 : Int))) < ((z11.length : Nat) : Int)) ∧ (((IntKind.wrap .i64 (i12 - (2 : Int))) < ((z11.length : Nat) : Int)) →
 ((0 : Int) ≤ (IntKind.wrap .i64 (i12 - (16 : Int)))) ∧ (((0 : Int) ≤ (IntKind.wrap .i64 (i12 - (16 : Int)))) →
 ((IntKind.wrap .i64 (i12 - (16 : Int))) < ((z11.length : Nat) : Int)) ∧ (((IntKind.wrap .i64 (i12 - (16 : Int))) < ((z11.length : Nat) : Int)) →
 ((0 : Int) ≤ (IntKind.wrap .i64 (i12 - (7 : Int)))) ∧ (((0 : Int) ≤ (IntKind.wrap .i64 (i12 - (7 : Int)))) →
 ((IntKind.wrap .i64 (i12 - (7 : Int))) < ((z11.length : Nat) : Int)) ∧ (((IntKind.wrap .i64 (i12 - (7 : Int))) < ((z11.length : Nat) : Int)) →
   rTurn.sig.pre [(D.I (z11.getD (IntKind.wrap .i64 (i12 - (15 : Int))).toNat 0)), (D.I (7 : Int))] ∧ (
 ∀ (i13 : Int),
   rTurn.sig.post [(D.I (z11.getD (IntKind.wrap .i64 (i12 - (15 : Int))).toNat 0)), (D.I (7 : Int)), (D.I i13)] →
 (0 ≤ i13 ∧ i13 < 4294967296) →
   rTurn.sig.pre [(D.I (z11.getD (IntKind.wrap .i64 (i12 - (15 : Int))).toNat 0)), (D.I (18 : Int))] ∧ (
 ∀ (i14 : Int),
   rTurn.sig.post [(D.I (z11.getD (IntKind.wrap .i64 (i12 - (15 : Int))).toNat 0)), (D.I (18 : Int)), (D.I i14)] →
 (0 ≤ i14 ∧ i14 < 4294967296) →
   rTurn.sig.pre [(D.I (z11.getD (IntKind.wrap .i64 (i12 - (2 : Int))).toNat 0)), (D.I (17 : Int))] ∧ (
 ∀ (i15 : Int),
   rTurn.sig.post [(D.I (z11.getD (IntKind.wrap .i64 (i12 - (2 : Int))).toNat 0)), (D.I (17 : Int)), (D.I i15)] →
 (0 ≤ i15 ∧ i15 < 4294967296) →
   rTurn.sig.pre [(D.I (z11.getD (IntKind.wrap .i64 (i12 - (2 : Int))).toNat 0)), (D.I (19 : Int))] ∧ (
 ∀ (i16 : Int),
   rTurn.sig.post [(D.I (z11.getD (IntKind.wrap .i64 (i12 - (2 : Int))).toNat 0)), (D.I (19 : Int)), (D.I i16)] →
 (0 ≤ i16 ∧ i16 < 4294967296) →
 ∀ (v17 : Value),
 ((((z11 ++ ((IntKind.wrap .u32 ((IntKind.wrap .u32 ((IntKind.wrap .u32 ((z11.getD (IntKind.wrap .i64 (i12 - (16 : Int))).toNat 0) + (Go.bits .xor .u32 (Go.bits .xor .u32 i13 i14) (IntKind.wrap .u32 (Int.tdiv (z11.getD (IntKind.wrap .i64 (i12 - (15 : Int))).toNat 0) (8 : Int)))))) + (z11.getD (IntKind.wrap .i64 (i12 - (7 : Int))).toNat 0))) + (Go.bits .xor .u32 (Go.bits .xor .u32 i15 i16) (IntKind.wrap .u32 (Int.tdiv (z11.getD (IntKind.wrap .i64 (i12 - (2 : Int))).toNat 0) (1024 : Int)))))) :: ([] : List Int))).length : Nat) : Int) ≤ (35184372088832 : Int)) ∧ (((((z11 ++ ((IntKind.wrap .u32 ((IntKind.wrap .u32 ((IntKind.wrap .u32 ((z11.getD (IntKind.wrap .i64 (i12 - (16 : Int))).toNat 0) + (Go.bits .xor .u32 (Go.bits .xor .u32 i13 i14) (IntKind.wrap .u32 (Int.tdiv (z11.getD (IntKind.wrap .i64 (i12 - (15 : Int))).toNat 0) (8 : Int)))))) + (z11.getD (IntKind.wrap .i64 (i12 - (7 : Int))).toNat 0))) + (Go.bits .xor .u32 (Go.bits .xor .u32 i15 i16) (IntKind.wrap .u32 (Int.tdiv (z11.getD (IntKind.wrap .i64 (i12 - (2 : Int))).toNat 0) (1024 : Int)))))) :: ([] : List Int))).length : Nat) : Int) ≤ (35184372088832 : Int)) →
 ∀ (v18 : Value),
   rMix.I1 [(D.V v0), (D.Z z1), (D.V v2), (D.Z z3), (D.S s4), (D.Z (z11 ++ ((IntKind.wrap .u32 ((IntKind.wrap .u32 ((IntKind.wrap .u32 ((z11.getD (IntKind.wrap .i64 (i12 - (16 : Int))).toNat 0) + (Go.bits .xor .u32 (Go.bits .xor .u32 i13 i14) (IntKind.wrap .u32 (Int.tdiv (z11.getD (IntKind.wrap .i64 (i12 - (15 : Int))).toNat 0) (8 : Int)))))) + (z11.getD (IntKind.wrap .i64 (i12 - (7 : Int))).toNat 0))) + (Go.bits .xor .u32 (Go.bits .xor .u32 i15 i16) (IntKind.wrap .u32 (Int.tdiv (z11.getD (IntKind.wrap .i64 (i12 - (2 : Int))).toNat 0) (1024 : Int)))))) :: ([] : List Int)))), (D.I (IntKind.wrap .i64 (i12 + (1 : Int))))] ∧ rMix.I1M [(D.V v0), (D.Z z1), (D.V v2), (D.Z z3), (D.S s4), (D.Z (z11 ++ ((IntKind.wrap .u32 ((IntKind.wrap .u32 ((IntKind.wrap .u32 ((z11.getD (IntKind.wrap .i64 (i12 - (16 : Int))).toNat 0) + (Go.bits .xor .u32 (Go.bits .xor .u32 i13 i14) (IntKind.wrap .u32 (Int.tdiv (z11.getD (IntKind.wrap .i64 (i12 - (15 : Int))).toNat 0) (8 : Int)))))) + (z11.getD (IntKind.wrap .i64 (i12 - (7 : Int))).toNat 0))) + (Go.bits .xor .u32 (Go.bits .xor .u32 i15 i16) (IntKind.wrap .u32 (Int.tdiv (z11.getD (IntKind.wrap .i64 (i12 - (2 : Int))).toNat 0) (1024 : Int)))))) :: ([] : List Int)))), (D.I (IntKind.wrap .i64 (i12 + (1 : Int))))] < rMix.I1M [(D.V v0), (D.Z z1), (D.V v2), (D.Z z3), (D.S s4), (D.Z z11), (D.I i12)])))))))))))))) ∧ (
 ((64 : Int) ≤ i12) →
 ∀ (v13 : Value),
 ((((([] : List Int) ++ z1).length : Nat) : Int) ≤ (35184372088832 : Int)) ∧ (((((([] : List Int) ++ z1).length : Nat) : Int) ≤ (35184372088832 : Int)) →
 ∀ (v14 : Value),
   rMix.I2 [(D.V v0), (D.Z z1), (D.V v2), (D.Z z3), (D.S s4), (D.Z (([] : List Int) ++ z1)), (D.I (0 : Int))] ∧ (
 ∀ (v15 : Value),
 ∀ (z16 : List Int),
 ∀ (i17 : Int),
 (-9223372036854775808 ≤ i17 ∧ i17 < 9223372036854775808) →
 (∀ x ∈ z16, IntKind.has .u32 x) →
   rMix.I2 [(D.V v0), (D.Z z1), (D.V v2), (D.Z z3), (D.S s4), (D.Z z16), (D.I i17)] →
 ((
 (i17 < (64 : Int)) →
 ((7 : Int) < ((z16.length : Nat) : Int)) ∧ (((7 : Int) < ((z16.length : Nat) : Int)) →
 ((4 : Int) < ((z16.length : Nat) : Int)) ∧ (((4 : Int) < ((z16.length : Nat) : Int)) →
 ((5 : Int) < ((z16.length : Nat) : Int)) ∧ (((5 : Int) < ((z16.length : Nat) : Int)) →
 ((6 : Int) < ((z16.length : Nat) : Int)) ∧ (((6 : Int) < ((z16.length : Nat) : Int)) →
 ((0 : Int) ≤ i17) ∧ (((0 : Int) ≤ i17) →
 (i17 < ((z3.length : Nat) : Int)) ∧ ((i17 < ((z3.length : Nat) : Int)) →
 (i17 < ((z11.length : Nat) : Int)) ∧ ((i17 < ((z11.length : Nat) : Int)) →
    rTurn.sig.pre [(D.I (z16.getD (4 : Int).toNat 0)), (D.I (6 : Int))] ∧ (
 ∀ (i18 : Int),
    rTurn.sig.post [(D.I (z16.getD (4 : Int).toNat 0)), (D.I (6 : Int)), (D.I i18)] →
 (0 ≤ i18 ∧ i18 < 4294967296) →
    rTurn.sig.pre [(D.I (z16.getD (4 : Int).toNat 0)), (D.I (11 : Int))] ∧ (
 ∀ (i19 : Int),
    rTurn.sig.post [(D.I (z16.getD (4 : Int).toNat 0)), (D.I (11 : Int)), (D.I i19)] →
 (0 ≤ i19 ∧ i19 < 4294967296) →
    rTurn.sig.pre [(D.I (z16.getD (4 : Int).toNat 0)), (D.I (25 : Int))] ∧ (
 ∀ (i20 : Int),
    rTurn.sig.post [(D.I (z16.getD (4 : Int).toNat 0)), (D.I (25 : Int)), (D.I i20)] →
 (0 ≤ i20 ∧ i20 < 4294967296) →
    rNot.sig.pre [(D.I (z16.getD (4 : Int).toNat 0))] ∧ (
 ∀ (i21 : Int),
    rNot.sig.post [(D.I (z16.getD (4 : Int).toNat 0)), (D.I i21)] →
 (0 ≤ i21 ∧ i21 < 4294967296) →
 ((0 : Int) < ((z16.length : Nat) : Int)) ∧ (((0 : Int) < ((z16.length : Nat) : Int)) →
 ((1 : Int) < ((z16.length : Nat) : Int)) ∧ (((1 : Int) < ((z16.length : Nat) : Int)) →
 ((2 : Int) < ((z16.length : Nat) : Int)) ∧ (((2 : Int) < ((z16.length : Nat) : Int)) →
    rTurn.sig.pre [(D.I (z16.getD (0 : Int).toNat 0)), (D.I (2 : Int))] ∧ (
 ∀ (i22 : Int),
    rTurn.sig.post [(D.I (z16.getD (0 : Int).toNat 0)), (D.I (2 : Int)), (D.I i22)] →
 (0 ≤ i22 ∧ i22 < 4294967296) →
    rTurn.sig.pre [(D.I (z16.getD (0 : Int).toNat 0)), (D.I (13 : Int))] ∧ (
 ∀ (i23 : Int),
    rTurn.sig.post [(D.I (z16.getD (0 : Int).toNat 0)), (D.I (13 : Int)), (D.I i23)] →
 (0 ≤ i23 ∧ i23 < 4294967296) →
    rTurn.sig.pre [(D.I (z16.getD (0 : Int).toNat 0)), (D.I (22 : Int))] ∧ (
 ∀ (i24 : Int),
    rTurn.sig.post [(D.I (z16.getD (0 : Int).toNat 0)), (D.I (22 : Int)), (D.I i24)] →
 (0 ≤ i24 ∧ i24 < 4294967296) →
 ∀ (v25 : Value),
 ((7 : Int) ≤ ((z16.length : Nat) : Int)) ∧ (((7 : Int) ≤ ((z16.length : Nat) : Int)) →
 ∀ (v26 : Value),
 ((((((IntKind.wrap .u32 ((IntKind.wrap .u32 ((IntKind.wrap .u32 ((IntKind.wrap .u32 ((IntKind.wrap .u32 ((z16.getD (7 : Int).toNat 0) + (Go.bits .xor .u32 (Go.bits .xor .u32 i18 i19) i20))) + (Go.bits .xor .u32 (Go.bits .and .u32 (z16.getD (4 : Int).toNat 0) (z16.getD (5 : Int).toNat 0)) (Go.bits .and .u32 i21 (z16.getD (6 : Int).toNat 0))))) + (z3.getD i17.toNat 0))) + (z11.getD i17.toNat 0))) + (IntKind.wrap .u32 ((Go.bits .xor .u32 (Go.bits .xor .u32 i22 i23) i24) + (Go.bits .xor .u32 (Go.bits .xor .u32 (Go.bits .and .u32 (z16.getD (0 : Int).toNat 0) (z16.getD (1 : Int).toNat 0)) (Go.bits .and .u32 (z16.getD (0 : Int).toNat 0) (z16.getD (2 : Int).toNat 0))) (Go.bits .and .u32 (z16.getD (1 : Int).toNat 0) (z16.getD (2 : Int).toNat 0))))))) :: ([] : List Int)) ++ (z16.take (7 : Int).toNat)).length : Nat) : Int) ≤ (35184372088832 : Int)) ∧ (((((((IntKind.wrap .u32 ((IntKind.wrap .u32 ((IntKind.wrap .u32 ((IntKind.wrap .u32 ((IntKind.wrap .u32 ((z16.getD (7 : Int).toNat 0) + (Go.bits .xor .u32 (Go.bits .xor .u32 i18 i19) i20))) + (Go.bits .xor .u32 (Go.bits .and .u32 (z16.getD (4 : Int).toNat 0) (z16.getD (5 : Int).toNat 0)) (Go.bits .and .u32 i21 (z16.getD (6 : Int).toNat 0))))) + (z3.getD i17.toNat 0))) + (z11.getD i17.toNat 0))) + (IntKind.wrap .u32 ((Go.bits .xor .u32 (Go.bits .xor .u32 i22 i23) i24) + (Go.bits .xor .u32 (Go.bits .xor .u32 (Go.bits .and .u32 (z16.getD (0 : Int).toNat 0) (z16.getD (1 : Int).toNat 0)) (Go.bits .and .u32 (z16.getD (0 : Int).toNat 0) (z16.getD (2 : Int).toNat 0))) (Go.bits .and .u32 (z16.getD (1 : Int).toNat 0) (z16.getD (2 : Int).toNat 0))))))) :: ([] : List Int)) ++ (z16.take (7 : Int).toNat)).length : Nat) : Int) ≤ (35184372088832 : Int)) →
 ∀ (v27 : Value),
 ((4 : Int) < (((((IntKind.wrap .u32 ((IntKind.wrap .u32 ((IntKind.wrap .u32 ((IntKind.wrap .u32 ((IntKind.wrap .u32 ((z16.getD (7 : Int).toNat 0) + (Go.bits .xor .u32 (Go.bits .xor .u32 i18 i19) i20))) + (Go.bits .xor .u32 (Go.bits .and .u32 (z16.getD (4 : Int).toNat 0) (z16.getD (5 : Int).toNat 0)) (Go.bits .and .u32 i21 (z16.getD (6 : Int).toNat 0))))) + (z3.getD i17.toNat 0))) + (z11.getD i17.toNat 0))) + (IntKind.wrap .u32 ((Go.bits .xor .u32 (Go.bits .xor .u32 i22 i23) i24) + (Go.bits .xor .u32 (Go.bits .xor .u32 (Go.bits .and .u32 (z16.getD (0 : Int).toNat 0) (z16.getD (1 : Int).toNat 0)) (Go.bits .and .u32 (z16.getD (0 : Int).toNat 0) (z16.getD (2 : Int).toNat 0))) (Go.bits .and .u32 (z16.getD (1 : Int).toNat 0) (z16.getD (2 : Int).toNat 0))))))) :: ([] : List Int)) ++ (z16.take (7 : Int).toNat)).length : Nat) : Int)) ∧ (((4 : Int) < (((((IntKind.wrap .u32 ((IntKind.wrap .u32 ((IntKind.wrap .u32 ((IntKind.wrap .u32 ((IntKind.wrap .u32 ((z16.getD (7 : Int).toNat 0) + (Go.bits .xor .u32 (Go.bits .xor .u32 i18 i19) i20))) + (Go.bits .xor .u32 (Go.bits .and .u32 (z16.getD (4 : Int).toNat 0) (z16.getD (5 : Int).toNat 0)) (Go.bits .and .u32 i21 (z16.getD (6 : Int).toNat 0))))) + (z3.getD i17.toNat 0))) + (z11.getD i17.toNat 0))) + (IntKind.wrap .u32 ((Go.bits .xor .u32 (Go.bits .xor .u32 i22 i23) i24) + (Go.bits .xor .u32 (Go.bits .xor .u32 (Go.bits .and .u32 (z16.getD (0 : Int).toNat 0) (z16.getD (1 : Int).toNat 0)) (Go.bits .and .u32 (z16.getD (0 : Int).toNat 0) (z16.getD (2 : Int).toNat 0))) (Go.bits .and .u32 (z16.getD (1 : Int).toNat 0) (z16.getD (2 : Int).toNat 0))))))) :: ([] : List Int)) ++ (z16.take (7 : Int).toNat)).length : Nat) : Int)) →
    rMix.I2 [(D.V v0), (D.Z z1), (D.V v2), (D.Z z3), (D.S s4), (D.Z ((((IntKind.wrap .u32 ((IntKind.wrap .u32 ((IntKind.wrap .u32 ((IntKind.wrap .u32 ((IntKind.wrap .u32 ((z16.getD (7 : Int).toNat 0) + (Go.bits .xor .u32 (Go.bits .xor .u32 i18 i19) i20))) + (Go.bits .xor .u32 (Go.bits .and .u32 (z16.getD (4 : Int).toNat 0) (z16.getD (5 : Int).toNat 0)) (Go.bits .and .u32 i21 (z16.getD (6 : Int).toNat 0))))) + (z3.getD i17.toNat 0))) + (z11.getD i17.toNat 0))) + (IntKind.wrap .u32 ((Go.bits .xor .u32 (Go.bits .xor .u32 i22 i23) i24) + (Go.bits .xor .u32 (Go.bits .xor .u32 (Go.bits .and .u32 (z16.getD (0 : Int).toNat 0) (z16.getD (1 : Int).toNat 0)) (Go.bits .and .u32 (z16.getD (0 : Int).toNat 0) (z16.getD (2 : Int).toNat 0))) (Go.bits .and .u32 (z16.getD (1 : Int).toNat 0) (z16.getD (2 : Int).toNat 0))))))) :: ([] : List Int)) ++ (z16.take (7 : Int).toNat)).set (4 : Int).toNat (IntKind.wrap .u32 (((((IntKind.wrap .u32 ((IntKind.wrap .u32 ((IntKind.wrap .u32 ((IntKind.wrap .u32 ((IntKind.wrap .u32 ((z16.getD (7 : Int).toNat 0) + (Go.bits .xor .u32 (Go.bits .xor .u32 i18 i19) i20))) + (Go.bits .xor .u32 (Go.bits .and .u32 (z16.getD (4 : Int).toNat 0) (z16.getD (5 : Int).toNat 0)) (Go.bits .and .u32 i21 (z16.getD (6 : Int).toNat 0))))) + (z3.getD i17.toNat 0))) + (z11.getD i17.toNat 0))) + (IntKind.wrap .u32 ((Go.bits .xor .u32 (Go.bits .xor .u32 i22 i23) i24) + (Go.bits .xor .u32 (Go.bits .xor .u32 (Go.bits .and .u32 (z16.getD (0 : Int).toNat 0) (z16.getD (1 : Int).toNat 0)) (Go.bits .and .u32 (z16.getD (0 : Int).toNat 0) (z16.getD (2 : Int).toNat 0))) (Go.bits .and .u32 (z16.getD (1 : Int).toNat 0) (z16.getD (2 : Int).toNat 0))))))) :: ([] : List Int)) ++ (z16.take (7 : Int).toNat)).getD (4 : Int).toNat 0) + (IntKind.wrap .u32 ((IntKind.wrap .u32 ((IntKind.wrap .u32 ((IntKind.wrap .u32 ((z16.getD (7 : Int).toNat 0) + (Go.bits .xor .u32 (Go.bits .xor .u32 i18 i19) i20))) + (Go.bits .xor .u32 (Go.bits .and .u32 (z16.getD (4 : Int).toNat 0) (z16.getD (5 : Int).toNat 0)) (Go.bits .and .u32 i21 (z16.getD (6 : Int).toNat 0))))) + (z3.getD i17.toNat 0))) + (z11.getD i17.toNat 0))))))), (D.I (IntKind.wrap .i64 (i17 + (1 : Int))))] ∧ rMix.I2M [(D.V v0), (D.Z z1), (D.V v2), (D.Z z3), (D.S s4), (D.Z ((((IntKind.wrap .u32 ((IntKind.wrap .u32 ((IntKind.wrap .u32 ((IntKind.wrap .u32 ((IntKind.wrap .u32 ((z16.getD (7 : Int).toNat 0) + (Go.bits .xor .u32 (Go.bits .xor .u32 i18 i19) i20))) + (Go.bits .xor .u32 (Go.bits .and .u32 (z16.getD (4 : Int).toNat 0) (z16.getD (5 : Int).toNat 0)) (Go.bits .and .u32 i21 (z16.getD (6 : Int).toNat 0))))) + (z3.getD i17.toNat 0))) + (z11.getD i17.toNat 0))) + (IntKind.wrap .u32 ((Go.bits .xor .u32 (Go.bits .xor .u32 i22 i23) i24) + (Go.bits .xor .u32 (Go.bits .xor .u32 (Go.bits .and .u32 (z16.getD (0 : Int).toNat 0) (z16.getD (1 : Int).toNat 0)) (Go.bits .and .u32 (z16.getD (0 : Int).toNat 0) (z16.getD (2 : Int).toNat 0))) (Go.bits .and .u32 (z16.getD (1 : Int).toNat 0) (z16.getD (2 : Int).toNat 0))))))) :: ([] : List Int)) ++ (z16.take (7 : Int).toNat)).set (4 : Int).toNat (IntKind.wrap .u32 (((((IntKind.wrap .u32 ((IntKind.wrap .u32 ((IntKind.wrap .u32 ((IntKind.wrap .u32 ((IntKind.wrap .u32 ((z16.getD (7 : Int).toNat 0) + (Go.bits .xor .u32 (Go.bits .xor .u32 i18 i19) i20))) + (Go.bits .xor .u32 (Go.bits .and .u32 (z16.getD (4 : Int).toNat 0) (z16.getD (5 : Int).toNat 0)) (Go.bits .and .u32 i21 (z16.getD (6 : Int).toNat 0))))) + (z3.getD i17.toNat 0))) + (z11.getD i17.toNat 0))) + (IntKind.wrap .u32 ((Go.bits .xor .u32 (Go.bits .xor .u32 i22 i23) i24) + (Go.bits .xor .u32 (Go.bits .xor .u32 (Go.bits .and .u32 (z16.getD (0 : Int).toNat 0) (z16.getD (1 : Int).toNat 0)) (Go.bits .and .u32 (z16.getD (0 : Int).toNat 0) (z16.getD (2 : Int).toNat 0))) (Go.bits .and .u32 (z16.getD (1 : Int).toNat 0) (z16.getD (2 : Int).toNat 0))))))) :: ([] : List Int)) ++ (z16.take (7 : Int).toNat)).getD (4 : Int).toNat 0) + (IntKind.wrap .u32 ((IntKind.wrap .u32 ((IntKind.wrap .u32 ((IntKind.wrap .u32 ((z16.getD (7 : Int).toNat 0) + (Go.bits .xor .u32 (Go.bits .xor .u32 i18 i19) i20))) + (Go.bits .xor .u32 (Go.bits .and .u32 (z16.getD (4 : Int).toNat 0) (z16.getD (5 : Int).toNat 0)) (Go.bits .and .u32 i21 (z16.getD (6 : Int).toNat 0))))) + (z3.getD i17.toNat 0))) + (z11.getD i17.toNat 0))))))), (D.I (IntKind.wrap .i64 (i17 + (1 : Int))))] < rMix.I2M [(D.V v0), (D.Z z1), (D.V v2), (D.Z z3), (D.S s4), (D.Z z16), (D.I i17)]))))))))))))))))))))) ∧ (
 ((64 : Int) ≤ i17) →
    rMix.I3 [(D.V v0), (D.Z z1), (D.V v2), (D.Z z3), (D.S s4), (D.I (0 : Int)), (D.Z z16)] ∧ (
 ∀ (i18 : Int),
 ∀ (z19 : List Int),
 (-9223372036854775808 ≤ i18 ∧ i18 < 9223372036854775808) →
 (∀ x ∈ z19, IntKind.has .u32 x) →
    rMix.I3 [(D.V v0), (D.Z z1), (D.V v2), (D.Z z3), (D.S s4), (D.I i18), (D.Z z19)] →
 ((
 (i18 < ((z16.length : Nat) : Int)) →
 ((0 : Int) ≤ i18) ∧ (((0 : Int) ≤ i18) →
 (i18 < ((z19.length : Nat) : Int)) ∧ ((i18 < ((z19.length : Nat) : Int)) →
 (i18 < ((z1.length : Nat) : Int)) ∧ ((i18 < ((z1.length : Nat) : Int)) →
     rMix.I3 [(D.V v0), (D.Z z1), (D.V v2), (D.Z z3), (D.S s4), (D.I (IntKind.wrap .i64 (i18 + (1 : Int)))), (D.Z (z19.set i18.toNat (IntKind.wrap .u32 ((z19.getD i18.toNat 0) + (z1.getD i18.toNat 0)))))] ∧ rMix.I3M [(D.V v0), (D.Z z1), (D.V v2), (D.Z z3), (D.S s4), (D.I (IntKind.wrap .i64 (i18 + (1 : Int)))), (D.Z (z19.set i18.toNat (IntKind.wrap .u32 ((z19.getD i18.toNat 0) + (z1.getD i18.toNat 0)))))] < rMix.I3M [(D.V v0), (D.Z z1), (D.V v2), (D.Z z3), (D.S s4), (D.I i18), (D.Z z19)])))) ∧ (
 (((z16.length : Nat) : Int) ≤ i18) →
     rMix.sig.post [(D.V v0), (D.Z z1), (D.V v2), (D.Z z3), (D.S s4), (D.V v15), (D.Z z19)])))))))))))))
theorem rMix.den : rMix.vc.den2 (mkEnv rMix.sig [rTurn.sig, rNot.sig] [(rMix.I0, rMix.I0M), (rMix.I1, rMix.I1M), (rMix.I2, rMix.I2M), (rMix.I3, rMix.I3M)]) [] = rMix.Pure := by kernel_rfl
def rOf.vc : VC :=
 (.all .V
 (.all .Z
 (.all .V
 (.all .Z
 (.all .S
 (.know (.ssz (.at 4))
 (.know (.allHas .u32 (.at 1))
 (.know (.allHas .u32 (.at 3))
 (.post 0 [(.at 0), (.at 1), (.at 2), (.at 3), (.at 4)]
 (.all .N
 (.obl (.o2 .le (.o1 .slen (.o2 .cat (.at 4) (.str ⟨#[128]⟩))) (.int 9223372036854775807))
 (.inv 0 [(.at 0), (.at 1), (.at 2), (.at 3), (.at 4), (.o2 .cat (.at 4) (.str ⟨#[128]⟩)), (.int 0)]
 (.all .S
 (.all .I
 (.know (.ssz (.at 6))
 (.know (.has .i64 (.at 7))
 (.asm 0 [(.at 0), (.at 1), (.at 2), (.at 3), (.at 4), (.at 6), (.at 7)]
 (.and
 (.imp (.o2 .lt (.at 7) (.int 64)) true
 (.and
 (.imp (.o1 .not (.o2 .eq (.o2 .rem (.o1 .slen (.at 6)) (.int 64)) (.int 56))) true
 (.obl (.o2 .le (.o1 .slen (.o2 .cat (.at 6) (.str ⟨#[0]⟩))) (.int 9223372036854775807))
 (.back 0 [(.at 0), (.at 1), (.at 2), (.at 3), (.at 4), (.at 6), (.at 7)] [(.at 0), (.at 1), (.at 2), (.at 3), (.at 4), (.o2 .cat (.at 6) (.str ⟨#[0]⟩)), (.o2 (.add .i64) (.at 7) (.int 1))])))
 (.imp (.o1 .not (.o2 .eq (.o2 .rem (.o1 .slen (.at 6)) (.int 64)) (.int 56))) false
 (.inv 1 [(.at 0), (.at 1), (.at 2), (.at 3), (.at 4), (.o2 (.mul .u64) (.o1 (.wrap .u64) (.o1 .slen (.at 4))) (.int 8)), (.str ⟨#[]⟩), (.int 0)]
 (.all .I
 (.all .S
 (.all .I
 (.know (.has .u64 (.at 8))
 (.know (.ssz (.at 9))
 (.know (.has .i64 (.at 10))
 (.asm 1 [(.at 0), (.at 1), (.at 2), (.at 3), (.at 4), (.at 8), (.at 9), (.at 10)]
 (.and
 (.imp (.o2 .lt (.at 10) (.int 8)) true
 (.all .V
 (.obl (.o2 .le (.o1 .slen (.o2 .cat (.o1 .ofLi (.o2 .licons (.o1 (.wrap .u8) (.o2 .rem (.at 8) (.int 256))) (.lis []))) (.at 9))) (.int 9223372036854775807))
 (.back 1 [(.at 0), (.at 1), (.at 2), (.at 3), (.at 4), (.at 8), (.at 9), (.at 10)] [(.at 0), (.at 1), (.at 2), (.at 3), (.at 4), (.o2 (.quo .u64) (.at 8) (.int 256)), (.o2 .cat (.o1 .ofLi (.o2 .licons (.o1 (.wrap .u8) (.o2 .rem (.at 8) (.int 256))) (.lis []))) (.at 9)), (.o2 (.add .i64) (.at 10) (.int 1))]))))
 (.imp (.o2 .lt (.at 10) (.int 8)) false
 (.obl (.o2 .le (.o1 .slen (.o2 .cat (.at 6) (.at 9))) (.int 9223372036854775807))
 (.inv 2 [(.at 0), (.at 1), (.at 2), (.at 3), (.at 4), (.at 1), (.int 0)]
 (.all .V
 (.all .Z
 (.all .I
 (.know (.has .i64 (.at 13))
 (.know (.allHas .u32 (.at 12))
 (.asm 2 [(.at 0), (.at 1), (.at 2), (.at 3), (.at 4), (.at 12), (.at 13)]
 (.and
 (.imp (.o2 .lt (.at 13) (.o1 .slen (.o2 .cat (.at 6) (.at 9)))) true
 (.obl (.o2 .le (.at 13) (.o2 (.add .i64) (.at 13) (.int 64)))
 (.obl (.o2 .le (.int 0) (.at 13))
 (.obl (.o2 .le (.o2 (.add .i64) (.at 13) (.int 64)) (.o1 .slen (.o2 .cat (.at 6) (.at 9))))
 (.pre 1 [(.at 11), (.at 12), (.at 2), (.at 3), (.o3 .ssub (.o2 .cat (.at 6) (.at 9)) (.at 13) (.o2 (.add .i64) (.at 13) (.int 64)))]
 (.all .V
 (.all .Z
 (.post 1 [(.at 11), (.at 12), (.at 2), (.at 3), (.o3 .ssub (.o2 .cat (.at 6) (.at 9)) (.at 13) (.o2 (.add .i64) (.at 13) (.int 64))), (.at 14), (.at 15)]
 (.know (.allHas .u32 (.at 15))
 (.back 2 [(.at 0), (.at 1), (.at 2), (.at 3), (.at 4), (.at 12), (.at 13)] [(.at 0), (.at 1), (.at 2), (.at 3), (.at 4), (.at 15), (.o2 (.add .i64) (.at 13) (.int 64))]))))))))))
 (.imp (.o2 .lt (.at 13) (.o1 .slen (.o2 .cat (.at 6) (.at 9)))) false
 (.inv 3 [(.at 0), (.at 1), (.at 2), (.at 3), (.at 4), (.str ⟨#[]⟩), (.int 0)]
 (.all .S
 (.all .I
 (.know (.ssz (.at 14))
 (.know (.has .i64 (.at 15))
 (.asm 3 [(.at 0), (.at 1), (.at 2), (.at 3), (.at 4), (.at 14), (.at 15)]
 (.and
 (.imp (.o2 .lt (.at 15) (.o1 .lilen (.at 12))) true
 (.obl (.o2 .le (.int 0) (.at 15))
 (.all .V
 (.obl (.o2 .le (.o1 .slen (.o2 .cat (.at 14) (.o1 .ofLi (.o2 .licons (.o1 (.wrap .u8) (.o2 (.quo .u32) (.o2 .liget (.at 12) (.at 15)) (.int 16777216))) (.o2 .licons (.o1 (.wrap .u8) (.o2 .rem (.o2 (.quo .u32) (.o2 .liget (.at 12) (.at 15)) (.int 65536)) (.int 256))) (.o2 .licons (.o1 (.wrap .u8) (.o2 .rem (.o2 (.quo .u32) (.o2 .liget (.at 12) (.at 15)) (.int 256)) (.int 256))) (.o2 .licons (.o1 (.wrap .u8) (.o2 .rem (.o2 .liget (.at 12) (.at 15)) (.int 256))) (.lis [])))))))) (.int 9223372036854775807))
 (.back 3 [(.at 0), (.at 1), (.at 2), (.at 3), (.at 4), (.at 14), (.at 15)] [(.at 0), (.at 1), (.at 2), (.at 3), (.at 4), (.o2 .cat (.at 14) (.o1 .ofLi (.o2 .licons (.o1 (.wrap .u8) (.o2 (.quo .u32) (.o2 .liget (.at 12) (.at 15)) (.int 16777216))) (.o2 .licons (.o1 (.wrap .u8) (.o2 .rem (.o2 (.quo .u32) (.o2 .liget (.at 12) (.at 15)) (.int 65536)) (.int 256))) (.o2 .licons (.o1 (.wrap .u8) (.o2 .rem (.o2 (.quo .u32) (.o2 .liget (.at 12) (.at 15)) (.int 256)) (.int 256))) (.o2 .licons (.o1 (.wrap .u8) (.o2 .rem (.o2 .liget (.at 12) (.at 15)) (.int 256))) (.lis []))))))), (.o2 (.add .i64) (.at 15) (.int 1))])))))
 (.imp (.o2 .lt (.at 15) (.o1 .lilen (.at 12))) false
 (.ret [(.at 0), (.at 1), (.at 2), (.at 3), (.at 4), (.at 14)]))))))))))))))))))))))))))))))))
 (.imp (.o2 .lt (.at 7) (.int 64)) false
 (.inv 1 [(.at 0), (.at 1), (.at 2), (.at 3), (.at 4), (.o2 (.mul .u64) (.o1 (.wrap .u64) (.o1 .slen (.at 4))) (.int 8)), (.str ⟨#[]⟩), (.int 0)]
 (.all .I
 (.all .S
 (.all .I
 (.know (.has .u64 (.at 8))
 (.know (.ssz (.at 9))
 (.know (.has .i64 (.at 10))
 (.asm 1 [(.at 0), (.at 1), (.at 2), (.at 3), (.at 4), (.at 8), (.at 9), (.at 10)]
 (.and
 (.imp (.o2 .lt (.at 10) (.int 8)) true
 (.all .V
 (.obl (.o2 .le (.o1 .slen (.o2 .cat (.o1 .ofLi (.o2 .licons (.o1 (.wrap .u8) (.o2 .rem (.at 8) (.int 256))) (.lis []))) (.at 9))) (.int 9223372036854775807))
 (.back 1 [(.at 0), (.at 1), (.at 2), (.at 3), (.at 4), (.at 8), (.at 9), (.at 10)] [(.at 0), (.at 1), (.at 2), (.at 3), (.at 4), (.o2 (.quo .u64) (.at 8) (.int 256)), (.o2 .cat (.o1 .ofLi (.o2 .licons (.o1 (.wrap .u8) (.o2 .rem (.at 8) (.int 256))) (.lis []))) (.at 9)), (.o2 (.add .i64) (.at 10) (.int 1))]))))
 (.imp (.o2 .lt (.at 10) (.int 8)) false
 (.obl (.o2 .le (.o1 .slen (.o2 .cat (.at 6) (.at 9))) (.int 9223372036854775807))
 (.inv 2 [(.at 0), (.at 1), (.at 2), (.at 3), (.at 4), (.at 1), (.int 0)]
 (.all .V
 (.all .Z
 (.all .I
 (.know (.has .i64 (.at 13))
 (.know (.allHas .u32 (.at 12))
 (.asm 2 [(.at 0), (.at 1), (.at 2), (.at 3), (.at 4), (.at 12), (.at 13)]
 (.and
 (.imp (.o2 .lt (.at 13) (.o1 .slen (.o2 .cat (.at 6) (.at 9)))) true
 (.obl (.o2 .le (.at 13) (.o2 (.add .i64) (.at 13) (.int 64)))
 (.obl (.o2 .le (.int 0) (.at 13))
 (.obl (.o2 .le (.o2 (.add .i64) (.at 13) (.int 64)) (.o1 .slen (.o2 .cat (.at 6) (.at 9))))
 (.pre 1 [(.at 11), (.at 12), (.at 2), (.at 3), (.o3 .ssub (.o2 .cat (.at 6) (.at 9)) (.at 13) (.o2 (.add .i64) (.at 13) (.int 64)))]
 (.all .V
 (.all .Z
 (.post 1 [(.at 11), (.at 12), (.at 2), (.at 3), (.o3 .ssub (.o2 .cat (.at 6) (.at 9)) (.at 13) (.o2 (.add .i64) (.at 13) (.int 64))), (.at 14), (.at 15)]
 (.know (.allHas .u32 (.at 15))
 (.back 2 [(.at 0), (.at 1), (.at 2), (.at 3), (.at 4), (.at 12), (.at 13)] [(.at 0), (.at 1), (.at 2), (.at 3), (.at 4), (.at 15), (.o2 (.add .i64) (.at 13) (.int 64))]))))))))))
 (.imp (.o2 .lt (.at 13) (.o1 .slen (.o2 .cat (.at 6) (.at 9)))) false
 (.inv 3 [(.at 0), (.at 1), (.at 2), (.at 3), (.at 4), (.str ⟨#[]⟩), (.int 0)]
 (.all .S
 (.all .I
 (.know (.ssz (.at 14))
 (.know (.has .i64 (.at 15))
 (.asm 3 [(.at 0), (.at 1), (.at 2), (.at 3), (.at 4), (.at 14), (.at 15)]
 (.and
 (.imp (.o2 .lt (.at 15) (.o1 .lilen (.at 12))) true
 (.obl (.o2 .le (.int 0) (.at 15))
 (.all .V
 (.obl (.o2 .le (.o1 .slen (.o2 .cat (.at 14) (.o1 .ofLi (.o2 .licons (.o1 (.wrap .u8) (.o2 (.quo .u32) (.o2 .liget (.at 12) (.at 15)) (.int 16777216))) (.o2 .licons (.o1 (.wrap .u8) (.o2 .rem (.o2 (.quo .u32) (.o2 .liget (.at 12) (.at 15)) (.int 65536)) (.int 256))) (.o2 .licons (.o1 (.wrap .u8) (.o2 .rem (.o2 (.quo .u32) (.o2 .liget (.at 12) (.at 15)) (.int 256)) (.int 256))) (.o2 .licons (.o1 (.wrap .u8) (.o2 .rem (.o2 .liget (.at 12) (.at 15)) (.int 256))) (.lis [])))))))) (.int 9223372036854775807))
 (.back 3 [(.at 0), (.at 1), (.at 2), (.at 3), (.at 4), (.at 14), (.at 15)] [(.at 0), (.at 1), (.at 2), (.at 3), (.at 4), (.o2 .cat (.at 14) (.o1 .ofLi (.o2 .licons (.o1 (.wrap .u8) (.o2 (.quo .u32) (.o2 .liget (.at 12) (.at 15)) (.int 16777216))) (.o2 .licons (.o1 (.wrap .u8) (.o2 .rem (.o2 (.quo .u32) (.o2 .liget (.at 12) (.at 15)) (.int 65536)) (.int 256))) (.o2 .licons (.o1 (.wrap .u8) (.o2 .rem (.o2 (.quo .u32) (.o2 .liget (.at 12) (.at 15)) (.int 256)) (.int 256))) (.o2 .licons (.o1 (.wrap .u8) (.o2 .rem (.o2 .liget (.at 12) (.at 15)) (.int 256))) (.lis []))))))), (.o2 (.add .i64) (.at 15) (.int 1))])))))
 (.imp (.o2 .lt (.at 15) (.o1 .lilen (.at 12))) false
 (.ret [(.at 0), (.at 1), (.at 2), (.at 3), (.at 4), (.at 14)]))))))))))))))))))))))))))))))))))))))))))))))))
def rOf.Pure : Prop :=
 ∀ (v0 : Value),
 ∀ (z1 : List Int),
 ∀ (v2 : Value),
 ∀ (z3 : List Int),
 ∀ (s4 : ByteArray),
 ((s4.size : Int) ≤ 9223372036854775807) →
 (∀ x ∈ z1, IntKind.has .u32 x) →
 (∀ x ∈ z3, IntKind.has .u32 x) →
 rOf.sig.pre [(D.V v0), (D.Z z1), (D.V v2), (D.Z z3), (D.S s4)] →
 ∀ (n5 : Nat),
 ((((s4 ++ (⟨#[128]⟩ : ByteArray)).size : Nat) : Int) ≤ (9223372036854775807 : Int)) ∧ (((((s4 ++ (⟨#[128]⟩ : ByteArray)).size : Nat) : Int) ≤ (9223372036854775807 : Int)) →
 rOf.I0 [(D.V v0), (D.Z z1), (D.V v2), (D.Z z3), (D.S s4), (D.S (s4 ++ (⟨#[128]⟩ : ByteArray))), (D.I (0 : Int))] ∧ (
 ∀ (s6 : ByteArray),
 ∀ (i7 : Int),
 ((s6.size : Int) ≤ 9223372036854775807) →
 (-9223372036854775808 ≤ i7 ∧ i7 < 9223372036854775808) →
 rOf.I0 [(D.V v0), (D.Z z1), (D.V v2), (D.Z z3), (D.S s4), (D.S s6), (D.I i7)] →
 ((
 (i7 < (64 : Int)) →
 ((
 ((Int.tmod ((s6.size : Nat) : Int) (64 : Int)) ≠ (56 : Int)) →
 ((((s6 ++ (⟨#[0]⟩ : ByteArray)).size : Nat) : Int) ≤ (9223372036854775807 : Int)) ∧ (((((s6 ++ (⟨#[0]⟩ : ByteArray)).size : Nat) : Int) ≤ (9223372036854775807 : Int)) →
   rOf.I0 [(D.V v0), (D.Z z1), (D.V v2), (D.Z z3), (D.S s4), (D.S (s6 ++ (⟨#[0]⟩ : ByteArray))), (D.I (IntKind.wrap .i64 (i7 + (1 : Int))))] ∧ rOf.I0M [(D.V v0), (D.Z z1), (D.V v2), (D.Z z3), (D.S s4), (D.S (s6 ++ (⟨#[0]⟩ : ByteArray))), (D.I (IntKind.wrap .i64 (i7 + (1 : Int))))] < rOf.I0M [(D.V v0), (D.Z z1), (D.V v2), (D.Z z3), (D.S s4), (D.S s6), (D.I i7)])) ∧ (
 ((Int.tmod ((s6.size : Nat) : Int) (64 : Int)) = (56 : Int)) →
   rOf.I1 [(D.V v0), (D.Z z1), (D.V v2), (D.Z z3), (D.S s4), (D.I (IntKind.wrap .u64 ((IntKind.wrap .u64 ((s4.size : Nat) : Int)) * (8 : Int)))), (D.S (⟨#[]⟩ : ByteArray)), (D.I (0 : Int))] ∧ (
 ∀ (i8 : Int),
 ∀ (s9 : ByteArray),
 ∀ (i10 : Int),
 (0 ≤ i8 ∧ i8 < 18446744073709551616) →
 ((s9.size : Int) ≤ 9223372036854775807) →
 (-9223372036854775808 ≤ i10 ∧ i10 < 9223372036854775808) →
   rOf.I1 [(D.V v0), (D.Z z1), (D.V v2), (D.Z z3), (D.S s4), (D.I i8), (D.S s9), (D.I i10)] →
 ((
 (i10 < (8 : Int)) →
 ∀ (v11 : Value),
 (((((textOf ((IntKind.wrap .u8 (Int.tmod i8 (256 : Int))) :: ([] : List Int))) ++ s9).size : Nat) : Int) ≤ (9223372036854775807 : Int)) ∧ ((((((textOf ((IntKind.wrap .u8 (Int.tmod i8 (256 : Int))) :: ([] : List Int))) ++ s9).size : Nat) : Int) ≤ (9223372036854775807 : Int)) →
    rOf.I1 [(D.V v0), (D.Z z1), (D.V v2), (D.Z z3), (D.S s4), (D.I (IntKind.wrap .u64 (Int.tdiv i8 (256 : Int)))), (D.S ((textOf ((IntKind.wrap .u8 (Int.tmod i8 (256 : Int))) :: ([] : List Int))) ++ s9)), (D.I (IntKind.wrap .i64 (i10 + (1 : Int))))] ∧ rOf.I1M [(D.V v0), (D.Z z1), (D.V v2), (D.Z z3), (D.S s4), (D.I (IntKind.wrap .u64 (Int.tdiv i8 (256 : Int)))), (D.S ((textOf ((IntKind.wrap .u8 (Int.tmod i8 (256 : Int))) :: ([] : List Int))) ++ s9)), (D.I (IntKind.wrap .i64 (i10 + (1 : Int))))] < rOf.I1M [(D.V v0), (D.Z z1), (D.V v2), (D.Z z3), (D.S s4), (D.I i8), (D.S s9), (D.I i10)])) ∧ (
 ((8 : Int) ≤ i10) →
 ((((s6 ++ s9).size : Nat) : Int) ≤ (9223372036854775807 : Int)) ∧ (((((s6 ++ s9).size : Nat) : Int) ≤ (9223372036854775807 : Int)) →
    rOf.I2 [(D.V v0), (D.Z z1), (D.V v2), (D.Z z3), (D.S s4), (D.Z z1), (D.I (0 : Int))] ∧ (
 ∀ (v11 : Value),
 ∀ (z12 : List Int),
 ∀ (i13 : Int),
 (-9223372036854775808 ≤ i13 ∧ i13 < 9223372036854775808) →
 (∀ x ∈ z12, IntKind.has .u32 x) →
    rOf.I2 [(D.V v0), (D.Z z1), (D.V v2), (D.Z z3), (D.S s4), (D.Z z12), (D.I i13)] →
 ((
 (i13 < (((s6 ++ s9).size : Nat) : Int)) →
 (i13 ≤ (IntKind.wrap .i64 (i13 + (64 : Int)))) ∧ ((i13 ≤ (IntKind.wrap .i64 (i13 + (64 : Int)))) →
 ((0 : Int) ≤ i13) ∧ (((0 : Int) ≤ i13) →
 ((IntKind.wrap .i64 (i13 + (64 : Int))) ≤ (((s6 ++ s9).size : Nat) : Int)) ∧ (((IntKind.wrap .i64 (i13 + (64 : Int))) ≤ (((s6 ++ s9).size : Nat) : Int)) →
     rMix.sig.pre [(D.V v11), (D.Z z12), (D.V v2), (D.Z z3), (D.S ((s6 ++ s9).extract i13.toNat (IntKind.wrap .i64 (i13 + (64 : Int))).toNat))] ∧ (
 ∀ (v14 : Value),
 ∀ (z15 : List Int),
     rMix.sig.post [(D.V v11), (D.Z z12), (D.V v2), (D.Z z3), (D.S ((s6 ++ s9).extract i13.toNat (IntKind.wrap .i64 (i13 + (64 : Int))).toNat)), (D.V v14), (D.Z z15)] →
 (∀ x ∈ z15, IntKind.has .u32 x) →
     rOf.I2 [(D.V v0), (D.Z z1), (D.V v2), (D.Z z3), (D.S s4), (D.Z z15), (D.I (IntKind.wrap .i64 (i13 + (64 : Int))))] ∧ rOf.I2M [(D.V v0), (D.Z z1), (D.V v2), (D.Z z3), (D.S s4), (D.Z z15), (D.I (IntKind.wrap .i64 (i13 + (64 : Int))))] < rOf.I2M [(D.V v0), (D.Z z1), (D.V v2), (D.Z z3), (D.S s4), (D.Z z12), (D.I i13)]))))) ∧ (
 ((((s6 ++ s9).size : Nat) : Int) ≤ i13) →
     rOf.I3 [(D.V v0), (D.Z z1), (D.V v2), (D.Z z3), (D.S s4), (D.S (⟨#[]⟩ : ByteArray)), (D.I (0 : Int))] ∧ (
 ∀ (s14 : ByteArray),
 ∀ (i15 : Int),
 ((s14.size : Int) ≤ 9223372036854775807) →
 (-9223372036854775808 ≤ i15 ∧ i15 < 9223372036854775808) →
     rOf.I3 [(D.V v0), (D.Z z1), (D.V v2), (D.Z z3), (D.S s4), (D.S s14), (D.I i15)] →
 ((
 (i15 < ((z12.length : Nat) : Int)) →
 ((0 : Int) ≤ i15) ∧ (((0 : Int) ≤ i15) →
 ∀ (v16 : Value),
 ((((s14 ++ (textOf ((IntKind.wrap .u8 (IntKind.wrap .u32 (Int.tdiv (z12.getD i15.toNat 0) (16777216 : Int)))) :: ((IntKind.wrap .u8 (Int.tmod (IntKind.wrap .u32 (Int.tdiv (z12.getD i15.toNat 0) (65536 : Int))) (256 : Int))) :: ((IntKind.wrap .u8 (Int.tmod (IntKind.wrap .u32 (Int.tdiv (z12.getD i15.toNat 0) (256 : Int))) (256 : Int))) :: ((IntKind.wrap .u8 (Int.tmod (z12.getD i15.toNat 0) (256 : Int))) :: ([] : List Int))))))).size : Nat) : Int) ≤ (9223372036854775807 : Int)) ∧ (((((s14 ++ (textOf ((IntKind.wrap .u8 (IntKind.wrap .u32 (Int.tdiv (z12.getD i15.toNat 0) (16777216 : Int)))) :: ((IntKind.wrap .u8 (Int.tmod (IntKind.wrap .u32 (Int.tdiv (z12.getD i15.toNat 0) (65536 : Int))) (256 : Int))) :: ((IntKind.wrap .u8 (Int.tmod (IntKind.wrap .u32 (Int.tdiv (z12.getD i15.toNat 0) (256 : Int))) (256 : Int))) :: ((IntKind.wrap .u8 (Int.tmod (z12.getD i15.toNat 0) (256 : Int))) :: ([] : List Int))))))).size : Nat) : Int) ≤ (9223372036854775807 : Int)) →
      rOf.I3 [(D.V v0), (D.Z z1), (D.V v2), (D.Z z3), (D.S s4), (D.S (s14 ++ (textOf ((IntKind.wrap .u8 (IntKind.wrap .u32 (Int.tdiv (z12.getD i15.toNat 0) (16777216 : Int)))) :: ((IntKind.wrap .u8 (Int.tmod (IntKind.wrap .u32 (Int.tdiv (z12.getD i15.toNat 0) (65536 : Int))) (256 : Int))) :: ((IntKind.wrap .u8 (Int.tmod (IntKind.wrap .u32 (Int.tdiv (z12.getD i15.toNat 0) (256 : Int))) (256 : Int))) :: ((IntKind.wrap .u8 (Int.tmod (z12.getD i15.toNat 0) (256 : Int))) :: ([] : List Int)))))))), (D.I (IntKind.wrap .i64 (i15 + (1 : Int))))] ∧ rOf.I3M [(D.V v0), (D.Z z1), (D.V v2), (D.Z z3), (D.S s4), (D.S (s14 ++ (textOf ((IntKind.wrap .u8 (IntKind.wrap .u32 (Int.tdiv (z12.getD i15.toNat 0) (16777216 : Int)))) :: ((IntKind.wrap .u8 (Int.tmod (IntKind.wrap .u32 (Int.tdiv (z12.getD i15.toNat 0) (65536 : Int))) (256 : Int))) :: ((IntKind.wrap .u8 (Int.tmod (IntKind.wrap .u32 (Int.tdiv (z12.getD i15.toNat 0) (256 : Int))) (256 : Int))) :: ((IntKind.wrap .u8 (Int.tmod (z12.getD i15.toNat 0) (256 : Int))) :: ([] : List Int)))))))), (D.I (IntKind.wrap .i64 (i15 + (1 : Int))))] < rOf.I3M [(D.V v0), (D.Z z1), (D.V v2), (D.Z z3), (D.S s4), (D.S s14), (D.I i15)]))) ∧ (
 (((z12.length : Nat) : Int) ≤ i15) →
      rOf.sig.post [(D.V v0), (D.Z z1), (D.V v2), (D.Z z3), (D.S s4), (D.S s14)]))))))))))))) ∧ (
 ((64 : Int) ≤ i7) →
  rOf.I1 [(D.V v0), (D.Z z1), (D.V v2), (D.Z z3), (D.S s4), (D.I (IntKind.wrap .u64 ((IntKind.wrap .u64 ((s4.size : Nat) : Int)) * (8 : Int)))), (D.S (⟨#[]⟩ : ByteArray)), (D.I (0 : Int))] ∧ (
 ∀ (i8 : Int),
 ∀ (s9 : ByteArray),
 ∀ (i10 : Int),
 (0 ≤ i8 ∧ i8 < 18446744073709551616) →
 ((s9.size : Int) ≤ 9223372036854775807) →
 (-9223372036854775808 ≤ i10 ∧ i10 < 9223372036854775808) →
  rOf.I1 [(D.V v0), (D.Z z1), (D.V v2), (D.Z z3), (D.S s4), (D.I i8), (D.S s9), (D.I i10)] →
 ((
 (i10 < (8 : Int)) →
 ∀ (v11 : Value),
 (((((textOf ((IntKind.wrap .u8 (Int.tmod i8 (256 : Int))) :: ([] : List Int))) ++ s9).size : Nat) : Int) ≤ (9223372036854775807 : Int)) ∧ ((((((textOf ((IntKind.wrap .u8 (Int.tmod i8 (256 : Int))) :: ([] : List Int))) ++ s9).size : Nat) : Int) ≤ (9223372036854775807 : Int)) →
   rOf.I1 [(D.V v0), (D.Z z1), (D.V v2), (D.Z z3), (D.S s4), (D.I (IntKind.wrap .u64 (Int.tdiv i8 (256 : Int)))), (D.S ((textOf ((IntKind.wrap .u8 (Int.tmod i8 (256 : Int))) :: ([] : List Int))) ++ s9)), (D.I (IntKind.wrap .i64 (i10 + (1 : Int))))] ∧ rOf.I1M [(D.V v0), (D.Z z1), (D.V v2), (D.Z z3), (D.S s4), (D.I (IntKind.wrap .u64 (Int.tdiv i8 (256 : Int)))), (D.S ((textOf ((IntKind.wrap .u8 (Int.tmod i8 (256 : Int))) :: ([] : List Int))) ++ s9)), (D.I (IntKind.wrap .i64 (i10 + (1 : Int))))] < rOf.I1M [(D.V v0), (D.Z z1), (D.V v2), (D.Z z3), (D.S s4), (D.I i8), (D.S s9), (D.I i10)])) ∧ (
 ((8 : Int) ≤ i10) →
 ((((s6 ++ s9).size : Nat) : Int) ≤ (9223372036854775807 : Int)) ∧ (((((s6 ++ s9).size : Nat) : Int) ≤ (9223372036854775807 : Int)) →
   rOf.I2 [(D.V v0), (D.Z z1), (D.V v2), (D.Z z3), (D.S s4), (D.Z z1), (D.I (0 : Int))] ∧ (
 ∀ (v11 : Value),
 ∀ (z12 : List Int),
 ∀ (i13 : Int),
 (-9223372036854775808 ≤ i13 ∧ i13 < 9223372036854775808) →
 (∀ x ∈ z12, IntKind.has .u32 x) →
   rOf.I2 [(D.V v0), (D.Z z1), (D.V v2), (D.Z z3), (D.S s4), (D.Z z12), (D.I i13)] →
 ((
 (i13 < (((s6 ++ s9).size : Nat) : Int)) →
 (i13 ≤ (IntKind.wrap .i64 (i13 + (64 : Int)))) ∧ ((i13 ≤ (IntKind.wrap .i64 (i13 + (64 : Int)))) →
 ((0 : Int) ≤ i13) ∧ (((0 : Int) ≤ i13) →
 ((IntKind.wrap .i64 (i13 + (64 : Int))) ≤ (((s6 ++ s9).size : Nat) : Int)) ∧ (((IntKind.wrap .i64 (i13 + (64 : Int))) ≤ (((s6 ++ s9).size : Nat) : Int)) →
    rMix.sig.pre [(D.V v11), (D.Z z12), (D.V v2), (D.Z z3), (D.S ((s6 ++ s9).extract i13.toNat (IntKind.wrap .i64 (i13 + (64 : Int))).toNat))] ∧ (
 ∀ (v14 : Value),
 ∀ (z15 : List Int),
    rMix.sig.post [(D.V v11), (D.Z z12), (D.V v2), (D.Z z3), (D.S ((s6 ++ s9).extract i13.toNat (IntKind.wrap .i64 (i13 + (64 : Int))).toNat)), (D.V v14), (D.Z z15)] →
 (∀ x ∈ z15, IntKind.has .u32 x) →
    rOf.I2 [(D.V v0), (D.Z z1), (D.V v2), (D.Z z3), (D.S s4), (D.Z z15), (D.I (IntKind.wrap .i64 (i13 + (64 : Int))))] ∧ rOf.I2M [(D.V v0), (D.Z z1), (D.V v2), (D.Z z3), (D.S s4), (D.Z z15), (D.I (IntKind.wrap .i64 (i13 + (64 : Int))))] < rOf.I2M [(D.V v0), (D.Z z1), (D.V v2), (D.Z z3), (D.S s4), (D.Z z12), (D.I i13)]))))) ∧ (
 ((((s6 ++ s9).size : Nat) : Int) ≤ i13) →
    rOf.I3 [(D.V v0), (D.Z z1), (D.V v2), (D.Z z3), (D.S s4), (D.S (⟨#[]⟩ : ByteArray)), (D.I (0 : Int))] ∧ (
 ∀ (s14 : ByteArray),
 ∀ (i15 : Int),
 ((s14.size : Int) ≤ 9223372036854775807) →
 (-9223372036854775808 ≤ i15 ∧ i15 < 9223372036854775808) →
    rOf.I3 [(D.V v0), (D.Z z1), (D.V v2), (D.Z z3), (D.S s4), (D.S s14), (D.I i15)] →
 ((
 (i15 < ((z12.length : Nat) : Int)) →
 ((0 : Int) ≤ i15) ∧ (((0 : Int) ≤ i15) →
 ∀ (v16 : Value),
 ((((s14 ++ (textOf ((IntKind.wrap .u8 (IntKind.wrap .u32 (Int.tdiv (z12.getD i15.toNat 0) (16777216 : Int)))) :: ((IntKind.wrap .u8 (Int.tmod (IntKind.wrap .u32 (Int.tdiv (z12.getD i15.toNat 0) (65536 : Int))) (256 : Int))) :: ((IntKind.wrap .u8 (Int.tmod (IntKind.wrap .u32 (Int.tdiv (z12.getD i15.toNat 0) (256 : Int))) (256 : Int))) :: ((IntKind.wrap .u8 (Int.tmod (z12.getD i15.toNat 0) (256 : Int))) :: ([] : List Int))))))).size : Nat) : Int) ≤ (9223372036854775807 : Int)) ∧ (((((s14 ++ (textOf ((IntKind.wrap .u8 (IntKind.wrap .u32 (Int.tdiv (z12.getD i15.toNat 0) (16777216 : Int)))) :: ((IntKind.wrap .u8 (Int.tmod (IntKind.wrap .u32 (Int.tdiv (z12.getD i15.toNat 0) (65536 : Int))) (256 : Int))) :: ((IntKind.wrap .u8 (Int.tmod (IntKind.wrap .u32 (Int.tdiv (z12.getD i15.toNat 0) (256 : Int))) (256 : Int))) :: ((IntKind.wrap .u8 (Int.tmod (z12.getD i15.toNat 0) (256 : Int))) :: ([] : List Int))))))).size : Nat) : Int) ≤ (9223372036854775807 : Int)) →
     rOf.I3 [(D.V v0), (D.Z z1), (D.V v2), (D.Z z3), (D.S s4), (D.S (s14 ++ (textOf ((IntKind.wrap .u8 (IntKind.wrap .u32 (Int.tdiv (z12.getD i15.toNat 0) (16777216 : Int)))) :: ((IntKind.wrap .u8 (Int.tmod (IntKind.wrap .u32 (Int.tdiv (z12.getD i15.toNat 0) (65536 : Int))) (256 : Int))) :: ((IntKind.wrap .u8 (Int.tmod (IntKind.wrap .u32 (Int.tdiv (z12.getD i15.toNat 0) (256 : Int))) (256 : Int))) :: ((IntKind.wrap .u8 (Int.tmod (z12.getD i15.toNat 0) (256 : Int))) :: ([] : List Int)))))))), (D.I (IntKind.wrap .i64 (i15 + (1 : Int))))] ∧ rOf.I3M [(D.V v0), (D.Z z1), (D.V v2), (D.Z z3), (D.S s4), (D.S (s14 ++ (textOf ((IntKind.wrap .u8 (IntKind.wrap .u32 (Int.tdiv (z12.getD i15.toNat 0) (16777216 : Int)))) :: ((IntKind.wrap .u8 (Int.tmod (IntKind.wrap .u32 (Int.tdiv (z12.getD i15.toNat 0) (65536 : Int))) (256 : Int))) :: ((IntKind.wrap .u8 (Int.tmod (IntKind.wrap .u32 (Int.tdiv (z12.getD i15.toNat 0) (256 : Int))) (256 : Int))) :: ((IntKind.wrap .u8 (Int.tmod (z12.getD i15.toNat 0) (256 : Int))) :: ([] : List Int)))))))), (D.I (IntKind.wrap .i64 (i15 + (1 : Int))))] < rOf.I3M [(D.V v0), (D.Z z1), (D.V v2), (D.Z z3), (D.S s4), (D.S s14), (D.I i15)]))) ∧ (
 (((z12.length : Nat) : Int) ≤ i15) →
     rOf.sig.post [(D.V v0), (D.Z z1), (D.V v2), (D.Z z3), (D.S s4), (D.S s14)]))))))))))))))
theorem rOf.den : rOf.vc.den2 (mkEnv rOf.sig [rMix.sig] [(rOf.I0, rOf.I0M), (rOf.I1, rOf.I1M), (rOf.I2, rOf.I2M), (rOf.I3, rOf.I3M)]) [] = rOf.Pure := by kernel_rfl
end Go.Vc
namespace Go.Vc
theorem prime_step : ∀ p : Fin 312, 2 ≤ p.val → below ((p.val : Int) + 1) = if (below (p.val : Int)).all (fun x => decide ((p.val : Int) % x ≠ 0)) then below (p.val : Int) ++ [(p.val : Int)] else below (p.val : Int) := by decide +kernel
theorem prime_take : ∀ p : Fin 401, below (p.val : Int) = primeL.take (below (p.val : Int)).length := by decide +kernel
theorem prime_late : ∀ p : Fin 401, 312 ≤ p.val → (below (p.val : Int)).length = 64 := by decide +kernel
theorem below_mem {p x : Int} (h : x ∈ below p) : 2 ≤ x := by
  have h : x ∈ primeL := (List.mem_filter.1 h).1
  have : ∀ y ∈ primeL, (2 : Int) ≤ y := by decide
  exact this x h
theorem all_take {l : List Int} {f : Int → Bool} {q : Nat} (h : q < l.length) : (l.take (q + 1)).all f = ((l.take q).all f && f (l.getD q 0)) := by
  rw [take_next h, List.all_append]
  simp

theorem prime_next {n i5 : Int} (hn : n = 8 ∨ n = 64) (a1 : 2 ≤ i5) (a2 : i5 < 400) (hl : ((below i5).length : Int) < n) :
    below (i5 + 1) = if (below i5).all (fun x => decide (i5 % x ≠ 0)) then below i5 ++ [i5] else below i5 := by
  have h312 : i5 < 312 := by
    refine Int.lt_of_not_ge fun hc => ?_
    have := prime_late ⟨i5.toNat, by omega⟩ (by show 312 ≤ i5.toNat; omega)
    simp only [show ((i5.toNat : Nat) : Int) = i5 from by omega] at this
    omega
  have := prime_step ⟨i5.toNat, by omega⟩ (by show 2 ≤ i5.toNat; omega)
  simp only [show ((i5.toNat : Nat) : Int) = i5 from by omega] at this
  exact this

theorem rPrimes.pure : rPrimes.Pure := by
  intro i0 h1 h2 v1 v2
  have hn : i0 = 8 ∨ i0 = 64 := h2
  refine ⟨⟨by decide, by decide, by decide +kernel, by show ((0 : Nat) : Int) ≤ i0; omega⟩, ?_⟩
  intro v3 z4 i5 h3 h4 h5
  obtain ⟨a1, a2, a3, a4⟩ : 2 ≤ i5 ∧ i5 ≤ 400 ∧ z4 = below i5 ∧ (z4.length : Int) ≤ i0 := h5
  have hend : i0 ≤ (z4.length : Int) → rPrimes.sig.post [(D.I i0), (D.V v3), (D.Z z4)] := by
    intro hc
    show z4 = primeL.take i0.toNat
    have := prime_take ⟨i5.toNat, by omega⟩
    simp only [show ((i5.toNat : Nat) : Int) = i5 from by omega] at this
    rw [← a3] at this
    rw [show i0.toNat = z4.length from by omega]
    exact this
  refine ⟨fun h6 => ⟨fun h7 => ?_, fun h7 => hend h7⟩, fun h6 => ?_⟩
  · refine ⟨⟨by decide, by simp⟩, ?_⟩
    intro b6 i7 h8 h9
    obtain ⟨c1, c2⟩ : 0 ≤ i7 ∧ b6 = (z4.take i7.toNat).all (fun x => decide (i5 % x ≠ 0)) := h9
    have ep : IntKind.wrap .u64 (i5 + 1) = i5 + 1 := u64w (by omega) (by omega)
    have hnx := prime_next hn a1 h6 (by rw [← a3]; exact h7)
    rw [← a3] at hnx
    refine ⟨fun h10 => ⟨c1, fun h11 => ?_⟩, fun h10 => ?_⟩
    · have hm : z4.getD i7.toNat 0 ∈ below i5 := by
        rw [a3, List.getD, List.getElem?_eq_getElem (by rw [← a3]; omega)]
        exact List.getElem_mem _
      have h2' := below_mem hm
      have ei : IntKind.wrap .i64 (i7 + 1) = i7 + 1 := i64w (by omega) (by omega)
      have em : Int.tmod i5 (z4.getD i7.toNat 0) = i5 % z4.getD i7.toNat 0 := Int.tmod_eq_emod_of_nonneg (by omega)
      have ht := all_take (l := z4) (f := fun x => decide (i5 % x ≠ 0)) (q := i7.toNat) (by omega)
      rw [ei, em]
      refine ⟨by omega, fun h12 => ⟨fun h13 => ⟨⟨by omega, ?_⟩, ?_⟩, fun h13 => ⟨⟨by omega, ?_⟩, ?_⟩⟩⟩
      · rw [show (i7 + 1).toNat = i7.toNat + 1 from by omega, ht, decide_eq_false (fun h => h h13), Bool.and_false]
      · show (z4.length - (i7 + 1)).toNat < (z4.length - i7).toNat; omega
      · rw [show (i7 + 1).toNat = i7.toNat + 1 from by omega, ht, c2, decide_eq_true h13, Bool.and_true]
      · show (z4.length - (i7 + 1)).toNat < (z4.length - i7).toNat; omega
    · rw [List.take_of_length_le (by omega)] at c2
      rw [ep, ← c2] at *
      refine ⟨fun h11 v8 => ?_, fun h11 => ?_⟩
      · rw [h11, if_pos rfl] at hnx
        have hl : (z4 ++ (i5 :: ([] : List Int))).length = z4.length + 1 := by simp
        refine ⟨by omega, fun _ v9 => ⟨⟨by omega, by omega, hnx.symm, by omega⟩, ?_⟩⟩
        show (400 - (i5 + 1)).toNat < (400 - i5).toNat; omega
      · rw [h11, if_neg (by decide)] at hnx
        refine ⟨⟨by omega, by omega, hnx.symm, a4⟩, ?_⟩
        show (400 - (i5 + 1)).toNat < (400 - i5).toNat; omega
  · refine hend ?_
    have := prime_late ⟨i5.toNat, by omega⟩ (by show 312 ≤ i5.toNat; omega)
    simp only [show ((i5.toNat : Nat) : Int) = i5 from by omega] at this
    rw [← a3] at this
    omega

theorem valB_set : ∀ (l : List Int) (j : Nat) (v : Int), j < l.length → valB (l.set j v) = valB l + (v - l.getD j 0) * 4294967296 ^ j
  | [], j, v, h => by simp at h
  | x :: l, 0, v, _ => by simp [valB]; omega
  | x :: l, j + 1, v, h => by
    have ih := valB_set l j v (by simpa using h)
    simp only [List.set_cons_succ, valB, List.getD_cons_succ, ih, Int.pow_succ]
    grind
theorem valB_take : ∀ (l : List Int) (i : Nat), i < l.length → valB (l.take (i + 1)) = valB (l.take i) + l.getD i 0 * 4294967296 ^ i
  | [], i, h => by simp at h
  | x :: l, 0, _ => by simp [valB]
  | x :: l, i + 1, h => by
    have ih := valB_take l i (by simpa using h)
    simp only [List.take_succ_cons, valB, List.getD_cons_succ, ih, Int.pow_succ]
    grind
theorem digs_set {l : List Int} {j : Nat} {v : Int} (h : digs l) (hv : 0 ≤ v ∧ v < 4294967296) : digs (l.set j v) := by
  intro x hx
  rcases List.mem_or_eq_of_mem_set hx with h1 | h1
  · exact h x h1
  · rw [h1]; exact hv
theorem digs_get {l : List Int} (h : digs l) (j : Nat) : 0 ≤ l.getD j 0 ∧ l.getD j 0 < 4294967296 := by
  rw [List.getD]
  cases hc : l[j]? with
  | none => simp
  | some x => exact h x (List.mem_of_getElem? hc)
theorem valB_nonneg : ∀ {l : List Int}, digs l → 0 ≤ valB l
  | [], _ => by simp [valB]
  | x :: l, h => by
    have ih := valB_nonneg (l := l) (fun y hy => h y (by simp [hy]))
    have := h x (by simp)
    simp only [valB]; omega
theorem valB_drop : ∀ (l : List Int) (i : Nat), digs l → valB (l.take i) ≤ valB l
  | [], i, _ => by simp [valB]
  | x :: l, 0, h => by have := valB_nonneg h; simpa [valB] using this
  | x :: l, i + 1, h => by
    have ih := valB_drop l i (fun y hy => h y (by simp [hy]))
    simp only [List.take_succ_cons, valB]; omega
theorem valB_less : ∀ (i : Nat) (a b : List Int), digs a → digs b → i < a.length → i < b.length → a.drop (i + 1) = b.drop (i + 1) → a.getD i 0 < b.getD i 0 → valB a < valB b
  | i, [], b, _, _, h, _, _, _ => by simp at h
  | i, _ :: _, [], _, _, _, h, _, _ => by simp at h
  | 0, x :: a, y :: b, ha, hb, _, _, hd, hl => by
    have : a = b := by simpa using hd
    subst this
    have hl : x < y := by simpa using hl
    simp only [valB]; omega
  | i + 1, x :: a, y :: b, ha, hb, h1, h2, hd, hl => by
    have ih := valB_less i a b (fun z hz => ha z (by simp [hz])) (fun z hz => hb z (by simp [hz])) (by simpa using h1) (by simpa using h2) (by simpa using hd) (by simpa using hl)
    have hx := ha x (by simp)
    have hy := hb y (by simp)
    simp only [valB]; omega

theorem partB_le {x k : Int} (hx : 0 ≤ x) : 0 ≤ partB x k ∧ partB x k ≤ x := by
  unfold partB
  split
  · omega
  · split <;> omega

/-- What is in hand is no greater than the whole. -/
theorem times_room {a : List Int} {x i k : Int} (ha : digs a) (hl : a.length = 8) (hx : 0 ≤ x) (hi : 0 ≤ i) (hi8 : i < 8) :
    valB (a.take i.toNat) * x + a.getD i.toNat 0 * 4294967296 ^ i.toNat * partB x k ≤ valB a * x := by
  have h1 := valB_take a i.toNat (by omega)
  have h2 := valB_drop a (i.toNat + 1) ha
  have hp := partB_le (k := k) hx
  have hA := digs_get ha i.toNat
  have hP : (0 : Int) ≤ 4294967296 ^ i.toNat := Int.le_of_lt (Int.pow_pos (by decide))
  have hAP := Int.mul_nonneg hA.1 hP
  generalize a.getD i.toNat 0 * 4294967296 ^ i.toNat = Q at *
  have e1 : Q * partB x k ≤ Q * x := Int.mul_le_mul_of_nonneg_left hp.2 hAP
  have e2 : valB (a.take (i.toNat + 1)) * x ≤ valB a * x := Int.mul_le_mul_of_nonneg_right h2 hx
  rw [h1, Int.add_mul] at e2
  omega

theorem times_carry {a out : List Int} {x i k c j : Int} (ha : digs a) (hl : a.length = 8) (hx : 0 ≤ x) (hi : 0 ≤ i) (hi8 : i < 8) (hb : valB a * x < 4294967296 ^ 8) (hj : 8 ≤ j) (hc : 0 ≤ c) (ho : digs out)
    (h : valB out + c * 4294967296 ^ j.toNat = valB (a.take i.toNat) * x + a.getD i.toNat 0 * 4294967296 ^ i.toNat * partB x (k + 1)) : c = 0 := by
  have h1 := times_room (k := k + 1) ha hl hx hi hi8
  have h2 := valB_nonneg ho
  refine Classical.byContradiction fun hn => ?_
  have h3 : (4294967296 : Int) ^ 8 ≤ 4294967296 ^ j.toNat := by
    obtain ⟨m, hm⟩ := Nat.exists_eq_add_of_le (show 8 ≤ j.toNat by omega)
    rw [hm, Int.pow_add]
    have h5 : (1 : Int) ≤ 4294967296 ^ m := Int.pow_pos (by decide)
    have h6 : (4294967296 : Int) ^ 8 * 1 ≤ 4294967296 ^ 8 * 4294967296 ^ m := Int.mul_le_mul_of_nonneg_left h5 (by decide)
    rwa [Int.mul_one] at h6
  have h4 : 1 * 4294967296 ^ j.toNat ≤ c * 4294967296 ^ j.toNat := Int.mul_le_mul_of_nonneg_right (by omega) (Int.le_of_lt (Int.pow_pos (by decide)))
  rw [Int.one_mul] at h4
  omega

theorem rTimes.pure : rTimes.Pure := by
  intro z0 i1 h1 h2 h3 h4 n2 n3 n4
  obtain ⟨ha, hb⟩ : digs z0 ∧ valB z0 * i1 < 4294967296 ^ 8 := h4
  refine ⟨⟨by decide, by decide, by unfold digs; decide, by show (0 : Int) = valB [] * i1; simp [valB]⟩, ?_⟩
  intro i5 z6 h5 h6 h7 h8
  obtain ⟨a1, a2, a3, a4⟩ : 0 ≤ i5 ∧ i5 ≤ 8 ∧ digs z6 ∧ valB z6 = valB (z0.take i5.toNat) * i1 := h8
  refine ⟨fun h9 => ⟨a1, fun h10 v7 => ?_⟩, fun h9 => ?_⟩
  · refine ⟨⟨by decide, by decide, a3, by rw [a4]; simp [partB]⟩, ?_⟩
    intro i8 z9 h11 h12 h13 h14
    obtain ⟨b1, b2, b3, b4⟩ : 0 ≤ i8 ∧ i8 ≤ 2 ∧ digs z9 ∧ valB z9 = valB (z0.take i5.toNat) * i1 + z0.getD i5.toNat 0 * 4294967296 ^ i5.toNat * partB i1 i8 := h14
    have em : Int.tmod i1 4294967296 = i1 % 4294967296 := Int.tmod_eq_emod_of_nonneg h3.1
    have ed : IntKind.wrap .u64 (Int.tdiv i1 4294967296) = i1 / 4294967296 := by rw [Int.tdiv_eq_ediv_of_nonneg h3.1]; exact u64w (by omega) (by omega)
    have ll : ((((Int.tmod i1 (4294967296 : Int)) :: ((IntKind.wrap .u64 (Int.tdiv i1 (4294967296 : Int))) :: ([] : List Int))).length : Nat) : Int) = 2 := rfl
    have hA := digs_get ha i5.toNat
    have ek : IntKind.wrap .i64 (i8 + 1) = i8 + 1 := i64w (by omega) (by omega)
    have e5 : IntKind.wrap .i64 (i5 + 1) = i5 + 1 := i64w (by omega) (by omega)
    rw [ll, em, ed, ek, e5]
    refine ⟨fun h15 => ⟨b1, fun h16 => ?_⟩, fun h15 => ?_⟩
    · have hy : 0 ≤ ([i1 % 4294967296, i1 / 4294967296] : List Int).getD i8.toNat 0 ∧ ([i1 % 4294967296, i1 / 4294967296] : List Int).getD i8.toNat 0 < 4294967296 := by
        rcases (by omega : i8 = 0 ∨ i8 = 1) with rfl | rfl
        · show 0 ≤ i1 % 4294967296 ∧ i1 % 4294967296 < 4294967296; omega
        · show 0 ≤ i1 / 4294967296 ∧ i1 / 4294967296 < 4294967296; omega
      have hpart : partB i1 i8 + ([i1 % 4294967296, i1 / 4294967296] : List Int).getD i8.toNat 0 * 4294967296 ^ i8.toNat = partB i1 (i8 + 1) := by
        rcases (by omega : i8 = 0 ∨ i8 = 1) with rfl | rfl
        · show 0 + i1 % 4294967296 * 1 = i1 % 4294967296; omega
        · show i1 % 4294967296 + i1 / 4294967296 * 4294967296 = i1; omega
      generalize ([i1 % 4294967296, i1 / 4294967296] : List Int).getD i8.toNat 0 = y at *
      have hm1 : z0.getD i5.toNat 0 * y ≤ 4294967295 * 4294967295 := Int.mul_le_mul (by omega) (by omega) hy.1 (by decide)
      have hm0 : 0 ≤ z0.getD i5.toNat 0 * y := Int.mul_nonneg hA.1 hy.1
      rw [u64w hm0 (by omega), i64w (x := i5 + i8) (by omega) (by omega)]
      refine ⟨⟨by omega, by omega, hm0, hm1, b3, ?_⟩, ?_⟩
      · rw [b4, ← hpart, show (i5 + i8).toNat = i5.toNat + i8.toNat from by omega, Int.pow_add]
        grind
      intro i10 i11 z12 h17 h18 h19 h20 h21
      obtain ⟨c1, c2, c3, c4, c5, c6⟩ : 0 ≤ i11 ∧ i11 ≤ 9 ∧ 0 ≤ i10 ∧ i10 ≤ 4294967295 * 4294967295 ∧ digs z12 ∧ valB z12 + i10 * 4294967296 ^ i11.toNat = valB (z0.take i5.toNat) * i1 + z0.getD i5.toNat 0 * 4294967296 ^ i5.toNat * partB i1 (i8 + 1) := h21
      have out : i10 = 0 → rTimes.I1 [(D.Z z0), (D.I i1), (D.I i5), (D.I (i8 + 1)), (D.Z z12)] ∧ rTimes.I1M [(D.Z z0), (D.I i1), (D.I i5), (D.I (i8 + 1)), (D.Z z12)] < rTimes.I1M [(D.Z z0), (D.I i1), (D.I i5), (D.I i8), (D.Z z9)] := by
        intro hc
        refine ⟨⟨by omega, by omega, c5, ?_⟩, ?_⟩
        · rw [← c6, hc]; omega
        · show (2 - (i8 + 1)).toNat < (2 - i8).toNat; omega
      refine ⟨fun h22 => ⟨fun h23 => ⟨c1, fun h24 => ?_⟩, fun h23 => out (by omega)⟩, fun h22 => out (times_carry ha h1 h3.1 a1 h9 hb h22 c3 c5 c6)⟩
      have hg := digs_get c5 i11.toNat
      have etm : Int.tmod i10 4294967296 = i10 % 4294967296 := Int.tmod_eq_emod_of_nonneg c3
      have etd : IntKind.wrap .u64 (Int.tdiv i10 4294967296) = i10 / 4294967296 := by rw [Int.tdiv_eq_ediv_of_nonneg c3]; exact u64w (by omega) (by omega)
      have es : IntKind.wrap .u64 (z12.getD i11.toNat 0 + i10 % 4294967296) = z12.getD i11.toNat 0 + i10 % 4294967296 := u64w (by omega) (by omega)
      have ej : IntKind.wrap .i64 (i11 + 1) = i11 + 1 := i64w (by omega) (by omega)
      rw [etm, etd, es, ej]
      generalize hs : z12.getD i11.toNat 0 + i10 % 4294967296 = s at *
      have hgs : (z12.set i11.toNat s).getD i11.toNat 0 = s := by simp [List.getD, show i11.toNat < z12.length from by omega]
      rw [hgs]
      have esd : IntKind.wrap .u64 (Int.tdiv s 4294967296) = s / 4294967296 := by rw [Int.tdiv_eq_ediv_of_nonneg (by omega)]; exact u64w (by omega) (by omega)
      have esm : Int.tmod s 4294967296 = s % 4294967296 := Int.tmod_eq_emod_of_nonneg (by omega)
      rw [esd, esm, u64w (x := i10 / 4294967296 + s / 4294967296) (by omega) (by omega), List.set_set]
      refine ⟨⟨by omega, by omega, by omega, by omega, digs_set c5 (by omega), ?_⟩, ?_⟩
      · rw [← c6, valB_set _ _ _ (by omega), show (i11 + 1).toNat = i11.toNat + 1 from by omega, Int.pow_succ]
        have k1 : s = 4294967296 * (s / 4294967296) + s % 4294967296 := by omega
        have k2 : i10 = 4294967296 * (i10 / 4294967296) + i10 % 4294967296 := by omega
        generalize (4294967296 : Int) ^ i11.toNat = P at *
        generalize z12.getD i11.toNat 0 = g at *
        generalize s / 4294967296 = sd at *
        generalize s % 4294967296 = sm at *
        generalize i10 / 4294967296 = cd at *
        generalize i10 % 4294967296 = cm at *
        grind
      · show (9 - (i11 + 1)).toNat < (9 - i11).toNat; omega
    · have e2 : i8 = 2 := by omega
      refine ⟨⟨by omega, by omega, b3, ?_⟩, ?_⟩
      · rw [b4, e2, show (i5 + 1).toNat = i5.toNat + 1 from by omega, valB_take _ _ (by omega), Int.add_mul]
        rfl
      · show (8 - (i5 + 1)).toNat < (8 - i5).toNat; omega
  · refine ⟨a3, ?_⟩
    rw [a4, List.take_of_length_le (by omega)]

end Go.Vc
namespace Go.Vc
theorem u32w {x : Int} (h : 0 ≤ x) (h' : x < 4294967296) : IntKind.u32.wrap x = x := by rw [IntKind.wrap_u32]; omega
theorem valB_rep : ∀ n, valB (List.replicate n 0) = 0
  | 0 => rfl
  | n + 1 => by simp [List.replicate_succ, valB, valB_rep n]
theorem digs_rep (n : Nat) : digs (List.replicate n 0) := by
  intro x hx
  have := List.eq_of_mem_replicate hx
  omega

theorem rOver.pure : rOver.Pure := by
  intro z0 i1 i2 h1 h2 h3 h4 h5 n3 n4
  obtain ⟨ha, p0, p1, n0, n1⟩ : digs z0 ∧ 0 ≤ i1 ∧ i1 < 4294967296 ∧ 0 ≤ i2 ∧ i2 < 8 := h5
  refine ⟨n0, fun _ => ⟨n1, fun _ => ⟨⟨by decide, by decide, ?_⟩, ?_⟩⟩⟩
  · rw [List.drop_eq_nil_of_le (by rw [h1]; decide), List.drop_eq_nil_of_le (by simp)]
  have hb : digs ((List.replicate 8 0).set i2.toNat i1) := digs_set (digs_rep 8) ⟨p0, p1⟩
  have hv : valB ((List.replicate 8 0).set i2.toNat i1) = i1 * 4294967296 ^ i2.toNat := by
    rw [valB_set _ _ _ (by simp; omega), valB_rep]
    have : (List.replicate 8 (0 : Int)).getD i2.toNat 0 = 0 := by
      rw [List.getD, List.getElem?_replicate]; split <;> rfl
    rw [this]; simp
  have hl : ((List.replicate 8 (0 : Int)).set i2.toNat i1).length = 8 := by simp
  intro i5 h6 h7
  obtain ⟨a1, a2, a3⟩ : -1 ≤ i5 ∧ i5 < 8 ∧ z0.drop (i5 + 1).toNat = ((List.replicate 8 0).set i2.toNat i1).drop (i5 + 1).toNat := h7
  have e8 : ((8 : Int)).toNat = 8 := rfl
  rw [e8]
  generalize hbb : (List.replicate 8 (0 : Int)).set i2.toNat i1 = b at *
  refine ⟨fun h8 => ⟨a2, fun h9 => ⟨fun h10 => ?_, fun h10 => ?_⟩⟩, fun h8 => ?_⟩
  · show decide _ = decide (i1 * 4294967296 ^ i2.toNat < valB z0)
    rw [show (i5 + 1).toNat = i5.toNat + 1 from by omega] at a3
    rw [← hv]
    congr 1
    apply propext
    constructor
    · intro h; exact valB_less i5.toNat b z0 hb ha (by omega) (by omega) a3.symm h
    · intro h
      refine Int.lt_of_not_ge fun hc => ?_
      have := valB_less i5.toNat z0 b ha hb (by omega) (by omega) a3 (by omega)
      omega
  · have ei : IntKind.wrap .i64 (i5 - 1) = i5 - 1 := i64w (by omega) (by omega)
    rw [ei]
    refine ⟨⟨by omega, by omega, ?_⟩, ?_⟩
    · show z0.drop (i5 - 1 + 1).toNat = ((List.replicate 8 0).set i2.toNat i1).drop (i5 - 1 + 1).toNat
      rw [hbb, show (i5 - 1 + 1).toNat = i5.toNat from by omega, List.drop_eq_getElem_cons (by omega), List.drop_eq_getElem_cons (l := b) (by omega)]
      rw [show (i5 + 1).toNat = i5.toNat + 1 from by omega] at a3
      rw [a3]
      congr 1
      have e1 : z0.getD i5.toNat 0 = z0[i5.toNat]'(by omega) := by simp [List.getD, show i5.toNat < z0.length from by omega]
      have e2 : b.getD i5.toNat 0 = b[i5.toNat]'(by omega) := by simp [List.getD, show i5.toNat < b.length from by omega]
      rw [← e1, ← e2]; exact h10
    · show (i5 - 1 + 1).toNat < (i5 + 1).toNat; omega
  · show false = decide (i1 * 4294967296 ^ i2.toNat < valB z0)
    have e : i5 = -1 := by omega
    subst e
    have a3 : z0 = b := by simpa using a3
    rw [← hv, a3]; simp

theorem pow_room {y : Int} {n : Nat} (hy : 0 ≤ y) (hy' : y ≤ 2 ^ 36) (hn : n ≤ 3) : 0 ≤ y ^ n ∧ y ^ n < 4294967296 ^ 8 := by
  have h2 : y * y ≤ 2 ^ 36 * 2 ^ 36 := Int.mul_le_mul hy' hy' hy (by decide)
  have h20 : 0 ≤ y * y := Int.mul_nonneg hy hy
  have h3 : y * y * y ≤ 2 ^ 36 * 2 ^ 36 * 2 ^ 36 := Int.mul_le_mul h2 hy' hy (by decide)
  have h30 : 0 ≤ y * y * y := Int.mul_nonneg h20 hy
  rcases (by omega : n = 0 ∨ n = 1 ∨ n = 2 ∨ n = 3) with rfl | rfl | rfl | rfl
  · rw [Int.pow_zero]; constructor <;> decide
  · rw [Int.pow_one]; omega
  · rw [show y ^ 2 = y * y from by rw [Int.pow_succ, Int.pow_one]]; omega
  · rw [show y ^ 3 = y * y * y from by rw [Int.pow_succ, Int.pow_succ, Int.pow_one]]; omega

theorem rRoot.pure : rRoot.Pure := by
  intro i0 i1 h1 h2 h3
  obtain ⟨p1, p2, hd⟩ : 2 ≤ i0 ∧ i0 ≤ 400 ∧ (i1 = 2 ∨ i1 = 3) := h3
  refine ⟨⟨36, Nat.le_refl _, by decide, by decide, by decide, rfl⟩, ?_⟩
  intro i2 i3 h4 h5 h6
  obtain ⟨k, k1, k2, k3, k4, k5⟩ : ∃ k : Nat, k ≤ 36 ∧ i3 = (if k = 0 then 0 else 2 ^ (k - 1)) ∧ 0 ≤ i2 ∧ i2 + 2 ^ k ≤ 2 ^ 36 ∧ rootGo i0 i1.toNat k i2 = rootGo i0 i1.toNat 36 0 := h6
  refine ⟨fun h7 n4 => ?_, fun h7 => ?_⟩
  · have hk : k ≠ 0 := by intro hc; rw [if_pos hc] at k2; omega
    rw [if_neg hk] at k2
    obtain ⟨m, rfl⟩ : ∃ m, k = m + 1 := ⟨k - 1, by omega⟩
    rw [Nat.add_sub_cancel] at k2
    have hp : (2 : Int) ^ (m + 1) = 2 * 2 ^ m := by rw [Int.pow_succ]; omega
    rw [hp, ← k2] at k4
    have hy : i2 + i3 ≤ 2 ^ 36 := by omega
    have ey : IntKind.wrap .u64 (i2 + i3) = i2 + i3 := u64w (by omega) (by omega)
    rw [ey]
    refine ⟨⟨by decide, by omega, by unfold digs; decide, by show (1 : Int) + 4294967296 * valB (List.replicate 7 0) = (i2 + i3) ^ 0; rw [valB_rep, Int.pow_zero]; rfl⟩, ?_⟩
    intro i5 z6 h8 h9 h10 h11
    obtain ⟨a1, a2, a3, a4⟩ : 0 ≤ i5 ∧ i5 ≤ i1 ∧ digs z6 ∧ valB z6 = (i2 + i3) ^ i5.toNat := h11
    refine ⟨fun h12 => ?_, fun h12 => ?_⟩
    · refine ⟨⟨a3, ?_⟩, ?_⟩
      · rw [a4, ← Int.pow_succ]; exact (pow_room (by omega) hy (by omega)).2
      intro z7 h13 h14 h15
      obtain ⟨b1, b2⟩ : digs z7 ∧ valB z7 = valB z6 * (i2 + i3) := h13
      rw [i64w (x := i5 + 1) (by omega) (by omega)]
      refine ⟨⟨by omega, by omega, b1, ?_⟩, ?_⟩
      · rw [b2, a4, ← Int.pow_succ, show (i5 + 1).toNat = i5.toNat + 1 from by omega]
      · show (i1 - (i5 + 1)).toNat < (i1 - i5).toNat; omega
    · refine ⟨⟨a3, by omega, by omega, by omega, by omega⟩, ?_⟩
      intro b7 h13
      have h13 : b7 = decide (i0 * 4294967296 ^ i1.toNat < valB z6) := h13
      have e5 : i5 = i1 := by omega
      rw [a4, e5] at h13
      have ed : IntKind.wrap .u64 (Int.tdiv i3 2) = i3 / 2 := by rw [Int.tdiv_eq_ediv_of_nonneg (by omega)]; exact u64w (by omega) (by omega)
      rw [ed]
      have ebit : i3 / 2 = if m = 0 then 0 else 2 ^ (m - 1) := by
        rw [k2]
        cases m with
        | zero => decide
        | succ m => rw [if_neg (by omega), Nat.add_sub_cancel, Int.pow_succ]; omega
      have less : rRoot.I0M [(D.I i0), (D.I i1), (D.I i2), (D.I (i3 / 2))] < rRoot.I0M [(D.I i0), (D.I i1), (D.I i2), (D.I i3)] := by
        show (i3 / 2).toNat < i3.toNat; omega
      have hgo : rootGo i0 i1.toNat (m + 1) i2 = rootGo i0 i1.toNat m (if i0 * 4294967296 ^ i1.toNat < (i2 + i3) ^ i1.toNat then i2 else i2 + i3) := by rw [k2]; rfl
      rw [hgo] at k5
      refine ⟨fun h14 => ⟨⟨m, by omega, ebit, by omega, by omega, ?_⟩, less⟩, fun h14 => ⟨⟨m, by omega, ebit, by omega, by omega, ?_⟩, less⟩⟩
      · rw [h14] at h13
        rw [if_neg (by simpa using h13.symm)] at k5
        exact k5
      · rw [h14] at h13
        rw [if_pos (by simpa using h13.symm)] at k5
        exact k5
  · have hk : k = 0 := by
      refine Classical.byContradiction fun hc => ?_
      rw [if_neg hc] at k2
      have : (0 : Int) < 2 ^ (k - 1) := Int.pow_pos (by decide)
      omega
    subst hk
    have k5 : i2 = rootGo i0 i1.toNat 36 0 := k5
    show IntKind.wrap .u32 (Int.tmod i2 4294967296) = rootF i0 i1.toNat
    rw [Int.tmod_eq_emod_of_nonneg (by omega), rootF, ← k5, IntKind.wrap_u32]
    omega

theorem made_s : (primeL.take 8).map (fun p => rootF p 2) = shaStart := by decide +kernel
theorem made_k : (primeL.take 64).map (fun p => rootF p 3) = shaRounds := by decide +kernel
theorem primeL_has : ∀ i, i < 64 → 2 ≤ primeL.getD i 0 ∧ primeL.getD i 0 ≤ 400 := by decide +kernel
theorem made_next {t : List Int} {d n i : Nat} (h : (primeL.take n).map (fun p => rootF p d) = t) (hn : n ≤ 64) (hi : i < n) : t.take (i + 1) = t.take i ++ [rootF ((primeL.take n).getD i 0) d] := by
  have hl : (primeL.take n).length = n := by rw [List.length_take]; exact Nat.min_eq_left hn
  have ht : t.length = n := by rw [← h, List.length_map, hl]
  have e : t.getD i 0 = rootF ((primeL.take n).getD i 0) d := by
    rw [← h]
    generalize primeL.take n = q at *
    simp [List.getD, hl, hi]
  rw [take_next (by omega), e]

theorem take_getD {l : List Int} {n i : Nat} (h : i < n) : (l.take n).getD i 0 = l.getD i 0 := by
  simp [List.getD, h]

theorem rMade.pure : rMade.Pure := by
  intro h1 v0 v1 n2 v3 v4 n5 v6 v7
  refine ⟨.inl rfl, ?_⟩
  intro v8 z9 h2 h3
  have h2 : z9 = primeL.take 8 := h2
  have l9 : z9.length = 8 := by rw [h2]; rfl
  refine ⟨⟨by decide, by decide, rfl, rfl⟩, ?_⟩
  intro i10 v11 z12 v13 z14 h4 h5 h6 h7
  obtain ⟨a1, a2, a3, a4⟩ : 0 ≤ i10 ∧ i10 ≤ 8 ∧ z12 = shaStart.take i10.toNat ∧ z14 = [] := h7
  refine ⟨fun h8 => ⟨a1, fun h9 => ?_⟩, fun h8 => ?_⟩
  · have hr := primeL_has i10.toNat (by omega)
    have hg : z9.getD i10.toNat 0 = primeL.getD i10.toNat 0 := by rw [h2, take_getD (by omega)]
    have pre : rRoot.sig.pre [(D.I (z9.getD i10.toNat 0)), (D.I (2 : Int))] := by
      rw [hg]; exact ⟨hr.1, hr.2, .inl rfl⟩
    have step : ∀ i15 : Int, rRoot.sig.post [(D.I (z9.getD i10.toNat 0)), (D.I (2 : Int)), (D.I i15)] → ((((z12 ++ (i15 :: ([] : List Int))).length : Nat) : Int) ≤ (35184372088832 : Int)) ∧
        (rMade.I0 [(D.I (IntKind.wrap .i64 (i10 + (1 : Int)))), (D.Z (z12 ++ (i15 :: ([] : List Int)))), (D.Z z14)] ∧ rMade.I0M [(D.I (IntKind.wrap .i64 (i10 + (1 : Int)))), (D.Z (z12 ++ (i15 :: ([] : List Int)))), (D.Z z14)] < rMade.I0M [(D.I i10), (D.Z z12), (D.Z z14)]) := by
      intro i15 hp
      have hp : i15 = rootF (z9.getD i10.toNat 0) 2 := hp
      have hl : z12.length ≤ 8 := by rw [a3, List.length_take]; exact Nat.le_trans (Nat.min_le_right _ _) (by decide)
      have hl2 : (z12 ++ (i15 :: ([] : List Int))).length = z12.length + 1 := by simp
      rw [i64w (x := i10 + 1) (by omega) (by omega)]
      refine ⟨by omega, ⟨by omega, by omega, ?_, a4⟩, ?_⟩
      · rw [show (i10 + 1).toNat = i10.toNat + 1 from by omega, made_next made_s (by decide) (by omega), a3, hp, h2]
      · show (8 - (i10 + 1)).toNat < (8 - i10).toNat; omega
    refine ⟨⟨pre, fun i15 hp _ _ => ⟨(step i15 hp).1, fun _ _ => (step i15 hp).2⟩⟩, ⟨pre, fun i15 hp _ => ⟨fun _ => ⟨(step i15 hp).1, fun _ _ => (step i15 hp).2⟩, fun _ => ⟨(step i15 hp).1, fun _ _ => (step i15 hp).2⟩⟩⟩⟩
  · have e12 : z12 = shaStart := by rw [a3, show i10.toNat = 8 from by omega]; rfl
    refine ⟨.inr rfl, ?_⟩
    intro v15 z16 h10 h11
    have h10 : z16 = primeL.take 64 := h10
    have l16 : z16.length = 64 := by rw [h10]; rfl
    refine ⟨⟨by decide, by decide, e12, a4⟩, ?_⟩
    intro i17 v18 z19 v20 z21 h12 h13 h14 h15
    obtain ⟨b1, b2, b3, b4⟩ : 0 ≤ i17 ∧ i17 ≤ 64 ∧ z19 = shaStart ∧ z21 = shaRounds.take i17.toNat := h15
    refine ⟨fun h16 => ⟨b1, fun h17 => ?_⟩, fun h16 => ?_⟩
    · have hr := primeL_has i17.toNat (by omega)
      have hg : z16.getD i17.toNat 0 = primeL.getD i17.toNat 0 := by rw [h10, take_getD (by omega)]
      have pre : rRoot.sig.pre [(D.I (z16.getD i17.toNat 0)), (D.I (3 : Int))] := by
        rw [hg]; exact ⟨hr.1, hr.2, .inr rfl⟩
      have step : ∀ i22 : Int, rRoot.sig.post [(D.I (z16.getD i17.toNat 0)), (D.I (3 : Int)), (D.I i22)] → ((((z21 ++ (i22 :: ([] : List Int))).length : Nat) : Int) ≤ (35184372088832 : Int)) ∧
          (rMade.I1 [(D.I (IntKind.wrap .i64 (i17 + (1 : Int)))), (D.Z z19), (D.Z (z21 ++ (i22 :: ([] : List Int))))] ∧ rMade.I1M [(D.I (IntKind.wrap .i64 (i17 + (1 : Int)))), (D.Z z19), (D.Z (z21 ++ (i22 :: ([] : List Int))))] < rMade.I1M [(D.I i17), (D.Z z19), (D.Z z21)]) := by
        intro i22 hp
        have hp : i22 = rootF (z16.getD i17.toNat 0) 3 := hp
        have hl : z21.length ≤ 64 := by rw [b4, List.length_take]; exact Nat.le_trans (Nat.min_le_right _ _) (by decide)
        have hl2 : (z21 ++ (i22 :: ([] : List Int))).length = z21.length + 1 := by simp
        rw [i64w (x := i17 + 1) (by omega) (by omega)]
        refine ⟨by omega, ⟨by omega, by omega, b3, ?_⟩, ?_⟩
        · rw [show (i17 + 1).toNat = i17.toNat + 1 from by omega, made_next made_k (by decide) (by omega), b4, hp, h10]
        · show (64 - (i17 + 1)).toNat < (64 - i17).toNat; omega
      refine ⟨⟨pre, fun i22 hp _ _ => ⟨(step i22 hp).1, fun _ _ => (step i22 hp).2⟩⟩, ⟨pre, fun i22 hp _ => ⟨fun _ => ⟨(step i22 hp).1, fun _ _ => (step i22 hp).2⟩, fun _ => ⟨(step i22 hp).1, fun _ _ => (step i22 hp).2⟩⟩⟩⟩
    · refine ⟨b3, ?_⟩
      rw [b4, show i17.toNat = 64 from by omega]; rfl

theorem turnGo_has {x : Int} (h : 0 ≤ x ∧ x < 4294967296) : ∀ n, 0 ≤ turnGo x n ∧ turnGo x n < 4294967296
  | 0 => h
  | n + 1 => by
    have ih := turnGo_has h n
    simp only [turnGo]; omega

theorem rTurn.pure : rTurn.Pure := by
  intro i0 i1 h1 h2 h3
  obtain ⟨p1, p2⟩ : 0 ≤ i1 ∧ i1 ≤ 32 := h3
  refine ⟨⟨by decide, p1, rfl⟩, ?_⟩
  intro i2 i3 h4 h5 h6
  obtain ⟨a1, a2, a3⟩ : 0 ≤ i3 ∧ i3 ≤ i1 ∧ i2 = turnGo i0 i3.toNat := h6
  refine ⟨fun h7 => ?_, fun h7 => ?_⟩
  · have hs := turnGo_has h1 i3.toNat
    rw [← a3] at hs
    rw [Int.tdiv_eq_ediv_of_nonneg h4.1, Int.tmod_eq_emod_of_nonneg h4.1, u32w (x := i2 / 2) (by omega) (by omega), u32w (x := i2 % 2 * 2147483648) (by omega) (by omega), u32w (by omega) (by omega), i64w (x := i3 + 1) (by omega) (by omega)]
    refine ⟨⟨by omega, by omega, ?_⟩, ?_⟩
    · rw [show (i3 + 1).toNat = i3.toNat + 1 from by omega, a3]; rfl
    · show (i1 - (i3 + 1)).toNat < (i1 - i3).toNat; omega
  · show i2 = turnGo i0 i1.toNat
    rw [a3, show i3 = i1 from by omega]

theorem rNot.pure : rNot.Pure := by
  intro i0 h1 h2
  exact (u32w (by omega) (by omega) : IntKind.wrap .u32 (4294967295 - i0) = 4294967295 - i0)

end Go.Vc
