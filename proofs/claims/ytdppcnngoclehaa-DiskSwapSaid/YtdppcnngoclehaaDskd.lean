/-
  The disk's laws: contracts of their functions.
  Printed by wip/vct.py: the conditions of functions, by their contracts.
  The disk's laws: plain conditions.
  DiskTorn: plain.
-/
import Derived.Test.YtdppcnngoclehaaDskc
import Derived.KernelRfl
set_option linter.unusedVariables false
set_option linter.unusedSimpArgs false
namespace Go.Vc
/-- A text's first bytes. -/
def dCut.sig : Sig := sigF [.s, .i .i64] [.s] (fun l => 0 ≤ (arg l 1).toI) fun l => (arg l 2).toS = (arg l 0).toS.extract 0 (arg l 1).toI.toNat
/-- Answers that the document fixes. -/
def dAwake.sig : Sig := sigF [] [.b] (fun _ => True) fun l => (arg l 0).toB = true
def LDiskSwap.sig : Sig := sigF [.s, .s, .z .i64, .i .i64] [.b] (fun _ => True) yes

end Go.Vc
namespace Go.Vc
set_option linter.unusedVariables false
set_option maxRecDepth 100000
def dCut.vc : VC :=
 (.all .S
 (.all .I
 (.know (.ssz (.at 0))
 (.know (.has .i64 (.at 1))
 (.post 0 [(.at 0), (.at 1)]
 (.and
 (.imp (.o2 .lt (.at 1) (.o1 .slen (.at 0))) true
 (.obl (.o2 .le (.int 0) (.at 1))
 (.obl (.o2 .le (.at 1) (.o1 .slen (.at 0)))
 (.ret [(.at 0), (.at 1), (.o3 .ssub (.at 0) (.int 0) (.at 1))]))))
 (.imp (.o2 .lt (.at 1) (.o1 .slen (.at 0))) false
 (.ret [(.at 0), (.at 1), (.at 0)]))))))))
def dCut.Pure : Prop :=
 ∀ (s0 : ByteArray),
 ∀ (i1 : Int),
 ((s0.size : Int) ≤ 9223372036854775807) →
 (-9223372036854775808 ≤ i1 ∧ i1 < 9223372036854775808) →
 dCut.sig.pre [(D.S s0), (D.I i1)] →
 ((
 (i1 < ((s0.size : Nat) : Int)) →
 ((0 : Int) ≤ i1) ∧ (((0 : Int) ≤ i1) →
 (i1 ≤ ((s0.size : Nat) : Int)) ∧ ((i1 ≤ ((s0.size : Nat) : Int)) →
  dCut.sig.post [(D.S s0), (D.I i1), (D.S (s0.extract (0 : Int).toNat i1.toNat))]))) ∧ (
 (((s0.size : Nat) : Int) ≤ i1) →
  dCut.sig.post [(D.S s0), (D.I i1), (D.S s0)]))
theorem dCut.den : dCut.vc.den2 (mkEnv dCut.sig [] []) [] = dCut.Pure := by kernel_rfl
def dAwake.vc : VC :=
 (.post 0 []
 (.pre 1 [(.int 100)]
 (.all .N
 (.all .N
 (.all .N
 (.all .N
 (.all .V
 (.all .L
 (.all .L
 (.all .L
 (.all .L
 (.all .I
 (.all .I
 (.all .I
 (.all .I
 (.all .B
 (.all .I
 (.post 1 [(.int 100), (.at 0), (.at 1), (.at 2), (.at 3), (.at 4), (.at 5), (.at 6), (.at 7), (.at 8), (.at 9), (.at 10), (.at 11), (.at 12), (.at 13), (.at 14)]
 (.know (.has .i64 (.at 9))
 (.know (.has .i64 (.at 10))
 (.know (.has .i64 (.at 11))
 (.know (.has .i64 (.at 12))
 (.know (.has .i64 (.at 14))
 (.know (.kd (.mpp (.int .i64) [.str, .int .i64]) [(.at 1), (.at 5)])
 (.know (.kd (.mp (.str) (.int .i64)) [(.at 2), (.at 6)])
 (.know (.kd (.mp (.str) (.int .i64)) [(.at 3), (.at 7)])
 (.know (.ekok [.str, .str, .int .i64] (.at 8))
 (.pre 2 [(.at 0), (.at 1), (.at 2), (.at 3), (.at 4), (.at 5), (.at 6), (.at 7), (.at 8), (.at 9), (.at 10), (.at 11), (.at 12), (.at 13), (.at 14), (.str ⟨#[97]⟩)]
 (.all .N
 (.all .N
 (.all .N
 (.all .V
 (.all .L
 (.all .L
 (.all .L
 (.all .L
 (.all .I
 (.all .I
 (.all .I
 (.all .I
 (.all .B
 (.all .I
 (.all .I
 (.post 2 [(.at 0), (.at 1), (.at 2), (.at 3), (.at 4), (.at 5), (.at 6), (.at 7), (.at 8), (.at 9), (.at 10), (.at 11), (.at 12), (.at 13), (.at 14), (.str ⟨#[97]⟩), (.at 15), (.at 16), (.at 17), (.at 18), (.at 19), (.at 20), (.at 21), (.at 22), (.at 23), (.at 24), (.at 25), (.at 26), (.at 27), (.at 28), (.at 29)]
 (.know (.has .i64 (.at 29))
 (.know (.has .i64 (.at 23))
 (.know (.has .i64 (.at 24))
 (.know (.has .i64 (.at 25))
 (.know (.has .i64 (.at 26))
 (.know (.has .i64 (.at 28))
 (.know (.kd (.mpp (.int .i64) [.str, .int .i64]) [(.at 15), (.at 19)])
 (.know (.kd (.mp (.str) (.int .i64)) [(.at 16), (.at 20)])
 (.know (.kd (.mp (.str) (.int .i64)) [(.at 17), (.at 21)])
 (.know (.ekok [.str, .str, .int .i64] (.at 22))
 (.and
 (.imp (.o1 .not (.o2 .eq (.at 29) (.int 0))) true
 (.ret [(.bool false)]))
 (.imp (.o1 .not (.o2 .eq (.at 29) (.int 0))) false
 (.pre 3 [(.at 0), (.at 15), (.at 16), (.at 17), (.at 18), (.at 19), (.at 20), (.at 21), (.at 22), (.at 23), (.at 24), (.at 25), (.at 26), (.at 27), (.at 28), (.str ⟨#[97]⟩), (.str ⟨#[120, 121]⟩)]
 (.all .N
 (.all .N
 (.all .N
 (.all .V
 (.all .L
 (.all .L
 (.all .L
 (.all .L
 (.all .I
 (.all .I
 (.all .I
 (.all .I
 (.all .B
 (.all .I
 (.all .I
 (.post 3 [(.at 0), (.at 15), (.at 16), (.at 17), (.at 18), (.at 19), (.at 20), (.at 21), (.at 22), (.at 23), (.at 24), (.at 25), (.at 26), (.at 27), (.at 28), (.str ⟨#[97]⟩), (.str ⟨#[120, 121]⟩), (.at 30), (.at 31), (.at 32), (.at 33), (.at 34), (.at 35), (.at 36), (.at 37), (.at 38), (.at 39), (.at 40), (.at 41), (.at 42), (.at 43), (.at 44)]
 (.know (.has .i64 (.at 44))
 (.know (.has .i64 (.at 38))
 (.know (.has .i64 (.at 39))
 (.know (.has .i64 (.at 40))
 (.know (.has .i64 (.at 41))
 (.know (.has .i64 (.at 43))
 (.know (.kd (.mpp (.int .i64) [.str, .int .i64]) [(.at 30), (.at 34)])
 (.know (.kd (.mp (.str) (.int .i64)) [(.at 31), (.at 35)])
 (.know (.kd (.mp (.str) (.int .i64)) [(.at 32), (.at 36)])
 (.know (.ekok [.str, .str, .int .i64] (.at 37))
 (.and
 (.imp (.o1 .not (.o2 .eq (.at 44) (.int 0))) true
 (.ret [(.bool false)]))
 (.imp (.o1 .not (.o2 .eq (.at 44) (.int 0))) false
 (.pre 4 [(.at 0), (.at 30), (.at 31), (.at 32), (.at 33), (.at 34), (.at 35), (.at 36), (.at 37), (.at 38), (.at 39), (.at 40), (.at 41), (.at 42), (.at 43)]
 (.all .N
 (.all .N
 (.all .N
 (.all .V
 (.all .L
 (.all .L
 (.all .L
 (.all .L
 (.all .I
 (.all .I
 (.all .I
 (.all .I
 (.all .B
 (.all .I
 (.all .I
 (.post 4 [(.at 0), (.at 30), (.at 31), (.at 32), (.at 33), (.at 34), (.at 35), (.at 36), (.at 37), (.at 38), (.at 39), (.at 40), (.at 41), (.at 42), (.at 43), (.at 45), (.at 46), (.at 47), (.at 48), (.at 49), (.at 50), (.at 51), (.at 52), (.at 53), (.at 54), (.at 55), (.at 56), (.at 57), (.at 58), (.at 59)]
 (.know (.has .i64 (.at 59))
 (.know (.has .i64 (.at 53))
 (.know (.has .i64 (.at 54))
 (.know (.has .i64 (.at 55))
 (.know (.has .i64 (.at 56))
 (.know (.has .i64 (.at 58))
 (.know (.kd (.mpp (.int .i64) [.str, .int .i64]) [(.at 45), (.at 49)])
 (.know (.kd (.mp (.str) (.int .i64)) [(.at 46), (.at 50)])
 (.know (.kd (.mp (.str) (.int .i64)) [(.at 47), (.at 51)])
 (.know (.ekok [.str, .str, .int .i64] (.at 52))
 (.and
 (.imp (.o1 .not (.o2 .eq (.at 59) (.int 0))) true
 (.ret [(.bool false)]))
 (.imp (.o1 .not (.o2 .eq (.at 59) (.int 0))) false
 (.all .V
 (.pre 5 [(.at 0), (.at 45), (.at 46), (.at 47), (.at 48), (.at 49), (.at 50), (.at 51), (.at 52), (.at 53), (.at 54), (.at 55), (.at 56), (.at 57), (.at 58), (.at 60), (.o2 .licons (.int 0) (.o2 .licons (.int 1) (.lis [])))]
 (.all .N
 (.all .N
 (.all .N
 (.all .V
 (.all .L
 (.all .L
 (.all .L
 (.all .L
 (.all .I
 (.all .I
 (.all .I
 (.all .I
 (.all .B
 (.all .I
 (.post 5 [(.at 0), (.at 45), (.at 46), (.at 47), (.at 48), (.at 49), (.at 50), (.at 51), (.at 52), (.at 53), (.at 54), (.at 55), (.at 56), (.at 57), (.at 58), (.at 60), (.o2 .licons (.int 0) (.o2 .licons (.int 1) (.lis []))), (.at 61), (.at 62), (.at 63), (.at 64), (.at 65), (.at 66), (.at 67), (.at 68), (.at 69), (.at 70), (.at 71), (.at 72), (.at 73), (.at 74)]
 (.know (.has .i64 (.at 69))
 (.know (.has .i64 (.at 70))
 (.know (.has .i64 (.at 71))
 (.know (.has .i64 (.at 72))
 (.know (.has .i64 (.at 74))
 (.know (.kd (.mpp (.int .i64) [.str, .int .i64]) [(.at 61), (.at 65)])
 (.know (.kd (.mp (.str) (.int .i64)) [(.at 62), (.at 66)])
 (.know (.kd (.mp (.str) (.int .i64)) [(.at 63), (.at 67)])
 (.know (.ekok [.str, .str, .int .i64] (.at 68))
 (.pre 6 [(.at 0), (.at 61), (.at 62), (.at 63), (.at 64), (.at 65), (.at 66), (.at 67), (.at 68), (.at 69), (.at 70), (.at 71), (.at 72), (.at 73), (.at 74), (.str ⟨#[97]⟩)]
 (.all .S
 (.all .I
 (.post 6 [(.at 0), (.at 61), (.at 62), (.at 63), (.at 64), (.at 65), (.at 66), (.at 67), (.at 68), (.at 69), (.at 70), (.at 71), (.at 72), (.at 73), (.at 74), (.str ⟨#[97]⟩), (.at 75), (.at 76)]
 (.know (.ssz (.at 75))
 (.know (.has .i64 (.at 76))
 (.pre 2 [(.at 0), (.at 61), (.at 62), (.at 63), (.at 64), (.at 65), (.at 66), (.at 67), (.at 68), (.at 69), (.at 70), (.at 71), (.at 72), (.at 73), (.at 74), (.str ⟨#[98]⟩)]
 (.all .N
 (.all .N
 (.all .N
 (.all .V
 (.all .L
 (.all .L
 (.all .L
 (.all .L
 (.all .I
 (.all .I
 (.all .I
 (.all .I
 (.all .B
 (.all .I
 (.all .I
 (.post 2 [(.at 0), (.at 61), (.at 62), (.at 63), (.at 64), (.at 65), (.at 66), (.at 67), (.at 68), (.at 69), (.at 70), (.at 71), (.at 72), (.at 73), (.at 74), (.str ⟨#[98]⟩), (.at 77), (.at 78), (.at 79), (.at 80), (.at 81), (.at 82), (.at 83), (.at 84), (.at 85), (.at 86), (.at 87), (.at 88), (.at 89), (.at 90), (.at 91)]
 (.know (.has .i64 (.at 91))
 (.know (.has .i64 (.at 85))
 (.know (.has .i64 (.at 86))
 (.know (.has .i64 (.at 87))
 (.know (.has .i64 (.at 88))
 (.know (.has .i64 (.at 90))
 (.know (.kd (.mpp (.int .i64) [.str, .int .i64]) [(.at 77), (.at 81)])
 (.know (.kd (.mp (.str) (.int .i64)) [(.at 78), (.at 82)])
 (.know (.kd (.mp (.str) (.int .i64)) [(.at 79), (.at 83)])
 (.know (.ekok [.str, .str, .int .i64] (.at 84))
 (.all .V
 (.pre 5 [(.at 0), (.at 77), (.at 78), (.at 79), (.at 80), (.at 81), (.at 82), (.at 83), (.at 84), (.at 85), (.at 86), (.at 87), (.at 88), (.at 89), (.at 90), (.at 92), (.lis [])]
 (.all .N
 (.all .N
 (.all .N
 (.all .V
 (.all .L
 (.all .L
 (.all .L
 (.all .L
 (.all .I
 (.all .I
 (.all .I
 (.all .I
 (.all .B
 (.all .I
 (.post 5 [(.at 0), (.at 77), (.at 78), (.at 79), (.at 80), (.at 81), (.at 82), (.at 83), (.at 84), (.at 85), (.at 86), (.at 87), (.at 88), (.at 89), (.at 90), (.at 92), (.lis []), (.at 93), (.at 94), (.at 95), (.at 96), (.at 97), (.at 98), (.at 99), (.at 100), (.at 101), (.at 102), (.at 103), (.at 104), (.at 105), (.at 106)]
 (.know (.has .i64 (.at 101))
 (.know (.has .i64 (.at 102))
 (.know (.has .i64 (.at 103))
 (.know (.has .i64 (.at 104))
 (.know (.has .i64 (.at 106))
 (.know (.kd (.mpp (.int .i64) [.str, .int .i64]) [(.at 93), (.at 97)])
 (.know (.kd (.mp (.str) (.int .i64)) [(.at 94), (.at 98)])
 (.know (.kd (.mp (.str) (.int .i64)) [(.at 95), (.at 99)])
 (.know (.ekok [.str, .str, .int .i64] (.at 100))
 (.pre 6 [(.at 0), (.at 93), (.at 94), (.at 95), (.at 96), (.at 97), (.at 98), (.at 99), (.at 100), (.at 101), (.at 102), (.at 103), (.at 104), (.at 105), (.at 106), (.str ⟨#[98]⟩)]
 (.all .S
 (.all .I
 (.post 6 [(.at 0), (.at 93), (.at 94), (.at 95), (.at 96), (.at 97), (.at 98), (.at 99), (.at 100), (.at 101), (.at 102), (.at 103), (.at 104), (.at 105), (.at 106), (.str ⟨#[98]⟩), (.at 107), (.at 108)]
 (.know (.ssz (.at 107))
 (.know (.has .i64 (.at 108))
 (.and
 (.imp (.o2 .eq (.at 76) (.int 0)) true
 (.and
 (.imp (.o2 .eqs (.at 75) (.str ⟨#[120]⟩)) true
 (.and
 (.imp (.o2 .eq (.at 91) (.int 0)) true
 (.ret [(.o2 .eq (.at 108) (.int 5))]))
 (.imp (.o2 .eq (.at 91) (.int 0)) false
 (.ret [(.bool false)]))))
 (.imp (.o2 .eqs (.at 75) (.str ⟨#[120]⟩)) false
 (.ret [(.bool false)]))))
 (.imp (.o2 .eq (.at 76) (.int 0)) false
 (.ret [(.bool false)]))))))))))))))))))))))))))))))))))))))))))))))))))))))))))))))))))))))))))))))))))))))))))))))))))))))))))))))))))))))))))))))))))))))))))))))))))))))))))))))))))))))))))))))))))))))))))))))))))))))))))))))))
def dAwake.Pure : Prop :=
 dAwake.sig.pre [] →
 dNew.sig.pre [(D.I (100 : Int))] ∧ (
 ∀ (n0 : Nat),
 ∀ (n1 : Nat),
 ∀ (n2 : Nat),
 ∀ (n3 : Nat),
 ∀ (v4 : Value),
 ∀ (l5 : List D),
 ∀ (l6 : List D),
 ∀ (l7 : List D),
 ∀ (l8 : List D),
 ∀ (i9 : Int),
 ∀ (i10 : Int),
 ∀ (i11 : Int),
 ∀ (i12 : Int),
 ∀ (b13 : Bool),
 ∀ (i14 : Int),
 dNew.sig.post [(D.I (100 : Int)), (D.N n0), (D.N n1), (D.N n2), (D.N n3), (D.V v4), (D.L l5), (D.L l6), (D.L l7), (D.L l8), (D.I i9), (D.I i10), (D.I i11), (D.I i12), (D.B b13), (D.I i14)] →
 (-9223372036854775808 ≤ i9 ∧ i9 < 9223372036854775808) →
 (-9223372036854775808 ≤ i10 ∧ i10 < 9223372036854775808) →
 (-9223372036854775808 ≤ i11 ∧ i11 < 9223372036854775808) →
 (-9223372036854775808 ≤ i12 ∧ i12 < 9223372036854775808) →
 (-9223372036854775808 ≤ i14 ∧ i14 < 9223372036854775808) →
 (mappOk (.int .i64) [.str, .int .i64] l5) →
 (mapOk (.str) (.int .i64) l6) →
 (mapOk (.str) (.int .i64) l7) →
 (EK.ok [.str, .str, .int .i64] (D.L l8)) →
 dCreate.sig.pre [(D.N n0), (D.N n1), (D.N n2), (D.N n3), (D.V v4), (D.L l5), (D.L l6), (D.L l7), (D.L l8), (D.I i9), (D.I i10), (D.I i11), (D.I i12), (D.B b13), (D.I i14), (D.S (⟨#[97]⟩ : ByteArray))] ∧ (
 ∀ (n15 : Nat),
 ∀ (n16 : Nat),
 ∀ (n17 : Nat),
 ∀ (v18 : Value),
 ∀ (l19 : List D),
 ∀ (l20 : List D),
 ∀ (l21 : List D),
 ∀ (l22 : List D),
 ∀ (i23 : Int),
 ∀ (i24 : Int),
 ∀ (i25 : Int),
 ∀ (i26 : Int),
 ∀ (b27 : Bool),
 ∀ (i28 : Int),
 ∀ (i29 : Int),
 dCreate.sig.post [(D.N n0), (D.N n1), (D.N n2), (D.N n3), (D.V v4), (D.L l5), (D.L l6), (D.L l7), (D.L l8), (D.I i9), (D.I i10), (D.I i11), (D.I i12), (D.B b13), (D.I i14), (D.S (⟨#[97]⟩ : ByteArray)), (D.N n15), (D.N n16), (D.N n17), (D.V v18), (D.L l19), (D.L l20), (D.L l21), (D.L l22), (D.I i23), (D.I i24), (D.I i25), (D.I i26), (D.B b27), (D.I i28), (D.I i29)] →
 (-9223372036854775808 ≤ i29 ∧ i29 < 9223372036854775808) →
 (-9223372036854775808 ≤ i23 ∧ i23 < 9223372036854775808) →
 (-9223372036854775808 ≤ i24 ∧ i24 < 9223372036854775808) →
 (-9223372036854775808 ≤ i25 ∧ i25 < 9223372036854775808) →
 (-9223372036854775808 ≤ i26 ∧ i26 < 9223372036854775808) →
 (-9223372036854775808 ≤ i28 ∧ i28 < 9223372036854775808) →
 (mappOk (.int .i64) [.str, .int .i64] l19) →
 (mapOk (.str) (.int .i64) l20) →
 (mapOk (.str) (.int .i64) l21) →
 (EK.ok [.str, .str, .int .i64] (D.L l22)) →
 ((
 (i29 ≠ (0 : Int)) →
  dAwake.sig.post [(D.B false)]) ∧ (
 (i29 = (0 : Int)) →
  dAppend.sig.pre [(D.N n0), (D.N n15), (D.N n16), (D.N n17), (D.V v18), (D.L l19), (D.L l20), (D.L l21), (D.L l22), (D.I i23), (D.I i24), (D.I i25), (D.I i26), (D.B b27), (D.I i28), (D.S (⟨#[97]⟩ : ByteArray)), (D.S (⟨#[120, 121]⟩ : ByteArray))] ∧ (
 ∀ (n30 : Nat),
 ∀ (n31 : Nat),
 ∀ (n32 : Nat),
 ∀ (v33 : Value),
 ∀ (l34 : List D),
 ∀ (l35 : List D),
 ∀ (l36 : List D),
 ∀ (l37 : List D),
 ∀ (i38 : Int),
 ∀ (i39 : Int),
 ∀ (i40 : Int),
 ∀ (i41 : Int),
 ∀ (b42 : Bool),
 ∀ (i43 : Int),
 ∀ (i44 : Int),
  dAppend.sig.post [(D.N n0), (D.N n15), (D.N n16), (D.N n17), (D.V v18), (D.L l19), (D.L l20), (D.L l21), (D.L l22), (D.I i23), (D.I i24), (D.I i25), (D.I i26), (D.B b27), (D.I i28), (D.S (⟨#[97]⟩ : ByteArray)), (D.S (⟨#[120, 121]⟩ : ByteArray)), (D.N n30), (D.N n31), (D.N n32), (D.V v33), (D.L l34), (D.L l35), (D.L l36), (D.L l37), (D.I i38), (D.I i39), (D.I i40), (D.I i41), (D.B b42), (D.I i43), (D.I i44)] →
 (-9223372036854775808 ≤ i44 ∧ i44 < 9223372036854775808) →
 (-9223372036854775808 ≤ i38 ∧ i38 < 9223372036854775808) →
 (-9223372036854775808 ≤ i39 ∧ i39 < 9223372036854775808) →
 (-9223372036854775808 ≤ i40 ∧ i40 < 9223372036854775808) →
 (-9223372036854775808 ≤ i41 ∧ i41 < 9223372036854775808) →
 (-9223372036854775808 ≤ i43 ∧ i43 < 9223372036854775808) →
 (mappOk (.int .i64) [.str, .int .i64] l34) →
 (mapOk (.str) (.int .i64) l35) →
 (mapOk (.str) (.int .i64) l36) →
 (EK.ok [.str, .str, .int .i64] (D.L l37)) →
 ((
 (i44 ≠ (0 : Int)) →
   dAwake.sig.post [(D.B false)]) ∧ (
 (i44 = (0 : Int)) →
   dSyncNames.sig.pre [(D.N n0), (D.N n30), (D.N n31), (D.N n32), (D.V v33), (D.L l34), (D.L l35), (D.L l36), (D.L l37), (D.I i38), (D.I i39), (D.I i40), (D.I i41), (D.B b42), (D.I i43)] ∧ (
 ∀ (n45 : Nat),
 ∀ (n46 : Nat),
 ∀ (n47 : Nat),
 ∀ (v48 : Value),
 ∀ (l49 : List D),
 ∀ (l50 : List D),
 ∀ (l51 : List D),
 ∀ (l52 : List D),
 ∀ (i53 : Int),
 ∀ (i54 : Int),
 ∀ (i55 : Int),
 ∀ (i56 : Int),
 ∀ (b57 : Bool),
 ∀ (i58 : Int),
 ∀ (i59 : Int),
   dSyncNames.sig.post [(D.N n0), (D.N n30), (D.N n31), (D.N n32), (D.V v33), (D.L l34), (D.L l35), (D.L l36), (D.L l37), (D.I i38), (D.I i39), (D.I i40), (D.I i41), (D.B b42), (D.I i43), (D.N n45), (D.N n46), (D.N n47), (D.V v48), (D.L l49), (D.L l50), (D.L l51), (D.L l52), (D.I i53), (D.I i54), (D.I i55), (D.I i56), (D.B b57), (D.I i58), (D.I i59)] →
 (-9223372036854775808 ≤ i59 ∧ i59 < 9223372036854775808) →
 (-9223372036854775808 ≤ i53 ∧ i53 < 9223372036854775808) →
 (-9223372036854775808 ≤ i54 ∧ i54 < 9223372036854775808) →
 (-9223372036854775808 ≤ i55 ∧ i55 < 9223372036854775808) →
 (-9223372036854775808 ≤ i56 ∧ i56 < 9223372036854775808) →
 (-9223372036854775808 ≤ i58 ∧ i58 < 9223372036854775808) →
 (mappOk (.int .i64) [.str, .int .i64] l49) →
 (mapOk (.str) (.int .i64) l50) →
 (mapOk (.str) (.int .i64) l51) →
 (EK.ok [.str, .str, .int .i64] (D.L l52)) →
 ((
 (i59 ≠ (0 : Int)) →
    dAwake.sig.post [(D.B false)]) ∧ (
 (i59 = (0 : Int)) →
 ∀ (v60 : Value),
    dRestart.sig.pre [(D.N n0), (D.N n45), (D.N n46), (D.N n47), (D.V v48), (D.L l49), (D.L l50), (D.L l51), (D.L l52), (D.I i53), (D.I i54), (D.I i55), (D.I i56), (D.B b57), (D.I i58), (D.V v60), (D.Z ((0 : Int) :: ((1 : Int) :: ([] : List Int))))] ∧ (
 ∀ (n61 : Nat),
 ∀ (n62 : Nat),
 ∀ (n63 : Nat),
 ∀ (v64 : Value),
 ∀ (l65 : List D),
 ∀ (l66 : List D),
 ∀ (l67 : List D),
 ∀ (l68 : List D),
 ∀ (i69 : Int),
 ∀ (i70 : Int),
 ∀ (i71 : Int),
 ∀ (i72 : Int),
 ∀ (b73 : Bool),
 ∀ (i74 : Int),
    dRestart.sig.post [(D.N n0), (D.N n45), (D.N n46), (D.N n47), (D.V v48), (D.L l49), (D.L l50), (D.L l51), (D.L l52), (D.I i53), (D.I i54), (D.I i55), (D.I i56), (D.B b57), (D.I i58), (D.V v60), (D.Z ((0 : Int) :: ((1 : Int) :: ([] : List Int)))), (D.N n61), (D.N n62), (D.N n63), (D.V v64), (D.L l65), (D.L l66), (D.L l67), (D.L l68), (D.I i69), (D.I i70), (D.I i71), (D.I i72), (D.B b73), (D.I i74)] →
 (-9223372036854775808 ≤ i69 ∧ i69 < 9223372036854775808) →
 (-9223372036854775808 ≤ i70 ∧ i70 < 9223372036854775808) →
 (-9223372036854775808 ≤ i71 ∧ i71 < 9223372036854775808) →
 (-9223372036854775808 ≤ i72 ∧ i72 < 9223372036854775808) →
 (-9223372036854775808 ≤ i74 ∧ i74 < 9223372036854775808) →
 (mappOk (.int .i64) [.str, .int .i64] l65) →
 (mapOk (.str) (.int .i64) l66) →
 (mapOk (.str) (.int .i64) l67) →
 (EK.ok [.str, .str, .int .i64] (D.L l68)) →
    dRead.sig.pre [(D.N n0), (D.N n61), (D.N n62), (D.N n63), (D.V v64), (D.L l65), (D.L l66), (D.L l67), (D.L l68), (D.I i69), (D.I i70), (D.I i71), (D.I i72), (D.B b73), (D.I i74), (D.S (⟨#[97]⟩ : ByteArray))] ∧ (
 ∀ (s75 : ByteArray),
 ∀ (i76 : Int),
    dRead.sig.post [(D.N n0), (D.N n61), (D.N n62), (D.N n63), (D.V v64), (D.L l65), (D.L l66), (D.L l67), (D.L l68), (D.I i69), (D.I i70), (D.I i71), (D.I i72), (D.B b73), (D.I i74), (D.S (⟨#[97]⟩ : ByteArray)), (D.S s75), (D.I i76)] →
 ((s75.size : Int) ≤ 9223372036854775807) →
 (-9223372036854775808 ≤ i76 ∧ i76 < 9223372036854775808) →
    dCreate.sig.pre [(D.N n0), (D.N n61), (D.N n62), (D.N n63), (D.V v64), (D.L l65), (D.L l66), (D.L l67), (D.L l68), (D.I i69), (D.I i70), (D.I i71), (D.I i72), (D.B b73), (D.I i74), (D.S (⟨#[98]⟩ : ByteArray))] ∧ (
 ∀ (n77 : Nat),
 ∀ (n78 : Nat),
 ∀ (n79 : Nat),
 ∀ (v80 : Value),
 ∀ (l81 : List D),
 ∀ (l82 : List D),
 ∀ (l83 : List D),
 ∀ (l84 : List D),
 ∀ (i85 : Int),
 ∀ (i86 : Int),
 ∀ (i87 : Int),
 ∀ (i88 : Int),
 ∀ (b89 : Bool),
 ∀ (i90 : Int),
 ∀ (i91 : Int),
    dCreate.sig.post [(D.N n0), (D.N n61), (D.N n62), (D.N n63), (D.V v64), (D.L l65), (D.L l66), (D.L l67), (D.L l68), (D.I i69), (D.I i70), (D.I i71), (D.I i72), (D.B b73), (D.I i74), (D.S (⟨#[98]⟩ : ByteArray)), (D.N n77), (D.N n78), (D.N n79), (D.V v80), (D.L l81), (D.L l82), (D.L l83), (D.L l84), (D.I i85), (D.I i86), (D.I i87), (D.I i88), (D.B b89), (D.I i90), (D.I i91)] →
 (-9223372036854775808 ≤ i91 ∧ i91 < 9223372036854775808) →
 (-9223372036854775808 ≤ i85 ∧ i85 < 9223372036854775808) →
 (-9223372036854775808 ≤ i86 ∧ i86 < 9223372036854775808) →
 (-9223372036854775808 ≤ i87 ∧ i87 < 9223372036854775808) →
 (-9223372036854775808 ≤ i88 ∧ i88 < 9223372036854775808) →
 (-9223372036854775808 ≤ i90 ∧ i90 < 9223372036854775808) →
 (mappOk (.int .i64) [.str, .int .i64] l81) →
 (mapOk (.str) (.int .i64) l82) →
 (mapOk (.str) (.int .i64) l83) →
 (EK.ok [.str, .str, .int .i64] (D.L l84)) →
 ∀ (v92 : Value),
    dRestart.sig.pre [(D.N n0), (D.N n77), (D.N n78), (D.N n79), (D.V v80), (D.L l81), (D.L l82), (D.L l83), (D.L l84), (D.I i85), (D.I i86), (D.I i87), (D.I i88), (D.B b89), (D.I i90), (D.V v92), (D.Z ([] : List Int))] ∧ (
 ∀ (n93 : Nat),
 ∀ (n94 : Nat),
 ∀ (n95 : Nat),
 ∀ (v96 : Value),
 ∀ (l97 : List D),
 ∀ (l98 : List D),
 ∀ (l99 : List D),
 ∀ (l100 : List D),
 ∀ (i101 : Int),
 ∀ (i102 : Int),
 ∀ (i103 : Int),
 ∀ (i104 : Int),
 ∀ (b105 : Bool),
 ∀ (i106 : Int),
    dRestart.sig.post [(D.N n0), (D.N n77), (D.N n78), (D.N n79), (D.V v80), (D.L l81), (D.L l82), (D.L l83), (D.L l84), (D.I i85), (D.I i86), (D.I i87), (D.I i88), (D.B b89), (D.I i90), (D.V v92), (D.Z ([] : List Int)), (D.N n93), (D.N n94), (D.N n95), (D.V v96), (D.L l97), (D.L l98), (D.L l99), (D.L l100), (D.I i101), (D.I i102), (D.I i103), (D.I i104), (D.B b105), (D.I i106)] →
 (-9223372036854775808 ≤ i101 ∧ i101 < 9223372036854775808) →
 (-9223372036854775808 ≤ i102 ∧ i102 < 9223372036854775808) →
 (-9223372036854775808 ≤ i103 ∧ i103 < 9223372036854775808) →
 (-9223372036854775808 ≤ i104 ∧ i104 < 9223372036854775808) →
 (-9223372036854775808 ≤ i106 ∧ i106 < 9223372036854775808) →
 (mappOk (.int .i64) [.str, .int .i64] l97) →
 (mapOk (.str) (.int .i64) l98) →
 (mapOk (.str) (.int .i64) l99) →
 (EK.ok [.str, .str, .int .i64] (D.L l100)) →
    dRead.sig.pre [(D.N n0), (D.N n93), (D.N n94), (D.N n95), (D.V v96), (D.L l97), (D.L l98), (D.L l99), (D.L l100), (D.I i101), (D.I i102), (D.I i103), (D.I i104), (D.B b105), (D.I i106), (D.S (⟨#[98]⟩ : ByteArray))] ∧ (
 ∀ (s107 : ByteArray),
 ∀ (i108 : Int),
    dRead.sig.post [(D.N n0), (D.N n93), (D.N n94), (D.N n95), (D.V v96), (D.L l97), (D.L l98), (D.L l99), (D.L l100), (D.I i101), (D.I i102), (D.I i103), (D.I i104), (D.B b105), (D.I i106), (D.S (⟨#[98]⟩ : ByteArray)), (D.S s107), (D.I i108)] →
 ((s107.size : Int) ≤ 9223372036854775807) →
 (-9223372036854775808 ≤ i108 ∧ i108 < 9223372036854775808) →
 ((
 (i76 = (0 : Int)) →
 ((
 (s75 = (⟨#[120]⟩ : ByteArray)) →
 ((
 (i91 = (0 : Int)) →
       dAwake.sig.post [(D.B (i108 == (5 : Int)))]) ∧ (
 (i91 ≠ (0 : Int)) →
       dAwake.sig.post [(D.B false)]))) ∧ (
 (s75 ≠ (⟨#[120]⟩ : ByteArray)) →
      dAwake.sig.post [(D.B false)]))) ∧ (
 (i76 ≠ (0 : Int)) →
     dAwake.sig.post [(D.B false)])))))))))))))))))
theorem dAwake.den : dAwake.vc.den2 (mkEnv dAwake.sig [dNew.sig, dCreate.sig, dAppend.sig, dSyncNames.sig, dRestart.sig, dRead.sig] []) [] = dAwake.Pure := by kernel_rfl
end Go.Vc
namespace Go.Vc
open Dk (Fi Cg Ds held fileAt)
theorem dCut.pure : dCut.Pure := by
  intro s0 i1 h0 h1 hp
  have hp : 0 ≤ i1 := hp
  refine ⟨fun h => ⟨by omega, fun _ => ⟨by omega, fun _ => ?_⟩⟩, fun h => ?_⟩
  · show s0.extract (0 : Int).toNat i1.toNat = s0.extract 0 i1.toNat
    rfl
  · show s0 = s0.extract 0 i1.toNat
    apply tx_inj
    rw [tx_extract, List.drop_zero, List.take_of_length_le]
    rw [tx_size]; omega

theorem rp_new {l5 l6 l7 l8 : List D} {i9 i10 i11 i12 i14 : Int} {b13 : Bool} {room : Int} (h : l5 = [] ∧ l6 = [] ∧ l7 = [] ∧ l8 = [] ∧ i9 = 1 ∧ i10 = max room 0 ∧ i11 = -1 ∧ i12 = -1 ∧ b13 = false ∧ i14 = 0) : Rp l5 l6 l7 l8 i9 i10 i11 i12 b13 i14 (Dk.new room) := by
  obtain ⟨rfl, rfl, rfl, rfl, rfl, rfl, rfl, rfl, rfl, rfl⟩ := h
  exact ⟨.refl _, .refl _, rfl, .refl _, rfl, rfl, rfl, rfl, rfl, rfl⟩
theorem small_new {room : Int} : Small (Dk.new room) := ⟨Dk.inv_new room, by simp [Dk.new], by simp [Dk.new], by simp [Dk.new], by simp only [Dk.new]; omega, by simp [Dk.new, tot]⟩
theorem rep_of {n0 n1 n2 n3 : Nat} {v4 : Value} {l5 l6 l7 l8 : List D} {i9 i10 i11 i12 i14 : Int} {b13 : Bool} {tl : List D} {x : Ds} (h : Rp l5 l6 l7 l8 i9 i10 i11 i12 b13 i14 x) :
    RepAt (.N n0 :: .N n1 :: .N n2 :: .N n3 :: .V v4 :: .L l5 :: .L l6 :: .L l7 :: .L l8 :: .I i9 :: .I i10 :: .I i11 :: .I i12 :: .B b13 :: .I i14 :: tl) 1 x := rp_iff h

/-- What a call's words say. -/
theorem op_use {n0 n1 n2 n3 : Nat} {v4 : Value} {l5 l6 l7 l8 : List D} {i9 i10 i11 i12 i14 : Int} {b13 : Bool} {mid : List D} {m1 m2 m3 : Nat} {u4 : Value} {k5 k6 k7 k8 : List D} {j9 j10 j11 j12 j14 e : Int} {c13 : Bool} {op : Ds → Ds × Int} {k : Nat} {x : Ds}
    (hm : ∀ i, i < 16 → arg (.N n0 :: .N n1 :: .N n2 :: .N n3 :: .V v4 :: .L l5 :: .L l6 :: .L l7 :: .L l8 :: .I i9 :: .I i10 :: .I i11 :: .I i12 :: .B b13 :: .I i14 :: (mid ++ [.N m1, .N m2, .N m3, .V u4, .L k5, .L k6, .L k7, .L k8, .I j9, .I j10, .I j11, .I j12, .B c13, .I j14, .I e])) (k + i) = arg [.N m1, .N m2, .N m3, .V u4, .L k5, .L k6, .L k7, .L k8, .I j9, .I j10, .I j11, .I j12, .B c13, .I j14, .I e] i)
    (h : isOp (.N n0 :: .N n1 :: .N n2 :: .N n3 :: .V v4 :: .L l5 :: .L l6 :: .L l7 :: .L l8 :: .I i9 :: .I i10 :: .I i11 :: .I i12 :: .B b13 :: .I i14 :: (mid ++ [.N m1, .N m2, .N m3, .V u4, .L k5, .L k6, .L k7, .L k8, .I j9, .I j10, .I j11, .I j12, .B c13, .I j14, .I e])) k op)
    (hx : Rp l5 l6 l7 l8 i9 i10 i11 i12 b13 i14 x) (sx : Small x) : Rp k5 k6 k7 k8 j9 j10 j11 j12 c13 j14 (op x).1 ∧ e = (op x).2 := by
  obtain ⟨h1, h2⟩ := h x (rep_of hx) sx
  refine ⟨⟨?_, ?_, ?_, ?_, ?_, ?_, ?_, ?_, ?_, ?_⟩, ?_⟩
  · have := h1.1; rw [hm 5 (by omega)] at this; exact this
  · have := h1.2; rw [hm 6 (by omega)] at this; exact this
  · have := h1.3; rw [hm 7 (by omega)] at this; exact this
  · have := h1.4; rw [hm 4 (by omega)] at this; exact this
  · have := h1.5; rw [hm 8 (by omega)] at this; exact this
  · have := h1.6; rw [hm 9 (by omega)] at this; exact this
  · have := h1.7; rw [hm 10 (by omega)] at this; exact this
  · have := h1.8; rw [hm 11 (by omega)] at this; exact this
  · have := h1.9; rw [hm 12 (by omega)] at this; exact this
  · have := h1.10; rw [hm 13 (by omega)] at this; exact this
  · rw [hm 14 (by omega)] at h2; exact h2
theorem hm0 {n0 n1 n2 n3 : Nat} {v4 : Value} {l5 l6 l7 l8 : List D} {i9 i10 i11 i12 i14 : Int} {b13 : Bool} {r : List D} : ∀ i, i < 16 → arg (.N n0 :: .N n1 :: .N n2 :: .N n3 :: .V v4 :: .L l5 :: .L l6 :: .L l7 :: .L l8 :: .I i9 :: .I i10 :: .I i11 :: .I i12 :: .B b13 :: .I i14 :: ([] ++ r)) (15 + i) = arg r i :=
  fun i _ => by rw [show 15 + i = i + 15 from by omega]; rfl
theorem hm1 {n0 n1 n2 n3 : Nat} {v4 : Value} {l5 l6 l7 l8 : List D} {i9 i10 i11 i12 i14 : Int} {b13 : Bool} {r : List D} {a : D} : ∀ i, i < 16 → arg (.N n0 :: .N n1 :: .N n2 :: .N n3 :: .V v4 :: .L l5 :: .L l6 :: .L l7 :: .L l8 :: .I i9 :: .I i10 :: .I i11 :: .I i12 :: .B b13 :: .I i14 :: ([a] ++ r)) (16 + i) = arg r i :=
  fun i _ => by rw [show 16 + i = i + 16 from by omega]; rfl
theorem hm2 {n0 n1 n2 n3 : Nat} {v4 : Value} {l5 l6 l7 l8 : List D} {i9 i10 i11 i12 i14 : Int} {b13 : Bool} {r : List D} {a b : D} : ∀ i, i < 16 → arg (.N n0 :: .N n1 :: .N n2 :: .N n3 :: .V v4 :: .L l5 :: .L l6 :: .L l7 :: .L l8 :: .I i9 :: .I i10 :: .I i11 :: .I i12 :: .B b13 :: .I i14 :: ([a, b] ++ r)) (17 + i) = arg r i :=
  fun i _ => by rw [show 17 + i = i + 17 from by omega]; rfl

theorem create_use {n0 n1 n2 n3 : Nat} {v4 : Value} {l5 l6 l7 l8 : List D} {i9 i10 i11 i12 i14 : Int} {b13 : Bool} {a : ByteArray} {m1 m2 m3 : Nat} {u4 : Value} {k5 k6 k7 k8 : List D} {j9 j10 j11 j12 j14 e : Int} {c13 : Bool} {x : Ds} (h : dCreate.sig.post [.N n0, .N n1, .N n2, .N n3, .V v4, .L l5, .L l6, .L l7, .L l8, .I i9, .I i10, .I i11, .I i12, .B b13, .I i14, .S a, .N m1, .N m2, .N m3, .V u4, .L k5, .L k6, .L k7, .L k8, .I j9, .I j10, .I j11, .I j12, .B c13, .I j14, .I e])
    (hx : Rp l5 l6 l7 l8 i9 i10 i11 i12 b13 i14 x) (sx : Small x) : Rp k5 k6 k7 k8 j9 j10 j11 j12 c13 j14 (Dk.create x (tx a)).1 ∧ e = (Dk.create x (tx a)).2 := op_use (op := fun x => Dk.create x (tx a)) (mid := [.S a]) hm1 h hx sx
theorem append_use {n0 n1 n2 n3 : Nat} {v4 : Value} {l5 l6 l7 l8 : List D} {i9 i10 i11 i12 i14 : Int} {b13 : Bool} {a : ByteArray} {b : ByteArray} {m1 m2 m3 : Nat} {u4 : Value} {k5 k6 k7 k8 : List D} {j9 j10 j11 j12 j14 e : Int} {c13 : Bool} {x : Ds} (h : dAppend.sig.post [.N n0, .N n1, .N n2, .N n3, .V v4, .L l5, .L l6, .L l7, .L l8, .I i9, .I i10, .I i11, .I i12, .B b13, .I i14, .S a, .S b, .N m1, .N m2, .N m3, .V u4, .L k5, .L k6, .L k7, .L k8, .I j9, .I j10, .I j11, .I j12, .B c13, .I j14, .I e])
    (hx : Rp l5 l6 l7 l8 i9 i10 i11 i12 b13 i14 x) (sx : Small x) : Rp k5 k6 k7 k8 j9 j10 j11 j12 c13 j14 (Dk.append x (tx a) (tx b)).1 ∧ e = (Dk.append x (tx a) (tx b)).2 := op_use (op := fun x => Dk.append x (tx a) (tx b)) (mid := [.S a, .S b]) hm2 h hx sx
theorem syncNames_use {n0 n1 n2 n3 : Nat} {v4 : Value} {l5 l6 l7 l8 : List D} {i9 i10 i11 i12 i14 : Int} {b13 : Bool} {m1 m2 m3 : Nat} {u4 : Value} {k5 k6 k7 k8 : List D} {j9 j10 j11 j12 j14 e : Int} {c13 : Bool} {x : Ds} (h : dSyncNames.sig.post [.N n0, .N n1, .N n2, .N n3, .V v4, .L l5, .L l6, .L l7, .L l8, .I i9, .I i10, .I i11, .I i12, .B b13, .I i14, .N m1, .N m2, .N m3, .V u4, .L k5, .L k6, .L k7, .L k8, .I j9, .I j10, .I j11, .I j12, .B c13, .I j14, .I e])
    (hx : Rp l5 l6 l7 l8 i9 i10 i11 i12 b13 i14 x) (sx : Small x) : Rp k5 k6 k7 k8 j9 j10 j11 j12 c13 j14 (Dk.syncNames x).1 ∧ e = (Dk.syncNames x).2 := op_use (op := fun x => Dk.syncNames x) (mid := []) hm0 h hx sx
theorem restart_use {n0 n1 n2 n3 : Nat} {v4 : Value} {l5 l6 l7 l8 : List D} {i9 i10 i11 i12 i14 : Int} {b13 : Bool} {v15 : Value} {z16 : List Int} {m1 m2 m3 : Nat} {u4 : Value} {k5 k6 k7 k8 : List D} {j9 j10 j11 j12 j14 : Int} {c13 : Bool} {x : Ds}
    (h : dRestart.sig.post [.N n0, .N n1, .N n2, .N n3, .V v4, .L l5, .L l6, .L l7, .L l8, .I i9, .I i10, .I i11, .I i12, .B b13, .I i14, .V v15, .Z z16, .N m1, .N m2, .N m3, .V u4, .L k5, .L k6, .L k7, .L k8, .I j9, .I j10, .I j11, .I j12, .B c13, .I j14])
    (hx : Rp l5 l6 l7 l8 i9 i10 i11 i12 b13 i14 x) (sx : Small x) : Rp k5 k6 k7 k8 j9 j10 j11 j12 c13 j14 (Dk.restart x z16) := by
  have h1 := h x (rep_of hx) sx
  exact ⟨h1.1, h1.2, h1.3, h1.4, h1.5, h1.6, h1.7, h1.8, h1.9, h1.10⟩
theorem read_use {n0 n1 n2 n3 : Nat} {v4 : Value} {l5 l6 l7 l8 : List D} {i9 i10 i11 i12 i14 : Int} {b13 : Bool} {nm s : ByteArray} {e : Int} {x : Ds}
    (h : dRead.sig.post [.N n0, .N n1, .N n2, .N n3, .V v4, .L l5, .L l6, .L l7, .L l8, .I i9, .I i10, .I i11, .I i12, .B b13, .I i14, .S nm, .S s, .I e])
    (hx : Rp l5 l6 l7 l8 i9 i10 i11 i12 b13 i14 x) (sx : Small x) : (tx s, e) = Dk.read x (tx nm) := h x (rep_of hx) sx

theorem new_use {n0 n1 n2 n3 : Nat} {v4 : Value} {l5 l6 l7 l8 : List D} {i9 i10 i11 i12 i14 room : Int} {b13 : Bool}
    (h : dNew.sig.post [.I room, .N n0, .N n1, .N n2, .N n3, .V v4, .L l5, .L l6, .L l7, .L l8, .I i9, .I i10, .I i11, .I i12, .B b13, .I i14]) : Rp l5 l6 l7 l8 i9 i10 i11 i12 b13 i14 (Dk.new room) := rp_new h

def awA : Ds := ⟨[⟨[], 0⟩], [([97], 0)], [], [⟨[], [97], 0⟩], 100, -1, -1, false, 1⟩
def awB : Ds := ⟨[⟨[120, 121], 0⟩], [([97], 0)], [], [⟨[], [97], 0⟩], 100, -1, -1, false, 2⟩
def awC : Ds := ⟨[⟨[120, 121], 0⟩], [([97], 0)], [([97], 0)], [], 100, -1, -1, false, 3⟩
def awD : Ds := ⟨[⟨[120], 1⟩], [([97], 0)], [([97], 0)], [], 100, -1, -1, false, 3⟩
def awE : Ds := ⟨[⟨[120], 1⟩, ⟨[], 0⟩], [([97], 0), ([98], 1)], [([97], 0)], [⟨[], [98], 1⟩], 100, -1, -1, false, 4⟩
def awF : Ds := ⟨[⟨[120], 1⟩, ⟨[], 0⟩], [([97], 0)], [([97], 0)], [], 100, -1, -1, false, 4⟩
theorem awA_eq : Dk.create (Dk.new 100) [97] = (awA, 0) := by decide
theorem awB_eq : Dk.append awA [97] [120, 121] = (awB, 0) := by decide
theorem awC_eq : Dk.syncNames awB = (awC, 0) := by decide
theorem awD_eq : Dk.restart awC [0, 1] = awD := by decide
theorem awE_eq : Dk.create awD [98] = (awE, 0) := by decide
theorem awF_eq : Dk.restart awE [] = awF := by decide
theorem awA_ok : Small awA := ⟨by have := Dk.inv_create (Dk.inv_new 100) [97]; rw [awA_eq] at this; exact this, by decide, by decide, by decide, by decide, by decide⟩
theorem awB_ok : Small awB := ⟨by have := Dk.inv_append awA_ok.inv [97] [120, 121]; rw [awB_eq] at this; exact this, by decide, by decide, by decide, by decide, by decide⟩
theorem awC_ok : Small awC := ⟨by have := Dk.inv_syncNames awB_ok.inv; rw [awC_eq] at this; exact this, by decide, by decide, by decide, by decide, by decide⟩
theorem awD_ok : Small awD := ⟨by have := Dk.inv_restart awC_ok.inv [0, 1]; rw [awD_eq] at this; exact this, by decide, by decide, by decide, by decide, by decide⟩
theorem awE_ok : Small awE := ⟨by have := Dk.inv_create awD_ok.inv [98]; rw [awE_eq] at this; exact this, by decide, by decide, by decide, by decide, by decide⟩
theorem awF_ok : Small awF := ⟨by have := Dk.inv_restart awE_ok.inv []; rw [awF_eq] at this; exact this, by decide, by decide, by decide, by decide, by decide⟩

theorem dAwake.pure : dAwake.Pure := by
  intro _
  refine ⟨trivial, ?_⟩
  intros
  have r1 := new_use ‹dNew.sig.post _›
  refine ⟨⟨_, rep_of r1, small_new⟩, ?_⟩
  intros
  have r2 := create_use ‹dCreate.sig.post _› r1 small_new
  rw [show tx ⟨#[97]⟩ = [97] from rfl, awA_eq] at r2
  obtain ⟨r2, e2⟩ := r2
  refine ⟨fun h => absurd e2 h, fun _ => ⟨⟨_, rep_of r2, awA_ok⟩, ?_⟩⟩
  intros
  have r3 := append_use ‹dAppend.sig.post _› r2 awA_ok
  rw [show tx ⟨#[97]⟩ = [97] from rfl, show tx ⟨#[120, 121]⟩ = [120, 121] from rfl, awB_eq] at r3
  obtain ⟨r3, e3⟩ := r3
  refine ⟨fun h => absurd e3 h, fun _ => ⟨⟨_, rep_of r3, awB_ok⟩, ?_⟩⟩
  intros
  have r4 := syncNames_use ‹dSyncNames.sig.post _› r3 awB_ok
  rw [awC_eq] at r4
  obtain ⟨r4, e4⟩ := r4
  refine ⟨fun h => absurd e4 h, fun _ v60 => ⟨⟨_, rep_of r4, awC_ok⟩, ?_⟩⟩
  intros
  have r5 := restart_use ‹dRestart.sig.post _› r4 awC_ok
  rw [awD_eq] at r5
  refine ⟨⟨_, rep_of r5, awD_ok⟩, ?_⟩
  intros
  have r6 := read_use ‹dRead.sig.post _› r5 awD_ok
  refine ⟨⟨_, rep_of r5, awD_ok⟩, ?_⟩
  intros
  have r7 := create_use ‹dCreate.sig.post _› r5 awD_ok
  rw [show tx ⟨#[98]⟩ = [98] from rfl, awE_eq] at r7
  obtain ⟨r7, e7⟩ := r7
  refine ⟨⟨_, rep_of r7, awE_ok⟩, ?_⟩
  intros
  have r8 := restart_use ‹dRestart.sig.post _› r7 awE_ok
  rw [awF_eq] at r8
  refine ⟨⟨_, rep_of r8, awF_ok⟩, ?_⟩
  intros
  have r9 := read_use ‹dRead.sig.post _› r8 awF_ok
  have q6 : Dk.read awD (tx ⟨#[97]⟩) = ([120], 0) := by decide
  have q9 : Dk.read awF (tx ⟨#[98]⟩) = ([], 5) := by decide
  rw [q6] at r6
  rw [q9] at r9
  simp only [Prod.mk.injEq] at r6 r9
  refine ⟨fun _ => ⟨fun _ => ⟨fun _ => ?_, fun h => absurd e7 h⟩, fun h => absurd (tx_inj (b := ⟨#[120]⟩) r6.1) h⟩, fun h => absurd r6.2 h⟩
  show (_ == (5 : Int)) = true
  rw [r9.2]; rfl

end Go.Vc
namespace Go.Vc
open Dk (Fi Cg Ds held fileAt)
end Go.Vc
