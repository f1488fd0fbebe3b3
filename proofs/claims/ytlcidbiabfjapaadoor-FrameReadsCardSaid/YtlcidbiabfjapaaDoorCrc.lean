/-
  Contracts of the sums that tell what was changed (crc, and the document's).
  Printed by wip/vct.py: the conditions of functions, by their contracts.
  Sums that tell what was changed: the plain part.
  Sums that tell what was changed: what becomes of each bit; the laws.
  Sums that tell what was changed: two laws more.
-/
import Derived.Test.YtlcidbiabfjapaaDoorWord
import Derived.KernelRfl
set_option linter.unusedVariables false
set_option linter.unusedSimpArgs false
namespace Go.Vc

abbrev W32 := BitVec 32
def cv (x : Int) : W32 := BitVec.ofInt 32 x
def cpoly : W32 := 0x82f63b78#32
/-- One bit 0 more. -/
def st (c : W32) : W32 := (c >>> 1) ^^^ (if c.getLsbD 0 then cpoly else 0#32)
def stn : Nat → W32 → W32
  | 0, c => c
  | n + 1, c => stn n (st c)
def crcByte (c : W32) (b : Int) : W32 := stn 8 (c ^^^ cv b)
def crcRun (c : W32) (l : List Int) : W32 := l.foldl crcByte c
def crcOf (sum : Int) (l : List Int) : Int := ((~~~ (crcRun (~~~ cv sum) l)).toNat : Int)
def crcHalf : List Int := [0x00000000, 0x105ec76f, 0x20bd8ede, 0x30e349b1, 0x417b1dbc, 0x5125dad3, 0x61c69362, 0x7198540d, 0x82f63b78, 0x92a8fc17, 0xa24bb5a6, 0xb21572c9, 0xc38d26c4, 0xd3d3e1ab, 0xe330a81a, 0xf36e6f75]

def Step.pre : List D → Prop
  | [.I _, .I b] => b = 0 ∨ b = 1
  | _ => False
def Step.post : List D → Prop
  | [.I c, .I b, .I r] => r = ((st (cv c ^^^ cv b)).toNat : Int)
  | _ => False
def Step.sig : Sig := sigF [.i .u32, .i .u32] [.i .u32] Step.pre Step.post
def RByte.post : List D → Prop
  | [.I c, .I b, .I r] => r = ((crcByte (cv c) b).toNat : Int)
  | _ => False
def RByte.sig : Sig := sigF [.i .u32, .i .u8] [.i .u32] tru RByte.post
def RByte.I0 : List D → Prop
  | [.I c0, .I b0, .I c, .I b, .I i] => 0 ≤ i ∧ i ≤ 8 ∧ b * 2 ^ i.toNat < 256 ∧ stn (8 - i.toNat) (cv c ^^^ cv b) = crcByte (cv c0) b0
  | _ => False
def RByte.I0M : List D → Nat
  | [.I _, .I _, .I _, .I _, .I i] => (8 - i).toNat
  | _ => 0
def CMore.post : List D → Prop
  | [.I sum, .S s, .I r] => r = crcOf sum (bytesOf s)
  | _ => False
def CMore.sig : Sig := sigF [.i .u32, .s] [.i .u32] tru CMore.post
def CMore.I0 : List D → Prop
  | [.I sum, .S s, .I c, .I i] => 0 ≤ i ∧ i ≤ s.size ∧ c = ((crcRun (~~~ cv sum) ((bytesOf s).take i.toNat)).toNat : Int)
  | _ => False
def CMore.I0M : List D → Nat
  | [.I _, .S s, .I _, .I i] => ((s.size : Int) - i).toNat
  | _ => 0
def RMore.sig : Sig := CMore.sig
def COf.post : List D → Prop
  | [.S s, .I r] => r = crcOf 0 (bytesOf s)
  | _ => False
def COf.sig : Sig := sigF [.s] [.i .u32] tru COf.post

/-! ### what becomes of each bit -/
def mtimes (m : List Int) (v : W32) : W32 := (List.range 32).foldl (fun out i => if v.getLsbD i then out ^^^ cv (m.getD i 0) else out) 0#32
def Times.post : List D → Prop
  | [.N _, .Z m, .I v, .I r] => r = ((mtimes m (cv v)).toNat : Int)
  | _ => False
def Times.sig : Sig :=
  { args := [.one (.lf (.ptr (.at 0) 0)), .one (.lf (.int .u32 (.at 2)))], heap := [.box (.at 0) [.ints .u32 32 (.at 1)]], srts := [.N, .Z, .I],
    res := .one (.lf (.int .u32 (.at 3))), heap' := [.box (.at 0) [.ints .u32 32 (.at 1)]], news := [.I], pre := tru, post := Times.post }
def Times.I0 : List D → Prop
  | [.N _, .Z m, .I v0, .I v, .I out, .I i] => 0 ≤ i ∧ i ≤ 32 ∧ v = v0 / 2 ^ i.toNat ∧ out = (((List.range i.toNat).foldl (fun out i => if (cv v0).getLsbD i then out ^^^ cv (m.getD i 0) else out) 0#32).toNat : Int)
  | _ => False
def Times.I0M : List D → Nat
  | [.N _, .Z _, .I _, .I _, .I _, .I i] => (32 - i).toNat
  | _ => 0
def Square.post : List D → Prop
  | [.N _, .Z m, .Z r] => ∀ i, i < 32 → r.getD i 0 = ((mtimes m (cv (m.getD i 0))).toNat : Int)
  | _ => False
def Square.sig : Sig :=
  { args := [.one (.lf (.ptr (.at 0) 0))], heap := [.box (.at 0) [.ints .u32 32 (.at 1)]], srts := [.N, .Z],
    res := .one (.agg [.ints .u32 32 (.at 2)]), heap' := [.box (.at 0) [.ints .u32 32 (.at 1)]], news := [.Z], pre := tru, post := Square.post }
def Square.I0 : List D → Prop
  | [.N _, .Z m, .I i, .Z l] => 0 ≤ i ∧ i ≤ 32 ∧ ∀ j : Nat, (j : Int) < i → l.getD j 0 = ((mtimes m (cv (m.getD j 0))).toNat : Int)
  | _ => False
def Square.I0M : List D → Nat
  | [.N _, .Z _, .I i, .Z _] => (32 - i).toNat
  | _ => 0
def Nought.post : List D → Prop
  | [.Z r] => ∀ i, i < 32 → r.getD i 0 = ((st (1#32 <<< i)).toNat : Int)
  | _ => False
def Nought.sig : Sig := { args := [], heap := [], srts := [], res := .one (.agg [.ints .u32 32 (.at 0)]), heap' := [], news := [.Z], pre := tru, post := Nought.post }
def Nought.I0 : List D → Prop
  | [.I i, .Z l] => 1 ≤ i ∧ i ≤ 32 ∧ ∀ j : Nat, (j : Int) < i → l.getD j 0 = ((st (1#32 <<< j)).toNat : Int)
  | _ => False
def Nought.I0M : List D → Nat
  | [.I i, .Z _] => (32 - i).toNat
  | _ => 0
def CPass.post : List D → Prop
  | [.I v, .I n, .I r] => r = ((stn (8 * n.toNat) (cv v)).toNat : Int)
  | _ => False
def CPass.sig : Sig := sigF [.i .u32, .i .i64] [.i .u32] tru CPass.post
/-- A matrix that makes k steps. -/
def isStep (m : List Int) (k : Nat) : Prop := ∀ i, i < 32 → m.getD i 0 = ((stn k (1#32 <<< i)).toNat : Int)
def CPass.I0 : List D → Prop
  | [.I v, .I _, .I i, .Z m] => 0 ≤ i ∧ i ≤ 3 ∧ isStep m (2 ^ i.toNat)
  | _ => False
def CPass.I0M : List D → Nat
  | [.I _, .I _, .I i, .Z _] => (3 - i).toNat
  | _ => 0
def CPass.I1 : List D → Prop
  | [.I v0, .I n0, .I v, .I n, .Z m] => ∃ k : Nat, isStep m k ∧ n ≤ n0 ∧ stn (k * n.toNat) (cv v) = stn (8 * n0.toNat) (cv v0)
  | _ => False
def CPass.I1M : List D → Nat
  | [.I _, .I _, .I _, .I n, .Z _] => n.toNat
  | _ => 0
def RPass.sig : Sig := CPass.sig
def RPass.I0 : List D → Prop
  | [.I v0, .I n, .I v, .I i] => 0 ≤ i ∧ (i ≤ n ∨ n ≤ 0 ∧ i = 0) ∧ cv v = stn (8 * i.toNat) (cv v0)
  | _ => False
def RPass.I0M : List D → Nat
  | [.I _, .I n, .I _, .I i] => (n - i).toNat
  | _ => 0
def CJoin.post : List D → Prop
  | [.I a, .I b, .I n, .I r] => r = ((stn (8 * n.toNat) (cv a) ^^^ cv b).toNat : Int)
  | _ => False
def CJoin.sig : Sig := sigF [.i .u32, .i .u32, .i .i64] [.i .u32] tru CJoin.post

/-! ### laws -/
def Awake02.sig : Sig := sigF [] [.b] tru yes
def LCrcSums.sig : Sig := sigF [.s, .i .u32, .i .i64] [.b] tru yes
def LCrcJoins.sig : Sig := sigF [.s, .s] [.b] tru yes
def LCrcLinear.sig : Sig := sigF [.s, .s, .s] [.b] tru yes
def LCrcLinear.I0 : List D → Prop
  | [.S s, .S t, .S u, .I i, .Z l] => 0 ≤ i ∧ i ≤ min (min (min (s.size : Int) t.size) u.size) 300 ∧ (l.length : Int) = min (min (min (s.size : Int) t.size) u.size) 300 ∧
      ∀ j : Nat, (j : Int) < i → cv (l.getD j 0) = cv ((bytesOf s).getD j 0) ^^^ cv ((bytesOf t).getD j 0) ^^^ cv ((bytesOf u).getD j 0)
  | _ => False
def LCrcLinear.I0M : List D → Nat
  | [.S s, .S t, .S u, .I i, .Z _] => (min (min (min (s.size : Int) t.size) u.size) 300 - i).toNat
  | _ => 0
def LCrcBursts.sig : Sig := sigF [.s, .i .i64, .i .u32] [.b] tru yes
/-- The bits of bytes, the lowest first. -/
def bitAt (l : List Int) (i : Nat) : Bool := bt (l.getD (i / 8) 0) (i % 8)
def LCrcBursts.I0 : List D → Prop
  | [.S s, .I a, .I bits, .B ch, .I k, .Z l] => 0 ≤ k ∧ k ≤ 32 ∧ l.length = min s.size 600 ∧
      (∀ i, i < 8 * l.length → bitAt l i = (bitAt (bytesOf s) i ^^ (decide (a ≤ (i : Int) ∧ (i : Int) - a < k) && bt bits (i - a.toNat)))) ∧
      (ch = true ↔ ∃ j : Nat, (j : Int) < k ∧ bt bits j = true ∧ a + j < 8 * l.length)
  | _ => False
def LCrcBursts.I0M : List D → Nat
  | [.S _, .I _, .I _, .B _, .I k, .Z _] => (32 - k).toNat
  | _ => 0

end Go.Vc

namespace Go.Vc
set_option linter.unusedVariables false
def Step.vc : VC :=
 (.all .I
 (.all .I
 (.know (.has .u32 (.at 0))
 (.know (.has .u32 (.at 1))
 (.post 0 [(.at 0), (.at 1)]
 (.and
  (.imp (.o2 .eq (.o2 .rem (.o2 (.add .u32) (.at 0) (.at 1)) (.int 2)) (.int 1)) true
  (.ret [(.at 0), (.at 1), (.o2 (.bits .xor .u32) (.o2 (.quo .u32) (.at 0) (.int 2)) (.int 2197175160))]))
  (.imp (.o2 .eq (.o2 .rem (.o2 (.add .u32) (.at 0) (.at 1)) (.int 2)) (.int 1)) false
  (.ret [(.at 0), (.at 1), (.o2 (.quo .u32) (.at 0) (.int 2))]))))))))
def Step.Pure : Prop :=
 ∀ (i0 : Int),
 ∀ (i1 : Int),
 (0 ≤ i0 ∧ i0 < 4294967296) →
 (0 ≤ i1 ∧ i1 < 4294967296) →
 Step.sig.pre [(D.I i0), (D.I i1)] →
 ((
  ((Int.tmod (IntKind.wrap .u32 (i0 + i1)) (2 : Int)) = (1 : Int)) →
  Step.sig.post [(D.I i0), (D.I i1), (D.I (Go.bits .xor .u32 (IntKind.wrap .u32 (Int.tdiv i0 (2 : Int))) (2197175160 : Int)))]) ∧ (
  ((Int.tmod (IntKind.wrap .u32 (i0 + i1)) (2 : Int)) ≠ (1 : Int)) →
  Step.sig.post [(D.I i0), (D.I i1), (D.I (IntKind.wrap .u32 (Int.tdiv i0 (2 : Int))))]))
theorem Step.den : Step.vc.den2 (mkEnv Step.sig [] []) [] = Step.Pure := by kernel_rfl
def RByte.vc : VC :=
 (.all .I
 (.all .I
 (.know (.has .u32 (.at 0))
 (.know (.has .u8 (.at 1))
 (.post 0 [(.at 0), (.at 1)]
 (.inv 0 [(.at 0), (.at 1), (.at 0), (.at 1), (.int 0)]
 (.all .I
 (.all .I
 (.all .I
 (.know (.has .u32 (.at 2))
 (.know (.has .u8 (.at 3))
 (.know (.has .i64 (.at 4))
 (.asm 0 [(.at 0), (.at 1), (.at 2), (.at 3), (.at 4)]
 (.and
  (.imp (.o2 .lt (.at 4) (.int 8)) true
  (.pre 1 [(.at 2), (.o1 (.wrap .u32) (.o2 .rem (.at 3) (.int 2)))]
  (.all .I
  (.post 1 [(.at 2), (.o1 (.wrap .u32) (.o2 .rem (.at 3) (.int 2))), (.at 5)]
  (.know (.has .u32 (.at 5))
  (.back 0 [(.at 0), (.at 1), (.at 2), (.at 3), (.at 4)] [(.at 0), (.at 1), (.at 5), (.o2 (.quo .u8) (.at 3) (.int 2)), (.o2 (.add .i64) (.at 4) (.int 1))]))))))
  (.imp (.o2 .lt (.at 4) (.int 8)) false
  (.ret [(.at 0), (.at 1), (.at 2)]))))))))))))))))
def RByte.Pure : Prop :=
 ∀ (i0 : Int),
 ∀ (i1 : Int),
 (0 ≤ i0 ∧ i0 < 4294967296) →
 (0 ≤ i1 ∧ i1 < 256) →
 RByte.sig.pre [(D.I i0), (D.I i1)] →
 RByte.I0 [(D.I i0), (D.I i1), (D.I i0), (D.I i1), (D.I (0 : Int))] ∧ (
 ∀ (i2 : Int),
 ∀ (i3 : Int),
 ∀ (i4 : Int),
 (0 ≤ i2 ∧ i2 < 4294967296) →
 (0 ≤ i3 ∧ i3 < 256) →
 (-9223372036854775808 ≤ i4 ∧ i4 < 9223372036854775808) →
 RByte.I0 [(D.I i0), (D.I i1), (D.I i2), (D.I i3), (D.I i4)] →
 ((
  (i4 < (8 : Int)) →
  Step.sig.pre [(D.I i2), (D.I (IntKind.wrap .u32 (Int.tmod i3 (2 : Int))))] ∧ (
  ∀ (i5 : Int),
  Step.sig.post [(D.I i2), (D.I (IntKind.wrap .u32 (Int.tmod i3 (2 : Int)))), (D.I i5)] →
  (0 ≤ i5 ∧ i5 < 4294967296) →
  RByte.I0 [(D.I i0), (D.I i1), (D.I i5), (D.I (IntKind.wrap .u8 (Int.tdiv i3 (2 : Int)))), (D.I (IntKind.wrap .i64 (i4 + (1 : Int))))] ∧ RByte.I0M [(D.I i0), (D.I i1), (D.I i5), (D.I (IntKind.wrap .u8 (Int.tdiv i3 (2 : Int)))), (D.I (IntKind.wrap .i64 (i4 + (1 : Int))))] < RByte.I0M [(D.I i0), (D.I i1), (D.I i2), (D.I i3), (D.I i4)])) ∧ (
  ((8 : Int) ≤ i4) →
  RByte.sig.post [(D.I i0), (D.I i1), (D.I i2)])))
theorem RByte.den : RByte.vc.den2 (mkEnv RByte.sig [Step.sig] [(RByte.I0, RByte.I0M)]) [] = RByte.Pure := by kernel_rfl
def RMore.vc : VC :=
 (.all .I
 (.all .S
 (.know (.has .u32 (.at 0))
 (.know (.ssz (.at 1))
 (.post 0 [(.at 0), (.at 1)]
 (.all .V
 (.inv 0 [(.at 0), (.at 1), (.o2 (.sub .u32) (.int 4294967295) (.at 0)), (.int 0)]
 (.all .I
 (.all .I
 (.know (.has .u32 (.at 3))
 (.know (.has .i64 (.at 4))
 (.asm 0 [(.at 0), (.at 1), (.at 3), (.at 4)]
 (.and
  (.imp (.o2 .lt (.at 4) (.o1 .lilen (.o1 .toLi (.at 1)))) true
  (.obl (.o2 .le (.int 0) (.at 4))
  (.pre 1 [(.at 3), (.o2 .liget (.o1 .toLi (.at 1)) (.at 4))]
  (.all .I
  (.post 1 [(.at 3), (.o2 .liget (.o1 .toLi (.at 1)) (.at 4)), (.at 5)]
  (.know (.has .u32 (.at 5))
  (.back 0 [(.at 0), (.at 1), (.at 3), (.at 4)] [(.at 0), (.at 1), (.at 5), (.o2 (.add .i64) (.at 4) (.int 1))])))))))
  (.imp (.o2 .lt (.at 4) (.o1 .lilen (.o1 .toLi (.at 1)))) false
  (.ret [(.at 0), (.at 1), (.o2 (.sub .u32) (.int 4294967295) (.at 3))])))))))))))))))
def RMore.Pure : Prop :=
 ∀ (i0 : Int),
 ∀ (s1 : ByteArray),
 (0 ≤ i0 ∧ i0 < 4294967296) →
 ((s1.size : Int) ≤ 9223372036854775807) →
 RMore.sig.pre [(D.I i0), (D.S s1)] →
 ∀ (v2 : Value),
 CMore.I0 [(D.I i0), (D.S s1), (D.I (IntKind.wrap .u32 ((4294967295 : Int) - i0))), (D.I (0 : Int))] ∧ (
 ∀ (i3 : Int),
 ∀ (i4 : Int),
 (0 ≤ i3 ∧ i3 < 4294967296) →
 (-9223372036854775808 ≤ i4 ∧ i4 < 9223372036854775808) →
 CMore.I0 [(D.I i0), (D.S s1), (D.I i3), (D.I i4)] →
 ((
  (i4 < (((bytesOf s1).length : Nat) : Int)) →
  ((0 : Int) ≤ i4) ∧ (((0 : Int) ≤ i4) →
  RByte.sig.pre [(D.I i3), (D.I ((bytesOf s1).getD i4.toNat 0))] ∧ (
  ∀ (i5 : Int),
  RByte.sig.post [(D.I i3), (D.I ((bytesOf s1).getD i4.toNat 0)), (D.I i5)] →
  (0 ≤ i5 ∧ i5 < 4294967296) →
  CMore.I0 [(D.I i0), (D.S s1), (D.I i5), (D.I (IntKind.wrap .i64 (i4 + (1 : Int))))] ∧ CMore.I0M [(D.I i0), (D.S s1), (D.I i5), (D.I (IntKind.wrap .i64 (i4 + (1 : Int))))] < CMore.I0M [(D.I i0), (D.S s1), (D.I i3), (D.I i4)]))) ∧ (
  ((((bytesOf s1).length : Nat) : Int) ≤ i4) →
  RMore.sig.post [(D.I i0), (D.S s1), (D.I (IntKind.wrap .u32 ((4294967295 : Int) - i3)))])))
theorem RMore.den : RMore.vc.den2 (mkEnv RMore.sig [RByte.sig] [(CMore.I0, CMore.I0M)]) [] = RMore.Pure := by kernel_rfl
def CMore.vc : VC :=
 (.all .I
 (.all .S
 (.know (.has .u32 (.at 0))
 (.know (.ssz (.at 1))
 (.post 0 [(.at 0), (.at 1)]
 (.inv 0 [(.at 0), (.at 1), (.o2 (.bits .xor .u32) (.int 4294967295) (.at 0)), (.int 0)]
 (.all .I
 (.all .I
 (.know (.has .u32 (.at 2))
 (.know (.has .i64 (.at 3))
 (.asm 0 [(.at 0), (.at 1), (.at 2), (.at 3)]
 (.and
  (.imp (.o2 .lt (.at 3) (.o1 .slen (.at 1))) true
  (.obl (.o2 .le (.int 0) (.at 3))
  (.obl (.o2 .le (.int 0) (.o2 (.bits .and .u32) (.o2 (.bits .xor .u32) (.at 2) (.o1 (.wrap .u32) (.o2 .byte (.at 1) (.at 3)))) (.int 15)))
  (.obl (.o2 .lt (.o2 (.bits .and .u32) (.o2 (.bits .xor .u32) (.at 2) (.o1 (.wrap .u32) (.o2 .byte (.at 1) (.at 3)))) (.int 15)) (.int 16))
  (.obl (.o2 .le (.int 0) (.o2 (.bits .and .u32) (.o2 (.bits .xor .u32) (.o2 (.bits .xor .u32) (.o2 (.shr .u32) (.at 2) (.int 4)) (.o2 .liget (.lis [0, 274646895, 549293790, 820201905, 1098587580, 1361435347, 1640403810, 1905808397, 2197175160, 2460548119, 2722870694, 2987750089, 3280807620, 3553878443, 3811616794, 4084100981]) (.o2 (.bits .and .u32) (.o2 (.bits .xor .u32) (.at 2) (.o1 (.wrap .u32) (.o2 .byte (.at 1) (.at 3)))) (.int 15)))) (.o2 (.shr .u32) (.o1 (.wrap .u32) (.o2 .byte (.at 1) (.at 3))) (.int 4))) (.int 15)))
  (.obl (.o2 .lt (.o2 (.bits .and .u32) (.o2 (.bits .xor .u32) (.o2 (.bits .xor .u32) (.o2 (.shr .u32) (.at 2) (.int 4)) (.o2 .liget (.lis [0, 274646895, 549293790, 820201905, 1098587580, 1361435347, 1640403810, 1905808397, 2197175160, 2460548119, 2722870694, 2987750089, 3280807620, 3553878443, 3811616794, 4084100981]) (.o2 (.bits .and .u32) (.o2 (.bits .xor .u32) (.at 2) (.o1 (.wrap .u32) (.o2 .byte (.at 1) (.at 3)))) (.int 15)))) (.o2 (.shr .u32) (.o1 (.wrap .u32) (.o2 .byte (.at 1) (.at 3))) (.int 4))) (.int 15)) (.int 16))
  (.back 0 [(.at 0), (.at 1), (.at 2), (.at 3)] [(.at 0), (.at 1), (.o2 (.bits .xor .u32) (.o2 (.shr .u32) (.o2 (.bits .xor .u32) (.o2 (.shr .u32) (.at 2) (.int 4)) (.o2 .liget (.lis [0, 274646895, 549293790, 820201905, 1098587580, 1361435347, 1640403810, 1905808397, 2197175160, 2460548119, 2722870694, 2987750089, 3280807620, 3553878443, 3811616794, 4084100981]) (.o2 (.bits .and .u32) (.o2 (.bits .xor .u32) (.at 2) (.o1 (.wrap .u32) (.o2 .byte (.at 1) (.at 3)))) (.int 15)))) (.int 4)) (.o2 .liget (.lis [0, 274646895, 549293790, 820201905, 1098587580, 1361435347, 1640403810, 1905808397, 2197175160, 2460548119, 2722870694, 2987750089, 3280807620, 3553878443, 3811616794, 4084100981]) (.o2 (.bits .and .u32) (.o2 (.bits .xor .u32) (.o2 (.bits .xor .u32) (.o2 (.shr .u32) (.at 2) (.int 4)) (.o2 .liget (.lis [0, 274646895, 549293790, 820201905, 1098587580, 1361435347, 1640403810, 1905808397, 2197175160, 2460548119, 2722870694, 2987750089, 3280807620, 3553878443, 3811616794, 4084100981]) (.o2 (.bits .and .u32) (.o2 (.bits .xor .u32) (.at 2) (.o1 (.wrap .u32) (.o2 .byte (.at 1) (.at 3)))) (.int 15)))) (.o2 (.shr .u32) (.o1 (.wrap .u32) (.o2 .byte (.at 1) (.at 3))) (.int 4))) (.int 15)))), (.o2 (.add .i64) (.at 3) (.int 1))])))))))
  (.imp (.o2 .lt (.at 3) (.o1 .slen (.at 1))) false
  (.ret [(.at 0), (.at 1), (.o2 (.bits .xor .u32) (.int 4294967295) (.at 2))]))))))))))))))
def CMore.Pure : Prop :=
 ∀ (i0 : Int),
 ∀ (s1 : ByteArray),
 (0 ≤ i0 ∧ i0 < 4294967296) →
 ((s1.size : Int) ≤ 9223372036854775807) →
 CMore.sig.pre [(D.I i0), (D.S s1)] →
 CMore.I0 [(D.I i0), (D.S s1), (D.I (Go.bits .xor .u32 (4294967295 : Int) i0)), (D.I (0 : Int))] ∧ (
 ∀ (i2 : Int),
 ∀ (i3 : Int),
 (0 ≤ i2 ∧ i2 < 4294967296) →
 (-9223372036854775808 ≤ i3 ∧ i3 < 9223372036854775808) →
 CMore.I0 [(D.I i0), (D.S s1), (D.I i2), (D.I i3)] →
 ((
  (i3 < ((s1.size : Nat) : Int)) →
  ((0 : Int) ≤ i3) ∧ (((0 : Int) ≤ i3) →
  ((0 : Int) ≤ (Go.bits .and .u32 (Go.bits .xor .u32 i2 (IntKind.wrap .u32 (byteAt s1 i3))) (15 : Int))) ∧ (((0 : Int) ≤ (Go.bits .and .u32 (Go.bits .xor .u32 i2 (IntKind.wrap .u32 (byteAt s1 i3))) (15 : Int))) →
  ((Go.bits .and .u32 (Go.bits .xor .u32 i2 (IntKind.wrap .u32 (byteAt s1 i3))) (15 : Int)) < (16 : Int)) ∧ (((Go.bits .and .u32 (Go.bits .xor .u32 i2 (IntKind.wrap .u32 (byteAt s1 i3))) (15 : Int)) < (16 : Int)) →
  ((0 : Int) ≤ (Go.bits .and .u32 (Go.bits .xor .u32 (Go.bits .xor .u32 (shrI .u32 i2 (4 : Int)) (([0, 274646895, 549293790, 820201905, 1098587580, 1361435347, 1640403810, 1905808397, 2197175160, 2460548119, 2722870694, 2987750089, 3280807620, 3553878443, 3811616794, 4084100981] : List Int).getD (Go.bits .and .u32 (Go.bits .xor .u32 i2 (IntKind.wrap .u32 (byteAt s1 i3))) (15 : Int)).toNat 0)) (shrI .u32 (IntKind.wrap .u32 (byteAt s1 i3)) (4 : Int))) (15 : Int))) ∧ (((0 : Int) ≤ (Go.bits .and .u32 (Go.bits .xor .u32 (Go.bits .xor .u32 (shrI .u32 i2 (4 : Int)) (([0, 274646895, 549293790, 820201905, 1098587580, 1361435347, 1640403810, 1905808397, 2197175160, 2460548119, 2722870694, 2987750089, 3280807620, 3553878443, 3811616794, 4084100981] : List Int).getD (Go.bits .and .u32 (Go.bits .xor .u32 i2 (IntKind.wrap .u32 (byteAt s1 i3))) (15 : Int)).toNat 0)) (shrI .u32 (IntKind.wrap .u32 (byteAt s1 i3)) (4 : Int))) (15 : Int))) →
  ((Go.bits .and .u32 (Go.bits .xor .u32 (Go.bits .xor .u32 (shrI .u32 i2 (4 : Int)) (([0, 274646895, 549293790, 820201905, 1098587580, 1361435347, 1640403810, 1905808397, 2197175160, 2460548119, 2722870694, 2987750089, 3280807620, 3553878443, 3811616794, 4084100981] : List Int).getD (Go.bits .and .u32 (Go.bits .xor .u32 i2 (IntKind.wrap .u32 (byteAt s1 i3))) (15 : Int)).toNat 0)) (shrI .u32 (IntKind.wrap .u32 (byteAt s1 i3)) (4 : Int))) (15 : Int)) < (16 : Int)) ∧ (((Go.bits .and .u32 (Go.bits .xor .u32 (Go.bits .xor .u32 (shrI .u32 i2 (4 : Int)) (([0, 274646895, 549293790, 820201905, 1098587580, 1361435347, 1640403810, 1905808397, 2197175160, 2460548119, 2722870694, 2987750089, 3280807620, 3553878443, 3811616794, 4084100981] : List Int).getD (Go.bits .and .u32 (Go.bits .xor .u32 i2 (IntKind.wrap .u32 (byteAt s1 i3))) (15 : Int)).toNat 0)) (shrI .u32 (IntKind.wrap .u32 (byteAt s1 i3)) (4 : Int))) (15 : Int)) < (16 : Int)) →
  CMore.I0 [(D.I i0), (D.S s1), (D.I (Go.bits .xor .u32 (shrI .u32 (Go.bits .xor .u32 (shrI .u32 i2 (4 : Int)) (([0, 274646895, 549293790, 820201905, 1098587580, 1361435347, 1640403810, 1905808397, 2197175160, 2460548119, 2722870694, 2987750089, 3280807620, 3553878443, 3811616794, 4084100981] : List Int).getD (Go.bits .and .u32 (Go.bits .xor .u32 i2 (IntKind.wrap .u32 (byteAt s1 i3))) (15 : Int)).toNat 0)) (4 : Int)) (([0, 274646895, 549293790, 820201905, 1098587580, 1361435347, 1640403810, 1905808397, 2197175160, 2460548119, 2722870694, 2987750089, 3280807620, 3553878443, 3811616794, 4084100981] : List Int).getD (Go.bits .and .u32 (Go.bits .xor .u32 (Go.bits .xor .u32 (shrI .u32 i2 (4 : Int)) (([0, 274646895, 549293790, 820201905, 1098587580, 1361435347, 1640403810, 1905808397, 2197175160, 2460548119, 2722870694, 2987750089, 3280807620, 3553878443, 3811616794, 4084100981] : List Int).getD (Go.bits .and .u32 (Go.bits .xor .u32 i2 (IntKind.wrap .u32 (byteAt s1 i3))) (15 : Int)).toNat 0)) (shrI .u32 (IntKind.wrap .u32 (byteAt s1 i3)) (4 : Int))) (15 : Int)).toNat 0))), (D.I (IntKind.wrap .i64 (i3 + (1 : Int))))] ∧ CMore.I0M [(D.I i0), (D.S s1), (D.I (Go.bits .xor .u32 (shrI .u32 (Go.bits .xor .u32 (shrI .u32 i2 (4 : Int)) (([0, 274646895, 549293790, 820201905, 1098587580, 1361435347, 1640403810, 1905808397, 2197175160, 2460548119, 2722870694, 2987750089, 3280807620, 3553878443, 3811616794, 4084100981] : List Int).getD (Go.bits .and .u32 (Go.bits .xor .u32 i2 (IntKind.wrap .u32 (byteAt s1 i3))) (15 : Int)).toNat 0)) (4 : Int)) (([0, 274646895, 549293790, 820201905, 1098587580, 1361435347, 1640403810, 1905808397, 2197175160, 2460548119, 2722870694, 2987750089, 3280807620, 3553878443, 3811616794, 4084100981] : List Int).getD (Go.bits .and .u32 (Go.bits .xor .u32 (Go.bits .xor .u32 (shrI .u32 i2 (4 : Int)) (([0, 274646895, 549293790, 820201905, 1098587580, 1361435347, 1640403810, 1905808397, 2197175160, 2460548119, 2722870694, 2987750089, 3280807620, 3553878443, 3811616794, 4084100981] : List Int).getD (Go.bits .and .u32 (Go.bits .xor .u32 i2 (IntKind.wrap .u32 (byteAt s1 i3))) (15 : Int)).toNat 0)) (shrI .u32 (IntKind.wrap .u32 (byteAt s1 i3)) (4 : Int))) (15 : Int)).toNat 0))), (D.I (IntKind.wrap .i64 (i3 + (1 : Int))))] < CMore.I0M [(D.I i0), (D.S s1), (D.I i2), (D.I i3)])))))) ∧ (
  (((s1.size : Nat) : Int) ≤ i3) →
  CMore.sig.post [(D.I i0), (D.S s1), (D.I (Go.bits .xor .u32 (4294967295 : Int) i2))])))
theorem CMore.den : CMore.vc.den2 (mkEnv CMore.sig [] [(CMore.I0, CMore.I0M)]) [] = CMore.Pure := by kernel_rfl
def COf.vc : VC :=
 (.all .S
 (.know (.ssz (.at 0))
 (.post 0 [(.at 0)]
 (.pre 1 [(.int 0), (.at 0)]
 (.all .I
 (.post 1 [(.int 0), (.at 0), (.at 1)]
 (.know (.has .u32 (.at 1))
 (.ret [(.at 0), (.at 1)]))))))))
def COf.Pure : Prop :=
 ∀ (s0 : ByteArray),
 ((s0.size : Int) ≤ 9223372036854775807) →
 COf.sig.pre [(D.S s0)] →
 CMore.sig.pre [(D.I (0 : Int)), (D.S s0)] ∧ (
 ∀ (i1 : Int),
 CMore.sig.post [(D.I (0 : Int)), (D.S s0), (D.I i1)] →
 (0 ≤ i1 ∧ i1 < 4294967296) →
 COf.sig.post [(D.S s0), (D.I i1)])
theorem COf.den : COf.vc.den2 (mkEnv COf.sig [CMore.sig] []) [] = COf.Pure := by kernel_rfl
def Times.vc : VC :=
 (.all .N
 (.all .Z
 (.all .I
 (.know (.has .u32 (.at 2))
 (.know (.len (.at 1) 32)
 (.know (.allHas .u32 (.at 1))
 (.post 0 [(.at 0), (.at 1), (.at 2)]
 (.inv 0 [(.at 0), (.at 1), (.at 2), (.at 2), (.int 0), (.int 0)]
 (.all .I
 (.all .I
 (.all .I
 (.know (.has .u32 (.at 3))
 (.know (.has .u32 (.at 4))
 (.know (.has .i64 (.at 5))
 (.asm 0 [(.at 0), (.at 1), (.at 2), (.at 3), (.at 4), (.at 5)]
 (.and
  (.imp (.o1 .not (.o2 .eq (.at 3) (.int 0))) true
  (.and
   (.imp (.o2 .eq (.o2 (.bits .and .u32) (.at 3) (.int 1)) (.int 1)) true
   (.obl (.o2 .le (.int 0) (.at 5))
   (.obl (.o2 .lt (.at 5) (.int 32))
   (.back 0 [(.at 0), (.at 1), (.at 2), (.at 3), (.at 4), (.at 5)] [(.at 0), (.at 1), (.at 2), (.o2 (.shr .u32) (.at 3) (.int 1)), (.o2 (.bits .xor .u32) (.at 4) (.o2 .liget (.at 1) (.at 5))), (.o2 (.add .i64) (.at 5) (.int 1))]))))
   (.imp (.o2 .eq (.o2 (.bits .and .u32) (.at 3) (.int 1)) (.int 1)) false
   (.back 0 [(.at 0), (.at 1), (.at 2), (.at 3), (.at 4), (.at 5)] [(.at 0), (.at 1), (.at 2), (.o2 (.shr .u32) (.at 3) (.int 1)), (.at 4), (.o2 (.add .i64) (.at 5) (.int 1))]))))
  (.imp (.o1 .not (.o2 .eq (.at 3) (.int 0))) false
  (.ret [(.at 0), (.at 1), (.at 2), (.at 4)]))))))))))))))))))
def Times.Pure : Prop :=
 ∀ (n0 : Nat),
 ∀ (z1 : List Int),
 ∀ (i2 : Int),
 (0 ≤ i2 ∧ i2 < 4294967296) →
 (z1.length = 32) →
 (∀ x ∈ z1, IntKind.has .u32 x) →
 Times.sig.pre [(D.N n0), (D.Z z1), (D.I i2)] →
 Times.I0 [(D.N n0), (D.Z z1), (D.I i2), (D.I i2), (D.I (0 : Int)), (D.I (0 : Int))] ∧ (
 ∀ (i3 : Int),
 ∀ (i4 : Int),
 ∀ (i5 : Int),
 (0 ≤ i3 ∧ i3 < 4294967296) →
 (0 ≤ i4 ∧ i4 < 4294967296) →
 (-9223372036854775808 ≤ i5 ∧ i5 < 9223372036854775808) →
 Times.I0 [(D.N n0), (D.Z z1), (D.I i2), (D.I i3), (D.I i4), (D.I i5)] →
 ((
  (i3 ≠ (0 : Int)) →
  ((
   ((Go.bits .and .u32 i3 (1 : Int)) = (1 : Int)) →
   ((0 : Int) ≤ i5) ∧ (((0 : Int) ≤ i5) →
   (i5 < (32 : Int)) ∧ ((i5 < (32 : Int)) →
   Times.I0 [(D.N n0), (D.Z z1), (D.I i2), (D.I (shrI .u32 i3 (1 : Int))), (D.I (Go.bits .xor .u32 i4 (z1.getD i5.toNat 0))), (D.I (IntKind.wrap .i64 (i5 + (1 : Int))))] ∧ Times.I0M [(D.N n0), (D.Z z1), (D.I i2), (D.I (shrI .u32 i3 (1 : Int))), (D.I (Go.bits .xor .u32 i4 (z1.getD i5.toNat 0))), (D.I (IntKind.wrap .i64 (i5 + (1 : Int))))] < Times.I0M [(D.N n0), (D.Z z1), (D.I i2), (D.I i3), (D.I i4), (D.I i5)]))) ∧ (
   ((Go.bits .and .u32 i3 (1 : Int)) ≠ (1 : Int)) →
   Times.I0 [(D.N n0), (D.Z z1), (D.I i2), (D.I (shrI .u32 i3 (1 : Int))), (D.I i4), (D.I (IntKind.wrap .i64 (i5 + (1 : Int))))] ∧ Times.I0M [(D.N n0), (D.Z z1), (D.I i2), (D.I (shrI .u32 i3 (1 : Int))), (D.I i4), (D.I (IntKind.wrap .i64 (i5 + (1 : Int))))] < Times.I0M [(D.N n0), (D.Z z1), (D.I i2), (D.I i3), (D.I i4), (D.I i5)]))) ∧ (
  (i3 = (0 : Int)) →
  Times.sig.post [(D.N n0), (D.Z z1), (D.I i2), (D.I i4)])))
theorem Times.den : Times.vc.den2 (mkEnv Times.sig [] [(Times.I0, Times.I0M)]) [] = Times.Pure := by kernel_rfl
def Square.vc : VC :=
 (.all .N
 (.all .Z
 (.know (.len (.at 1) 32)
 (.know (.allHas .u32 (.at 1))
 (.post 0 [(.at 0), (.at 1)]
 (.all .N
 (.all .N
 (.inv 0 [(.at 0), (.at 1), (.int 0), (.o2 .lirep (.int 32) (.int 0))]
 (.all .I
 (.all .Z
 (.know (.has .i64 (.at 4))
 (.know (.len (.at 5) 32)
 (.know (.allHas .u32 (.at 5))
 (.asm 0 [(.at 0), (.at 1), (.at 4), (.at 5)]
 (.and
  (.imp (.o2 .lt (.at 4) (.int 32)) true
  (.obl (.o2 .le (.int 0) (.at 4))
  (.pre 1 [(.at 0), (.at 1), (.o2 .liget (.at 1) (.at 4))]
  (.all .I
  (.post 1 [(.at 0), (.at 1), (.o2 .liget (.at 1) (.at 4)), (.at 6)]
  (.know (.has .u32 (.at 6))
  (.back 0 [(.at 0), (.at 1), (.at 4), (.at 5)] [(.at 0), (.at 1), (.o2 (.add .i64) (.at 4) (.int 1)), (.o3 .liset (.at 5) (.at 4) (.at 6))])))))))
  (.imp (.o2 .lt (.at 4) (.int 32)) false
  (.ret [(.at 0), (.at 1), (.at 5)])))))))))))))))))
def Square.Pure : Prop :=
 ∀ (n0 : Nat),
 ∀ (z1 : List Int),
 (z1.length = 32) →
 (∀ x ∈ z1, IntKind.has .u32 x) →
 Square.sig.pre [(D.N n0), (D.Z z1)] →
 ∀ (n2 : Nat),
 ∀ (n3 : Nat),
 Square.I0 [(D.N n0), (D.Z z1), (D.I (0 : Int)), (D.Z (List.replicate (32 : Int).toNat (0 : Int)))] ∧ (
 ∀ (i4 : Int),
 ∀ (z5 : List Int),
 (-9223372036854775808 ≤ i4 ∧ i4 < 9223372036854775808) →
 (z5.length = 32) →
 (∀ x ∈ z5, IntKind.has .u32 x) →
 Square.I0 [(D.N n0), (D.Z z1), (D.I i4), (D.Z z5)] →
 ((
  (i4 < (32 : Int)) →
  ((0 : Int) ≤ i4) ∧ (((0 : Int) ≤ i4) →
  Times.sig.pre [(D.N n0), (D.Z z1), (D.I (z1.getD i4.toNat 0))] ∧ (
  ∀ (i6 : Int),
  Times.sig.post [(D.N n0), (D.Z z1), (D.I (z1.getD i4.toNat 0)), (D.I i6)] →
  (0 ≤ i6 ∧ i6 < 4294967296) →
  Square.I0 [(D.N n0), (D.Z z1), (D.I (IntKind.wrap .i64 (i4 + (1 : Int)))), (D.Z (z5.set i4.toNat i6))] ∧ Square.I0M [(D.N n0), (D.Z z1), (D.I (IntKind.wrap .i64 (i4 + (1 : Int)))), (D.Z (z5.set i4.toNat i6))] < Square.I0M [(D.N n0), (D.Z z1), (D.I i4), (D.Z z5)]))) ∧ (
  ((32 : Int) ≤ i4) →
  Square.sig.post [(D.N n0), (D.Z z1), (D.Z z5)])))
theorem Square.den : Square.vc.den2 (mkEnv Square.sig [Times.sig] [(Square.I0, Square.I0M)]) [] = Square.Pure := by kernel_rfl
def Nought.vc : VC :=
 (.post 0 []
 (.all .N
 (.all .N
 (.inv 0 [(.int 1), (.o3 .liset (.o2 .lirep (.int 32) (.int 0)) (.int 0) (.int 2197175160))]
 (.all .I
 (.all .Z
 (.know (.has .i64 (.at 2))
 (.know (.len (.at 3) 32)
 (.know (.allHas .u32 (.at 3))
 (.asm 0 [(.at 2), (.at 3)]
 (.and
  (.imp (.o2 .lt (.at 2) (.int 32)) true
  (.obl (.o2 .le (.int 0) (.o2 (.sub .i64) (.at 2) (.int 1)))
  (.obl (.o2 .le (.int 0) (.at 2))
  (.back 0 [(.at 2), (.at 3)] [(.o2 (.add .i64) (.at 2) (.int 1)), (.o3 .liset (.at 3) (.at 2) (.o2 (.shl .u32) (.int 1) (.o2 (.sub .i64) (.at 2) (.int 1))))]))))
  (.imp (.o2 .lt (.at 2) (.int 32)) false
  (.ret [(.at 3)])))))))))))))
def Nought.Pure : Prop :=
 Nought.sig.pre [] →
 ∀ (n0 : Nat),
 ∀ (n1 : Nat),
 Nought.I0 [(D.I (1 : Int)), (D.Z ((List.replicate (32 : Int).toNat (0 : Int)).set (0 : Int).toNat (2197175160 : Int)))] ∧ (
 ∀ (i2 : Int),
 ∀ (z3 : List Int),
 (-9223372036854775808 ≤ i2 ∧ i2 < 9223372036854775808) →
 (z3.length = 32) →
 (∀ x ∈ z3, IntKind.has .u32 x) →
 Nought.I0 [(D.I i2), (D.Z z3)] →
 ((
  (i2 < (32 : Int)) →
  ((0 : Int) ≤ (IntKind.wrap .i64 (i2 - (1 : Int)))) ∧ (((0 : Int) ≤ (IntKind.wrap .i64 (i2 - (1 : Int)))) →
  ((0 : Int) ≤ i2) ∧ (((0 : Int) ≤ i2) →
  Nought.I0 [(D.I (IntKind.wrap .i64 (i2 + (1 : Int)))), (D.Z (z3.set i2.toNat (shlI .u32 (1 : Int) (IntKind.wrap .i64 (i2 - (1 : Int))))))] ∧ Nought.I0M [(D.I (IntKind.wrap .i64 (i2 + (1 : Int)))), (D.Z (z3.set i2.toNat (shlI .u32 (1 : Int) (IntKind.wrap .i64 (i2 - (1 : Int))))))] < Nought.I0M [(D.I i2), (D.Z z3)]))) ∧ (
  ((32 : Int) ≤ i2) →
  Nought.sig.post [(D.Z z3)])))
theorem Nought.den : Nought.vc.den2 (mkEnv Nought.sig [] [(Nought.I0, Nought.I0M)]) [] = Nought.Pure := by kernel_rfl
def CPass.vc : VC :=
 (.all .I
 (.all .I
 (.know (.has .u32 (.at 0))
 (.know (.has .i64 (.at 1))
 (.post 0 [(.at 0), (.at 1)]
 (.pre 1 []
 (.all .Z
 (.post 1 [(.at 2)]
 (.know (.len (.at 2) 32)
 (.know (.allHas .u32 (.at 2))
 (.all .N
 (.inv 0 [(.at 0), (.at 1), (.int 0), (.at 2)]
 (.all .I
 (.all .Z
 (.know (.has .i64 (.at 4))
 (.know (.len (.at 5) 32)
 (.know (.allHas .u32 (.at 5))
 (.asm 0 [(.at 0), (.at 1), (.at 4), (.at 5)]
 (.and
  (.imp (.o2 .lt (.at 4) (.int 3)) true
  (.pre 2 [(.at 3), (.at 5)]
  (.all .Z
  (.post 2 [(.at 3), (.at 5), (.at 6)]
  (.know (.len (.at 6) 32)
  (.know (.allHas .u32 (.at 6))
  (.back 0 [(.at 0), (.at 1), (.at 4), (.at 5)] [(.at 0), (.at 1), (.o2 (.add .i64) (.at 4) (.int 1)), (.at 6)])))))))
  (.imp (.o2 .lt (.at 4) (.int 3)) false
  (.inv 1 [(.at 0), (.at 1), (.at 0), (.at 1), (.at 5)]
  (.all .I
  (.all .I
  (.all .Z
  (.know (.has .u32 (.at 6))
  (.know (.has .i64 (.at 7))
  (.know (.len (.at 8) 32)
  (.know (.allHas .u32 (.at 8))
  (.asm 1 [(.at 0), (.at 1), (.at 6), (.at 7), (.at 8)]
  (.and
   (.imp (.o2 .lt (.int 0) (.at 7)) true
   (.and
    (.imp (.o2 .eq (.o2 (.bits .and .i64) (.at 7) (.int 1)) (.int 1)) true
    (.pre 3 [(.at 3), (.at 8), (.at 6)]
    (.all .I
    (.post 3 [(.at 3), (.at 8), (.at 6), (.at 9)]
    (.know (.has .u32 (.at 9))
    (.pre 2 [(.at 3), (.at 8)]
    (.all .Z
    (.post 2 [(.at 3), (.at 8), (.at 10)]
    (.know (.len (.at 10) 32)
    (.know (.allHas .u32 (.at 10))
    (.back 1 [(.at 0), (.at 1), (.at 6), (.at 7), (.at 8)] [(.at 0), (.at 1), (.at 9), (.o2 (.shr .i64) (.at 7) (.int 1)), (.at 10)])))))))))))
    (.imp (.o2 .eq (.o2 (.bits .and .i64) (.at 7) (.int 1)) (.int 1)) false
    (.pre 2 [(.at 3), (.at 8)]
    (.all .Z
    (.post 2 [(.at 3), (.at 8), (.at 9)]
    (.know (.len (.at 9) 32)
    (.know (.allHas .u32 (.at 9))
    (.back 1 [(.at 0), (.at 1), (.at 6), (.at 7), (.at 8)] [(.at 0), (.at 1), (.at 6), (.o2 (.shr .i64) (.at 7) (.int 1)), (.at 9)])))))))))
   (.imp (.o2 .lt (.int 0) (.at 7)) false
   (.ret [(.at 0), (.at 1), (.at 6)]))))))))))))))))))))))))))))))))
def CPass.Pure : Prop :=
 ∀ (i0 : Int),
 ∀ (i1 : Int),
 (0 ≤ i0 ∧ i0 < 4294967296) →
 (-9223372036854775808 ≤ i1 ∧ i1 < 9223372036854775808) →
 CPass.sig.pre [(D.I i0), (D.I i1)] →
 Nought.sig.pre [] ∧ (
 ∀ (z2 : List Int),
 Nought.sig.post [(D.Z z2)] →
 (z2.length = 32) →
 (∀ x ∈ z2, IntKind.has .u32 x) →
 ∀ (n3 : Nat),
 CPass.I0 [(D.I i0), (D.I i1), (D.I (0 : Int)), (D.Z z2)] ∧ (
 ∀ (i4 : Int),
 ∀ (z5 : List Int),
 (-9223372036854775808 ≤ i4 ∧ i4 < 9223372036854775808) →
 (z5.length = 32) →
 (∀ x ∈ z5, IntKind.has .u32 x) →
 CPass.I0 [(D.I i0), (D.I i1), (D.I i4), (D.Z z5)] →
 ((
  (i4 < (3 : Int)) →
  Square.sig.pre [(D.N n3), (D.Z z5)] ∧ (
  ∀ (z6 : List Int),
  Square.sig.post [(D.N n3), (D.Z z5), (D.Z z6)] →
  (z6.length = 32) →
  (∀ x ∈ z6, IntKind.has .u32 x) →
  CPass.I0 [(D.I i0), (D.I i1), (D.I (IntKind.wrap .i64 (i4 + (1 : Int)))), (D.Z z6)] ∧ CPass.I0M [(D.I i0), (D.I i1), (D.I (IntKind.wrap .i64 (i4 + (1 : Int)))), (D.Z z6)] < CPass.I0M [(D.I i0), (D.I i1), (D.I i4), (D.Z z5)])) ∧ (
  ((3 : Int) ≤ i4) →
  CPass.I1 [(D.I i0), (D.I i1), (D.I i0), (D.I i1), (D.Z z5)] ∧ (
  ∀ (i6 : Int),
  ∀ (i7 : Int),
  ∀ (z8 : List Int),
  (0 ≤ i6 ∧ i6 < 4294967296) →
  (-9223372036854775808 ≤ i7 ∧ i7 < 9223372036854775808) →
  (z8.length = 32) →
  (∀ x ∈ z8, IntKind.has .u32 x) →
  CPass.I1 [(D.I i0), (D.I i1), (D.I i6), (D.I i7), (D.Z z8)] →
  ((
   ((0 : Int) < i7) →
   ((
    ((Go.bits .and .i64 i7 (1 : Int)) = (1 : Int)) →
    Times.sig.pre [(D.N n3), (D.Z z8), (D.I i6)] ∧ (
    ∀ (i9 : Int),
    Times.sig.post [(D.N n3), (D.Z z8), (D.I i6), (D.I i9)] →
    (0 ≤ i9 ∧ i9 < 4294967296) →
    Square.sig.pre [(D.N n3), (D.Z z8)] ∧ (
    ∀ (z10 : List Int),
    Square.sig.post [(D.N n3), (D.Z z8), (D.Z z10)] →
    (z10.length = 32) →
    (∀ x ∈ z10, IntKind.has .u32 x) →
    CPass.I1 [(D.I i0), (D.I i1), (D.I i9), (D.I (shrI .i64 i7 (1 : Int))), (D.Z z10)] ∧ CPass.I1M [(D.I i0), (D.I i1), (D.I i9), (D.I (shrI .i64 i7 (1 : Int))), (D.Z z10)] < CPass.I1M [(D.I i0), (D.I i1), (D.I i6), (D.I i7), (D.Z z8)]))) ∧ (
    ((Go.bits .and .i64 i7 (1 : Int)) ≠ (1 : Int)) →
    Square.sig.pre [(D.N n3), (D.Z z8)] ∧ (
    ∀ (z9 : List Int),
    Square.sig.post [(D.N n3), (D.Z z8), (D.Z z9)] →
    (z9.length = 32) →
    (∀ x ∈ z9, IntKind.has .u32 x) →
    CPass.I1 [(D.I i0), (D.I i1), (D.I i6), (D.I (shrI .i64 i7 (1 : Int))), (D.Z z9)] ∧ CPass.I1M [(D.I i0), (D.I i1), (D.I i6), (D.I (shrI .i64 i7 (1 : Int))), (D.Z z9)] < CPass.I1M [(D.I i0), (D.I i1), (D.I i6), (D.I i7), (D.Z z8)])))) ∧ (
   (i7 ≤ (0 : Int)) →
   CPass.sig.post [(D.I i0), (D.I i1), (D.I i6)])))))))
theorem CPass.den : CPass.vc.den2 (mkEnv CPass.sig [Nought.sig, Square.sig, Times.sig] [(CPass.I0, CPass.I0M), (CPass.I1, CPass.I1M)]) [] = CPass.Pure := by kernel_rfl
def RPass.vc : VC :=
 (.all .I
 (.all .I
 (.know (.has .u32 (.at 0))
 (.know (.has .i64 (.at 1))
 (.post 0 [(.at 0), (.at 1)]
 (.inv 0 [(.at 0), (.at 1), (.at 0), (.int 0)]
 (.all .I
 (.all .I
 (.know (.has .u32 (.at 2))
 (.know (.has .i64 (.at 3))
 (.asm 0 [(.at 0), (.at 1), (.at 2), (.at 3)]
 (.and
  (.imp (.o2 .lt (.at 3) (.at 1)) true
  (.pre 1 [(.at 2), (.int 0)]
  (.all .I
  (.post 1 [(.at 2), (.int 0), (.at 4)]
  (.know (.has .u32 (.at 4))
  (.back 0 [(.at 0), (.at 1), (.at 2), (.at 3)] [(.at 0), (.at 1), (.at 4), (.o2 (.add .i64) (.at 3) (.int 1))]))))))
  (.imp (.o2 .lt (.at 3) (.at 1)) false
  (.ret [(.at 0), (.at 1), (.at 2)]))))))))))))))
def RPass.Pure : Prop :=
 ∀ (i0 : Int),
 ∀ (i1 : Int),
 (0 ≤ i0 ∧ i0 < 4294967296) →
 (-9223372036854775808 ≤ i1 ∧ i1 < 9223372036854775808) →
 RPass.sig.pre [(D.I i0), (D.I i1)] →
 RPass.I0 [(D.I i0), (D.I i1), (D.I i0), (D.I (0 : Int))] ∧ (
 ∀ (i2 : Int),
 ∀ (i3 : Int),
 (0 ≤ i2 ∧ i2 < 4294967296) →
 (-9223372036854775808 ≤ i3 ∧ i3 < 9223372036854775808) →
 RPass.I0 [(D.I i0), (D.I i1), (D.I i2), (D.I i3)] →
 ((
  (i3 < i1) →
  RByte.sig.pre [(D.I i2), (D.I (0 : Int))] ∧ (
  ∀ (i4 : Int),
  RByte.sig.post [(D.I i2), (D.I (0 : Int)), (D.I i4)] →
  (0 ≤ i4 ∧ i4 < 4294967296) →
  RPass.I0 [(D.I i0), (D.I i1), (D.I i4), (D.I (IntKind.wrap .i64 (i3 + (1 : Int))))] ∧ RPass.I0M [(D.I i0), (D.I i1), (D.I i4), (D.I (IntKind.wrap .i64 (i3 + (1 : Int))))] < RPass.I0M [(D.I i0), (D.I i1), (D.I i2), (D.I i3)])) ∧ (
  (i1 ≤ i3) →
  RPass.sig.post [(D.I i0), (D.I i1), (D.I i2)])))
theorem RPass.den : RPass.vc.den2 (mkEnv RPass.sig [RByte.sig] [(RPass.I0, RPass.I0M)]) [] = RPass.Pure := by kernel_rfl
def CJoin.vc : VC :=
 (.all .I
 (.all .I
 (.all .I
 (.know (.has .u32 (.at 0))
 (.know (.has .u32 (.at 1))
 (.know (.has .i64 (.at 2))
 (.post 0 [(.at 0), (.at 1), (.at 2)]
 (.pre 1 [(.at 0), (.at 2)]
 (.all .I
 (.post 1 [(.at 0), (.at 2), (.at 3)]
 (.know (.has .u32 (.at 3))
 (.ret [(.at 0), (.at 1), (.at 2), (.o2 (.bits .xor .u32) (.at 3) (.at 1))]))))))))))))
def CJoin.Pure : Prop :=
 ∀ (i0 : Int),
 ∀ (i1 : Int),
 ∀ (i2 : Int),
 (0 ≤ i0 ∧ i0 < 4294967296) →
 (0 ≤ i1 ∧ i1 < 4294967296) →
 (-9223372036854775808 ≤ i2 ∧ i2 < 9223372036854775808) →
 CJoin.sig.pre [(D.I i0), (D.I i1), (D.I i2)] →
 CPass.sig.pre [(D.I i0), (D.I i2)] ∧ (
 ∀ (i3 : Int),
 CPass.sig.post [(D.I i0), (D.I i2), (D.I i3)] →
 (0 ≤ i3 ∧ i3 < 4294967296) →
 CJoin.sig.post [(D.I i0), (D.I i1), (D.I i2), (D.I (Go.bits .xor .u32 i3 i1))])
theorem CJoin.den : CJoin.vc.den2 (mkEnv CJoin.sig [CPass.sig] []) [] = CJoin.Pure := by kernel_rfl
def Awake02.vc : VC :=
 (.post 0 []
 (.pre 1 [(.str ⟨#[49, 50, 51, 52, 53, 54, 55, 56, 57]⟩)]
 (.all .I
 (.post 1 [(.str ⟨#[49, 50, 51, 52, 53, 54, 55, 56, 57]⟩), (.at 0)]
 (.know (.has .u32 (.at 0))
 (.and
  (.imp (.o2 .eq (.at 0) (.int 3808858755)) true
  (.pre 1 [(.str ⟨#[]⟩)]
  (.all .I
  (.post 1 [(.str ⟨#[]⟩), (.at 1)]
  (.know (.has .u32 (.at 1))
  (.ret [(.o2 .eq (.at 1) (.int 0))]))))))
  (.imp (.o2 .eq (.at 0) (.int 3808858755)) false
  (.ret [(.bool false)]))))))))
def Awake02.Pure : Prop :=
 Awake02.sig.pre [] →
 COf.sig.pre [(D.S ⟨#[49, 50, 51, 52, 53, 54, 55, 56, 57]⟩)] ∧ (
 ∀ (i0 : Int),
 COf.sig.post [(D.S ⟨#[49, 50, 51, 52, 53, 54, 55, 56, 57]⟩), (D.I i0)] →
 (0 ≤ i0 ∧ i0 < 4294967296) →
 ((
  (i0 = (3808858755 : Int)) →
  COf.sig.pre [(D.S ⟨#[]⟩)] ∧ (
  ∀ (i1 : Int),
  COf.sig.post [(D.S ⟨#[]⟩), (D.I i1)] →
  (0 ≤ i1 ∧ i1 < 4294967296) →
  Awake02.sig.post [(D.B (i1 == (0 : Int)))])) ∧ (
  (i0 ≠ (3808858755 : Int)) →
  Awake02.sig.post [(D.B false)])))
theorem Awake02.den : Awake02.vc.den2 (mkEnv Awake02.sig [COf.sig] []) [] = Awake02.Pure := by kernel_rfl
def LCrcSums.vc : VC :=
 (.all .S
 (.all .I
 (.all .I
 (.know (.ssz (.at 0))
 (.know (.has .u32 (.at 1))
 (.know (.has .i64 (.at 2))
 (.post 0 [(.at 0), (.at 1), (.at 2)]
 (.pre 1 [(.at 0), (.int 600)]
 (.all .S
 (.post 1 [(.at 0), (.int 600), (.at 3)]
 (.know (.ssz (.at 3))
 (.and
  (.imp (.o2 .lt (.int 300) (.at 2)) true
  (.pre 2 []
  (.all .B
  (.post 2 [(.at 4)]
  (.and
   (.imp (.at 4) true
   (.pre 3 [(.at 3)]
   (.all .I
   (.post 3 [(.at 3), (.at 5)]
   (.know (.has .u32 (.at 5))
   (.pre 4 [(.int 0), (.at 3)]
   (.all .I
   (.post 4 [(.int 0), (.at 3), (.at 6)]
   (.know (.has .u32 (.at 6))
   (.and
    (.imp (.o2 .eq (.at 5) (.at 6)) true
    (.pre 5 [(.at 1), (.at 3)]
    (.all .I
    (.post 5 [(.at 1), (.at 3), (.at 7)]
    (.know (.has .u32 (.at 7))
    (.pre 4 [(.at 1), (.at 3)]
    (.all .I
    (.post 4 [(.at 1), (.at 3), (.at 8)]
    (.know (.has .u32 (.at 8))
    (.and
     (.imp (.o2 .eq (.at 7) (.at 8)) true
     (.pre 6 [(.at 1), (.int 300)]
     (.all .I
     (.post 6 [(.at 1), (.int 300), (.at 9)]
     (.know (.has .u32 (.at 9))
     (.pre 7 [(.at 1), (.int 300)]
     (.all .I
     (.post 7 [(.at 1), (.int 300), (.at 10)]
     (.know (.has .u32 (.at 10))
     (.ret [(.at 0), (.at 1), (.at 2), (.o2 .eq (.at 9) (.at 10))]))))))))))
     (.imp (.o2 .eq (.at 7) (.at 8)) false
     (.ret [(.at 0), (.at 1), (.at 2), (.bool false)]))))))))))))
    (.imp (.o2 .eq (.at 5) (.at 6)) false
    (.ret [(.at 0), (.at 1), (.at 2), (.bool false)]))))))))))))
   (.imp (.at 4) false
   (.ret [(.at 0), (.at 1), (.at 2), (.bool false)])))))))
  (.imp (.o2 .lt (.int 300) (.at 2)) false
  (.pre 2 []
  (.all .B
  (.post 2 [(.at 4)]
  (.and
   (.imp (.at 4) true
   (.pre 3 [(.at 3)]
   (.all .I
   (.post 3 [(.at 3), (.at 5)]
   (.know (.has .u32 (.at 5))
   (.pre 4 [(.int 0), (.at 3)]
   (.all .I
   (.post 4 [(.int 0), (.at 3), (.at 6)]
   (.know (.has .u32 (.at 6))
   (.and
    (.imp (.o2 .eq (.at 5) (.at 6)) true
    (.pre 5 [(.at 1), (.at 3)]
    (.all .I
    (.post 5 [(.at 1), (.at 3), (.at 7)]
    (.know (.has .u32 (.at 7))
    (.pre 4 [(.at 1), (.at 3)]
    (.all .I
    (.post 4 [(.at 1), (.at 3), (.at 8)]
    (.know (.has .u32 (.at 8))
    (.and
     (.imp (.o2 .eq (.at 7) (.at 8)) true
     (.pre 6 [(.at 1), (.at 2)]
     (.all .I
     (.post 6 [(.at 1), (.at 2), (.at 9)]
     (.know (.has .u32 (.at 9))
     (.pre 7 [(.at 1), (.at 2)]
     (.all .I
     (.post 7 [(.at 1), (.at 2), (.at 10)]
     (.know (.has .u32 (.at 10))
     (.ret [(.at 0), (.at 1), (.at 2), (.o2 .eq (.at 9) (.at 10))]))))))))))
     (.imp (.o2 .eq (.at 7) (.at 8)) false
     (.ret [(.at 0), (.at 1), (.at 2), (.bool false)]))))))))))))
    (.imp (.o2 .eq (.at 5) (.at 6)) false
    (.ret [(.at 0), (.at 1), (.at 2), (.bool false)]))))))))))))
   (.imp (.at 4) false
   (.ret [(.at 0), (.at 1), (.at 2), (.bool false)])))))))))))))))))))
def LCrcSums.Pure : Prop :=
 ∀ (s0 : ByteArray),
 ∀ (i1 : Int),
 ∀ (i2 : Int),
 ((s0.size : Int) ≤ 9223372036854775807) →
 (0 ≤ i1 ∧ i1 < 4294967296) →
 (-9223372036854775808 ≤ i2 ∧ i2 < 9223372036854775808) →
 LCrcSums.sig.pre [(D.S s0), (D.I i1), (D.I i2)] →
 Cut.sig.pre [(D.S s0), (D.I (600 : Int))] ∧ (
 ∀ (s3 : ByteArray),
 Cut.sig.post [(D.S s0), (D.I (600 : Int)), (D.S s3)] →
 ((s3.size : Int) ≤ 9223372036854775807) →
 ((
  ((300 : Int) < i2) →
  Awake02.sig.pre [] ∧ (
  ∀ (b4 : Bool),
  Awake02.sig.post [(D.B b4)] →
  ((
   (b4 = true) →
   COf.sig.pre [(D.S s3)] ∧ (
   ∀ (i5 : Int),
   COf.sig.post [(D.S s3), (D.I i5)] →
   (0 ≤ i5 ∧ i5 < 4294967296) →
   RMore.sig.pre [(D.I (0 : Int)), (D.S s3)] ∧ (
   ∀ (i6 : Int),
   RMore.sig.post [(D.I (0 : Int)), (D.S s3), (D.I i6)] →
   (0 ≤ i6 ∧ i6 < 4294967296) →
   ((
    (i5 = i6) →
    CMore.sig.pre [(D.I i1), (D.S s3)] ∧ (
    ∀ (i7 : Int),
    CMore.sig.post [(D.I i1), (D.S s3), (D.I i7)] →
    (0 ≤ i7 ∧ i7 < 4294967296) →
    RMore.sig.pre [(D.I i1), (D.S s3)] ∧ (
    ∀ (i8 : Int),
    RMore.sig.post [(D.I i1), (D.S s3), (D.I i8)] →
    (0 ≤ i8 ∧ i8 < 4294967296) →
    ((
     (i7 = i8) →
     CPass.sig.pre [(D.I i1), (D.I (300 : Int))] ∧ (
     ∀ (i9 : Int),
     CPass.sig.post [(D.I i1), (D.I (300 : Int)), (D.I i9)] →
     (0 ≤ i9 ∧ i9 < 4294967296) →
     RPass.sig.pre [(D.I i1), (D.I (300 : Int))] ∧ (
     ∀ (i10 : Int),
     RPass.sig.post [(D.I i1), (D.I (300 : Int)), (D.I i10)] →
     (0 ≤ i10 ∧ i10 < 4294967296) →
     LCrcSums.sig.post [(D.S s0), (D.I i1), (D.I i2), (D.B (i9 == i10))]))) ∧ (
     (i7 ≠ i8) →
     LCrcSums.sig.post [(D.S s0), (D.I i1), (D.I i2), (D.B false)]))))) ∧ (
    (i5 ≠ i6) →
    LCrcSums.sig.post [(D.S s0), (D.I i1), (D.I i2), (D.B false)]))))) ∧ (
   (b4 = false) →
   LCrcSums.sig.post [(D.S s0), (D.I i1), (D.I i2), (D.B false)])))) ∧ (
  (i2 ≤ (300 : Int)) →
  Awake02.sig.pre [] ∧ (
  ∀ (b4 : Bool),
  Awake02.sig.post [(D.B b4)] →
  ((
   (b4 = true) →
   COf.sig.pre [(D.S s3)] ∧ (
   ∀ (i5 : Int),
   COf.sig.post [(D.S s3), (D.I i5)] →
   (0 ≤ i5 ∧ i5 < 4294967296) →
   RMore.sig.pre [(D.I (0 : Int)), (D.S s3)] ∧ (
   ∀ (i6 : Int),
   RMore.sig.post [(D.I (0 : Int)), (D.S s3), (D.I i6)] →
   (0 ≤ i6 ∧ i6 < 4294967296) →
   ((
    (i5 = i6) →
    CMore.sig.pre [(D.I i1), (D.S s3)] ∧ (
    ∀ (i7 : Int),
    CMore.sig.post [(D.I i1), (D.S s3), (D.I i7)] →
    (0 ≤ i7 ∧ i7 < 4294967296) →
    RMore.sig.pre [(D.I i1), (D.S s3)] ∧ (
    ∀ (i8 : Int),
    RMore.sig.post [(D.I i1), (D.S s3), (D.I i8)] →
    (0 ≤ i8 ∧ i8 < 4294967296) →
    ((
     (i7 = i8) →
     CPass.sig.pre [(D.I i1), (D.I i2)] ∧ (
     ∀ (i9 : Int),
     CPass.sig.post [(D.I i1), (D.I i2), (D.I i9)] →
     (0 ≤ i9 ∧ i9 < 4294967296) →
     RPass.sig.pre [(D.I i1), (D.I i2)] ∧ (
     ∀ (i10 : Int),
     RPass.sig.post [(D.I i1), (D.I i2), (D.I i10)] →
     (0 ≤ i10 ∧ i10 < 4294967296) →
     LCrcSums.sig.post [(D.S s0), (D.I i1), (D.I i2), (D.B (i9 == i10))]))) ∧ (
     (i7 ≠ i8) →
     LCrcSums.sig.post [(D.S s0), (D.I i1), (D.I i2), (D.B false)]))))) ∧ (
    (i5 ≠ i6) →
    LCrcSums.sig.post [(D.S s0), (D.I i1), (D.I i2), (D.B false)]))))) ∧ (
   (b4 = false) →
   LCrcSums.sig.post [(D.S s0), (D.I i1), (D.I i2), (D.B false)]))))))
theorem LCrcSums.den : LCrcSums.vc.den2 (mkEnv LCrcSums.sig [Cut.sig, Awake02.sig, COf.sig, RMore.sig, CMore.sig, CPass.sig, RPass.sig] []) [] = LCrcSums.Pure := by kernel_rfl
def LCrcJoins.vc : VC :=
 (.all .S
 (.all .S
 (.know (.ssz (.at 0))
 (.know (.ssz (.at 1))
 (.post 0 [(.at 0), (.at 1)]
 (.pre 1 [(.at 0), (.int 600)]
 (.all .S
 (.post 1 [(.at 0), (.int 600), (.at 2)]
 (.know (.ssz (.at 2))
 (.pre 1 [(.at 1), (.int 600)]
 (.all .S
 (.post 1 [(.at 1), (.int 600), (.at 3)]
 (.know (.ssz (.at 3))
 (.obl (.o2 .le (.o1 .slen (.o2 .cat (.at 2) (.at 3))) (.int 9223372036854775807))
 (.pre 2 [(.o2 .cat (.at 2) (.at 3))]
 (.all .I
 (.post 2 [(.o2 .cat (.at 2) (.at 3)), (.at 4)]
 (.know (.has .u32 (.at 4))
 (.pre 3 []
 (.all .B
 (.post 3 [(.at 5)]
 (.and
  (.imp (.at 5) true
  (.pre 2 [(.at 2)]
  (.all .I
  (.post 2 [(.at 2), (.at 6)]
  (.know (.has .u32 (.at 6))
  (.pre 2 [(.at 3)]
  (.all .I
  (.post 2 [(.at 3), (.at 7)]
  (.know (.has .u32 (.at 7))
  (.pre 4 [(.at 6), (.at 7), (.o1 .slen (.at 3))]
  (.all .I
  (.post 4 [(.at 6), (.at 7), (.o1 .slen (.at 3)), (.at 8)]
  (.know (.has .u32 (.at 8))
  (.and
   (.imp (.o2 .eq (.at 8) (.at 4)) true
   (.pre 2 [(.at 2)]
   (.all .I
   (.post 2 [(.at 2), (.at 9)]
   (.know (.has .u32 (.at 9))
   (.pre 5 [(.at 9), (.at 3)]
   (.all .I
   (.post 5 [(.at 9), (.at 3), (.at 10)]
   (.know (.has .u32 (.at 10))
   (.ret [(.at 0), (.at 1), (.o2 .eq (.at 10) (.at 4))]))))))))))
   (.imp (.o2 .eq (.at 8) (.at 4)) false
   (.ret [(.at 0), (.at 1), (.bool false)]))))))))))))))))
  (.imp (.at 5) false
  (.ret [(.at 0), (.at 1), (.bool false)]))))))))))))))))))))))))
def LCrcJoins.Pure : Prop :=
 ∀ (s0 : ByteArray),
 ∀ (s1 : ByteArray),
 ((s0.size : Int) ≤ 9223372036854775807) →
 ((s1.size : Int) ≤ 9223372036854775807) →
 LCrcJoins.sig.pre [(D.S s0), (D.S s1)] →
 Cut.sig.pre [(D.S s0), (D.I (600 : Int))] ∧ (
 ∀ (s2 : ByteArray),
 Cut.sig.post [(D.S s0), (D.I (600 : Int)), (D.S s2)] →
 ((s2.size : Int) ≤ 9223372036854775807) →
 Cut.sig.pre [(D.S s1), (D.I (600 : Int))] ∧ (
 ∀ (s3 : ByteArray),
 Cut.sig.post [(D.S s1), (D.I (600 : Int)), (D.S s3)] →
 ((s3.size : Int) ≤ 9223372036854775807) →
 ((((s2 ++ s3).size : Nat) : Int) ≤ (9223372036854775807 : Int)) ∧ (((((s2 ++ s3).size : Nat) : Int) ≤ (9223372036854775807 : Int)) →
 COf.sig.pre [(D.S (s2 ++ s3))] ∧ (
 ∀ (i4 : Int),
 COf.sig.post [(D.S (s2 ++ s3)), (D.I i4)] →
 (0 ≤ i4 ∧ i4 < 4294967296) →
 Awake02.sig.pre [] ∧ (
 ∀ (b5 : Bool),
 Awake02.sig.post [(D.B b5)] →
 ((
  (b5 = true) →
  COf.sig.pre [(D.S s2)] ∧ (
  ∀ (i6 : Int),
  COf.sig.post [(D.S s2), (D.I i6)] →
  (0 ≤ i6 ∧ i6 < 4294967296) →
  COf.sig.pre [(D.S s3)] ∧ (
  ∀ (i7 : Int),
  COf.sig.post [(D.S s3), (D.I i7)] →
  (0 ≤ i7 ∧ i7 < 4294967296) →
  CJoin.sig.pre [(D.I i6), (D.I i7), (D.I ((s3.size : Nat) : Int))] ∧ (
  ∀ (i8 : Int),
  CJoin.sig.post [(D.I i6), (D.I i7), (D.I ((s3.size : Nat) : Int)), (D.I i8)] →
  (0 ≤ i8 ∧ i8 < 4294967296) →
  ((
   (i8 = i4) →
   COf.sig.pre [(D.S s2)] ∧ (
   ∀ (i9 : Int),
   COf.sig.post [(D.S s2), (D.I i9)] →
   (0 ≤ i9 ∧ i9 < 4294967296) →
   CMore.sig.pre [(D.I i9), (D.S s3)] ∧ (
   ∀ (i10 : Int),
   CMore.sig.post [(D.I i9), (D.S s3), (D.I i10)] →
   (0 ≤ i10 ∧ i10 < 4294967296) →
   LCrcJoins.sig.post [(D.S s0), (D.S s1), (D.B (i10 == i4))]))) ∧ (
   (i8 ≠ i4) →
   LCrcJoins.sig.post [(D.S s0), (D.S s1), (D.B false)])))))) ∧ (
  (b5 = false) →
  LCrcJoins.sig.post [(D.S s0), (D.S s1), (D.B false)])))))))
theorem LCrcJoins.den : LCrcJoins.vc.den2 (mkEnv LCrcJoins.sig [Cut.sig, COf.sig, Awake02.sig, CJoin.sig, CMore.sig] []) [] = LCrcJoins.Pure := by kernel_rfl
def LCrcLinear.vc : VC :=
 (.all .S
 (.all .S
 (.all .S
 (.know (.ssz (.at 0))
 (.know (.ssz (.at 1))
 (.know (.ssz (.at 2))
 (.post 0 [(.at 0), (.at 1), (.at 2)]
 (.obl (.o2 .le (.int 0) (.o2 .min (.o2 .min (.o2 .min (.o1 .slen (.at 0)) (.o1 .slen (.at 1))) (.o1 .slen (.at 2))) (.int 300)))
 (.obl (.o2 .le (.o2 .min (.o2 .min (.o2 .min (.o1 .slen (.at 0)) (.o1 .slen (.at 1))) (.o1 .slen (.at 2))) (.int 300)) (.int 140737488355328))
 (.all .V
 (.inv 0 [(.at 0), (.at 1), (.at 2), (.int 0), (.o2 .lirep (.o2 .min (.o2 .min (.o2 .min (.o1 .slen (.at 0)) (.o1 .slen (.at 1))) (.o1 .slen (.at 2))) (.int 300)) (.int 0))]
 (.all .I
 (.all .Z
 (.know (.has .i64 (.at 4))
 (.know (.allHas .u8 (.at 5))
 (.asm 0 [(.at 0), (.at 1), (.at 2), (.at 4), (.at 5)]
 (.and
  (.imp (.o2 .lt (.at 4) (.o1 .lilen (.o2 .lirep (.o2 .min (.o2 .min (.o2 .min (.o1 .slen (.at 0)) (.o1 .slen (.at 1))) (.o1 .slen (.at 2))) (.int 300)) (.int 0)))) true
  (.obl (.o2 .le (.int 0) (.at 4))
  (.obl (.o2 .lt (.at 4) (.o1 .slen (.at 0)))
  (.obl (.o2 .lt (.at 4) (.o1 .slen (.at 1)))
  (.obl (.o2 .lt (.at 4) (.o1 .slen (.at 2)))
  (.obl (.o2 .lt (.at 4) (.o1 .lilen (.at 5)))
  (.back 0 [(.at 0), (.at 1), (.at 2), (.at 4), (.at 5)] [(.at 0), (.at 1), (.at 2), (.o2 (.add .i64) (.at 4) (.int 1)), (.o3 .liset (.at 5) (.at 4) (.o2 (.bits .xor .u8) (.o2 (.bits .xor .u8) (.o2 .byte (.at 0) (.at 4)) (.o2 .byte (.at 1) (.at 4))) (.o2 .byte (.at 2) (.at 4))))])))))))
  (.imp (.o2 .lt (.at 4) (.o1 .lilen (.o2 .lirep (.o2 .min (.o2 .min (.o2 .min (.o1 .slen (.at 0)) (.o1 .slen (.at 1))) (.o1 .slen (.at 2))) (.int 300)) (.int 0)))) false
  (.pre 1 []
  (.all .B
  (.post 1 [(.at 6)]
  (.and
   (.imp (.at 6) true
   (.obl (.o2 .le (.o2 .min (.o2 .min (.o2 .min (.o1 .slen (.at 0)) (.o1 .slen (.at 1))) (.o1 .slen (.at 2))) (.int 300)) (.o1 .slen (.at 0)))
   (.obl (.o2 .le (.o2 .min (.o2 .min (.o2 .min (.o1 .slen (.at 0)) (.o1 .slen (.at 1))) (.o1 .slen (.at 2))) (.int 300)) (.o1 .slen (.at 1)))
   (.obl (.o2 .le (.o2 .min (.o2 .min (.o2 .min (.o1 .slen (.at 0)) (.o1 .slen (.at 1))) (.o1 .slen (.at 2))) (.int 300)) (.o1 .slen (.at 2)))
   (.pre 2 [(.o1 .ofLi (.at 5))]
   (.all .I
   (.post 2 [(.o1 .ofLi (.at 5)), (.at 7)]
   (.know (.has .u32 (.at 7))
   (.pre 2 [(.o3 .ssub (.at 0) (.int 0) (.o2 .min (.o2 .min (.o2 .min (.o1 .slen (.at 0)) (.o1 .slen (.at 1))) (.o1 .slen (.at 2))) (.int 300)))]
   (.all .I
   (.post 2 [(.o3 .ssub (.at 0) (.int 0) (.o2 .min (.o2 .min (.o2 .min (.o1 .slen (.at 0)) (.o1 .slen (.at 1))) (.o1 .slen (.at 2))) (.int 300))), (.at 8)]
   (.know (.has .u32 (.at 8))
   (.pre 2 [(.o3 .ssub (.at 1) (.int 0) (.o2 .min (.o2 .min (.o2 .min (.o1 .slen (.at 0)) (.o1 .slen (.at 1))) (.o1 .slen (.at 2))) (.int 300)))]
   (.all .I
   (.post 2 [(.o3 .ssub (.at 1) (.int 0) (.o2 .min (.o2 .min (.o2 .min (.o1 .slen (.at 0)) (.o1 .slen (.at 1))) (.o1 .slen (.at 2))) (.int 300))), (.at 9)]
   (.know (.has .u32 (.at 9))
   (.pre 2 [(.o3 .ssub (.at 2) (.int 0) (.o2 .min (.o2 .min (.o2 .min (.o1 .slen (.at 0)) (.o1 .slen (.at 1))) (.o1 .slen (.at 2))) (.int 300)))]
   (.all .I
   (.post 2 [(.o3 .ssub (.at 2) (.int 0) (.o2 .min (.o2 .min (.o2 .min (.o1 .slen (.at 0)) (.o1 .slen (.at 1))) (.o1 .slen (.at 2))) (.int 300))), (.at 10)]
   (.know (.has .u32 (.at 10))
   (.ret [(.at 0), (.at 1), (.at 2), (.o2 .eq (.at 7) (.o2 (.bits .xor .u32) (.o2 (.bits .xor .u32) (.at 8) (.at 9)) (.at 10)))])))))))))))))))))))))
   (.imp (.at 6) false
   (.ret [(.at 0), (.at 1), (.at 2), (.bool false)]))))))))))))))))))))))))
def LCrcLinear.Pure : Prop :=
 ∀ (s0 : ByteArray),
 ∀ (s1 : ByteArray),
 ∀ (s2 : ByteArray),
 ((s0.size : Int) ≤ 9223372036854775807) →
 ((s1.size : Int) ≤ 9223372036854775807) →
 ((s2.size : Int) ≤ 9223372036854775807) →
 LCrcLinear.sig.pre [(D.S s0), (D.S s1), (D.S s2)] →
 ((0 : Int) ≤ (minI (minI (minI ((s0.size : Nat) : Int) ((s1.size : Nat) : Int)) ((s2.size : Nat) : Int)) (300 : Int))) ∧ (((0 : Int) ≤ (minI (minI (minI ((s0.size : Nat) : Int) ((s1.size : Nat) : Int)) ((s2.size : Nat) : Int)) (300 : Int))) →
 ((minI (minI (minI ((s0.size : Nat) : Int) ((s1.size : Nat) : Int)) ((s2.size : Nat) : Int)) (300 : Int)) ≤ (140737488355328 : Int)) ∧ (((minI (minI (minI ((s0.size : Nat) : Int) ((s1.size : Nat) : Int)) ((s2.size : Nat) : Int)) (300 : Int)) ≤ (140737488355328 : Int)) →
 ∀ (v3 : Value),
 LCrcLinear.I0 [(D.S s0), (D.S s1), (D.S s2), (D.I (0 : Int)), (D.Z (List.replicate (minI (minI (minI ((s0.size : Nat) : Int) ((s1.size : Nat) : Int)) ((s2.size : Nat) : Int)) (300 : Int)).toNat (0 : Int)))] ∧ (
 ∀ (i4 : Int),
 ∀ (z5 : List Int),
 (-9223372036854775808 ≤ i4 ∧ i4 < 9223372036854775808) →
 (∀ x ∈ z5, IntKind.has .u8 x) →
 LCrcLinear.I0 [(D.S s0), (D.S s1), (D.S s2), (D.I i4), (D.Z z5)] →
 ((
  (i4 < (((List.replicate (minI (minI (minI ((s0.size : Nat) : Int) ((s1.size : Nat) : Int)) ((s2.size : Nat) : Int)) (300 : Int)).toNat (0 : Int)).length : Nat) : Int)) →
  ((0 : Int) ≤ i4) ∧ (((0 : Int) ≤ i4) →
  (i4 < ((s0.size : Nat) : Int)) ∧ ((i4 < ((s0.size : Nat) : Int)) →
  (i4 < ((s1.size : Nat) : Int)) ∧ ((i4 < ((s1.size : Nat) : Int)) →
  (i4 < ((s2.size : Nat) : Int)) ∧ ((i4 < ((s2.size : Nat) : Int)) →
  (i4 < ((z5.length : Nat) : Int)) ∧ ((i4 < ((z5.length : Nat) : Int)) →
  LCrcLinear.I0 [(D.S s0), (D.S s1), (D.S s2), (D.I (IntKind.wrap .i64 (i4 + (1 : Int)))), (D.Z (z5.set i4.toNat (Go.bits .xor .u8 (Go.bits .xor .u8 (byteAt s0 i4) (byteAt s1 i4)) (byteAt s2 i4))))] ∧ LCrcLinear.I0M [(D.S s0), (D.S s1), (D.S s2), (D.I (IntKind.wrap .i64 (i4 + (1 : Int)))), (D.Z (z5.set i4.toNat (Go.bits .xor .u8 (Go.bits .xor .u8 (byteAt s0 i4) (byteAt s1 i4)) (byteAt s2 i4))))] < LCrcLinear.I0M [(D.S s0), (D.S s1), (D.S s2), (D.I i4), (D.Z z5)])))))) ∧ (
  ((((List.replicate (minI (minI (minI ((s0.size : Nat) : Int) ((s1.size : Nat) : Int)) ((s2.size : Nat) : Int)) (300 : Int)).toNat (0 : Int)).length : Nat) : Int) ≤ i4) →
  Awake02.sig.pre [] ∧ (
  ∀ (b6 : Bool),
  Awake02.sig.post [(D.B b6)] →
  ((
   (b6 = true) →
   ((minI (minI (minI ((s0.size : Nat) : Int) ((s1.size : Nat) : Int)) ((s2.size : Nat) : Int)) (300 : Int)) ≤ ((s0.size : Nat) : Int)) ∧ (((minI (minI (minI ((s0.size : Nat) : Int) ((s1.size : Nat) : Int)) ((s2.size : Nat) : Int)) (300 : Int)) ≤ ((s0.size : Nat) : Int)) →
   ((minI (minI (minI ((s0.size : Nat) : Int) ((s1.size : Nat) : Int)) ((s2.size : Nat) : Int)) (300 : Int)) ≤ ((s1.size : Nat) : Int)) ∧ (((minI (minI (minI ((s0.size : Nat) : Int) ((s1.size : Nat) : Int)) ((s2.size : Nat) : Int)) (300 : Int)) ≤ ((s1.size : Nat) : Int)) →
   ((minI (minI (minI ((s0.size : Nat) : Int) ((s1.size : Nat) : Int)) ((s2.size : Nat) : Int)) (300 : Int)) ≤ ((s2.size : Nat) : Int)) ∧ (((minI (minI (minI ((s0.size : Nat) : Int) ((s1.size : Nat) : Int)) ((s2.size : Nat) : Int)) (300 : Int)) ≤ ((s2.size : Nat) : Int)) →
   COf.sig.pre [(D.S (textOf z5))] ∧ (
   ∀ (i7 : Int),
   COf.sig.post [(D.S (textOf z5)), (D.I i7)] →
   (0 ≤ i7 ∧ i7 < 4294967296) →
   COf.sig.pre [(D.S (s0.extract (0 : Int).toNat (minI (minI (minI ((s0.size : Nat) : Int) ((s1.size : Nat) : Int)) ((s2.size : Nat) : Int)) (300 : Int)).toNat))] ∧ (
   ∀ (i8 : Int),
   COf.sig.post [(D.S (s0.extract (0 : Int).toNat (minI (minI (minI ((s0.size : Nat) : Int) ((s1.size : Nat) : Int)) ((s2.size : Nat) : Int)) (300 : Int)).toNat)), (D.I i8)] →
   (0 ≤ i8 ∧ i8 < 4294967296) →
   COf.sig.pre [(D.S (s1.extract (0 : Int).toNat (minI (minI (minI ((s0.size : Nat) : Int) ((s1.size : Nat) : Int)) ((s2.size : Nat) : Int)) (300 : Int)).toNat))] ∧ (
   ∀ (i9 : Int),
   COf.sig.post [(D.S (s1.extract (0 : Int).toNat (minI (minI (minI ((s0.size : Nat) : Int) ((s1.size : Nat) : Int)) ((s2.size : Nat) : Int)) (300 : Int)).toNat)), (D.I i9)] →
   (0 ≤ i9 ∧ i9 < 4294967296) →
   COf.sig.pre [(D.S (s2.extract (0 : Int).toNat (minI (minI (minI ((s0.size : Nat) : Int) ((s1.size : Nat) : Int)) ((s2.size : Nat) : Int)) (300 : Int)).toNat))] ∧ (
   ∀ (i10 : Int),
   COf.sig.post [(D.S (s2.extract (0 : Int).toNat (minI (minI (minI ((s0.size : Nat) : Int) ((s1.size : Nat) : Int)) ((s2.size : Nat) : Int)) (300 : Int)).toNat)), (D.I i10)] →
   (0 ≤ i10 ∧ i10 < 4294967296) →
   LCrcLinear.sig.post [(D.S s0), (D.S s1), (D.S s2), (D.B (i7 == (Go.bits .xor .u32 (Go.bits .xor .u32 i8 i9) i10)))])))))))) ∧ (
   (b6 = false) →
   LCrcLinear.sig.post [(D.S s0), (D.S s1), (D.S s2), (D.B false)]))))))))
theorem LCrcLinear.den : LCrcLinear.vc.den2 (mkEnv LCrcLinear.sig [Awake02.sig, COf.sig] [(LCrcLinear.I0, LCrcLinear.I0M)]) [] = LCrcLinear.Pure := by kernel_rfl
def LCrcBursts.vc : VC :=
 (.all .S
 (.all .I
 (.all .I
 (.know (.ssz (.at 0))
 (.know (.has .i64 (.at 1))
 (.know (.has .u32 (.at 2))
 (.post 0 [(.at 0), (.at 1), (.at 2)]
 (.pre 1 [(.at 0), (.int 600)]
 (.all .S
 (.post 1 [(.at 0), (.int 600), (.at 3)]
 (.know (.ssz (.at 3))
 (.and
  (.imp (.o2 .lt (.at 1) (.int 0)) true
  (.pre 2 []
  (.all .B
  (.post 2 [(.at 4)]
  (.ret [(.at 0), (.at 1), (.at 2), (.at 4)])))))
  (.imp (.o2 .lt (.at 1) (.int 0)) false
  (.and
   (.imp (.o2 .le (.o2 (.mul .i64) (.int 8) (.o1 .slen (.at 3))) (.at 1)) true
   (.pre 2 []
   (.all .B
   (.post 2 [(.at 4)]
   (.ret [(.at 0), (.at 1), (.at 2), (.at 4)])))))
   (.imp (.o2 .le (.o2 (.mul .i64) (.int 8) (.o1 .slen (.at 3))) (.at 1)) false
   (.all .V
   (.inv 0 [(.at 0), (.at 1), (.at 2), (.bool false), (.int 0), (.o1 .toLi (.at 3))]
   (.all .B
   (.all .I
   (.all .Z
   (.know (.has .i64 (.at 6))
   (.know (.allHas .u8 (.at 7))
   (.asm 0 [(.at 0), (.at 1), (.at 2), (.at 5), (.at 6), (.at 7)]
   (.and
    (.imp (.o2 .lt (.at 6) (.int 32)) true
    (.obl (.o2 .le (.int 0) (.at 6))
    (.and
     (.imp (.o2 .eq (.o2 (.bits .and .u32) (.o2 (.shr .u32) (.at 2) (.at 6)) (.int 1)) (.int 1)) true
     (.and
      (.imp (.o2 .lt (.o2 (.add .i64) (.at 1) (.at 6)) (.o2 (.mul .i64) (.int 8) (.o1 .lilen (.at 7)))) true
      (.obl (.o2 .le (.int 0) (.o2 (.quo .i64) (.o2 (.add .i64) (.at 1) (.at 6)) (.int 8)))
      (.obl (.o2 .lt (.o2 (.quo .i64) (.o2 (.add .i64) (.at 1) (.at 6)) (.int 8)) (.o1 .lilen (.at 7)))
      (.obl (.o2 .le (.int 0) (.o2 .rem (.o2 (.add .i64) (.at 1) (.at 6)) (.int 8)))
      (.back 0 [(.at 0), (.at 1), (.at 2), (.at 5), (.at 6), (.at 7)] [(.at 0), (.at 1), (.at 2), (.bool true), (.o2 (.add .i64) (.at 6) (.int 1)), (.o3 .liset (.at 7) (.o2 (.quo .i64) (.o2 (.add .i64) (.at 1) (.at 6)) (.int 8)) (.o2 (.bits .xor .u8) (.o2 .liget (.at 7) (.o2 (.quo .i64) (.o2 (.add .i64) (.at 1) (.at 6)) (.int 8))) (.o2 (.shl .u8) (.int 1) (.o2 .rem (.o2 (.add .i64) (.at 1) (.at 6)) (.int 8)))))])))))
      (.imp (.o2 .lt (.o2 (.add .i64) (.at 1) (.at 6)) (.o2 (.mul .i64) (.int 8) (.o1 .lilen (.at 7)))) false
      (.back 0 [(.at 0), (.at 1), (.at 2), (.at 5), (.at 6), (.at 7)] [(.at 0), (.at 1), (.at 2), (.at 5), (.o2 (.add .i64) (.at 6) (.int 1)), (.at 7)]))))
     (.imp (.o2 .eq (.o2 (.bits .and .u32) (.o2 (.shr .u32) (.at 2) (.at 6)) (.int 1)) (.int 1)) false
     (.back 0 [(.at 0), (.at 1), (.at 2), (.at 5), (.at 6), (.at 7)] [(.at 0), (.at 1), (.at 2), (.at 5), (.o2 (.add .i64) (.at 6) (.int 1)), (.at 7)])))))
    (.imp (.o2 .lt (.at 6) (.int 32)) false
    (.pre 2 []
    (.all .B
    (.post 2 [(.at 8)]
    (.and
     (.imp (.at 8) true
     (.pre 3 [(.o1 .ofLi (.at 7))]
     (.all .I
     (.post 3 [(.o1 .ofLi (.at 7)), (.at 9)]
     (.know (.has .u32 (.at 9))
     (.pre 3 [(.at 3)]
     (.all .I
     (.post 3 [(.at 3), (.at 10)]
     (.know (.has .u32 (.at 10))
     (.ret [(.at 0), (.at 1), (.at 2), (.o2 .eqb (.o1 .not (.o2 .eq (.at 9) (.at 10))) (.at 5))]))))))))))
     (.imp (.at 8) false
     (.ret [(.at 0), (.at 1), (.at 2), (.bool false)])))))))))))))))))))))))))))))))
def LCrcBursts.Pure : Prop :=
 ∀ (s0 : ByteArray),
 ∀ (i1 : Int),
 ∀ (i2 : Int),
 ((s0.size : Int) ≤ 9223372036854775807) →
 (-9223372036854775808 ≤ i1 ∧ i1 < 9223372036854775808) →
 (0 ≤ i2 ∧ i2 < 4294967296) →
 LCrcBursts.sig.pre [(D.S s0), (D.I i1), (D.I i2)] →
 Cut.sig.pre [(D.S s0), (D.I (600 : Int))] ∧ (
 ∀ (s3 : ByteArray),
 Cut.sig.post [(D.S s0), (D.I (600 : Int)), (D.S s3)] →
 ((s3.size : Int) ≤ 9223372036854775807) →
 ((
  (i1 < (0 : Int)) →
  Awake02.sig.pre [] ∧ (
  ∀ (b4 : Bool),
  Awake02.sig.post [(D.B b4)] →
  LCrcBursts.sig.post [(D.S s0), (D.I i1), (D.I i2), (D.B b4)])) ∧ (
  ((0 : Int) ≤ i1) →
  ((
   ((IntKind.wrap .i64 ((8 : Int) * ((s3.size : Nat) : Int))) ≤ i1) →
   Awake02.sig.pre [] ∧ (
   ∀ (b4 : Bool),
   Awake02.sig.post [(D.B b4)] →
   LCrcBursts.sig.post [(D.S s0), (D.I i1), (D.I i2), (D.B b4)])) ∧ (
   (i1 < (IntKind.wrap .i64 ((8 : Int) * ((s3.size : Nat) : Int)))) →
   ∀ (v4 : Value),
   LCrcBursts.I0 [(D.S s0), (D.I i1), (D.I i2), (D.B false), (D.I (0 : Int)), (D.Z (bytesOf s3))] ∧ (
   ∀ (b5 : Bool),
   ∀ (i6 : Int),
   ∀ (z7 : List Int),
   (-9223372036854775808 ≤ i6 ∧ i6 < 9223372036854775808) →
   (∀ x ∈ z7, IntKind.has .u8 x) →
   LCrcBursts.I0 [(D.S s0), (D.I i1), (D.I i2), (D.B b5), (D.I i6), (D.Z z7)] →
   ((
    (i6 < (32 : Int)) →
    ((0 : Int) ≤ i6) ∧ (((0 : Int) ≤ i6) →
    ((
     ((Go.bits .and .u32 (shrI .u32 i2 i6) (1 : Int)) = (1 : Int)) →
     ((
      ((IntKind.wrap .i64 (i1 + i6)) < (IntKind.wrap .i64 ((8 : Int) * ((z7.length : Nat) : Int)))) →
      ((0 : Int) ≤ (IntKind.wrap .i64 (Int.tdiv (IntKind.wrap .i64 (i1 + i6)) (8 : Int)))) ∧ (((0 : Int) ≤ (IntKind.wrap .i64 (Int.tdiv (IntKind.wrap .i64 (i1 + i6)) (8 : Int)))) →
      ((IntKind.wrap .i64 (Int.tdiv (IntKind.wrap .i64 (i1 + i6)) (8 : Int))) < ((z7.length : Nat) : Int)) ∧ (((IntKind.wrap .i64 (Int.tdiv (IntKind.wrap .i64 (i1 + i6)) (8 : Int))) < ((z7.length : Nat) : Int)) →
      ((0 : Int) ≤ (Int.tmod (IntKind.wrap .i64 (i1 + i6)) (8 : Int))) ∧ (((0 : Int) ≤ (Int.tmod (IntKind.wrap .i64 (i1 + i6)) (8 : Int))) →
      LCrcBursts.I0 [(D.S s0), (D.I i1), (D.I i2), (D.B true), (D.I (IntKind.wrap .i64 (i6 + (1 : Int)))), (D.Z (z7.set (IntKind.wrap .i64 (Int.tdiv (IntKind.wrap .i64 (i1 + i6)) (8 : Int))).toNat (Go.bits .xor .u8 (z7.getD (IntKind.wrap .i64 (Int.tdiv (IntKind.wrap .i64 (i1 + i6)) (8 : Int))).toNat 0) (shlI .u8 (1 : Int) (Int.tmod (IntKind.wrap .i64 (i1 + i6)) (8 : Int))))))] ∧ LCrcBursts.I0M [(D.S s0), (D.I i1), (D.I i2), (D.B true), (D.I (IntKind.wrap .i64 (i6 + (1 : Int)))), (D.Z (z7.set (IntKind.wrap .i64 (Int.tdiv (IntKind.wrap .i64 (i1 + i6)) (8 : Int))).toNat (Go.bits .xor .u8 (z7.getD (IntKind.wrap .i64 (Int.tdiv (IntKind.wrap .i64 (i1 + i6)) (8 : Int))).toNat 0) (shlI .u8 (1 : Int) (Int.tmod (IntKind.wrap .i64 (i1 + i6)) (8 : Int))))))] < LCrcBursts.I0M [(D.S s0), (D.I i1), (D.I i2), (D.B b5), (D.I i6), (D.Z z7)])))) ∧ (
      ((IntKind.wrap .i64 ((8 : Int) * ((z7.length : Nat) : Int))) ≤ (IntKind.wrap .i64 (i1 + i6))) →
      LCrcBursts.I0 [(D.S s0), (D.I i1), (D.I i2), (D.B b5), (D.I (IntKind.wrap .i64 (i6 + (1 : Int)))), (D.Z z7)] ∧ LCrcBursts.I0M [(D.S s0), (D.I i1), (D.I i2), (D.B b5), (D.I (IntKind.wrap .i64 (i6 + (1 : Int)))), (D.Z z7)] < LCrcBursts.I0M [(D.S s0), (D.I i1), (D.I i2), (D.B b5), (D.I i6), (D.Z z7)]))) ∧ (
     ((Go.bits .and .u32 (shrI .u32 i2 i6) (1 : Int)) ≠ (1 : Int)) →
     LCrcBursts.I0 [(D.S s0), (D.I i1), (D.I i2), (D.B b5), (D.I (IntKind.wrap .i64 (i6 + (1 : Int)))), (D.Z z7)] ∧ LCrcBursts.I0M [(D.S s0), (D.I i1), (D.I i2), (D.B b5), (D.I (IntKind.wrap .i64 (i6 + (1 : Int)))), (D.Z z7)] < LCrcBursts.I0M [(D.S s0), (D.I i1), (D.I i2), (D.B b5), (D.I i6), (D.Z z7)])))) ∧ (
    ((32 : Int) ≤ i6) →
    Awake02.sig.pre [] ∧ (
    ∀ (b8 : Bool),
    Awake02.sig.post [(D.B b8)] →
    ((
     (b8 = true) →
     COf.sig.pre [(D.S (textOf z7))] ∧ (
     ∀ (i9 : Int),
     COf.sig.post [(D.S (textOf z7)), (D.I i9)] →
     (0 ≤ i9 ∧ i9 < 4294967296) →
     COf.sig.pre [(D.S s3)] ∧ (
     ∀ (i10 : Int),
     COf.sig.post [(D.S s3), (D.I i10)] →
     (0 ≤ i10 ∧ i10 < 4294967296) →
     LCrcBursts.sig.post [(D.S s0), (D.I i1), (D.I i2), (D.B ((!(i9 == i10)) == b5))]))) ∧ (
     (b8 = false) →
     LCrcBursts.sig.post [(D.S s0), (D.I i1), (D.I i2), (D.B false)])))))))))))
theorem LCrcBursts.den : LCrcBursts.vc.den2 (mkEnv LCrcBursts.sig [Cut.sig, Awake02.sig, COf.sig] [(LCrcBursts.I0, LCrcBursts.I0M)]) [] = LCrcBursts.Pure := by kernel_rfl
end Go.Vc

namespace Go.Vc

/-! ### numbers of 32 bits -/
theorem cv_bit (x : Int) (i : Nat) : (cv x).getLsbD i = (decide (i < 32) && bt x i) := bt_ofInt 32 x i
theorem cv_toNat (b : W32) : cv (b.toNat : Int) = b := by simp [cv]
theorem u32v {x : Int} (h : 0 ≤ x ∧ x < 4294967296) : ((cv x).toNat : Int) = x := by
  simp only [cv, BitVec.toNat_ofInt]
  omega
theorem toNat_32 (b : W32) : 0 ≤ (b.toNat : Int) ∧ (b.toNat : Int) < 4294967296 := by have := b.isLt; omega
theorem cv_eq {x : Int} {b : W32} (h : 0 ≤ x ∧ x < 4294967296) (e : cv x = b) : x = (b.toNat : Int) := by rw [← e, u32v h]
theorem cv_xor (a b : Int) : cv (Go.bits .xor .u32 a b) = cv a ^^^ cv b := by
  apply BitVec.eq_of_getLsbD_eq
  intro i hi
  rw [BitVec.getLsbD_xor, cv_bit, cv_bit, cv_bit, bt_xor .u32 _ _ hi]; simp [hi]
theorem cv_and (a b : Int) : cv (Go.bits .and .u32 a b) = cv a &&& cv b := by
  apply BitVec.eq_of_getLsbD_eq
  intro i hi
  rw [BitVec.getLsbD_and, cv_bit, cv_bit, cv_bit, bt_and .u32 _ _ hi]; simp [hi]
theorem cv_shr {a : Int} (h : 0 ≤ a ∧ a < 4294967296) (n : Nat) : cv (shrI .u32 a n) = cv a >>> n := by
  apply BitVec.eq_of_getLsbD_eq
  intro i hi
  rw [BitVec.getLsbD_ushiftRight, cv_bit, cv_bit, bt_shr_u32 _ (u32i h)]
  simp only [hi, decide_true, Bool.true_and, Int.toNat_natCast]
  by_cases c : n + i < 32
  · simp [c, Nat.add_comm]
  · rw [bt_u32_ge (u32i h) (by omega)]; simp [c]
theorem cv_wrap (x : Int) : cv (IntKind.wrap .u32 x) = cv x := by
  apply BitVec.eq_of_getLsbD_eq
  intro i hi
  rw [cv_bit, cv_bit, bt_wrap .u32 _ hi]
theorem cv_not (x : Int) : cv (Go.bits .xor .u32 4294967295 x) = ~~~ cv x := by
  rw [cv_xor]
  apply BitVec.eq_of_getLsbD_eq
  intro i hi
  have e : (cv 4294967295).getLsbD i = true := by
    rw [cv_bit, show (4294967295 : Int) = 2 ^ 32 - 1 from rfl, bt_mask]; simp [hi]
  rw [BitVec.getLsbD_xor, BitVec.getLsbD_not, e]; simp [hi]
theorem cv_not' (x : Int) : cv (IntKind.wrap .u32 (4294967295 - x)) = ~~~ cv x := by
  rw [cv_wrap]
  apply BitVec.eq_of_getLsbD_eq
  intro i hi
  rw [cv_bit, BitVec.getLsbD_not, cv_bit]
  have e : (4294967295 : Int) - x = (-x - 1) + 1 * 2 ^ 32 := by omega
  rw [e, bt_add_mul _ _ hi, bt_not]; simp [hi]

/-! ### steps -/
theorem xor_shift (a b : W32) (n : Nat) : (a ^^^ b) >>> n = (a >>> n) ^^^ (b >>> n) := by
  apply BitVec.eq_of_getLsbD_eq
  intro i _
  simp only [BitVec.getLsbD_xor, BitVec.getLsbD_ushiftRight]
theorem xor_left (a b c d : W32) : (a ^^^ b) ^^^ (c ^^^ d) = (a ^^^ c) ^^^ (b ^^^ d) := by
  apply BitVec.eq_of_getLsbD_eq
  intro i _
  simp only [BitVec.getLsbD_xor]
  cases a.getLsbD i <;> cases b.getLsbD i <;> cases c.getLsbD i <;> cases d.getLsbD i <;> rfl
theorem st_xor (a b : W32) : st (a ^^^ b) = st a ^^^ st b := by
  simp only [st]
  rw [xor_shift, xor_left, BitVec.getLsbD_xor]
  congr 1
  cases a.getLsbD 0 <;> cases b.getLsbD 0 <;> simp
theorem stn_xor : ∀ (n : Nat) (a b : W32), stn n (a ^^^ b) = stn n a ^^^ stn n b
  | 0, _, _ => rfl
  | n + 1, a, b => by simp only [stn, st_xor, stn_xor n]
theorem st_zero : st 0#32 = 0#32 := by decide
theorem stn_zero : ∀ n, stn n 0#32 = 0#32
  | 0 => rfl
  | n + 1 => by simp only [stn, st_zero, stn_zero n]
theorem stn_add : ∀ (m n : Nat) (c : W32), stn (m + n) c = stn n (stn m c)
  | 0, n, c => by simp [stn]
  | m + 1, n, c => by rw [Nat.succ_add]; simp only [stn]; exact stn_add m n _
theorem stn_succ (n : Nat) (c : W32) : stn (n + 1) c = st (stn n c) := stn_add n 1 c
theorem st_even {c : W32} (h : c.getLsbD 0 = false) : st c = c >>> 1 := by unfold st; rw [h]; simp
theorem stn_shift : ∀ (n : Nat) (c : W32), (∀ i, i < n → c.getLsbD i = false) → stn n c = c >>> n
  | 0, c, _ => by simp [stn]
  | n + 1, c, h => by
    simp only [stn]
    rw [st_even (h 0 (by omega)), stn_shift n]
    · rw [← BitVec.shiftRight_add, Nat.add_comm]
    · intro i hi
      rw [BitVec.getLsbD_ushiftRight, Nat.add_comm]; exact h (i + 1) (by omega)
/-- The steps are one to one. -/
theorem st_inj0 {c : W32} (h : st c = 0#32) : c = 0#32 := by
  have h0 : c.getLsbD 0 = false := by
    cases hb : c.getLsbD 0 with
    | false => rfl
    | true =>
      have : (st c).getLsbD 31 = true := by
        simp only [st, hb, if_true, BitVec.getLsbD_xor, BitVec.getLsbD_ushiftRight]
        rw [BitVec.getLsbD_of_ge c (1 + 31) (by decide)]
        decide
      rw [h] at this
      simp at this
  rw [st_even h0] at h
  apply BitVec.eq_of_getLsbD_eq
  intro i hi
  cases i with
  | zero => rw [h0]; simp
  | succ i =>
    have := congrArg (fun x : W32 => x.getLsbD i) h
    simp only [BitVec.getLsbD_ushiftRight] at this
    rw [Nat.add_comm i 1]; simpa using this
theorem stn_inj0 : ∀ {n : Nat} {c : W32}, stn n c = 0#32 → c = 0#32
  | 0, _, h => h
  | n + 1, _, h => st_inj0 (stn_inj0 (n := n) h)

theorem Step.pure : Step.Pure := by
  intro i0 i1 h1 h2 h3
  have h3 : i1 = 0 ∨ i1 = 1 := h3
  have e1 : IntKind.wrap .u32 (Int.tdiv i0 2) = shrI .u32 i0 ((1 : Nat) : Int) := by
    rw [Int.tdiv_eq_ediv_of_nonneg h1.1, IntKind.wrap_u32]
    show i0 / 2 % 4294967296 = i0.fdiv (2 ^ 1)
    rw [Int.fdiv_eq_ediv_of_nonneg _ (by decide)]
    show i0 / 2 % 4294967296 = i0 / 2
    omega
  have hlow : (cv i0 ^^^ cv i1).getLsbD 0 = decide (Int.tmod (IntKind.wrap .u32 (i0 + i1)) 2 = 1) := by
    rw [BitVec.getLsbD_xor, cv_bit, cv_bit, IntKind.wrap_u32, Int.tmod_eq_emod_of_nonneg (by omega)]
    simp only [show (0 : Nat) < 32 from by decide, decide_true, Bool.true_and, bt, Int.pow_zero, Int.ediv_one]
    rcases h3 with rfl | rfl
    · by_cases c : i0 % 2 = 1
      · rw [decide_eq_true c, decide_eq_true (show (i0 + 0) % 4294967296 % 2 = 1 by omega)]; rfl
      · rw [decide_eq_false c, decide_eq_false (show ¬ (i0 + 0) % 4294967296 % 2 = 1 by omega)]; rfl
    · by_cases c : i0 % 2 = 1
      · rw [decide_eq_true c, decide_eq_false (show ¬ (i0 + 1) % 4294967296 % 2 = 1 by omega)]; rfl
      · rw [decide_eq_false c, decide_eq_true (show (i0 + 1) % 4294967296 % 2 = 1 by omega)]; rfl
  have hsh : (cv i0 ^^^ cv i1) >>> 1 = cv i0 >>> 1 := by
    rw [xor_shift]
    have : cv i1 >>> 1 = 0#32 := by rcases h3 with rfl | rfl <;> decide
    rw [this]; simp
  rw [e1]
  refine ⟨?_, ?_⟩
  · intro h4
    show Go.bits .xor .u32 (shrI .u32 i0 ((1 : Nat) : Int)) 2197175160 = ((st (cv i0 ^^^ cv i1)).toNat : Int)
    apply cv_eq (has_in.1 (bits_has .xor .u32 _ _))
    rw [cv_xor, cv_shr h1, st, hlow, decide_eq_true h4, hsh]
    rfl
  · intro h4
    show shrI .u32 i0 ((1 : Nat) : Int) = ((st (cv i0 ^^^ cv i1)).toNat : Int)
    apply cv_eq (by rw [← e1]; exact has_in.1 (wrap_has .u32 _))
    rw [cv_shr h1, st, hlow, decide_eq_false h4, hsh]
    simp

theorem cv_mod2_div2 (b : Int) : cv b = cv (b % 2) ^^^ (cv (b / 2) <<< 1) := by
  apply BitVec.eq_of_getLsbD_eq
  intro i hi
  rw [BitVec.getLsbD_xor, BitVec.getLsbD_shiftLeft, cv_bit, cv_bit, cv_bit]
  cases i with
  | zero =>
    simp only [bt, Int.pow_zero, Int.ediv_one]
    have : b % 2 % 2 = b % 2 := by omega
    simp [this]
  | succ i =>
    have e1 : bt (b % 2) (i + 1) = false := bt_of_lt (w := 1) (by omega) (by show b % 2 < 2; omega) (by omega)
    have e2 : bt b (i + 1) = bt (b / 2) i := by
      rw [show b / 2 = b / 2 ^ 1 from rfl, bt_ediv_pow]
    rw [e1, e2]
    have e3 : i < 32 := by omega
    simp [hi, e3]

theorem stn_byte_step {c : W32} {b : Int} (h0 : 0 ≤ b) (h1 : b < 256) (n : Nat) : stn (n + 1) (c ^^^ cv b) = stn n (st (c ^^^ cv (b % 2)) ^^^ cv (b / 2)) := by
  simp only [stn]
  congr 1
  rw [cv_mod2_div2 b, ← BitVec.xor_assoc, st_xor]
  congr 1
  rw [st_even]
  · apply BitVec.eq_of_getLsbD_eq
    intro i hi
    rw [BitVec.getLsbD_ushiftRight, BitVec.getLsbD_shiftLeft]
    by_cases c : 1 + i < 32
    · simp [c]
    · have e : (cv (b / 2)).getLsbD i = false := by
        rw [cv_bit, bt_of_lt (w := 8) (by omega) (by show b / 2 < 256; omega) (by omega)]; simp
      simp [c, e]
  · simp

theorem RByte.pure : RByte.Pure := by
  intro i0 i1 h1 h2 h3
  refine ⟨?_, ?_⟩
  · exact ⟨by decide, by decide, by simp; omega, rfl⟩
  intro i2 i3 i4 h4 h5 h6 h7
  have h7 : 0 ≤ i4 ∧ i4 ≤ 8 ∧ i3 * 2 ^ i4.toNat < 256 ∧ stn (8 - i4.toNat) (cv i2 ^^^ cv i3) = crcByte (cv i0) i1 := h7
  obtain ⟨a, b, c, d⟩ := h7
  refine ⟨?_, ?_⟩
  · intro h8
    have e1 : IntKind.wrap .u32 (Int.tmod i3 2) = i3 % 2 := by
      rw [Int.tmod_eq_emod_of_nonneg h5.1, IntKind.wrap_u32]; omega
    have e2 : IntKind.wrap .u8 (Int.tdiv i3 2) = i3 / 2 := by
      rw [Int.tdiv_eq_ediv_of_nonneg h5.1, IntKind.wrap_u8]; omega
    rw [e1, e2, i64w (by omega) (by omega)]
    refine ⟨?_, ?_⟩
    · show i3 % 2 = 0 ∨ i3 % 2 = 1
      omega
    intro i5 h9 h10
    have h9 : i5 = ((st (cv i2 ^^^ cv (i3 % 2))).toNat : Int) := h9
    refine ⟨?_, ?_⟩
    · refine ⟨by omega, by omega, ?_, ?_⟩
      · have hp := pow_pos' i4.toNat
        have e : i3 / 2 * 2 ^ (i4 + 1).toNat ≤ i3 * 2 ^ i4.toNat := by
          rw [show (i4 + 1).toNat = i4.toNat + 1 from by omega, Int.pow_succ, Int.mul_comm (2 ^ i4.toNat) 2, ← Int.mul_assoc]
          exact Int.mul_le_mul_of_nonneg_right (by omega) (Int.le_of_lt hp)
        omega
      · rw [h9, cv_toNat, ← stn_byte_step (by omega) (by omega), ← d]
        congr 1
        omega
    · show (8 - (i4 + 1)).toNat < (8 - i4).toNat
      omega
  · intro h8
    show i2 = ((crcByte (cv i0) i1).toNat : Int)
    have e8 : i4 = 8 := by omega
    subst e8
    have : i3 = 0 := by
      have c : i3 * 256 < 256 := c
      omega
    subst this
    rw [← d, show 8 - (8 : Int).toNat = 0 from rfl]
    show i2 = ((cv i2 ^^^ cv 0).toNat : Int)
    rw [show cv 0 = 0#32 from rfl, BitVec.xor_zero, u32v h4]

theorem crcRun_snoc (c : W32) (l : List Int) (b : Int) : crcRun c (l ++ [b]) = crcByte (crcRun c l) b := by simp [crcRun]

theorem take_snoc {l : List Int} {i : Nat} (h : i < l.length) : l.take (i + 1) = l.take i ++ [l.getD i 0] := by
  rw [List.take_add_one]
  congr 1
  simp [List.getD, h]

theorem not_run {x sum : Int} {l : List Int} (h : 0 ≤ x ∧ x < 4294967296) (e : cv x = ~~~ crcRun (~~~ cv sum) l) : x = crcOf sum l := cv_eq h e

theorem RMore.pure : RMore.Pure := by
  intro i0 s1 h1 h2 h3 v2
  have hlen := bytesOf_length' s1
  refine ⟨?_, ?_⟩
  · refine ⟨by decide, by omega, ?_⟩
    apply cv_eq (has_in.1 (wrap_has .u32 _))
    rw [cv_not']; rfl
  intro i3 i4 h4 h5 h6
  have h6 : 0 ≤ i4 ∧ i4 ≤ s1.size ∧ i3 = ((crcRun (~~~ cv i0) ((bytesOf s1).take i4.toNat)).toNat : Int) := h6
  obtain ⟨a, b, c⟩ := h6
  refine ⟨?_, ?_⟩
  · intro h7
    refine ⟨?_, fun h8 => ?_⟩
    · omega -- (0 : Int) ≤ i4
    refine ⟨trivial, ?_⟩
    intro i5 h9 h10
    have h9 : i5 = ((crcByte (cv i3) ((bytesOf s1).getD i4.toNat 0)).toNat : Int) := h9
    rw [i64w (by omega) (by omega)]
    refine ⟨?_, ?_⟩
    · refine ⟨by omega, by omega, ?_⟩
      rw [h9, c, cv_toNat, show (i4 + 1).toNat = i4.toNat + 1 from by omega, take_snoc (by omega), crcRun_snoc]
    · show ((s1.size : Int) - (i4 + 1)).toNat < ((s1.size : Int) - i4).toNat
      omega
  · intro h7
    show IntKind.wrap .u32 (4294967295 - i3) = crcOf i0 (bytesOf s1)
    apply not_run (has_in.1 (wrap_has .u32 _))
    rw [cv_not', c, cv_toNat, List.take_of_length_le (by omega)]

theorem half_eq : ∀ i, i < 16 → ((stn 4 (BitVec.ofNat 32 i)).toNat : Int) = crcHalf.getD i 0 := by decide

theorem nibble (c : W32) : stn 4 c = (c >>> 4) ^^^ stn 4 (c &&& 15#32) := by
  have e : c = (c &&& ~~~ 15#32) ^^^ (c &&& 15#32) := by
    apply BitVec.eq_of_getLsbD_eq
    intro i hi
    simp only [BitVec.getLsbD_xor, BitVec.getLsbD_and, BitVec.getLsbD_not, hi, decide_true, Bool.true_and]
    cases c.getLsbD i <;> cases (15#32).getLsbD i <;> rfl
  conv => lhs; rw [e, stn_xor]
  congr 1
  rw [stn_shift]
  · apply BitVec.eq_of_getLsbD_eq
    intro i hi
    simp only [BitVec.getLsbD_ushiftRight, BitVec.getLsbD_and, BitVec.getLsbD_not]
    by_cases h : 4 + i < 32
    · have : (15#32).getLsbD (4 + i) = false := by
        rw [show (15#32 : W32) = cv 15 from rfl, cv_bit, bt_of_lt (w := 4) (by decide) (by decide) (by omega)]; simp
      rw [this]
      simp only [h, decide_true, Bool.not_false, Bool.and_true]
    · rw [BitVec.getLsbD_of_ge c _ (by omega)]; simp
  · intro i hi
    have : (15#32).getLsbD i = true := by
      have : ∀ j, j < 4 → (15#32 : W32).getLsbD j = true := by decide
      exact this i hi
    rw [BitVec.getLsbD_and, BitVec.getLsbD_not, this]
    cases c.getLsbD i <;> simp

theorem and15_lt (x : Int) (h : 0 ≤ x ∧ x < 4294967296) : 0 ≤ Go.bits .and .u32 x 15 ∧ Go.bits .and .u32 x 15 < 16 := by
  rw [u32_and _ _ h.1 h.2 (by decide) (by decide)]
  have : x.toNat &&& (15 : Int).toNat ≤ 15 := Nat.and_le_right
  omega

theorem half_get {x : Int} (h : 0 ≤ x ∧ x < 4294967296) : cv (crcHalf.getD (Go.bits .and .u32 x 15).toNat 0) = stn 4 (cv x &&& 15#32) := by
  have hl := and15_lt x h
  rw [← half_eq _ (by omega), cv_toNat]
  congr 1
  have e : (BitVec.ofNat 32 (Go.bits .and .u32 x 15).toNat) = cv (Go.bits .and .u32 x 15) := by
    apply BitVec.eq_of_toNat_eq
    simp only [BitVec.toNat_ofNat, cv, BitVec.toNat_ofInt]
    omega
  rw [e, cv_and]; rfl

theorem half_has (i : Nat) : 0 ≤ crcHalf.getD i 0 ∧ crcHalf.getD i 0 < 4294967296 := by
  by_cases h : i < 16
  · rw [← half_eq i h]; exact toNat_32 _
  · have : crcHalf.getD i 0 = 0 := by
      simp only [List.getD]
      rw [List.getElem?_eq_none (show crcHalf.length ≤ i by show 16 ≤ i; omega)]; rfl
    omega

theorem hi_bits_byte {b : Int} (h0 : 0 ≤ b) (h1 : b < 256) : (cv b >>> 4) &&& 15#32 = cv b >>> 4 := by
  apply BitVec.eq_of_getLsbD_eq
  intro i hi
  rw [BitVec.getLsbD_and, BitVec.getLsbD_ushiftRight, cv_bit]
  by_cases c : i < 4
  · have : ∀ j, j < 4 → (15#32 : W32).getLsbD j = true := by decide
    rw [this i c]; simp
  · rw [bt_of_lt (w := 8) h0 h1 (by omega)]; simp

/-- A byte, by its halves. -/
theorem byte_halves (c : W32) {b : Int} (h0 : 0 ≤ b) (h1 : b < 256) :
    let c1 := (c >>> 4) ^^^ stn 4 ((c ^^^ cv b) &&& 15#32)
    (c1 >>> 4) ^^^ stn 4 ((c1 ^^^ (cv b >>> 4)) &&& 15#32) = crcByte c b := by
  intro c1
  have e1 : c1 ^^^ (cv b >>> 4) = stn 4 (c ^^^ cv b) := by
    rw [nibble (c ^^^ cv b), xor_shift]
    simp only [c1]
    apply BitVec.eq_of_getLsbD_eq
    intro i _
    simp only [BitVec.getLsbD_xor]
    cases (c >>> 4).getLsbD i <;> cases (cv b >>> 4).getLsbD i <;> cases (stn 4 ((c ^^^ cv b) &&& 15#32)).getLsbD i <;> rfl
  clear_value c1
  have e2 : c1 >>> 4 = (c1 ^^^ (cv b >>> 4)) >>> 4 := by
    rw [xor_shift c1]
    have : (cv b >>> 4) >>> 4 = 0#32 := by
      apply BitVec.eq_of_getLsbD_eq
      intro i _
      rw [BitVec.getLsbD_ushiftRight, BitVec.getLsbD_ushiftRight, cv_bit, bt_of_lt (w := 8) h0 h1 (by omega)]; simp
    rw [this]; simp
  rw [e2, e1, ← nibble]
  rw [crcByte, show (8 : Nat) = 4 + 4 from rfl, stn_add]

theorem u8_wrap32 {b : Int} (h : 0 ≤ b ∧ b < 256) : IntKind.wrap .u32 b = b := by rw [IntKind.wrap_u32]; omega

theorem CMore.pure : CMore.Pure := by
  intro i0 s1 h1 h2 h3
  have hlen := bytesOf_length' s1
  refine ⟨?_, ?_⟩
  · refine ⟨by decide, by omega, ?_⟩
    apply cv_eq (has_in.1 (bits_has .xor .u32 _ _))
    rw [cv_not]; rfl
  intro i2 i3 h4 h5 h6
  have h6 : 0 ≤ i3 ∧ i3 ≤ s1.size ∧ i2 = ((crcRun (~~~ cv i0) ((bytesOf s1).take i3.toNat)).toNat : Int) := h6
  obtain ⟨a, b, c⟩ := h6
  have hby := byteAt_has s1 i3
  refine ⟨?_, ?_⟩
  · intro h7
    rw [u8_wrap32 hby]
    refine ⟨?_, fun h8 => ?_⟩
    · omega -- (0 : Int) ≤ i3
    have x1 := has_in.1 (bits_has .xor .u32 i2 (byteAt s1 i3))
    have x1 : 0 ≤ Go.bits .xor .u32 i2 (byteAt s1 i3) ∧ Go.bits .xor .u32 i2 (byteAt s1 i3) < 4294967296 := x1
    have a1 := and15_lt _ x1
    refine ⟨a1.1, fun h9 => ⟨a1.2, fun h10 => ?_⟩⟩
    generalize hc1 : Go.bits .xor .u32 (shrI .u32 i2 (4 : Int)) (([0, 274646895, 549293790, 820201905, 1098587580, 1361435347, 1640403810, 1905808397, 2197175160, 2460548119, 2722870694, 2987750089, 3280807620, 3553878443, 3811616794, 4084100981] : List Int).getD (Go.bits .and .u32 (Go.bits .xor .u32 i2 (byteAt s1 i3)) (15 : Int)).toNat 0) = c1
    have hc1h : 0 ≤ c1 ∧ c1 < 4294967296 := by rw [← hc1]; exact has_in.1 (bits_has .xor .u32 _ _)
    have e1 : cv c1 = (cv i2 >>> 4) ^^^ stn 4 ((cv i2 ^^^ cv (byteAt s1 i3)) &&& 15#32) := by
      rw [← hc1, cv_xor]
      have := cv_shr h4 4
      rw [show ((4 : Nat) : Int) = 4 from rfl] at this
      rw [this, ← cv_xor, ← half_get x1]; rfl
    have x2 : 0 ≤ Go.bits .xor .u32 c1 (shrI .u32 (byteAt s1 i3) 4) ∧ Go.bits .xor .u32 c1 (shrI .u32 (byteAt s1 i3) 4) < 4294967296 := has_in.1 (bits_has .xor .u32 _ _)
    have a2 := and15_lt _ x2
    refine ⟨a2.1, fun h11 => ⟨a2.2, fun h12 => ?_⟩⟩
    rw [i64w (by omega) (by omega)]
    refine ⟨?_, ?_⟩
    · refine ⟨by omega, by omega, ?_⟩
      apply cv_eq (has_in.1 (bits_has .xor .u32 _ _))
      rw [cv_xor]
      have s4 := cv_shr hc1h 4
      rw [show ((4 : Nat) : Int) = 4 from rfl] at s4
      have s5 := cv_shr (a := byteAt s1 i3) (by omega) 4
      rw [show ((4 : Nat) : Int) = 4 from rfl] at s5
      have g := half_get x2
      rw [cv_xor, s5] at g
      rw [s4, show (cv (([0, 274646895, 549293790, 820201905, 1098587580, 1361435347, 1640403810, 1905808397, 2197175160, 2460548119, 2722870694, 2987750089, 3280807620, 3553878443, 3811616794, 4084100981] : List Int).getD (Go.bits .and .u32 (Go.bits .xor .u32 c1 (shrI .u32 (byteAt s1 i3) 4)) (15 : Int)).toNat 0)) = _ from g, e1]
      rw [byte_halves (cv i2) hby.1 hby.2, show (i3 + 1).toNat = i3.toNat + 1 from by omega, take_snoc (by omega), crcRun_snoc, c, cv_toNat, byteAt_eq]
    · show ((s1.size : Int) - (i3 + 1)).toNat < ((s1.size : Int) - i3).toNat
      omega
  · intro h7
    show Go.bits .xor .u32 4294967295 i2 = crcOf i0 (bytesOf s1)
    apply not_run (has_in.1 (bits_has .xor .u32 _ _))
    rw [cv_not, c, cv_toNat, List.take_of_length_le (by omega)]

theorem COf.pure : COf.Pure := by
  intro s0 h1 h2
  refine ⟨trivial, ?_⟩
  intro i1 h3 h4
  exact h3

end Go.Vc

namespace Go.Vc

/-! ### sums of what becomes of each bit -/
def lowMask (n : Nat) (v : W32) : W32 := BitVec.ofNat 32 (v.toNat % 2 ^ n)
theorem lowMask_bit (n : Nat) (v : W32) (i : Nat) (hi : i < 32) : (lowMask n v).getLsbD i = (decide (i < n) && v.getLsbD i) := by
  rw [lowMask, BitVec.getLsbD_ofNat, Nat.testBit_mod_two_pow]
  simp [hi, BitVec.getLsbD]
theorem lowMask_zero (v : W32) : lowMask 0 v = 0#32 := by simp [lowMask, Nat.mod_one]
theorem lowMask_all (v : W32) : lowMask 32 v = v := by
  apply BitVec.eq_of_getLsbD_eq
  intro i hi
  rw [lowMask_bit 32 v i hi]; simp [hi]
theorem lowMask_succ (n : Nat) (v : W32) (hn : n < 32) : lowMask (n + 1) v = if v.getLsbD n then lowMask n v ^^^ (1#32 <<< n) else lowMask n v := by
  apply BitVec.eq_of_getLsbD_eq
  intro i hi
  have hone : (1#32 <<< n).getLsbD i = decide (i = n) := by
    rw [BitVec.getLsbD_shiftLeft]
    by_cases c : i = n
    · subst c; simp [hi]
    · by_cases d : i < n
      · simp [c, d]
      · have : (1#32).getLsbD (i - n) = false := by
          rw [show (1#32 : W32) = cv 1 from rfl, cv_bit, bt_one]; simp; omega
        simp [c, this]
  cases hv : v.getLsbD n with
  | true =>
    simp only [if_true, BitVec.getLsbD_xor, lowMask_bit _ _ _ hi, hone]
    by_cases c : i = n
    · subst c; simp [hv]
    · have : (i < n + 1) ↔ (i < n) := by omega
      simp [c, this]
  | false =>
    simp only [Bool.false_eq_true, if_false, lowMask_bit _ _ _ hi]
    by_cases c : i = n
    · subst c; simp [hv]
    · have : (i < n + 1) ↔ (i < n) := by omega
      simp [this]

theorem times_fold {f : W32 → W32} (hx : ∀ a b, f (a ^^^ b) = f a ^^^ f b) (h0 : f 0#32 = 0#32) {m : List Int} (hm : ∀ i, i < 32 → cv (m.getD i 0) = f (1#32 <<< i)) (v : W32) :
    ∀ n, n ≤ 32 → (List.range n).foldl (fun out i => if v.getLsbD i then out ^^^ cv (m.getD i 0) else out) 0#32 = f (lowMask n v)
  | 0, _ => by rw [lowMask_zero, h0]; rfl
  | n + 1, h => by
    rw [List.range_succ, List.foldl_append, times_fold hx h0 hm v n (by omega)]
    simp only [List.foldl_cons, List.foldl_nil]
    rw [lowMask_succ n v (by omega)]
    cases v.getLsbD n with
    | true => simp only [if_true, hx, hm n (by omega)]
    | false => simp

theorem times_of {f : W32 → W32} (hx : ∀ a b, f (a ^^^ b) = f a ^^^ f b) (h0 : f 0#32 = 0#32) {m : List Int} (hm : ∀ i, i < 32 → cv (m.getD i 0) = f (1#32 <<< i)) (v : W32) : mtimes m v = f v := by
  rw [mtimes, times_fold hx h0 hm v 32 (by omega), lowMask_all]

theorem isStep_times {m : List Int} {k : Nat} (h : isStep m k) (v : W32) : mtimes m v = stn k v :=
  times_of (stn_xor k) (stn_zero k) (fun i hi => by rw [h i hi, cv_toNat]) v

theorem isStep_square {m r : List Int} {k : Nat} (h : isStep m k) (hr : ∀ i, i < 32 → r.getD i 0 = ((mtimes m (cv (m.getD i 0))).toNat : Int)) : isStep r (k + k) := by
  intro i hi
  rw [hr i hi, isStep_times h, h i hi, cv_toNat, stn_add]

theorem getD_set' {l : List Int} (i j : Nat) (x : Int) (hi : i < l.length) : (l.set i x).getD j 0 = if j = i then x else l.getD j 0 := getD_set i j x hi

theorem Times.pure : Times.Pure := by
  intro n0 z1 i2 h1 h2 h3 h4
  have hfold : ∀ n, (List.range (n + 1)).foldl (fun out i => if (cv i2).getLsbD i then out ^^^ cv (z1.getD i 0) else out) 0#32 =
      if (cv i2).getLsbD n then (List.range n).foldl (fun out i => if (cv i2).getLsbD i then out ^^^ cv (z1.getD i 0) else out) 0#32 ^^^ cv (z1.getD n 0) else (List.range n).foldl (fun out i => if (cv i2).getLsbD i then out ^^^ cv (z1.getD i 0) else out) 0#32 := by
    intro n
    rw [List.range_succ, List.foldl_append]; rfl
  refine ⟨?_, ?_⟩
  · exact ⟨by decide, by decide, by simp, rfl⟩
  intro i3 i4 i5 h5 h6 h7 h8
  have h8 : 0 ≤ i5 ∧ i5 ≤ 32 ∧ i3 = i2 / 2 ^ i5.toNat ∧ i4 = (((List.range i5.toNat).foldl (fun out i => if (cv i2).getLsbD i then out ^^^ cv (z1.getD i 0) else out) 0#32).toNat : Int) := h8
  obtain ⟨a, b, c, d⟩ := h8
  have hbit : bt i3 0 = bt i2 i5.toNat := by rw [c, bt_ediv_pow, Nat.zero_add]
  have hand : Go.bits .and .u32 i3 1 = b2i (bt i2 i5.toNat) := by
    apply eq_u32 (bits_has _ _ _ _)
    · rw [u32_has]; unfold b2i; split <;> decide
    · intro i hi
      rw [bt_and .u32 _ _ hi, bt_one, ← hbit]
      by_cases h : i = 0
      · subst h; unfold b2i; cases bt i3 0 <;> simp [bt_zero, bt_one]
      · unfold b2i; cases bt i3 0 <;> simp [bt_zero, bt_one, h]
  have hsh : shrI .u32 i3 1 = i2 / 2 ^ (i5 + 1).toNat := by
    show i3.fdiv (2 ^ 1) = _
    rw [Int.fdiv_eq_ediv_of_nonneg _ (by decide), c, show (i5 + 1).toNat = i5.toNat + 1 from by omega, Int.pow_succ, Int.ediv_ediv_of_nonneg (Int.le_of_lt (pow_pos' _))]; rfl
  have hlt : i3 ≠ 0 → i5 < 32 := by
    intro hne
    apply Classical.byContradiction
    intro hc
    have e : i5 = 32 := by omega
    subst e
    apply hne
    rw [c]
    show i2 / 4294967296 = 0
    omega
  have hcb : (cv i2).getLsbD i5.toNat = (decide (i5.toNat < 32) && bt i2 i5.toNat) := cv_bit _ _
  rw [hand, hsh]
  refine ⟨?_, ?_⟩
  · intro h9
    have h32 := hlt h9
    have hcb : (cv i2).getLsbD i5.toNat = bt i2 i5.toNat := by rw [hcb]; simp; omega
    rw [i64w (by omega) (by omega)]
    refine ⟨?_, ?_⟩
    · intro h10
      have hb : bt i2 i5.toNat = true := b2i_inj (b := true) h10
      refine ⟨?_, fun h11 => ?_⟩
      · omega -- (0 : Int) ≤ i5
      refine ⟨?_, fun h12 => ?_⟩
      · omega -- i5 < (32 : Int)
      refine ⟨?_, ?_⟩
      · refine ⟨by omega, by omega, rfl, ?_⟩
        rw [show (i5 + 1).toNat = i5.toNat + 1 from by omega, hfold, hcb, hb, if_pos rfl]
        apply cv_eq (has_in.1 (bits_has .xor .u32 _ _))
        rw [cv_xor, d, cv_toNat]
      · show (32 - (i5 + 1)).toNat < (32 - i5).toNat
        omega
    · intro h10
      have hb : bt i2 i5.toNat = false := by
        cases hb : bt i2 i5.toNat with
        | false => rfl
        | true => rw [hb] at h10; exact absurd rfl h10
      refine ⟨?_, ?_⟩
      · refine ⟨by omega, by omega, rfl, ?_⟩
        rw [show (i5 + 1).toNat = i5.toNat + 1 from by omega, hfold, hcb, hb]
        simpa using d
      · show (32 - (i5 + 1)).toNat < (32 - i5).toNat
        omega
  · intro h9
    have h0 : i3 = 0 := by omega
    show i4 = ((mtimes z1 (cv i2)).toNat : Int)
    rw [d]
    congr 2
    have hz : ∀ j, i5.toNat ≤ j → (cv i2).getLsbD j = false := by
      intro j hj
      rw [cv_bit]
      have : bt i2 j = bt i3 (j - i5.toNat) := by rw [c, bt_ediv_pow, Nat.sub_add_cancel hj]
      rw [this, h0, bt_zero]; simp
    have key : ∀ n, i5.toNat + n ≤ 32 → (List.range (i5.toNat + n)).foldl (fun out i => if (cv i2).getLsbD i then out ^^^ cv (z1.getD i 0) else out) 0#32 = (List.range i5.toNat).foldl (fun out i => if (cv i2).getLsbD i then out ^^^ cv (z1.getD i 0) else out) 0#32 := by
      intro n
      induction n with
      | zero => intro _; rfl
      | succ n ih =>
        intro hn
        rw [← Nat.add_assoc, hfold, hz _ (by omega)]
        simpa using ih (by omega)
    have := key (32 - i5.toNat) (by omega)
    rw [show i5.toNat + (32 - i5.toNat) = 32 from by omega] at this
    exact this.symm

theorem Square.pure : Square.Pure := by
  intro n0 z1 h1 h2 h3 n2 n3
  refine ⟨?_, ?_⟩
  · exact ⟨by decide, by decide, fun j hj => by omega⟩
  intro i4 z5 h4 h5 h6 h7
  have h7 : 0 ≤ i4 ∧ i4 ≤ 32 ∧ ∀ j : Nat, (j : Int) < i4 → z5.getD j 0 = ((mtimes z1 (cv (z1.getD j 0))).toNat : Int) := h7
  obtain ⟨a, b, c⟩ := h7
  refine ⟨?_, ?_⟩
  · intro h8
    refine ⟨?_, fun h9 => ?_⟩
    · omega -- (0 : Int) ≤ i4
    refine ⟨trivial, ?_⟩
    intro i6 h10 h11
    have h10 : i6 = ((mtimes z1 (cv (z1.getD i4.toNat 0))).toNat : Int) := h10
    rw [i64w (by omega) (by omega)]
    refine ⟨?_, ?_⟩
    · refine ⟨by omega, by omega, fun j hj => ?_⟩
      rw [getD_set _ _ _ (by omega)]
      by_cases e : j = i4.toNat
      · rw [if_pos e, h10, e]
      · rw [if_neg e, c j (by omega)]
    · show (32 - (i4 + 1)).toNat < (32 - i4).toNat
      omega
  · intro h8
    show ∀ i, i < 32 → z5.getD i 0 = ((mtimes z1 (cv (z1.getD i 0))).toNat : Int)
    intro i hi
    exact c i (by omega)

theorem Nought.pure : Nought.Pure := by
  intro h1 n0 n1
  refine ⟨?_, ?_⟩
  · refine ⟨by decide, by decide, fun j hj => ?_⟩
    have : j = 0 := by omega
    subst this; decide
  intro i2 z3 h2 h3 h4 h5
  have h5 : 1 ≤ i2 ∧ i2 ≤ 32 ∧ ∀ j : Nat, (j : Int) < i2 → z3.getD j 0 = ((st (1#32 <<< j)).toNat : Int) := h5
  obtain ⟨a, b, c⟩ := h5
  refine ⟨?_, ?_⟩
  · intro h6
    rw [i64w (x := i2 - 1) (by omega) (by omega), i64w (by omega) (by omega)]
    refine ⟨?_, fun h7 => ?_⟩
    · omega
    refine ⟨?_, fun h8 => ?_⟩
    · omega -- (0 : Int) ≤ i2
    refine ⟨?_, ?_⟩
    · refine ⟨by omega, by omega, fun j hj => ?_⟩
      rw [getD_set _ _ _ (by omega)]
      by_cases e : j = i2.toNat
      · rw [if_pos e]
        apply cv_eq (has_in.1 (shl_has .u32 _ _))
        apply BitVec.eq_of_getLsbD_eq
        intro i hi
        rw [cv_bit, bt_shl .u32 _ _ hi, bt_one, st_even]
        · rw [BitVec.getLsbD_ushiftRight, BitVec.getLsbD_shiftLeft]
          have hone : (1#32).getLsbD (1 + i - j) = decide (1 + i - j = 0) := by
            rw [show (1#32 : W32) = cv 1 from rfl, cv_bit, bt_one]
            by_cases c : 1 + i - j = 0
            · simp [c]
            · simp [c]
          rw [hone]
          by_cases c1 : i + 1 = j
          · have e1 : (i2 - 1).toNat ≤ i := by omega
            have e2 : i - (i2 - 1).toNat = 0 := by omega
            have e3 : 1 + i < 32 := by omega
            have e4 : ¬ 1 + i < j := by omega
            have e5 : 1 + i - j = 0 := by omega
            simp [hi, e3, e4, e5]
            omega
          · by_cases c2 : 1 + i < j
            · have e1 : ¬ (i2 - 1).toNat ≤ i := by omega
              simp [c2]
              omega
            · have e2 : ¬ (i - (i2 - 1).toNat = 0) := by omega
              have e5 : ¬ (1 + i - j = 0) := by omega
              simp [e5]
              omega
        · rw [BitVec.getLsbD_shiftLeft]
          have : 0 < j := by omega
          simp [this]
      · rw [if_neg e, c j (by omega)]
    · show (32 - (i2 + 1)).toNat < (32 - i2).toNat
      omega
  · intro h6
    show ∀ i, i < 32 → z3.getD i 0 = ((st (1#32 <<< i)).toNat : Int)
    intro i hi
    exact c i (by omega)

theorem shr_half (n : Int) : shrI .i64 n 1 = n / 2 := by
  show n.fdiv (2 ^ 1) = n / 2
  rw [Int.fdiv_eq_ediv_of_nonneg _ (by decide)]; rfl

theorem i64_and1 (n : Int) (_h : 0 ≤ n ∧ n < 9223372036854775808) : Go.bits .and .i64 n 1 = n % 2 := by
  apply eq_i64 (bits_has _ _ _ _) (i64i (by omega))
  intro i hi
  rw [bt_and .i64 _ _ hi, bt_one]
  cases i with
  | zero =>
    simp only [bt, Int.pow_zero, Int.ediv_one]
    have : n % 2 % 2 = n % 2 := by omega
    simp [this]
  | succ i =>
    rw [bt_of_lt (v := n % 2) (w := 1) (by omega) (by show n % 2 < 2; omega) (by omega)]
    simp

theorem CPass.pure : CPass.Pure := by
  intro i0 i1 h1 h2 h3
  refine ⟨trivial, ?_⟩
  intro z2 h4 h5 h6 n3
  have h4 : ∀ i, i < 32 → z2.getD i 0 = ((st (1#32 <<< i)).toNat : Int) := h4
  refine ⟨?_, ?_⟩
  · exact ⟨by decide, by decide, h4⟩
  intro i4 z5 h7 h8 h9 h10
  have h10 : 0 ≤ i4 ∧ i4 ≤ 3 ∧ isStep z5 (2 ^ i4.toNat) := h10
  obtain ⟨a, b, c⟩ := h10
  refine ⟨?_, ?_⟩
  · intro h11
    refine ⟨trivial, ?_⟩
    intro z6 h12 h13 h14
    have h12 : ∀ i, i < 32 → z6.getD i 0 = ((mtimes z5 (cv (z5.getD i 0))).toNat : Int) := h12
    rw [i64w (by omega) (by omega)]
    refine ⟨?_, ?_⟩
    · refine ⟨by omega, by omega, ?_⟩
      have := isStep_square c h12
      rw [show (i4 + 1).toNat = i4.toNat + 1 from by omega, Nat.pow_succ, Nat.mul_two]
      exact this
    · show (3 - (i4 + 1)).toNat < (3 - i4).toNat
      omega
  · intro h11
    have e3 : i4 = 3 := by omega
    subst e3
    refine ⟨?_, ?_⟩
    · exact ⟨8, c, Int.le_refl _, rfl⟩
    intro i6 i7 z8 h12 h13 h14 h15 h16
    obtain ⟨k, hk, hn, hv⟩ : ∃ k : Nat, isStep z8 k ∧ i7 ≤ i1 ∧ stn (k * i7.toNat) (cv i6) = stn (8 * i1.toNat) (cv i0) := h16
    rw [shr_half]
    refine ⟨?_, ?_⟩
    · intro h17
      rw [i64_and1 _ (by omega)]
      refine ⟨?_, ?_⟩
      · intro h18
        refine ⟨trivial, ?_⟩
        intro i9 h19 h20
        have h19 : i9 = ((mtimes z8 (cv i6)).toNat : Int) := h19
        refine ⟨trivial, ?_⟩
        intro z10 h21 h22 h23
        refine ⟨?_, ?_⟩
        · refine ⟨k + k, isStep_square hk h21, by omega, ?_⟩
          rw [h19, cv_toNat, isStep_times hk, ← stn_add, ← hv]
          congr 1
          have e : i7.toNat = 2 * (i7 / 2).toNat + 1 := by omega
          rw [e, Nat.mul_add, ← Nat.mul_assoc, Nat.mul_two, Nat.mul_one, Nat.add_comm]
        · show (i7 / 2).toNat < i7.toNat
          omega
      · intro h18
        refine ⟨trivial, ?_⟩
        intro z9 h19 h20 h21
        refine ⟨?_, ?_⟩
        · refine ⟨k + k, isStep_square hk h19, by omega, ?_⟩
          rw [← hv]
          congr 1
          have e : i7.toNat = 2 * (i7 / 2).toNat := by omega
          rw [e, ← Nat.mul_assoc, Nat.mul_two]
        · show (i7 / 2).toNat < i7.toNat
          omega
    · intro h17
      show i6 = ((stn (8 * i1.toNat) (cv i0)).toNat : Int)
      apply cv_eq h12
      rw [← hv, show i7.toNat = 0 from by omega, Nat.mul_zero]; rfl

theorem RPass.pure : RPass.Pure := by
  intro i0 i1 h1 h2 h3
  refine ⟨?_, ?_⟩
  · exact ⟨by decide, by omega, rfl⟩
  intro i2 i3 h4 h5 h6
  have h6 : 0 ≤ i3 ∧ (i3 ≤ i1 ∨ i1 ≤ 0 ∧ i3 = 0) ∧ cv i2 = stn (8 * i3.toNat) (cv i0) := h6
  obtain ⟨a, b, c⟩ := h6
  refine ⟨?_, ?_⟩
  · intro h7
    refine ⟨trivial, ?_⟩
    intro i4 h8 h9
    have h8 : i4 = ((crcByte (cv i2) 0).toNat : Int) := h8
    rw [i64w (by omega) (by omega)]
    refine ⟨?_, ?_⟩
    · refine ⟨by omega, by omega, ?_⟩
      rw [h8, cv_toNat, crcByte, show cv 0 = 0#32 from rfl, BitVec.xor_zero, c, ← stn_add]
      congr 1
      omega
    · show (i1 - (i3 + 1)).toNat < (i1 - i3).toNat
      omega
  · intro h7
    show i2 = ((stn (8 * i1.toNat) (cv i0)).toNat : Int)
    apply cv_eq h4
    rw [c, show i3.toNat = i1.toNat from by omega]

theorem CJoin.pure : CJoin.Pure := by
  intro i0 i1 i2 h1 h2 h3 h4
  refine ⟨trivial, ?_⟩
  intro i3 h5 h6
  have h5 : i3 = ((stn (8 * i2.toNat) (cv i0)).toNat : Int) := h5
  show Go.bits .xor .u32 i3 i1 = ((stn (8 * i2.toNat) (cv i0) ^^^ cv i1).toNat : Int)
  apply cv_eq (has_in.1 (bits_has .xor .u32 _ _))
  rw [cv_xor, h5, cv_toNat]

theorem Awake02.pure : Awake02.Pure := by
  intro h1
  refine ⟨trivial, ?_⟩
  intro i0 h2 h3
  have e0 : i0 = 3808858755 := by
    have h2 : i0 = crcOf 0 (bytesOf ⟨#[49, 50, 51, 52, 53, 54, 55, 56, 57]⟩) := h2
    rw [h2]; decide +kernel
  refine ⟨fun _ => ?_, fun h => absurd e0 h⟩
  refine ⟨trivial, ?_⟩
  intro i1 h5 h6
  have e1 : i1 = 0 := by
    have h5 : i1 = crcOf 0 (bytesOf ⟨#[]⟩) := h5
    rw [h5]; decide +kernel
  exact yesB (l := []) (by rw [e1]; rfl)

theorem awake02 {b : Bool} (h : Awake02.sig.post [D.B b]) : b = true := of_yes (l := []) h

theorem LCrcSums.pure : LCrcSums.Pure := by
  intro s0 i1 i2 h1 h2 h3 h4
  refine ⟨(by decide : (0 : Int) ≤ 600), ?_⟩
  intro s3 h5 h6
  have rest : ∀ n : Int, (-9223372036854775808 ≤ n ∧ n < 9223372036854775808) → ∀ i9 : Int, CPass.sig.post [(D.I i1), (D.I n), (D.I i9)] → ∀ i10 : Int, RPass.sig.post [(D.I i1), (D.I n), (D.I i10)] → i9 = i10 := by
    intro n _ i9 a i10 b
    have a : i9 = ((stn (8 * n.toNat) (cv i1)).toNat : Int) := a
    have b : i10 = ((stn (8 * n.toNat) (cv i1)).toNat : Int) := b
    rw [a, b]
  have same : ∀ x : Int, ∀ i7 : Int, CMore.sig.post [(D.I x), (D.S s3), (D.I i7)] → ∀ i8 : Int, RMore.sig.post [(D.I x), (D.S s3), (D.I i8)] → i7 = i8 := by
    intro x i7 a i8 b
    have a : i7 = crcOf x (bytesOf s3) := a
    have b : i8 = crcOf x (bytesOf s3) := b
    rw [a, b]
  refine ⟨fun c => ?_, fun c => ?_⟩
  · refine ⟨trivial, fun b4 h8 => ⟨fun _ => ?_, fun h => by rw [awake02 h8] at h; cases h⟩⟩
    refine ⟨trivial, fun i5 a1 a2 => ⟨trivial, fun i6 a3 a4 => ⟨fun _ => ?_, fun h => absurd (same 0 i5 a1 i6 a3) h⟩⟩⟩
    refine ⟨trivial, fun i7 a1 a2 => ⟨trivial, fun i8 a3 a4 => ⟨fun _ => ?_, fun h => absurd (same i1 i7 a1 i8 a3) h⟩⟩⟩
    exact ⟨trivial, fun i9 a1 a2 => ⟨trivial, fun i10 a3 a4 => yesB (l := [_, _, _]) (by rw [rest 300 (by decide) i9 a1 i10 a3]; simp)⟩⟩
  · refine ⟨trivial, fun b4 h8 => ⟨fun _ => ?_, fun h => by rw [awake02 h8] at h; cases h⟩⟩
    refine ⟨trivial, fun i5 a1 a2 => ⟨trivial, fun i6 a3 a4 => ⟨fun _ => ?_, fun h => absurd (same 0 i5 a1 i6 a3) h⟩⟩⟩
    refine ⟨trivial, fun i7 a1 a2 => ⟨trivial, fun i8 a3 a4 => ⟨fun _ => ?_, fun h => absurd (same i1 i7 a1 i8 a3) h⟩⟩⟩
    exact ⟨trivial, fun i9 a1 a2 => ⟨trivial, fun i10 a3 a4 => yesB (l := [_, _, _]) (by rw [rest i2 h3 i9 a1 i10 a3]; simp)⟩⟩

theorem byte_xor (a b : W32) (x y : Int) (z : Int) (hz : cv z = cv x ^^^ cv y) : crcByte (a ^^^ b) z = crcByte a x ^^^ crcByte b y := by
  rw [crcByte, crcByte, crcByte, hz, xor_left, stn_xor]
theorem cv_zero : cv 0 = 0#32 := rfl

/-- A run goes by what was there and by the bytes. -/
theorem run_split : ∀ (l : List Int) (c : W32), crcRun c l = stn (8 * l.length) c ^^^ crcRun 0#32 l
  | [], c => by simp [crcRun, stn]
  | b :: l, c => by
    have e1 : crcRun c (b :: l) = crcRun (crcByte c b) l := rfl
    have e2 : crcRun 0#32 (b :: l) = crcRun (crcByte 0#32 b) l := rfl
    rw [e1, e2, run_split l (crcByte c b), run_split l (crcByte 0#32 b), ← BitVec.xor_assoc]
    congr 1
    have e3 : crcByte c b = stn 8 c ^^^ crcByte 0#32 b := by
      rw [crcByte, crcByte, ← stn_xor]
      congr 1
      apply BitVec.eq_of_getLsbD_eq
      intro i _
      simp only [BitVec.getLsbD_xor, BitVec.getLsbD_zero]
      cases c.getLsbD i <;> cases (cv b).getLsbD i <;> rfl
    rw [e3, stn_xor, ← stn_add, List.length_cons]
    congr 2
    omega

theorem u32_ext {a b : Int} (ha : 0 ≤ a ∧ a < 4294967296) (hb : 0 ≤ b ∧ b < 4294967296) (h : cv a = cv b) : a = b := by rw [cv_eq ha h, u32v hb]
theorem crcOf_eq (sum : Int) (l : List Int) : cv (crcOf sum l) = ~~~ crcRun (~~~ cv sum) l := cv_toNat _
theorem crcOf_has (sum : Int) (l : List Int) : 0 ≤ crcOf sum l ∧ crcOf sum l < 4294967296 := toNat_32 _

theorem not_xor_l (a b : W32) : ~~~ (a ^^^ b) = ~~~ a ^^^ b := by
  apply BitVec.eq_of_getLsbD_eq
  intro i hi
  simp only [BitVec.getLsbD_not, BitVec.getLsbD_xor, hi, decide_true, Bool.true_and]
  cases a.getLsbD i <;> cases b.getLsbD i <;> rfl
theorem not_split (a : W32) : ~~~ a = ~~~ 0#32 ^^^ a := by rw [← not_xor_l, BitVec.zero_xor]

theorem crc_append (c : W32) (a b : List Int) : crcRun c (a ++ b) = crcRun (crcRun c a) b := by simp [crcRun]

theorem LCrcJoins.pure : LCrcJoins.Pure := by
  intro s0 s1 h1 h2 h3
  refine ⟨(by decide : (0 : Int) ≤ 600), ?_⟩
  intro s2 h4 h5
  refine ⟨(by decide : (0 : Int) ≤ 600), ?_⟩
  intro s3 h6 h7
  have h4 : s2 = if (s0.size : Int) > 600 then s0.extract 0 (600 : Int).toNat else s0 := h4
  have h6 : s3 = if (s1.size : Int) > 600 then s1.extract 0 (600 : Int).toNat else s1 := h6
  have l2 : s2.size ≤ 600 := by
    rw [h4]; split
    · rw [ByteArray.size_extract]; show min (600 : Int).toNat s0.size - 0 ≤ 600; omega
    · omega
  have l3 : s3.size ≤ 600 := by
    rw [h6]; split
    · rw [ByteArray.size_extract]; show min (600 : Int).toNat s1.size - 0 ≤ 600; omega
    · omega
  refine ⟨?_, fun h8 => ?_⟩
  · rw [ByteArray.size_append]; omega
  refine ⟨trivial, ?_⟩
  intro i4 h9 h10
  have h9 : i4 = crcOf 0 (bytesOf (s2 ++ s3)) := h9
  refine ⟨trivial, ?_⟩
  intro b5 h11
  refine ⟨fun _ => ?_, fun h => by rw [awake02 h11] at h; cases h⟩
  refine ⟨trivial, ?_⟩
  intro i6 h13 h14
  have h13 : i6 = crcOf 0 (bytesOf s2) := h13
  refine ⟨trivial, ?_⟩
  intro i7 h15 h16
  have h15 : i7 = crcOf 0 (bytesOf s3) := h15
  refine ⟨trivial, ?_⟩
  intro i8 h17 h18
  have h17 : i8 = ((stn (8 * ((s3.size : Nat) : Int).toNat) (cv i6) ^^^ cv i7).toNat : Int) := h17
  have e1 : i8 = i4 := by
    rw [h17, h9]
    symm
    apply cv_eq (crcOf_has _ _)
    rw [crcOf_eq, bytesOf_append, crc_append, h13, h15, crcOf_eq, crcOf_eq, run_split (bytesOf s3) (crcRun (~~~ cv 0) (bytesOf s2)), run_split (bytesOf s3) (~~~ cv 0), bytesOf_length', show ((s3.size : Nat) : Int).toNat = s3.size from by omega]
    generalize crcRun (~~~ cv 0) (bytesOf s2) = A
    generalize crcRun 0#32 (bytesOf s3) = B
    rw [not_split A, stn_xor, cv_zero, not_split (stn (8 * s3.size) A ^^^ B), not_split (stn (8 * s3.size) (~~~ 0#32) ^^^ B)]
    generalize stn (8 * s3.size) (~~~ 0#32) = C
    generalize stn (8 * s3.size) A = F
    apply BitVec.eq_of_getLsbD_eq
    intro i _
    simp only [BitVec.getLsbD_xor]
    cases C.getLsbD i <;> cases F.getLsbD i <;> cases B.getLsbD i <;> cases (~~~ 0#32 : W32).getLsbD i <;> rfl
  refine ⟨fun _ => ?_, fun h => absurd e1 h⟩
  refine ⟨trivial, ?_⟩
  intro i9 h20 h21
  have h20 : i9 = crcOf 0 (bytesOf s2) := h20
  refine ⟨trivial, ?_⟩
  intro i10 h22 h23
  have h22 : i10 = crcOf i9 (bytesOf s3) := h22
  have e2 : i10 = i4 := by
    rw [h22, h9]
    apply u32_ext (crcOf_has _ _) (crcOf_has _ _)
    rw [crcOf_eq, crcOf_eq, bytesOf_append, crc_append, h20, crcOf_eq, BitVec.not_not]
  exact yesB (l := [_, _]) (by rw [e2]; simp)

end Go.Vc

namespace Go.Vc

theorem run_xor3 {A B C Z : List Int} {n : Nat} (hA : A.length = n) (hB : B.length = n) (hC : C.length = n) (hZ : Z.length = n)
    (h : ∀ j, j < n → cv (Z.getD j 0) = cv (A.getD j 0) ^^^ cv (B.getD j 0) ^^^ cv (C.getD j 0)) (a b c : W32) :
    ∀ k, k ≤ n → crcRun (a ^^^ b ^^^ c) (Z.take k) = crcRun a (A.take k) ^^^ crcRun b (B.take k) ^^^ crcRun c (C.take k)
  | 0, _ => by simp [crcRun]
  | k + 1, hk => by
    rw [take_snoc (l := Z) (by omega), take_snoc (l := A) (by omega), take_snoc (l := B) (by omega), take_snoc (l := C) (by omega), crcRun_snoc, crcRun_snoc, crcRun_snoc, crcRun_snoc,
      run_xor3 hA hB hC hZ h a b c k (by omega)]
    simp only [crcByte]
    rw [← stn_xor, ← stn_xor, h k (by omega)]
    congr 1
    apply BitVec.eq_of_getLsbD_eq
    intro i _
    simp only [BitVec.getLsbD_xor]
    cases (crcRun a (A.take k)).getLsbD i <;> cases (crcRun b (B.take k)).getLsbD i <;> cases (crcRun c (C.take k)).getLsbD i <;> cases (cv (A.getD k 0)).getLsbD i <;> cases (cv (B.getD k 0)).getLsbD i <;> cases (cv (C.getD k 0)).getLsbD i <;> rfl

theorem LCrcLinear.pure : LCrcLinear.Pure := by
  intro s0 s1 s2 h1 h2 h3 h4
  have hmin : (minI (minI (minI ((s0.size : Nat) : Int) ((s1.size : Nat) : Int)) ((s2.size : Nat) : Int)) (300 : Int)) = min (min (min (s0.size : Int) s1.size) s2.size) 300 := by rw [minI_eq, minI_eq, minI_eq]
  rw [hmin]
  have hL0 := bytesOf_length' s0
  have hL1 := bytesOf_length' s1
  have hL2 := bytesOf_length' s2
  generalize hn : min (min (min (s0.size : Int) s1.size) s2.size) 300 = n
  have hn0 : 0 ≤ n ∧ n ≤ 300 ∧ n ≤ s0.size ∧ n ≤ s1.size ∧ n ≤ s2.size := by omega
  have hlr : ((List.replicate n.toNat (0 : Int)).length : Int) = n := by rw [List.length_replicate]; omega
  refine ⟨?_, fun h5 => ?_⟩
  · omega
  refine ⟨?_, fun h6 => ?_⟩
  · omega
  intro v3
  refine ⟨?_, ?_⟩
  · exact ⟨by omega, by omega, by omega, fun j hj => by omega⟩
  intro i4 z5 h7 h8 h9
  have h9 : 0 ≤ i4 ∧ i4 ≤ min (min (min (s0.size : Int) s1.size) s2.size) 300 ∧ (z5.length : Int) = min (min (min (s0.size : Int) s1.size) s2.size) 300 ∧
      ∀ j : Nat, (j : Int) < i4 → cv (z5.getD j 0) = cv ((bytesOf s0).getD j 0) ^^^ cv ((bytesOf s1).getD j 0) ^^^ cv ((bytesOf s2).getD j 0) := h9
  obtain ⟨a, b, c, d⟩ := h9
  refine ⟨?_, ?_⟩
  · intro h10
    refine ⟨?_, fun h11 => ?_⟩
    · omega -- (0 : Int) ≤ i4
    refine ⟨?_, fun h12 => ?_⟩
    · omega -- i4 < ((s0.size : Nat) : Int)
    refine ⟨?_, fun h13 => ?_⟩
    · omega -- i4 < ((s1.size : Nat) : Int)
    refine ⟨?_, fun h14 => ?_⟩
    · omega -- i4 < ((s2.size : Nat) : Int)
    refine ⟨?_, fun h15 => ?_⟩
    · omega -- i4 < ((z5.length : Nat) : Int)
    rw [i64w (by omega) (by omega)]
    refine ⟨?_, ?_⟩
    · refine ⟨by omega, by omega, by rw [List.length_set]; exact c, fun j hj => ?_⟩
      rw [getD_set _ _ _ (by omega)]
      by_cases e : j = i4.toNat
      · rw [if_pos e, e, ← byteAt_eq, ← byteAt_eq, ← byteAt_eq]
        apply BitVec.eq_of_getLsbD_eq
        intro i hi
        simp only [BitVec.getLsbD_xor, cv_bit, hi, decide_true, Bool.true_and]
        have g : ∀ s : ByteArray, ∀ i, 8 ≤ i → bt (byteAt s i4) i = false := fun s i h => bt_u8_ge (byteAt_has s i4) h
        by_cases c8 : i < 8
        · rw [bt_xor .u8 _ _ c8, bt_xor .u8 _ _ c8]
        · rw [bt_u8_ge (has_in.1 (bits_has .xor .u8 _ _)) (by omega), g _ i (by omega), g _ i (by omega), g _ i (by omega)]; rfl
      · rw [if_neg e, d j (by omega)]
    · show (min (min (min (s0.size : Int) s1.size) s2.size) 300 - (i4 + 1)).toNat < (min (min (min (s0.size : Int) s1.size) s2.size) 300 - i4).toNat
      omega
  · intro h10
    refine ⟨trivial, fun b6 h11 => ⟨fun _ => ?_, fun h => by rw [awake02 h11] at h; cases h⟩⟩
    refine ⟨by omega, fun h13 => ⟨by omega, fun h14 => ⟨by omega, fun h15 => ?_⟩⟩⟩
    refine ⟨trivial, ?_⟩
    intro i7 h16 h17
    refine ⟨trivial, ?_⟩
    intro i8 h18 h19
    refine ⟨trivial, ?_⟩
    intro i9 h20 h21
    refine ⟨trivial, ?_⟩
    intro i10 h22 h23
    have h16 : i7 = crcOf 0 (bytesOf (textOf z5)) := h16
    have h18 : i8 = crcOf 0 (bytesOf (s0.extract (0 : Int).toNat n.toNat)) := h18
    have h20 : i9 = crcOf 0 (bytesOf (s1.extract (0 : Int).toNat n.toNat)) := h20
    have h22 : i10 = crcOf 0 (bytesOf (s2.extract (0 : Int).toNat n.toNat)) := h22
    rw [bytesOf_textOf (fun x hx => has_in.1 (h8 x hx))] at h16
    rw [bytesOf_extract] at h18 h20 h22
    have hz : z5.length = n.toNat := by omega
    have key := run_xor3 (A := (bytesOf s0).take n.toNat) (B := (bytesOf s1).take n.toNat) (C := (bytesOf s2).take n.toNat) (Z := z5) (n := n.toNat) (by rw [List.length_take]; omega) (by rw [List.length_take]; omega) (by rw [List.length_take]; omega) hz
      (fun j hj => by rw [d j (by omega), getD_take, getD_take, getD_take, if_pos hj, if_pos hj, if_pos hj]) (~~~ cv 0) (~~~ cv 0) (~~~ cv 0) n.toNat (Nat.le_refl _)
    rw [List.take_of_length_le (by omega), List.take_take, List.take_take, List.take_take, Nat.min_self] at key
    have e : i7 = Go.bits .xor .u32 (Go.bits .xor .u32 i8 i9) i10 := by
      rw [h16]
      apply u32_ext (crcOf_has _ _) (has_in.1 (bits_has .xor .u32 _ _))
      rw [cv_xor, cv_xor, h18, h20, h22, crcOf_eq, crcOf_eq, crcOf_eq, crcOf_eq]
      have e0 : (~~~ cv 0 : W32) ^^^ ~~~ cv 0 ^^^ ~~~ cv 0 = ~~~ cv 0 := by decide
      rw [e0] at key
      rw [key]
      show ~~~ (crcRun (~~~ cv 0) ((bytesOf s0).take n.toNat) ^^^ crcRun (~~~ cv 0) ((bytesOf s1).take n.toNat) ^^^ crcRun (~~~ cv 0) ((bytesOf s2).take n.toNat)) =
        ~~~ crcRun (~~~ cv 0) ((bytesOf s0).take n.toNat) ^^^ ~~~ crcRun (~~~ cv 0) ((bytesOf s1).take n.toNat) ^^^ ~~~ crcRun (~~~ cv 0) ((bytesOf s2).take n.toNat)
      generalize crcRun (~~~ cv 0) ((bytesOf s0).take n.toNat) = A
      generalize crcRun (~~~ cv 0) ((bytesOf s1).take n.toNat) = B
      generalize crcRun (~~~ cv 0) ((bytesOf s2).take n.toNat) = C
      apply BitVec.eq_of_getLsbD_eq
      intro i hi
      simp only [BitVec.getLsbD_not, BitVec.getLsbD_xor, hi, decide_true, Bool.true_and]
      cases A.getLsbD i <;> cases B.getLsbD i <;> cases C.getLsbD i <;> rfl
    exact yesB (l := [_, _, _]) (by rw [e]; simp)

/-! ### bit by bit -/
def one? (b : Bool) : W32 := if b then 1#32 else 0#32
def br (c : W32) (f : Nat → Bool) : Nat → W32
  | 0 => c
  | n + 1 => st (br c f n ^^^ one? (f n))

theorem br_congr {c : W32} {f g : Nat → Bool} : ∀ {n : Nat}, (∀ i, i < n → f i = g i) → br c f n = br c g n
  | 0, _ => rfl
  | n + 1, h => by
    simp only [br]
    rw [br_congr (n := n) (fun i hi => h i (by omega)), h n (by omega)]

theorem br_add (c : W32) (f : Nat → Bool) (a : Nat) : ∀ m, br c f (a + m) = br (br c f a) (fun i => f (a + i)) m
  | 0 => rfl
  | m + 1 => by
    rw [← Nat.add_assoc]
    simp only [br]
    rw [br_add c f a m]

theorem one?_xor (a b : Bool) : one? (a ^^ b) = one? a ^^^ one? b := by cases a <;> cases b <;> decide
theorem br_xor (c d : W32) (f g : Nat → Bool) : ∀ n, br (c ^^^ d) (fun i => f i ^^ g i) n = br c f n ^^^ br d g n
  | 0 => rfl
  | n + 1 => by
    simp only [br]
    rw [br_xor c d f g n, one?_xor, xor_left, st_xor]

theorem br_zeros (c : W32) {f : Nat → Bool} : ∀ {n : Nat}, (∀ i, i < n → f i = false) → br c f n = stn n c
  | 0, _ => rfl
  | n + 1, h => by
    simp only [br]
    rw [br_zeros c (n := n) (fun i hi => h i (by omega)), h n (by omega), stn_succ]
    simp [one?]

theorem stn_one (m : Nat) (h : m < 32) : stn m (1#32 <<< m) = 1#32 := by
  rw [stn_shift]
  · apply BitVec.eq_of_getLsbD_eq
    intro i hi
    rw [BitVec.getLsbD_ushiftRight, BitVec.getLsbD_shiftLeft, Nat.add_sub_cancel_left]
    have hone : (1#32).getLsbD i = decide (i = 0) := by
      rw [show (1#32 : W32) = cv 1 from rfl, cv_bit, bt_one]; simp [hi]
    rw [hone]
    by_cases c : i = 0
    · subst c; simp; omega
    · simp [c]
  · intro i hi
    rw [BitVec.getLsbD_shiftLeft]; simp [hi]

/-- So many bits at once. -/
theorem br_stn {f : Nat → Bool} (c : W32) (w : W32) : ∀ m, m ≤ 32 → (∀ i, i < m → w.getLsbD i = f i) → br c f m = stn m (c ^^^ lowMask m w)
  | 0, _, _ => by rw [lowMask_zero]; simp [br, stn]
  | m + 1, hm, h => by
    simp only [br]
    rw [br_stn c w m (by omega) (fun i hi => h i (by omega)), lowMask_succ m w (by omega), stn_succ, h m (by omega)]
    cases f m with
    | true =>
      simp only [if_true, one?]
      rw [← BitVec.xor_assoc, stn_xor m (c ^^^ lowMask m w), stn_one m (by omega)]
    | false => simp [one?]

theorem byte_br (c : W32) {x : Int} (h : 0 ≤ x ∧ x < 256) : crcByte c x = br c (bt x) 8 := by
  rw [br_stn c (cv x) 8 (by decide) (fun i hi => by rw [cv_bit]; simp; omega), crcByte]
  congr 2
  apply BitVec.eq_of_getLsbD_eq
  intro i hi
  rw [lowMask_bit 8 _ i hi, cv_bit]
  by_cases c8 : i < 8
  · simp [c8]
  · rw [bt_u8_ge h (by omega)]; simp

theorem run_br (c : W32) {l : List Int} (h : ∀ x ∈ l, 0 ≤ x ∧ x < 256) : ∀ k, k ≤ l.length → crcRun c (l.take k) = br c (bitAt l) (8 * k)
  | 0, _ => by simp [crcRun, br]
  | k + 1, hk => by
    have hx : 0 ≤ l.getD k 0 ∧ l.getD k 0 < 256 := by
      simp only [List.getD, List.getElem?_eq_getElem (show k < l.length by omega), Option.getD_some]
      exact h _ (List.getElem_mem _)
    rw [take_snoc (by omega), crcRun_snoc, run_br c h k (by omega), byte_br _ hx, show 8 * (k + 1) = 8 * k + 8 from by omega, br_add]
    apply br_congr
    intro i hi
    rw [bitAt, show (8 * k + i) / 8 = k from by omega, show (8 * k + i) % 8 = i from by omega]

theorem run_br' (c : W32) {l : List Int} (h : ∀ x ∈ l, 0 ≤ x ∧ x < 256) : crcRun c l = br c (bitAt l) (8 * l.length) := by
  have := run_br c h l.length (Nat.le_refl _)
  rwa [List.take_length] at this

theorem bitAt_set (l : List Int) (p : Nat) (x : Int) (hp : p < l.length) (i : Nat) : bitAt (l.set p x) i = if i / 8 = p then bt x (i % 8) else bitAt l i := by
  rw [bitAt, getD_set _ _ _ hp]
  split
  · rfl
  · rfl

/-- A burst: nothing ahead of it, up to 32 bits, nothing behind. -/
theorem burst_zero {d : Nat → Bool} {a n : Nat} (ha : a ≤ n) (w : W32) (hd : ∀ i, i < n → d i = (decide (a ≤ i ∧ i - a < 32) && w.getLsbD (i - a))) :
    br 0#32 d n = 0#32 ↔ ∀ j, j < 32 → a + j < n → w.getLsbD j = false := by
  have h1 : br 0#32 d a = 0#32 := by
    rw [br_zeros _ (fun i hi => ?_), stn_zero]
    rw [hd i (by omega)]
    have : ¬ (a ≤ i ∧ i - a < 32) := by omega
    simp [this]
  obtain ⟨m, k, hm, hn, hk⟩ : ∃ m k, m ≤ 32 ∧ n = a + (m + k) ∧ (m = 32 ∨ k = 0) := by
    by_cases c : n - a ≤ 32
    · exact ⟨n - a, 0, c, by omega, .inr rfl⟩
    · exact ⟨32, n - a - 32, by omega, by omega, .inl rfl⟩
  have h2 : br 0#32 d n = stn k (stn m (0#32 ^^^ lowMask m w)) := by
    rw [hn, br_add, h1, br_add]
    rw [br_stn (0#32) w m hm (fun i hi => ?_), br_zeros _ (fun i hi => ?_)]
    · rw [hd _ (by omega)]
      have : ¬ (a ≤ a + (m + i) ∧ a + (m + i) - a < 32) := by omega
      rw [decide_eq_false this]; rfl
    · rw [hd _ (by omega)]
      have : a ≤ a + i ∧ a + i - a < 32 := by omega
      rw [decide_eq_true this, Nat.add_sub_cancel_left]; rfl
  rw [h2, BitVec.zero_xor]
  constructor
  · intro h j hj hjn
    have hz := stn_inj0 (stn_inj0 h)
    have := congrArg (fun x : W32 => x.getLsbD j) hz
    simp only [lowMask_bit m w j hj, BitVec.getLsbD_zero] at this
    have hjm : j < m := by omega
    simpa [hjm] using this
  · intro h
    have : lowMask m w = 0#32 := by
      apply BitVec.eq_of_getLsbD_eq
      intro i hi
      rw [lowMask_bit m w i hi]
      by_cases c : i < m
      · rw [h i hi (by omega)]; simp
      · simp [c]
    rw [this, stn_zero, stn_zero]

theorem u8_shl_bit {r j : Int} (_h0 : 0 ≤ r) (i : Nat) (hi : i < 8) (hj : r = j) : bt (shlI .u8 1 j) i = decide (i = r.toNat) := by
  subst hj
  rw [bt_shl .u8 _ _ hi, bt_one]
  by_cases c : i = r.toNat
  · subst c; simp
  · by_cases d : r.toNat ≤ i
    · have : ¬ i - r.toNat = 0 := by omega
      simp [this, c]
    · simp [d, c]

theorem LCrcBursts.pure : LCrcBursts.Pure := by
  intro s0 i1 i2 h1 h2 h3 h4
  refine ⟨(by decide : (0 : Int) ≤ 600), ?_⟩
  intro s3 h5 h6
  have h5 : s3 = if (s0.size : Int) > 600 then s0.extract 0 (600 : Int).toNat else s0 := h5
  have hL0 := bytesOf_length' s0
  have hs3 : bytesOf s3 = (bytesOf s0).take (min s0.size 600) := by
    rw [h5]
    split
    · rw [bytesOf_extract, show min s0.size 600 = (600 : Int).toNat from by show _ = 600; omega]; rfl
    · rw [List.take_of_length_le (by omega)]
  have hl3 : s3.size = min s0.size 600 := by rw [← bytesOf_length', hs3, List.length_take]; omega
  have aw : ∀ b : Bool, Awake02.sig.post [D.B b] → LCrcBursts.sig.post [(D.S s0), (D.I i1), (D.I i2), (D.B b)] := fun b h => yesB (l := [_, _, _]) (awake02 h)
  have hbit3 : ∀ i, i < 8 * min s0.size 600 → bitAt (bytesOf s3) i = bitAt (bytesOf s0) i := by
    intro i hi
    rw [bitAt, bitAt, hs3, getD_take, if_pos (by omega)]
  refine ⟨fun _ => ⟨trivial, aw⟩, fun c1 => ?_⟩
  rw [i64w (x := 8 * ((s3.size : Nat) : Int)) (by omega) (by omega)]
  refine ⟨fun _ => ⟨trivial, aw⟩, fun c2 v4 => ?_⟩
  refine ⟨?_, ?_⟩
  · refine ⟨by decide, by decide, by rw [bytesOf_length']; omega, fun i hi => ?_, ?_⟩
    · rw [hbit3 i (by rw [bytesOf_length'] at hi; omega)]
      have : ¬ (i1 ≤ (i : Int) ∧ (i : Int) - i1 < 0) := by omega
      simp [this]
    · constructor
      · intro h; cases h
      · rintro ⟨j, hj, _⟩; omega
  intro b5 i6 z7 h9 h10 h11
  have h11 : 0 ≤ i6 ∧ i6 ≤ 32 ∧ z7.length = min s0.size 600 ∧
      (∀ i, i < 8 * z7.length → bitAt z7 i = (bitAt (bytesOf s0) i ^^ (decide (i1 ≤ (i : Int) ∧ (i : Int) - i1 < i6) && bt i2 (i - i1.toNat)))) ∧
      (b5 = true ↔ ∃ j : Nat, (j : Int) < i6 ∧ bt i2 j = true ∧ i1 + j < 8 * z7.length) := h11
  obtain ⟨a, b, c, d, e⟩ := h11
  refine ⟨?_, ?_⟩
  · intro h12
    refine ⟨?_, fun h13 => ?_⟩
    · omega -- (0 : Int) ≤ i6
    have hbk : Go.bits .and .u32 (shrI .u32 i2 i6) 1 = b2i (bt i2 i6.toNat) := by
      apply eq_u32 (bits_has _ _ _ _)
      · rw [u32_has]; unfold b2i; split <;> decide
      · intro i hi
        rw [bt_and .u32 _ _ hi, bt_one, bt_shr_u32 _ (u32i h3)]
        by_cases h : i = 0
        · subst h; rw [Nat.zero_add]; unfold b2i; cases bt i2 i6.toNat <;> simp [bt_zero, bt_one]
        · unfold b2i; cases bt i2 i6.toNat <;> simp [bt_zero, bt_one, h]
    rw [hbk, i64w (x := i6 + 1) (by omega) (by omega)]
    have hw1 : IntKind.i64.wrap (i1 + i6) = i1 + i6 := by
      clear d e; exact i64w (by omega) (by omega)
    have hw2 : IntKind.i64.wrap (8 * ((z7.length : Nat) : Int)) = 8 * ((z7.length : Nat) : Int) := by
      clear d e; exact i64w (by omega) (by omega)
    have less : LCrcBursts.I0M [(D.S s0), (D.I i1), (D.I i2), (D.B true), (D.I (i6 + 1)), (D.Z z7)] < LCrcBursts.I0M [(D.S s0), (D.I i1), (D.I i2), (D.B b5), (D.I i6), (D.Z z7)] := by
      show (32 - (i6 + 1)).toNat < (32 - i6).toNat
      omega
    have keep : (bt i2 i6.toNat = false ∨ 8 * (z7.length : Int) ≤ i1 + i6) → LCrcBursts.I0 [(D.S s0), (D.I i1), (D.I i2), (D.B b5), (D.I (i6 + 1)), (D.Z z7)] := by
      intro hc
      refine ⟨by omega, by omega, c, fun i hi => ?_, ?_⟩
      · rw [d i hi]
        congr 1
        by_cases q : i1 ≤ (i : Int) ∧ (i : Int) - i1 < i6
        · have q' : i1 ≤ (i : Int) ∧ (i : Int) - i1 < i6 + 1 := by omega
          rw [decide_eq_true q, decide_eq_true q']
        · by_cases q' : i1 ≤ (i : Int) ∧ (i : Int) - i1 < i6 + 1
          · rcases hc with hc | hc
            · rw [show i - i1.toNat = i6.toNat from by omega, hc]; simp
            · omega
          · rw [decide_eq_false q, decide_eq_false q']
      · rw [e]
        constructor
        · rintro ⟨j, g1, g2, g3⟩; exact ⟨j, by omega, g2, g3⟩
        · rintro ⟨j, g1, g2, g3⟩
          refine ⟨j, ?_, g2, g3⟩
          apply Classical.byContradiction
          intro hne
          have hj : j = i6.toNat := by omega
          rcases hc with hc | hc
          · rw [hj, hc] at g2; cases g2
          · omega
    refine ⟨?_, ?_⟩
    · intro h14
      have hb1 : bt i2 i6.toNat = true := b2i_inj (b := true) h14
      rw [hw1, hw2]
      have ediv : Int.tdiv (i1 + i6) 8 = (i1 + i6) / 8 := Int.tdiv_eq_ediv_of_nonneg (by omega)
      have emod : Int.tmod (i1 + i6) 8 = (i1 + i6) % 8 := Int.tmod_eq_emod_of_nonneg (by omega)
      rw [ediv, emod]
      refine ⟨?_, ?_⟩
      · intro h15
        rw [i64w (x := (i1 + i6) / 8) (by omega) (by omega)]
        refine ⟨?_, fun h16 => ?_⟩
        · omega
        refine ⟨?_, fun h17 => ?_⟩
        · omega
        refine ⟨?_, fun h18 => ?_⟩
        · omega
        refine ⟨?_, less⟩
        refine ⟨by omega, by omega, by rw [List.length_set]; exact c, fun i hi => ?_, ?_⟩
        · rw [List.length_set] at hi
          have hdi := d i hi
          rw [bitAt_set _ _ _ (by omega)]
          by_cases q : i / 8 = ((i1 + i6) / 8).toNat
          · rw [if_pos q, bt_xor .u8 _ _ (show i % 8 < 8 by omega), u8_shl_bit (by omega) _ (by omega) rfl]
            have hz : bt (z7.getD ((i1 + i6) / 8).toNat 0) (i % 8) = bitAt z7 i := by rw [bitAt, q]
            rw [hz, hdi]
            by_cases q2 : i % 8 = ((i1 + i6) % 8).toNat
            · have n1 : ¬ (i1 ≤ (i : Int) ∧ (i : Int) - i1 < i6) := by omega
              have n2 : i1 ≤ (i : Int) ∧ (i : Int) - i1 < i6 + 1 := by omega
              rw [decide_eq_true q2, decide_eq_false n1, decide_eq_true n2, show i - i1.toNat = i6.toNat from by omega, hb1]; simp
            · have n1 : (i1 ≤ (i : Int) ∧ (i : Int) - i1 < i6) ↔ (i1 ≤ (i : Int) ∧ (i : Int) - i1 < i6 + 1) := by omega
              rw [decide_eq_false q2]
              simp only [n1, Bool.xor_false]
          · rw [if_neg q, hdi]
            have n1 : (i1 ≤ (i : Int) ∧ (i : Int) - i1 < i6) ↔ (i1 ≤ (i : Int) ∧ (i : Int) - i1 < i6 + 1) := by omega
            simp only [n1]
        · rw [List.length_set]
          constructor
          · intro _; exact ⟨i6.toNat, by omega, hb1, by omega⟩
          · intro _; rfl
      · intro h15
        exact ⟨keep (.inr (by omega)), less⟩
    · intro h14
      have hb0 : bt i2 i6.toNat = false := by
        cases hb : bt i2 i6.toNat with
        | false => rfl
        | true => rw [hb] at h14; exact absurd rfl h14
      exact ⟨keep (.inl hb0), less⟩
  · intro h12
    have e32 : i6 = 32 := by omega
    subst e32
    refine ⟨trivial, fun b8 h13 => ⟨fun _ => ?_, fun h => by rw [awake02 h13] at h; cases h⟩⟩
    refine ⟨trivial, ?_⟩
    intro i9 h15 h16
    refine ⟨trivial, ?_⟩
    intro i10 h17 h18
    have h15 : i9 = crcOf 0 (bytesOf (textOf z7)) := h15
    have h17 : i10 = crcOf 0 (bytesOf s3) := h17
    have hz7 : ∀ x ∈ z7, 0 ≤ x ∧ x < 256 := fun x hx => has_in.1 (h10 x hx)
    rw [bytesOf_textOf hz7] at h15
    have hlen : (bytesOf s3).length = z7.length := by rw [bytesOf_length']; omega
    have hruns : crcRun (~~~ cv 0) z7 ^^^ crcRun (~~~ cv 0) (bytesOf s3) = br 0#32 (fun i => bitAt z7 i ^^ bitAt (bytesOf s3) i) (8 * z7.length) := by
      rw [run_br' _ hz7, run_br' _ (bytesOf_has s3), hlen, ← br_xor, BitVec.xor_self]
    have hz := burst_zero (d := fun i => bitAt z7 i ^^ bitAt (bytesOf s3) i) (a := i1.toNat) (n := 8 * z7.length) (by omega) (cv i2) (fun i hi => by
      rw [d i hi, hbit3 i (by omega), cv_bit]
      by_cases q : i1 ≤ (i : Int) ∧ (i : Int) - i1 < 32
      · have q' : i1.toNat ≤ i ∧ i - i1.toNat < 32 := by omega
        rw [decide_eq_true q, decide_eq_true q', decide_eq_true q'.2]
        cases bitAt (bytesOf s0) i <;> simp
      · have q' : ¬ (i1.toNat ≤ i ∧ i - i1.toNat < 32) := by omega
        rw [decide_eq_false q, decide_eq_false q']
        cases bitAt (bytesOf s0) i <;> rfl)
    rw [← hruns] at hz
    have heq : i9 = i10 ↔ ∀ j, j < 32 → i1.toNat + j < 8 * z7.length → (cv i2).getLsbD j = false := by
      rw [← hz, h15, h17]
      constructor
      · intro h
        have := congrArg cv h
        rw [crcOf_eq, crcOf_eq] at this
        have := congrArg (fun x : W32 => ~~~ x) this
        simp only [BitVec.not_not] at this
        rw [this, BitVec.xor_self]
      · intro h
        have : crcRun (~~~ cv 0) z7 = crcRun (~~~ cv 0) (bytesOf s3) := by
          have := congrArg (fun x : W32 => x ^^^ crcRun (~~~ cv 0) (bytesOf s3)) h
          simpa [BitVec.xor_assoc] using this
        rw [crcOf, crcOf, this]
    have hfin : ((!(i9 == i10)) == b5) = true := by
      cases hb : b5 with
      | true =>
        obtain ⟨j, g1, g2, g3⟩ := e.1 hb
        have : ¬ i9 = i10 := by
          intro h
          have := heq.1 h j (by omega) (by omega)
          rw [cv_bit, g2] at this
          have hj : j < 32 := by omega
          simp [hj] at this
        simp [this]
      | false =>
        have : i9 = i10 := by
          apply heq.2
          intro j hj hjn
          rw [cv_bit]
          cases hbj : bt i2 j with
          | false => simp
          | true =>
            have := e.2 ⟨j, by omega, hbj, by omega⟩
            rw [hb] at this; cases this
        simp [this]
    exact yesB (l := [_, _, _]) hfin

end Go.Vc
