/-
  Contracts of tables: copies, the document's lists, any bytes as a table.
  Printed by wip/vct.py: the conditions of functions, by their contracts.
  Tables: any bytes as a table, the plain part.
-/
import Derived.Test.YtnnjpgenekgciaaDoorTabb
import Derived.Test.YtnnjpgenekgciaaDoorShad
import Derived.KernelRfl
set_option linter.unusedVariables false
set_option linter.unusedSimpArgs false
namespace Go.Vc
/-- The document's entries. -/
def refK : EK := [.str, .str]
def refRow (d : D) : D := .L [.S (textOf (keyE d)), .S (textE d)]
def refs (L : List D) : List D := L.map refRow

def TClone.post : List D → Prop
  | [.V _, .L L, .V _, .L L'] => L' = L
  | _ => False
def TClone.pre : List D → Prop
  | [.V _, .L L] => L.length ≤ 1000000
  | _ => False
def TClone.sig : Sig := { args := [.one (.lf (.sl (.at 0)))], heap := [.rsl (.at 0) entK (.at 1)], srts := [.V, .L], res := .one (.lf (.sl (.at 2))), heap' := [.osl (.at 2) entK (.at 3)], news := [.V, .L], pre := TClone.pre, post := TClone.post }
def TAll.pre : List D → Prop
  | [.N _, .V _, .L L] => L.length ≤ 1000000
  | _ => False
def TAll.post : List D → Prop
  | [.N _, .V _, .L L, .V _, .L L'] => L' = L
  | _ => False
def TAll.sig : Sig := { args := [.one (.lf (.ptr (.at 0) 0))], heap := tbl 1, srts := [.N, .V, .L], res := .one (.lf (.sl (.at 3))), heap' := tbl 1 ++ [.osl (.at 3) entK (.at 4)], news := [.V, .L], pre := TAll.pre, post := TAll.post }
def TSame.pre : List D → Prop
  | .N _ :: .V _ :: .L L :: _ => L.length ≤ 1000000
  | _ => False
def TSame.post : List D → Prop
  | [.N _, .V _, .L L, .V _, .L X, .I r] => X = refs L → r = 0
  | _ => False
def TSame.sig : Sig := { args := [.one (.lf (.ptr (.at 0) 0)), .one (.lf (.sl (.at 3)))], heap := tbl 1 ++ [.rsl (.at 3) refK (.at 4)], srts := [.N, .V, .L, .V, .L], res := aI .i64 5, heap' := tbl 1, news := [.I], pre := TSame.pre, post := TSame.post }
def TSame.I0 : List D → Prop
  | [.N _, .V _, .L L, .V _, .L X, .I i] => 0 ≤ i ∧ i ≤ L.length ∧ L.length = X.length
  | _ => False
def TSame.I0M : List D → Nat
  | [.N _, .V _, .L L, .V _, .L _, .I i] => (L.length - i).toNat
  | _ => 0

def rTabs (n : Nat) : S0 := .agg [.lf (.sl (.at n)), .lf (.sl (.at (n + 2)))]
def rPs.pre : List D → Prop
  | [.V _, .Z st, .V _, .Z k, .S s] => st = shaStart ∧ k = shaRounds ∧ s.size ≤ 500000
  | _ => False
def rPs.post : List D → Prop
  | [.V _, .Z _, .V _, .Z _, .S s, .V _, .I e, .L X] => e = (tblPs s).1 ∧ (e = 0 → X = refs (tblPs s).2)
  | _ => False
def rPs.sig : Sig := { args := [.one (rTabs 0), aS 4], heap := [.rsl (.at 0) [.int .u32] (.at 1), .rsl (.at 2) [.int .u32] (.at 3)], srts := [.V, .Z, .V, .Z, .S], res := .tup [.lf (.sl (.at 5)), .lf (.int .i64 (.at 6))], heap' := [.osl (.at 5) refK (.at 7)], news := [.V, .I, .L], pre := rPs.pre, post := rPs.post }
def bodyT (s : ByteArray) : ByteArray := s.extract 0 (s.size - 32)
def rPs.I0 : List D → Prop
  | [.V _, .Z _, .V _, .Z _, .S s, .L X, .I i, .S s', .I a, .I e] => s' = bodyT s ∧ 0 ≤ a ∧ a ≤ s'.size ∧ 0 ≤ i ∧ i ≤ (tblNum s').2.2 ∧ ∃ L : List D, L.length = X.length ∧ (e = 0 → X = refs L ∧ ∀ d ∈ L, (keyE d).length = 32 ∧ ∀ x ∈ keyE d, 0 ≤ x ∧ x < 256) ∧
      33 * L.length ≤ a + (if e = 0 then 0 else 33) ∧ tblGo s' ((tblNum s').2.2 - i).toNat (a, e, L) = tblAll s'
  | _ => False
def rPs.I0M : List D → Nat
  | [.V _, .Z _, .V _, .Z _, .S _, .L _, .I i, .S s', .I _, .I _] => ((tblNum s').2.2 - i).toNat
  | _ => 0
def LTableReads.sig : Sig := sigF [.s, .b] [.b] tru yes

end Go.Vc
namespace Go.Vc
set_option linter.unusedVariables false
def TClone.vc : VC :=
 (.all .V
 (.all .L
 (.know (.ekok [.ints .u8 32, .str] (.at 1))
 (.post 0 [(.at 0), (.at 1)]
 (.all .V
 (.and
 (.imp (.o2 .eq (.o1 .llen (.at 1)) (.int 0)) true
 (.all .V
 (.ret [(.at 0), (.at 1), (.at 3), .lnil])))
 (.all .V
 (.obl (.o2 .le (.o1 .llen (.o2 .lapp .lnil (.at 1))) (.int 2932031007402))
 (.all .V
 (.ret [(.at 0), (.at 1), (.at 4), (.o2 .lapp .lnil (.at 1))]))))))))))
def TClone.Pure : Prop :=
 ∀ (v0 : Value),
 ∀ (l1 : List D),
 (EK.ok [.ints .u8 32, .str] (D.L l1)) →
 TClone.sig.pre [(D.V v0), (D.L l1)] →
 ∀ (v2 : Value),
 ((
 (((l1.length : Nat) : Int) = (0 : Int)) →
 ∀ (v3 : Value),
  TClone.sig.post [(D.V v0), (D.L l1), (D.V v3), (D.L ([] : List D))]) ∧ (
 ∀ (v3 : Value),
 ((((([] : List D) ++ l1).length : Nat) : Int) ≤ (2932031007402 : Int)) ∧ (((((([] : List D) ++ l1).length : Nat) : Int) ≤ (2932031007402 : Int)) →
 ∀ (v4 : Value),
  TClone.sig.post [(D.V v0), (D.L l1), (D.V v4), (D.L (([] : List D) ++ l1))])))
theorem TClone.den : TClone.vc.den2 (mkEnv TClone.sig [] []) [] = TClone.Pure := by kernel_rfl
def TAll.vc : VC :=
 (.all .N
 (.all .V
 (.all .L
 (.know (.ekok [.ints .u8 32, .str] (.at 2))
 (.post 0 [(.at 0), (.at 1), (.at 2)]
 (.all .V
 (.pre 1 [(.at 1), (.at 2)]
 (.all .V
 (.all .L
 (.post 1 [(.at 1), (.at 2), (.at 4), (.at 5)]
 (.know (.ekok [.ints .u8 32, .str] (.at 5))
 (.ret [(.at 0), (.at 1), (.at 2), (.at 4), (.at 5)]))))))))))))
def TAll.Pure : Prop :=
 ∀ (n0 : Nat),
 ∀ (v1 : Value),
 ∀ (l2 : List D),
 (EK.ok [.ints .u8 32, .str] (D.L l2)) →
 TAll.sig.pre [(D.N n0), (D.V v1), (D.L l2)] →
 ∀ (v3 : Value),
 TClone.sig.pre [(D.V v1), (D.L l2)] ∧ (
 ∀ (v4 : Value),
 ∀ (l5 : List D),
 TClone.sig.post [(D.V v1), (D.L l2), (D.V v4), (D.L l5)] →
 (EK.ok [.ints .u8 32, .str] (D.L l5)) →
 TAll.sig.post [(D.N n0), (D.V v1), (D.L l2), (D.V v4), (D.L l5)])
theorem TAll.den : TAll.vc.den2 (mkEnv TAll.sig [TClone.sig] []) [] = TAll.Pure := by kernel_rfl
def TSame.vc : VC :=
 (.all .N
 (.all .V
 (.all .L
 (.all .V
 (.all .L
 (.know (.ekok [.ints .u8 32, .str] (.at 2))
 (.know (.ekok [.str, .str] (.at 4))
 (.post 0 [(.at 0), (.at 1), (.at 2), (.at 3), (.at 4)]
 (.pre 1 [(.at 0), (.at 1), (.at 2)]
 (.all .V
 (.all .L
 (.post 1 [(.at 0), (.at 1), (.at 2), (.at 5), (.at 6)]
 (.know (.ekok [.ints .u8 32, .str] (.at 6))
 (.and
 (.imp (.o1 .not (.o2 .eq (.o1 .llen (.at 6)) (.o1 .llen (.at 4)))) true
 (.ret [(.at 0), (.at 1), (.at 2), (.at 3), (.at 4), (.int (-1))]))
 (.imp (.o1 .not (.o2 .eq (.o1 .llen (.at 6)) (.o1 .llen (.at 4)))) false
 (.pre 2 [(.at 0), (.at 1), (.at 2)]
 (.all .I
 (.post 2 [(.at 0), (.at 1), (.at 2), (.at 7)]
 (.know (.has .i64 (.at 7))
 (.and
 (.imp (.o1 .not (.o2 .eq (.at 7) (.o1 .llen (.at 4)))) true
 (.ret [(.at 0), (.at 1), (.at 2), (.at 3), (.at 4), (.int (-1))]))
 (.imp (.o1 .not (.o2 .eq (.at 7) (.o1 .llen (.at 4)))) false
 (.inv 0 [(.at 0), (.at 1), (.at 2), (.at 3), (.at 4), (.int 0)]
 (.all .I
 (.know (.has .i64 (.at 8))
 (.asm 0 [(.at 0), (.at 1), (.at 2), (.at 3), (.at 4), (.at 8)]
 (.and
 (.imp (.o2 .lt (.at 8) (.o1 .llen (.at 6))) true
 (.obl (.o2 .le (.int 0) (.at 8))
 (.all .N
 (.obl (.o2 .lt (.at 8) (.o1 .llen (.at 4)))
 (.and
 (.and
 (.and
 (.imp (.o1 .not (.o2 .eqs (.o1 .ofLi (.o1 .asZ (.o2 .lget (.o1 .asL (.o2 .lget (.at 6) (.at 8))) (.int 0)))) (.o1 .asS (.o2 .lget (.o1 .asL (.o2 .lget (.at 4) (.at 8))) (.int 0))))) true
 (.ret [(.at 0), (.at 1), (.at 2), (.at 3), (.at 4), (.int (-1))]))
 (.imp (.o1 .not (.o2 .eqs (.o1 .ofLi (.o1 .asZ (.o2 .lget (.o1 .asL (.o2 .lget (.at 6) (.at 8))) (.int 0)))) (.o1 .asS (.o2 .lget (.o1 .asL (.o2 .lget (.at 4) (.at 8))) (.int 0))))) false
 (.and
 (.imp (.o1 .not (.o2 .eqs (.o1 .asS (.o2 .lget (.o1 .asL (.o2 .lget (.at 6) (.at 8))) (.int 1))) (.o1 .asS (.o2 .lget (.o1 .asL (.o2 .lget (.at 4) (.at 8))) (.int 1))))) true
 (.ret [(.at 0), (.at 1), (.at 2), (.at 3), (.at 4), (.int (-1))]))
 (.imp (.o1 .not (.o2 .eqs (.o1 .asS (.o2 .lget (.o1 .asL (.o2 .lget (.at 6) (.at 8))) (.int 1))) (.o1 .asS (.o2 .lget (.o1 .asL (.o2 .lget (.at 4) (.at 8))) (.int 1))))) false
 (.back 0 [(.at 0), (.at 1), (.at 2), (.at 3), (.at 4), (.at 8)] [(.at 0), (.at 1), (.at 2), (.at 3), (.at 4), (.o2 (.add .i64) (.at 8) (.int 1))])))))
 (.and
 (.imp (.o1 .not (.o2 .eqs (.o1 .ofLi (.o1 .asZ (.o2 .lget (.o1 .asL (.o2 .lget (.at 6) (.at 8))) (.int 0)))) (.o1 .asS (.o2 .lget (.o1 .asL (.o2 .lget (.at 4) (.at 8))) (.int 0))))) true
 (.ret [(.at 0), (.at 1), (.at 2), (.at 3), (.at 4), (.int (-1))]))
 (.imp (.o1 .not (.o2 .eqs (.o1 .ofLi (.o1 .asZ (.o2 .lget (.o1 .asL (.o2 .lget (.at 6) (.at 8))) (.int 0)))) (.o1 .asS (.o2 .lget (.o1 .asL (.o2 .lget (.at 4) (.at 8))) (.int 0))))) false
 (.and
 (.imp (.o1 .not (.o2 .eqs (.o1 .asS (.o2 .lget (.o1 .asL (.o2 .lget (.at 6) (.at 8))) (.int 1))) (.o1 .asS (.o2 .lget (.o1 .asL (.o2 .lget (.at 4) (.at 8))) (.int 1))))) true
 (.ret [(.at 0), (.at 1), (.at 2), (.at 3), (.at 4), (.int (-1))]))
 (.imp (.o1 .not (.o2 .eqs (.o1 .asS (.o2 .lget (.o1 .asL (.o2 .lget (.at 6) (.at 8))) (.int 1))) (.o1 .asS (.o2 .lget (.o1 .asL (.o2 .lget (.at 4) (.at 8))) (.int 1))))) false
 (.back 0 [(.at 0), (.at 1), (.at 2), (.at 3), (.at 4), (.at 8)] [(.at 0), (.at 1), (.at 2), (.at 3), (.at 4), (.o2 (.add .i64) (.at 8) (.int 1))]))))))
 (.and
 (.imp (.o1 .not (.o2 .eqs (.o1 .ofLi (.o1 .asZ (.o2 .lget (.o1 .asL (.o2 .lget (.at 6) (.at 8))) (.int 0)))) (.o1 .asS (.o2 .lget (.o1 .asL (.o2 .lget (.at 4) (.at 8))) (.int 0))))) true
 (.ret [(.at 0), (.at 1), (.at 2), (.at 3), (.at 4), (.int (-1))]))
 (.imp (.o1 .not (.o2 .eqs (.o1 .ofLi (.o1 .asZ (.o2 .lget (.o1 .asL (.o2 .lget (.at 6) (.at 8))) (.int 0)))) (.o1 .asS (.o2 .lget (.o1 .asL (.o2 .lget (.at 4) (.at 8))) (.int 0))))) false
 (.and
 (.imp (.o1 .not (.o2 .eqs (.o1 .asS (.o2 .lget (.o1 .asL (.o2 .lget (.at 6) (.at 8))) (.int 1))) (.o1 .asS (.o2 .lget (.o1 .asL (.o2 .lget (.at 4) (.at 8))) (.int 1))))) true
 (.ret [(.at 0), (.at 1), (.at 2), (.at 3), (.at 4), (.int (-1))]))
 (.imp (.o1 .not (.o2 .eqs (.o1 .asS (.o2 .lget (.o1 .asL (.o2 .lget (.at 6) (.at 8))) (.int 1))) (.o1 .asS (.o2 .lget (.o1 .asL (.o2 .lget (.at 4) (.at 8))) (.int 1))))) false
 (.back 0 [(.at 0), (.at 1), (.at 2), (.at 3), (.at 4), (.at 8)] [(.at 0), (.at 1), (.at 2), (.at 3), (.at 4), (.o2 (.add .i64) (.at 8) (.int 1))]))))))))))
 (.imp (.o2 .lt (.at 8) (.o1 .llen (.at 6))) false
 (.ret [(.at 0), (.at 1), (.at 2), (.at 3), (.at 4), (.int 0)]))))))))))))))))))))))))))))
def TSame.Pure : Prop :=
 ∀ (n0 : Nat),
 ∀ (v1 : Value),
 ∀ (l2 : List D),
 ∀ (v3 : Value),
 ∀ (l4 : List D),
 (EK.ok [.ints .u8 32, .str] (D.L l2)) →
 (EK.ok [.str, .str] (D.L l4)) →
 TSame.sig.pre [(D.N n0), (D.V v1), (D.L l2), (D.V v3), (D.L l4)] →
 TAll.sig.pre [(D.N n0), (D.V v1), (D.L l2)] ∧ (
 ∀ (v5 : Value),
 ∀ (l6 : List D),
 TAll.sig.post [(D.N n0), (D.V v1), (D.L l2), (D.V v5), (D.L l6)] →
 (EK.ok [.ints .u8 32, .str] (D.L l6)) →
 ((
 (((l6.length : Nat) : Int) ≠ ((l4.length : Nat) : Int)) →
  TSame.sig.post [(D.N n0), (D.V v1), (D.L l2), (D.V v3), (D.L l4), (D.I (-1 : Int))]) ∧ (
 (((l6.length : Nat) : Int) = ((l4.length : Nat) : Int)) →
  TLen.sig.pre [(D.N n0), (D.V v1), (D.L l2)] ∧ (
 ∀ (i7 : Int),
  TLen.sig.post [(D.N n0), (D.V v1), (D.L l2), (D.I i7)] →
 (-9223372036854775808 ≤ i7 ∧ i7 < 9223372036854775808) →
 ((
 (i7 ≠ ((l4.length : Nat) : Int)) →
   TSame.sig.post [(D.N n0), (D.V v1), (D.L l2), (D.V v3), (D.L l4), (D.I (-1 : Int))]) ∧ (
 (i7 = ((l4.length : Nat) : Int)) →
   TSame.I0 [(D.N n0), (D.V v1), (D.L l2), (D.V v3), (D.L l4), (D.I (0 : Int))] ∧ (
 ∀ (i8 : Int),
 (-9223372036854775808 ≤ i8 ∧ i8 < 9223372036854775808) →
   TSame.I0 [(D.N n0), (D.V v1), (D.L l2), (D.V v3), (D.L l4), (D.I i8)] →
 ((
 (i8 < ((l6.length : Nat) : Int)) →
 ((0 : Int) ≤ i8) ∧ (((0 : Int) ≤ i8) →
 ∀ (n9 : Nat),
 (i8 < ((l4.length : Nat) : Int)) ∧ ((i8 < ((l4.length : Nat) : Int)) →
 ((
 ((
 ((
 ((textOf ((((l6.getD i8.toNat default)).toL.getD (0 : Int).toNat default)).toLi) ≠ ((((l4.getD i8.toNat default)).toL.getD (0 : Int).toNat default)).toS) →
       TSame.sig.post [(D.N n0), (D.V v1), (D.L l2), (D.V v3), (D.L l4), (D.I (-1 : Int))]) ∧ (
 ((textOf ((((l6.getD i8.toNat default)).toL.getD (0 : Int).toNat default)).toLi) = ((((l4.getD i8.toNat default)).toL.getD (0 : Int).toNat default)).toS) →
 ((
 (((((l6.getD i8.toNat default)).toL.getD (1 : Int).toNat default)).toS ≠ ((((l4.getD i8.toNat default)).toL.getD (1 : Int).toNat default)).toS) →
        TSame.sig.post [(D.N n0), (D.V v1), (D.L l2), (D.V v3), (D.L l4), (D.I (-1 : Int))]) ∧ (
 (((((l6.getD i8.toNat default)).toL.getD (1 : Int).toNat default)).toS = ((((l4.getD i8.toNat default)).toL.getD (1 : Int).toNat default)).toS) →
        TSame.I0 [(D.N n0), (D.V v1), (D.L l2), (D.V v3), (D.L l4), (D.I (IntKind.wrap .i64 (i8 + (1 : Int))))] ∧ TSame.I0M [(D.N n0), (D.V v1), (D.L l2), (D.V v3), (D.L l4), (D.I (IntKind.wrap .i64 (i8 + (1 : Int))))] < TSame.I0M [(D.N n0), (D.V v1), (D.L l2), (D.V v3), (D.L l4), (D.I i8)]))))) ∧ (
 ((
 ((textOf ((((l6.getD i8.toNat default)).toL.getD (0 : Int).toNat default)).toLi) ≠ ((((l4.getD i8.toNat default)).toL.getD (0 : Int).toNat default)).toS) →
       TSame.sig.post [(D.N n0), (D.V v1), (D.L l2), (D.V v3), (D.L l4), (D.I (-1 : Int))]) ∧ (
 ((textOf ((((l6.getD i8.toNat default)).toL.getD (0 : Int).toNat default)).toLi) = ((((l4.getD i8.toNat default)).toL.getD (0 : Int).toNat default)).toS) →
 ((
 (((((l6.getD i8.toNat default)).toL.getD (1 : Int).toNat default)).toS ≠ ((((l4.getD i8.toNat default)).toL.getD (1 : Int).toNat default)).toS) →
        TSame.sig.post [(D.N n0), (D.V v1), (D.L l2), (D.V v3), (D.L l4), (D.I (-1 : Int))]) ∧ (
 (((((l6.getD i8.toNat default)).toL.getD (1 : Int).toNat default)).toS = ((((l4.getD i8.toNat default)).toL.getD (1 : Int).toNat default)).toS) →
        TSame.I0 [(D.N n0), (D.V v1), (D.L l2), (D.V v3), (D.L l4), (D.I (IntKind.wrap .i64 (i8 + (1 : Int))))] ∧ TSame.I0M [(D.N n0), (D.V v1), (D.L l2), (D.V v3), (D.L l4), (D.I (IntKind.wrap .i64 (i8 + (1 : Int))))] < TSame.I0M [(D.N n0), (D.V v1), (D.L l2), (D.V v3), (D.L l4), (D.I i8)]))))))) ∧ (
 ((
 ((textOf ((((l6.getD i8.toNat default)).toL.getD (0 : Int).toNat default)).toLi) ≠ ((((l4.getD i8.toNat default)).toL.getD (0 : Int).toNat default)).toS) →
      TSame.sig.post [(D.N n0), (D.V v1), (D.L l2), (D.V v3), (D.L l4), (D.I (-1 : Int))]) ∧ (
 ((textOf ((((l6.getD i8.toNat default)).toL.getD (0 : Int).toNat default)).toLi) = ((((l4.getD i8.toNat default)).toL.getD (0 : Int).toNat default)).toS) →
 ((
 (((((l6.getD i8.toNat default)).toL.getD (1 : Int).toNat default)).toS ≠ ((((l4.getD i8.toNat default)).toL.getD (1 : Int).toNat default)).toS) →
       TSame.sig.post [(D.N n0), (D.V v1), (D.L l2), (D.V v3), (D.L l4), (D.I (-1 : Int))]) ∧ (
 (((((l6.getD i8.toNat default)).toL.getD (1 : Int).toNat default)).toS = ((((l4.getD i8.toNat default)).toL.getD (1 : Int).toNat default)).toS) →
       TSame.I0 [(D.N n0), (D.V v1), (D.L l2), (D.V v3), (D.L l4), (D.I (IntKind.wrap .i64 (i8 + (1 : Int))))] ∧ TSame.I0M [(D.N n0), (D.V v1), (D.L l2), (D.V v3), (D.L l4), (D.I (IntKind.wrap .i64 (i8 + (1 : Int))))] < TSame.I0M [(D.N n0), (D.V v1), (D.L l2), (D.V v3), (D.L l4), (D.I i8)]))))))))) ∧ (
 (((l6.length : Nat) : Int) ≤ i8) →
    TSame.sig.post [(D.N n0), (D.V v1), (D.L l2), (D.V v3), (D.L l4), (D.I (0 : Int))])))))))))
theorem TSame.den : TSame.vc.den2 (mkEnv TSame.sig [TAll.sig, TLen.sig] [(TSame.I0, TSame.I0M)]) [] = TSame.Pure := by kernel_rfl
def rPs.vc : VC :=
 (.all .V
 (.all .Z
 (.all .V
 (.all .Z
 (.all .S
 (.know (.ssz (.at 4))
 (.know (.allHas .u32 (.at 1))
 (.know (.allHas .u32 (.at 3))
 (.post 0 [(.at 0), (.at 1), (.at 2), (.at 3), (.at 4)]
 (.all .N
 (.all .V
 (.and
 (.imp (.o2 .lt (.o2 (.sub .i64) (.o1 .slen (.at 4)) (.int 32)) (.int 8)) true
 (.all .V
 (.ret [(.at 0), (.at 1), (.at 2), (.at 3), (.at 4), (.at 7), (.int 2), .lnil])))
 (.imp (.o2 .lt (.o2 (.sub .i64) (.o1 .slen (.at 4)) (.int 32)) (.int 8)) false
 (.obl (.o2 .le (.int 0) (.o2 (.sub .i64) (.o1 .slen (.at 4)) (.int 32)))
 (.obl (.o2 .le (.o2 (.sub .i64) (.o1 .slen (.at 4)) (.int 32)) (.o1 .slen (.at 4)))
 (.pre 1 [(.at 0), (.at 1), (.at 2), (.at 3), (.o3 .ssub (.at 4) (.int 0) (.o2 (.sub .i64) (.o1 .slen (.at 4)) (.int 32)))]
 (.all .S
 (.post 1 [(.at 0), (.at 1), (.at 2), (.at 3), (.o3 .ssub (.at 4) (.int 0) (.o2 (.sub .i64) (.o1 .slen (.at 4)) (.int 32))), (.at 7)]
 (.know (.ssz (.at 7))
 (.and
 (.imp (.o1 .not (.o2 .eqs (.at 7) (.o3 .ssub (.at 4) (.o2 (.sub .i64) (.o1 .slen (.at 4)) (.int 32)) (.o1 .slen (.at 4))))) true
 (.all .V
 (.ret [(.at 0), (.at 1), (.at 2), (.at 3), (.at 4), (.at 8), (.int 4), .lnil])))
 (.imp (.o1 .not (.o2 .eqs (.at 7) (.o3 .ssub (.at 4) (.o2 (.sub .i64) (.o1 .slen (.at 4)) (.int 32)) (.o1 .slen (.at 4))))) false
 (.obl (.o2 .le (.int 8) (.o1 .slen (.at 4)))
 (.and
 (.imp (.o1 .not (.o2 .eqs (.o3 .ssub (.at 4) (.int 0) (.int 8)) (.str ⟨#[79, 82, 68, 69, 65, 76, 84, 49]⟩))) true
 (.all .V
 (.ret [(.at 0), (.at 1), (.at 2), (.at 3), (.at 4), (.at 8), (.int 3), .lnil])))
 (.imp (.o1 .not (.o2 .eqs (.o3 .ssub (.at 4) (.int 0) (.int 8)) (.str ⟨#[79, 82, 68, 69, 65, 76, 84, 49]⟩))) false
 (.pre 2 [(.o3 .ssub (.at 4) (.int 0) (.o2 (.sub .i64) (.o1 .slen (.at 4)) (.int 32))), (.int 8), (.int 0)]
 (.all .I
 (.all .I
 (.all .I
 (.post 2 [(.o3 .ssub (.at 4) (.int 0) (.o2 (.sub .i64) (.o1 .slen (.at 4)) (.int 32))), (.int 8), (.int 0), (.at 8), (.at 9), (.at 10)]
 (.know (.has .i64 (.at 8))
 (.know (.has .i64 (.at 9))
 (.know (.has .u64 (.at 10))
 (.all .N
 (.all .V
 (.inv 0 [(.at 0), (.at 1), (.at 2), (.at 3), (.at 4), .lnil, (.int 0), (.o3 .ssub (.at 4) (.int 0) (.o2 (.sub .i64) (.o1 .slen (.at 4)) (.int 32))), (.at 8), (.at 9)]
 (.all .V
 (.all .L
 (.all .I
 (.all .S
 (.all .I
 (.all .I
 (.know (.has .u64 (.at 15))
 (.know (.ekok [.str, .str] (.at 14))
 (.know (.ssz (.at 16))
 (.know (.has .i64 (.at 17))
 (.know (.has .i64 (.at 18))
 (.asm 0 [(.at 0), (.at 1), (.at 2), (.at 3), (.at 4), (.at 14), (.at 15), (.at 16), (.at 17), (.at 18)]
 (.and
 (.imp (.o2 .lt (.at 15) (.at 10)) true
 (.and
 (.imp (.o2 .eq (.at 18) (.int 0)) true
 (.pre 3 [(.at 16), (.at 17), (.at 18), (.int 32)]
 (.all .I
 (.all .I
 (.all .S
 (.post 3 [(.at 16), (.at 17), (.at 18), (.int 32), (.at 19), (.at 20), (.at 21)]
 (.know (.has .i64 (.at 19))
 (.know (.has .i64 (.at 20))
 (.know (.ssz (.at 21))
 (.all .N
 (.pre 4 [(.at 16), (.at 19), (.at 20), (.int 4194304)]
 (.all .I
 (.all .I
 (.all .S
 (.post 4 [(.at 16), (.at 19), (.at 20), (.int 4194304), (.at 23), (.at 24), (.at 25)]
 (.know (.has .i64 (.at 23))
 (.know (.has .i64 (.at 24))
 (.know (.ssz (.at 25))
 (.all .N
 (.and
 (.imp (.o2 .eq (.at 24) (.int 0)) true
 (.and
 (.imp (.o2 .lt (.int 0) (.o1 .llen (.at 14))) true
 (.obl (.o2 .le (.int 0) (.o2 (.sub .i64) (.o1 .llen (.at 14)) (.int 1)))
 (.obl (.o2 .lt (.o2 (.sub .i64) (.o1 .llen (.at 14)) (.int 1)) (.o1 .llen (.at 14)))
 (.and
 (.imp (.o1 .not (.o2 .lts (.o1 .asS (.o2 .lget (.o1 .asL (.o2 .lget (.at 14) (.o2 (.sub .i64) (.o1 .llen (.at 14)) (.int 1)))) (.int 0))) (.at 21))) true
 (.all .V
 (.obl (.o2 .le (.o1 .llen (.o2 .lapp (.at 14) (.o2 .lcons (.o2 .lcons (.o1 .asS (.at 21)) (.o2 .lcons (.o1 .asS (.at 25)) .lnil)) .lnil))) (.int 4398046511104))
 (.all .V
 (.back 0 [(.at 0), (.at 1), (.at 2), (.at 3), (.at 4), (.at 14), (.at 15), (.at 16), (.at 17), (.at 18)] [(.at 0), (.at 1), (.at 2), (.at 3), (.at 4), (.o2 .lapp (.at 14) (.o2 .lcons (.o2 .lcons (.o1 .asS (.at 21)) (.o2 .lcons (.o1 .asS (.at 25)) .lnil)) .lnil)), (.o2 (.add .u64) (.at 15) (.int 1)), (.at 16), (.at 23), (.int 16)])))))
 (.imp (.o1 .not (.o2 .lts (.o1 .asS (.o2 .lget (.o1 .asL (.o2 .lget (.at 14) (.o2 (.sub .i64) (.o1 .llen (.at 14)) (.int 1)))) (.int 0))) (.at 21))) false
 (.all .V
 (.obl (.o2 .le (.o1 .llen (.o2 .lapp (.at 14) (.o2 .lcons (.o2 .lcons (.o1 .asS (.at 21)) (.o2 .lcons (.o1 .asS (.at 25)) .lnil)) .lnil))) (.int 4398046511104))
 (.all .V
 (.back 0 [(.at 0), (.at 1), (.at 2), (.at 3), (.at 4), (.at 14), (.at 15), (.at 16), (.at 17), (.at 18)] [(.at 0), (.at 1), (.at 2), (.at 3), (.at 4), (.o2 .lapp (.at 14) (.o2 .lcons (.o2 .lcons (.o1 .asS (.at 21)) (.o2 .lcons (.o1 .asS (.at 25)) .lnil)) .lnil)), (.o2 (.add .u64) (.at 15) (.int 1)), (.at 16), (.at 23), (.at 24)])))))))))
 (.imp (.o2 .lt (.int 0) (.o1 .llen (.at 14))) false
 (.all .V
 (.obl (.o2 .le (.o1 .llen (.o2 .lapp (.at 14) (.o2 .lcons (.o2 .lcons (.o1 .asS (.at 21)) (.o2 .lcons (.o1 .asS (.at 25)) .lnil)) .lnil))) (.int 4398046511104))
 (.all .V
 (.back 0 [(.at 0), (.at 1), (.at 2), (.at 3), (.at 4), (.at 14), (.at 15), (.at 16), (.at 17), (.at 18)] [(.at 0), (.at 1), (.at 2), (.at 3), (.at 4), (.o2 .lapp (.at 14) (.o2 .lcons (.o2 .lcons (.o1 .asS (.at 21)) (.o2 .lcons (.o1 .asS (.at 25)) .lnil)) .lnil)), (.o2 (.add .u64) (.at 15) (.int 1)), (.at 16), (.at 23), (.at 24)])))))))
 (.imp (.o2 .eq (.at 24) (.int 0)) false
 (.all .V
 (.obl (.o2 .le (.o1 .llen (.o2 .lapp (.at 14) (.o2 .lcons (.o2 .lcons (.o1 .asS (.at 21)) (.o2 .lcons (.o1 .asS (.at 25)) .lnil)) .lnil))) (.int 4398046511104))
 (.all .V
 (.back 0 [(.at 0), (.at 1), (.at 2), (.at 3), (.at 4), (.at 14), (.at 15), (.at 16), (.at 17), (.at 18)] [(.at 0), (.at 1), (.at 2), (.at 3), (.at 4), (.o2 .lapp (.at 14) (.o2 .lcons (.o2 .lcons (.o1 .asS (.at 21)) (.o2 .lcons (.o1 .asS (.at 25)) .lnil)) .lnil)), (.o2 (.add .u64) (.at 15) (.int 1)), (.at 16), (.at 23), (.at 24)])))))))))))))))))))))))))
 (.imp (.o2 .eq (.at 18) (.int 0)) false
 (.pre 5 [(.at 16), (.at 17), (.at 18)]
 (.all .I
 (.all .I
 (.post 5 [(.at 16), (.at 17), (.at 18), (.at 19), (.at 20)]
 (.know (.has .i64 (.at 19))
 (.know (.has .i64 (.at 20))
 (.and
 (.imp (.o1 .not (.o2 .eq (.at 20) (.int 0))) true
 (.all .V
 (.ret [(.at 0), (.at 1), (.at 2), (.at 3), (.at 4), (.at 21), (.at 20), .lnil])))
 (.imp (.o1 .not (.o2 .eq (.at 20) (.int 0))) false
 (.ret [(.at 0), (.at 1), (.at 2), (.at 3), (.at 4), (.at 13), (.int 0), (.at 14)]))))))))))))
 (.imp (.o2 .lt (.at 15) (.at 10)) false
 (.pre 5 [(.at 16), (.at 17), (.at 18)]
 (.all .I
 (.all .I
 (.post 5 [(.at 16), (.at 17), (.at 18), (.at 19), (.at 20)]
 (.know (.has .i64 (.at 19))
 (.know (.has .i64 (.at 20))
 (.and
 (.imp (.o1 .not (.o2 .eq (.at 20) (.int 0))) true
 (.all .V
 (.ret [(.at 0), (.at 1), (.at 2), (.at 3), (.at 4), (.at 21), (.at 20), .lnil])))
 (.imp (.o1 .not (.o2 .eq (.at 20) (.int 0))) false
 (.ret [(.at 0), (.at 1), (.at 2), (.at 3), (.at 4), (.at 13), (.int 0), (.at 14)]))))))))))))))))))))))))))))))))))))))))))))))))))))))))))
def rPs.Pure : Prop :=
 ∀ (v0 : Value),
 ∀ (z1 : List Int),
 ∀ (v2 : Value),
 ∀ (z3 : List Int),
 ∀ (s4 : ByteArray),
 ((s4.size : Int) ≤ 9223372036854775807) →
 (∀ x ∈ z1, IntKind.has .u32 x) →
 (∀ x ∈ z3, IntKind.has .u32 x) →
 rPs.sig.pre [(D.V v0), (D.Z z1), (D.V v2), (D.Z z3), (D.S s4)] →
 ∀ (n5 : Nat),
 ∀ (v6 : Value),
 ((
 ((IntKind.wrap .i64 (((s4.size : Nat) : Int) - (32 : Int))) < (8 : Int)) →
 ∀ (v7 : Value),
  rPs.sig.post [(D.V v0), (D.Z z1), (D.V v2), (D.Z z3), (D.S s4), (D.V v7), (D.I (2 : Int)), (D.L ([] : List D))]) ∧ (
 ((8 : Int) ≤ (IntKind.wrap .i64 (((s4.size : Nat) : Int) - (32 : Int)))) →
 ((0 : Int) ≤ (IntKind.wrap .i64 (((s4.size : Nat) : Int) - (32 : Int)))) ∧ (((0 : Int) ≤ (IntKind.wrap .i64 (((s4.size : Nat) : Int) - (32 : Int)))) →
 ((IntKind.wrap .i64 (((s4.size : Nat) : Int) - (32 : Int))) ≤ ((s4.size : Nat) : Int)) ∧ (((IntKind.wrap .i64 (((s4.size : Nat) : Int) - (32 : Int))) ≤ ((s4.size : Nat) : Int)) →
  rOf.sig.pre [(D.V v0), (D.Z z1), (D.V v2), (D.Z z3), (D.S (s4.extract (0 : Int).toNat (IntKind.wrap .i64 (((s4.size : Nat) : Int) - (32 : Int))).toNat))] ∧ (
 ∀ (s7 : ByteArray),
  rOf.sig.post [(D.V v0), (D.Z z1), (D.V v2), (D.Z z3), (D.S (s4.extract (0 : Int).toNat (IntKind.wrap .i64 (((s4.size : Nat) : Int) - (32 : Int))).toNat)), (D.S s7)] →
 ((s7.size : Int) ≤ 9223372036854775807) →
 ((
 (s7 ≠ (s4.extract (IntKind.wrap .i64 (((s4.size : Nat) : Int) - (32 : Int))).toNat ((s4.size : Nat) : Int).toNat)) →
 ∀ (v8 : Value),
   rPs.sig.post [(D.V v0), (D.Z z1), (D.V v2), (D.Z z3), (D.S s4), (D.V v8), (D.I (4 : Int)), (D.L ([] : List D))]) ∧ (
 (s7 = (s4.extract (IntKind.wrap .i64 (((s4.size : Nat) : Int) - (32 : Int))).toNat ((s4.size : Nat) : Int).toNat)) →
 ((8 : Int) ≤ ((s4.size : Nat) : Int)) ∧ (((8 : Int) ≤ ((s4.size : Nat) : Int)) →
 ((
 ((s4.extract (0 : Int).toNat (8 : Int).toNat) ≠ (⟨#[79, 82, 68, 69, 65, 76, 84, 49]⟩ : ByteArray)) →
 ∀ (v8 : Value),
    rPs.sig.post [(D.V v0), (D.Z z1), (D.V v2), (D.Z z3), (D.S s4), (D.V v8), (D.I (3 : Int)), (D.L ([] : List D))]) ∧ (
 ((s4.extract (0 : Int).toNat (8 : Int).toNat) = (⟨#[79, 82, 68, 69, 65, 76, 84, 49]⟩ : ByteArray)) →
    cNum.sig.pre [(D.S (s4.extract (0 : Int).toNat (IntKind.wrap .i64 (((s4.size : Nat) : Int) - (32 : Int))).toNat)), (D.I (8 : Int)), (D.I (0 : Int))] ∧ (
 ∀ (i8 : Int),
 ∀ (i9 : Int),
 ∀ (i10 : Int),
    cNum.sig.post [(D.S (s4.extract (0 : Int).toNat (IntKind.wrap .i64 (((s4.size : Nat) : Int) - (32 : Int))).toNat)), (D.I (8 : Int)), (D.I (0 : Int)), (D.I i8), (D.I i9), (D.I i10)] →
 (-9223372036854775808 ≤ i8 ∧ i8 < 9223372036854775808) →
 (-9223372036854775808 ≤ i9 ∧ i9 < 9223372036854775808) →
 (0 ≤ i10 ∧ i10 < 18446744073709551616) →
 ∀ (n11 : Nat),
 ∀ (v12 : Value),
    rPs.I0 [(D.V v0), (D.Z z1), (D.V v2), (D.Z z3), (D.S s4), (D.L ([] : List D)), (D.I (0 : Int)), (D.S (s4.extract (0 : Int).toNat (IntKind.wrap .i64 (((s4.size : Nat) : Int) - (32 : Int))).toNat)), (D.I i8), (D.I i9)] ∧ (
 ∀ (v13 : Value),
 ∀ (l14 : List D),
 ∀ (i15 : Int),
 ∀ (s16 : ByteArray),
 ∀ (i17 : Int),
 ∀ (i18 : Int),
 (0 ≤ i15 ∧ i15 < 18446744073709551616) →
 (EK.ok [.str, .str] (D.L l14)) →
 ((s16.size : Int) ≤ 9223372036854775807) →
 (-9223372036854775808 ≤ i17 ∧ i17 < 9223372036854775808) →
 (-9223372036854775808 ≤ i18 ∧ i18 < 9223372036854775808) →
    rPs.I0 [(D.V v0), (D.Z z1), (D.V v2), (D.Z z3), (D.S s4), (D.L l14), (D.I i15), (D.S s16), (D.I i17), (D.I i18)] →
 ((
 (i15 < i10) →
 ((
 (i18 = (0 : Int)) →
      cRaw.sig.pre [(D.S s16), (D.I i17), (D.I i18), (D.I (32 : Int))] ∧ (
 ∀ (i19 : Int),
 ∀ (i20 : Int),
 ∀ (s21 : ByteArray),
      cRaw.sig.post [(D.S s16), (D.I i17), (D.I i18), (D.I (32 : Int)), (D.I i19), (D.I i20), (D.S s21)] →
 (-9223372036854775808 ≤ i19 ∧ i19 < 9223372036854775808) →
 (-9223372036854775808 ≤ i20 ∧ i20 < 9223372036854775808) →
 ((s21.size : Int) ≤ 9223372036854775807) →
 ∀ (n22 : Nat),
      cText.sig.pre [(D.S s16), (D.I i19), (D.I i20), (D.I (4194304 : Int))] ∧ (
 ∀ (i23 : Int),
 ∀ (i24 : Int),
 ∀ (s25 : ByteArray),
      cText.sig.post [(D.S s16), (D.I i19), (D.I i20), (D.I (4194304 : Int)), (D.I i23), (D.I i24), (D.S s25)] →
 (-9223372036854775808 ≤ i23 ∧ i23 < 9223372036854775808) →
 (-9223372036854775808 ≤ i24 ∧ i24 < 9223372036854775808) →
 ((s25.size : Int) ≤ 9223372036854775807) →
 ∀ (n26 : Nat),
 ((
 (i24 = (0 : Int)) →
 ((
 ((0 : Int) < ((l14.length : Nat) : Int)) →
 ((0 : Int) ≤ (IntKind.wrap .i64 (((l14.length : Nat) : Int) - (1 : Int)))) ∧ (((0 : Int) ≤ (IntKind.wrap .i64 (((l14.length : Nat) : Int) - (1 : Int)))) →
 ((IntKind.wrap .i64 (((l14.length : Nat) : Int) - (1 : Int))) < ((l14.length : Nat) : Int)) ∧ (((IntKind.wrap .i64 (((l14.length : Nat) : Int) - (1 : Int))) < ((l14.length : Nat) : Int)) →
 ((
 ((Op.bytesLess ((((l14.getD (IntKind.wrap .i64 (((l14.length : Nat) : Int) - (1 : Int))).toNat default)).toL.getD (0 : Int).toNat default)).toS.toList s21.toList) = false) →
 ∀ (v27 : Value),
 ((((l14 ++ ((D.L ((D.S s21) :: ((D.S s25) :: ([] : List D)))) :: ([] : List D))).length : Nat) : Int) ≤ (4398046511104 : Int)) ∧ (((((l14 ++ ((D.L ((D.S s21) :: ((D.S s25) :: ([] : List D)))) :: ([] : List D))).length : Nat) : Int) ≤ (4398046511104 : Int)) →
 ∀ (v28 : Value),
         rPs.I0 [(D.V v0), (D.Z z1), (D.V v2), (D.Z z3), (D.S s4), (D.L (l14 ++ ((D.L ((D.S s21) :: ((D.S s25) :: ([] : List D)))) :: ([] : List D)))), (D.I (IntKind.wrap .u64 (i15 + (1 : Int)))), (D.S s16), (D.I i23), (D.I (16 : Int))] ∧ rPs.I0M [(D.V v0), (D.Z z1), (D.V v2), (D.Z z3), (D.S s4), (D.L (l14 ++ ((D.L ((D.S s21) :: ((D.S s25) :: ([] : List D)))) :: ([] : List D)))), (D.I (IntKind.wrap .u64 (i15 + (1 : Int)))), (D.S s16), (D.I i23), (D.I (16 : Int))] < rPs.I0M [(D.V v0), (D.Z z1), (D.V v2), (D.Z z3), (D.S s4), (D.L l14), (D.I i15), (D.S s16), (D.I i17), (D.I i18)])) ∧ (
 ((Op.bytesLess ((((l14.getD (IntKind.wrap .i64 (((l14.length : Nat) : Int) - (1 : Int))).toNat default)).toL.getD (0 : Int).toNat default)).toS.toList s21.toList) = true) →
 ∀ (v27 : Value),
 ((((l14 ++ ((D.L ((D.S s21) :: ((D.S s25) :: ([] : List D)))) :: ([] : List D))).length : Nat) : Int) ≤ (4398046511104 : Int)) ∧ (((((l14 ++ ((D.L ((D.S s21) :: ((D.S s25) :: ([] : List D)))) :: ([] : List D))).length : Nat) : Int) ≤ (4398046511104 : Int)) →
 ∀ (v28 : Value),
         rPs.I0 [(D.V v0), (D.Z z1), (D.V v2), (D.Z z3), (D.S s4), (D.L (l14 ++ ((D.L ((D.S s21) :: ((D.S s25) :: ([] : List D)))) :: ([] : List D)))), (D.I (IntKind.wrap .u64 (i15 + (1 : Int)))), (D.S s16), (D.I i23), (D.I i24)] ∧ rPs.I0M [(D.V v0), (D.Z z1), (D.V v2), (D.Z z3), (D.S s4), (D.L (l14 ++ ((D.L ((D.S s21) :: ((D.S s25) :: ([] : List D)))) :: ([] : List D)))), (D.I (IntKind.wrap .u64 (i15 + (1 : Int)))), (D.S s16), (D.I i23), (D.I i24)] < rPs.I0M [(D.V v0), (D.Z z1), (D.V v2), (D.Z z3), (D.S s4), (D.L l14), (D.I i15), (D.S s16), (D.I i17), (D.I i18)])))))) ∧ (
 (((l14.length : Nat) : Int) ≤ (0 : Int)) →
 ∀ (v27 : Value),
 ((((l14 ++ ((D.L ((D.S s21) :: ((D.S s25) :: ([] : List D)))) :: ([] : List D))).length : Nat) : Int) ≤ (4398046511104 : Int)) ∧ (((((l14 ++ ((D.L ((D.S s21) :: ((D.S s25) :: ([] : List D)))) :: ([] : List D))).length : Nat) : Int) ≤ (4398046511104 : Int)) →
 ∀ (v28 : Value),
        rPs.I0 [(D.V v0), (D.Z z1), (D.V v2), (D.Z z3), (D.S s4), (D.L (l14 ++ ((D.L ((D.S s21) :: ((D.S s25) :: ([] : List D)))) :: ([] : List D)))), (D.I (IntKind.wrap .u64 (i15 + (1 : Int)))), (D.S s16), (D.I i23), (D.I i24)] ∧ rPs.I0M [(D.V v0), (D.Z z1), (D.V v2), (D.Z z3), (D.S s4), (D.L (l14 ++ ((D.L ((D.S s21) :: ((D.S s25) :: ([] : List D)))) :: ([] : List D)))), (D.I (IntKind.wrap .u64 (i15 + (1 : Int)))), (D.S s16), (D.I i23), (D.I i24)] < rPs.I0M [(D.V v0), (D.Z z1), (D.V v2), (D.Z z3), (D.S s4), (D.L l14), (D.I i15), (D.S s16), (D.I i17), (D.I i18)])))) ∧ (
 (i24 ≠ (0 : Int)) →
 ∀ (v27 : Value),
 ((((l14 ++ ((D.L ((D.S s21) :: ((D.S s25) :: ([] : List D)))) :: ([] : List D))).length : Nat) : Int) ≤ (4398046511104 : Int)) ∧ (((((l14 ++ ((D.L ((D.S s21) :: ((D.S s25) :: ([] : List D)))) :: ([] : List D))).length : Nat) : Int) ≤ (4398046511104 : Int)) →
 ∀ (v28 : Value),
       rPs.I0 [(D.V v0), (D.Z z1), (D.V v2), (D.Z z3), (D.S s4), (D.L (l14 ++ ((D.L ((D.S s21) :: ((D.S s25) :: ([] : List D)))) :: ([] : List D)))), (D.I (IntKind.wrap .u64 (i15 + (1 : Int)))), (D.S s16), (D.I i23), (D.I i24)] ∧ rPs.I0M [(D.V v0), (D.Z z1), (D.V v2), (D.Z z3), (D.S s4), (D.L (l14 ++ ((D.L ((D.S s21) :: ((D.S s25) :: ([] : List D)))) :: ([] : List D)))), (D.I (IntKind.wrap .u64 (i15 + (1 : Int)))), (D.S s16), (D.I i23), (D.I i24)] < rPs.I0M [(D.V v0), (D.Z z1), (D.V v2), (D.Z z3), (D.S s4), (D.L l14), (D.I i15), (D.S s16), (D.I i17), (D.I i18)])))))) ∧ (
 (i18 ≠ (0 : Int)) →
      cDone.sig.pre [(D.S s16), (D.I i17), (D.I i18)] ∧ (
 ∀ (i19 : Int),
 ∀ (i20 : Int),
      cDone.sig.post [(D.S s16), (D.I i17), (D.I i18), (D.I i19), (D.I i20)] →
 (-9223372036854775808 ≤ i19 ∧ i19 < 9223372036854775808) →
 (-9223372036854775808 ≤ i20 ∧ i20 < 9223372036854775808) →
 ((
 (i20 ≠ (0 : Int)) →
 ∀ (v21 : Value),
       rPs.sig.post [(D.V v0), (D.Z z1), (D.V v2), (D.Z z3), (D.S s4), (D.V v21), (D.I i20), (D.L ([] : List D))]) ∧ (
 (i20 = (0 : Int)) →
       rPs.sig.post [(D.V v0), (D.Z z1), (D.V v2), (D.Z z3), (D.S s4), (D.V v13), (D.I (0 : Int)), (D.L l14)])))))) ∧ (
 (i10 ≤ i15) →
     cDone.sig.pre [(D.S s16), (D.I i17), (D.I i18)] ∧ (
 ∀ (i19 : Int),
 ∀ (i20 : Int),
     cDone.sig.post [(D.S s16), (D.I i17), (D.I i18), (D.I i19), (D.I i20)] →
 (-9223372036854775808 ≤ i19 ∧ i19 < 9223372036854775808) →
 (-9223372036854775808 ≤ i20 ∧ i20 < 9223372036854775808) →
 ((
 (i20 ≠ (0 : Int)) →
 ∀ (v21 : Value),
      rPs.sig.post [(D.V v0), (D.Z z1), (D.V v2), (D.Z z3), (D.S s4), (D.V v21), (D.I i20), (D.L ([] : List D))]) ∧ (
 (i20 = (0 : Int)) →
      rPs.sig.post [(D.V v0), (D.Z z1), (D.V v2), (D.Z z3), (D.S s4), (D.V v13), (D.I (0 : Int)), (D.L l14)])))))))))))))))))
theorem rPs.den : rPs.vc.den2 (mkEnv rPs.sig [rOf.sig, cNum.sig, cRaw.sig, cText.sig, cDone.sig] [(rPs.I0, rPs.I0M)]) [] = rPs.Pure := by kernel_rfl
def LTableReads.vc : VC :=
 (.all .S
 (.all .B
 (.know (.ssz (.at 0))
 (.post 0 [(.at 0), (.at 1)]
 (.pre 1 [(.at 0), (.int 400)]
 (.all .S
 (.post 1 [(.at 0), (.int 400), (.at 2)]
 (.know (.ssz (.at 2))
 (.and
 (.imp (.at 1) true
 (.pre 2 [(.at 2)]
 (.all .Z
 (.post 2 [(.at 2), (.at 3)]
 (.know (.len (.at 3) 32)
 (.know (.allHas .u8 (.at 3))
 (.all .N
 (.obl (.o2 .le (.o1 .slen (.o2 .cat (.at 2) (.o1 .ofLi (.at 3)))) (.int 9223372036854775807))
 (.and
 (.pre 3 [(.o2 .cat (.at 2) (.o1 .ofLi (.at 3)))]
 (.all .I
 (.post 3 [(.o2 .cat (.at 2) (.o1 .ofLi (.at 3))), (.at 5)]
 (.know (.has .i64 (.at 5))
 (.pre 4 []
 (.all .V
 (.all .Z
 (.all .V
 (.all .Z
 (.post 4 [(.at 6), (.at 7), (.at 8), (.at 9)]
 (.know (.allHas .u32 (.at 7))
 (.know (.allHas .u32 (.at 9))
 (.pre 5 [(.at 6), (.at 7), (.at 8), (.at 9), (.o2 .cat (.at 2) (.o1 .ofLi (.at 3)))]
 (.all .V
 (.all .I
 (.all .L
 (.post 5 [(.at 6), (.at 7), (.at 8), (.at 9), (.o2 .cat (.at 2) (.o1 .ofLi (.at 3))), (.at 10), (.at 11), (.at 12)]
 (.know (.has .i64 (.at 11))
 (.know (.ekok [.str, .str] (.at 12))
 (.pre 6 []
 (.all .B
 (.post 6 [(.at 13)]
 (.and
 (.imp (.o1 .not (.at 13)) true
 (.ret [(.at 0), (.at 1), (.bool false)]))
 (.imp (.o1 .not (.at 13)) false
 (.and
 (.imp (.o1 .not (.o2 .eq (.at 5) (.at 11))) true
 (.ret [(.at 0), (.at 1), (.bool false)]))
 (.imp (.o1 .not (.o2 .eq (.at 5) (.at 11))) false
 (.and
 (.imp (.o1 .not (.o2 .eqb (.bool true) (.o1 .not (.o2 .eq (.at 11) (.int 0))))) true
 (.ret [(.at 0), (.at 1), (.bool false)]))
 (.imp (.o1 .not (.o2 .eqb (.bool true) (.o1 .not (.o2 .eq (.at 11) (.int 0))))) false
 (.ret [(.at 0), (.at 1), (.bool true)])))))))))))))))))))))))))))))
 (.pre 203 [(.o2 .cat (.at 2) (.o1 .ofLi (.at 3)))]
 (.all .N
 (.all .V
 (.all .L
 (.post 203 [(.o2 .cat (.at 2) (.o1 .ofLi (.at 3))), (.at 5), (.at 6), (.at 7)]
 (.know (.ekok [.ints .u8 32, .str] (.at 7))
 (.pre 4 []
 (.all .V
 (.all .Z
 (.all .V
 (.all .Z
 (.post 4 [(.at 8), (.at 9), (.at 10), (.at 11)]
 (.know (.allHas .u32 (.at 9))
 (.know (.allHas .u32 (.at 11))
 (.pre 5 [(.at 8), (.at 9), (.at 10), (.at 11), (.o2 .cat (.at 2) (.o1 .ofLi (.at 3)))]
 (.all .V
 (.all .I
 (.all .L
 (.post 5 [(.at 8), (.at 9), (.at 10), (.at 11), (.o2 .cat (.at 2) (.o1 .ofLi (.at 3))), (.at 12), (.at 13), (.at 14)]
 (.know (.has .i64 (.at 13))
 (.know (.ekok [.str, .str] (.at 14))
 (.pre 6 []
 (.all .B
 (.post 6 [(.at 15)]
 (.and
 (.imp (.o1 .not (.at 15)) true
 (.ret [(.at 0), (.at 1), (.bool false)]))
 (.imp (.o1 .not (.at 15)) false
 (.and
 (.imp (.o1 .not (.o2 .eq (.int 0) (.at 13))) true
 (.ret [(.at 0), (.at 1), (.bool false)]))
 (.imp (.o1 .not (.o2 .eq (.int 0) (.at 13))) false
 (.and
 (.imp (.o1 .not (.o2 .eqb (.bool false) (.o1 .not (.o2 .eq (.at 13) (.int 0))))) true
 (.ret [(.at 0), (.at 1), (.bool false)]))
 (.imp (.o1 .not (.o2 .eqb (.bool false) (.o1 .not (.o2 .eq (.at 13) (.int 0))))) false
 (.pre 7 [(.at 5), (.at 6), (.at 7), (.at 12), (.at 14)]
 (.all .I
 (.post 7 [(.at 5), (.at 6), (.at 7), (.at 12), (.at 14), (.at 16)]
 (.know (.has .i64 (.at 16))
 (.ret [(.at 0), (.at 1), (.o2 .eq (.at 16) (.int 0))]))))))))))))))))))))))))))))))))))))))))))))
 (.imp (.at 1) false
 (.and
 (.pre 3 [(.at 2)]
 (.all .I
 (.post 3 [(.at 2), (.at 3)]
 (.know (.has .i64 (.at 3))
 (.pre 4 []
 (.all .V
 (.all .Z
 (.all .V
 (.all .Z
 (.post 4 [(.at 4), (.at 5), (.at 6), (.at 7)]
 (.know (.allHas .u32 (.at 5))
 (.know (.allHas .u32 (.at 7))
 (.pre 5 [(.at 4), (.at 5), (.at 6), (.at 7), (.at 2)]
 (.all .V
 (.all .I
 (.all .L
 (.post 5 [(.at 4), (.at 5), (.at 6), (.at 7), (.at 2), (.at 8), (.at 9), (.at 10)]
 (.know (.has .i64 (.at 9))
 (.know (.ekok [.str, .str] (.at 10))
 (.pre 6 []
 (.all .B
 (.post 6 [(.at 11)]
 (.and
 (.imp (.o1 .not (.at 11)) true
 (.ret [(.at 0), (.at 1), (.bool false)]))
 (.imp (.o1 .not (.at 11)) false
 (.and
 (.imp (.o1 .not (.o2 .eq (.at 3) (.at 9))) true
 (.ret [(.at 0), (.at 1), (.bool false)]))
 (.imp (.o1 .not (.o2 .eq (.at 3) (.at 9))) false
 (.and
 (.imp (.o1 .not (.o2 .eqb (.bool true) (.o1 .not (.o2 .eq (.at 9) (.int 0))))) true
 (.ret [(.at 0), (.at 1), (.bool false)]))
 (.imp (.o1 .not (.o2 .eqb (.bool true) (.o1 .not (.o2 .eq (.at 9) (.int 0))))) false
 (.ret [(.at 0), (.at 1), (.bool true)])))))))))))))))))))))))))))))
 (.pre 203 [(.at 2)]
 (.all .N
 (.all .V
 (.all .L
 (.post 203 [(.at 2), (.at 3), (.at 4), (.at 5)]
 (.know (.ekok [.ints .u8 32, .str] (.at 5))
 (.pre 4 []
 (.all .V
 (.all .Z
 (.all .V
 (.all .Z
 (.post 4 [(.at 6), (.at 7), (.at 8), (.at 9)]
 (.know (.allHas .u32 (.at 7))
 (.know (.allHas .u32 (.at 9))
 (.pre 5 [(.at 6), (.at 7), (.at 8), (.at 9), (.at 2)]
 (.all .V
 (.all .I
 (.all .L
 (.post 5 [(.at 6), (.at 7), (.at 8), (.at 9), (.at 2), (.at 10), (.at 11), (.at 12)]
 (.know (.has .i64 (.at 11))
 (.know (.ekok [.str, .str] (.at 12))
 (.pre 6 []
 (.all .B
 (.post 6 [(.at 13)]
 (.and
 (.imp (.o1 .not (.at 13)) true
 (.ret [(.at 0), (.at 1), (.bool false)]))
 (.imp (.o1 .not (.at 13)) false
 (.and
 (.imp (.o1 .not (.o2 .eq (.int 0) (.at 11))) true
 (.ret [(.at 0), (.at 1), (.bool false)]))
 (.imp (.o1 .not (.o2 .eq (.int 0) (.at 11))) false
 (.and
 (.imp (.o1 .not (.o2 .eqb (.bool false) (.o1 .not (.o2 .eq (.at 11) (.int 0))))) true
 (.ret [(.at 0), (.at 1), (.bool false)]))
 (.imp (.o1 .not (.o2 .eqb (.bool false) (.o1 .not (.o2 .eq (.at 11) (.int 0))))) false
 (.pre 7 [(.at 3), (.at 4), (.at 5), (.at 10), (.at 12)]
 (.all .I
 (.post 7 [(.at 3), (.at 4), (.at 5), (.at 10), (.at 12), (.at 14)]
 (.know (.has .i64 (.at 14))
 (.ret [(.at 0), (.at 1), (.o2 .eq (.at 14) (.int 0))]))))))))))))))))))))))))))))))))))))))))))))))
def LTableReads.Pure : Prop :=
 ∀ (s0 : ByteArray),
 ∀ (b1 : Bool),
 ((s0.size : Int) ≤ 9223372036854775807) →
 LTableReads.sig.pre [(D.S s0), (D.B b1)] →
 Cut.sig.pre [(D.S s0), (D.I (400 : Int))] ∧ (
 ∀ (s2 : ByteArray),
 Cut.sig.post [(D.S s0), (D.I (400 : Int)), (D.S s2)] →
 ((s2.size : Int) ≤ 9223372036854775807) →
 ((
 (b1 = true) →
  HOf.sig.pre [(D.S s2)] ∧ (
 ∀ (z3 : List Int),
  HOf.sig.post [(D.S s2), (D.Z z3)] →
 (z3.length = 32) →
 (∀ x ∈ z3, IntKind.has .u8 x) →
 ∀ (n4 : Nat),
 ((((s2 ++ (textOf z3)).size : Nat) : Int) ≤ (9223372036854775807 : Int)) ∧ (((((s2 ++ (textOf z3)).size : Nat) : Int) ≤ (9223372036854775807 : Int)) →
 ((
   TParse.sig.pre [(D.S (s2 ++ (textOf z3)))] ∧ (
 ∀ (i5 : Int),
   TParse.sig.post [(D.S (s2 ++ (textOf z3))), (D.I i5)] →
 (-9223372036854775808 ≤ i5 ∧ i5 < 9223372036854775808) →
   rMade.sig.pre [] ∧ (
 ∀ (v6 : Value),
 ∀ (z7 : List Int),
 ∀ (v8 : Value),
 ∀ (z9 : List Int),
   rMade.sig.post [(D.V v6), (D.Z z7), (D.V v8), (D.Z z9)] →
 (∀ x ∈ z7, IntKind.has .u32 x) →
 (∀ x ∈ z9, IntKind.has .u32 x) →
   rPs.sig.pre [(D.V v6), (D.Z z7), (D.V v8), (D.Z z9), (D.S (s2 ++ (textOf z3)))] ∧ (
 ∀ (v10 : Value),
 ∀ (i11 : Int),
 ∀ (l12 : List D),
   rPs.sig.post [(D.V v6), (D.Z z7), (D.V v8), (D.Z z9), (D.S (s2 ++ (textOf z3))), (D.V v10), (D.I i11), (D.L l12)] →
 (-9223372036854775808 ≤ i11 ∧ i11 < 9223372036854775808) →
 (EK.ok [.str, .str] (D.L l12)) →
   Awake22.sig.pre [] ∧ (
 ∀ (b13 : Bool),
   Awake22.sig.post [(D.B b13)] →
 ((
 (b13 = false) →
    LTableReads.sig.post [(D.S s0), (D.B b1), (D.B false)]) ∧ (
 (b13 = true) →
 ((
 (i5 ≠ i11) →
     LTableReads.sig.post [(D.S s0), (D.B b1), (D.B false)]) ∧ (
 (i5 = i11) →
 ((
 (true ≠ (!(i11 == (0 : Int)))) →
      LTableReads.sig.post [(D.S s0), (D.B b1), (D.B false)]) ∧ (
 (true = (!(i11 == (0 : Int)))) →
      LTableReads.sig.post [(D.S s0), (D.B b1), (D.B true)]))))))))))) ∧ (
   TParse.sig.pre [(D.S (s2 ++ (textOf z3)))] ∧ (
 ∀ (n5 : Nat),
 ∀ (v6 : Value),
 ∀ (l7 : List D),
   TParse.sig.post2 [(D.S (s2 ++ (textOf z3))), (D.N n5), (D.V v6), (D.L l7)] →
 (EK.ok [.ints .u8 32, .str] (D.L l7)) →
   rMade.sig.pre [] ∧ (
 ∀ (v8 : Value),
 ∀ (z9 : List Int),
 ∀ (v10 : Value),
 ∀ (z11 : List Int),
   rMade.sig.post [(D.V v8), (D.Z z9), (D.V v10), (D.Z z11)] →
 (∀ x ∈ z9, IntKind.has .u32 x) →
 (∀ x ∈ z11, IntKind.has .u32 x) →
   rPs.sig.pre [(D.V v8), (D.Z z9), (D.V v10), (D.Z z11), (D.S (s2 ++ (textOf z3)))] ∧ (
 ∀ (v12 : Value),
 ∀ (i13 : Int),
 ∀ (l14 : List D),
   rPs.sig.post [(D.V v8), (D.Z z9), (D.V v10), (D.Z z11), (D.S (s2 ++ (textOf z3))), (D.V v12), (D.I i13), (D.L l14)] →
 (-9223372036854775808 ≤ i13 ∧ i13 < 9223372036854775808) →
 (EK.ok [.str, .str] (D.L l14)) →
   Awake22.sig.pre [] ∧ (
 ∀ (b15 : Bool),
   Awake22.sig.post [(D.B b15)] →
 ((
 (b15 = false) →
    LTableReads.sig.post [(D.S s0), (D.B b1), (D.B false)]) ∧ (
 (b15 = true) →
 ((
 ((0 : Int) ≠ i13) →
     LTableReads.sig.post [(D.S s0), (D.B b1), (D.B false)]) ∧ (
 ((0 : Int) = i13) →
 ((
 (false ≠ (!(i13 == (0 : Int)))) →
      LTableReads.sig.post [(D.S s0), (D.B b1), (D.B false)]) ∧ (
 (false = (!(i13 == (0 : Int)))) →
      TSame.sig.pre [(D.N n5), (D.V v6), (D.L l7), (D.V v12), (D.L l14)] ∧ (
 ∀ (i16 : Int),
      TSame.sig.post [(D.N n5), (D.V v6), (D.L l7), (D.V v12), (D.L l14), (D.I i16)] →
 (-9223372036854775808 ≤ i16 ∧ i16 < 9223372036854775808) →
      LTableReads.sig.post [(D.S s0), (D.B b1), (D.B (i16 == (0 : Int)))])))))))))))))))) ∧ (
 (b1 = false) →
 ((
   TParse.sig.pre [(D.S s2)] ∧ (
 ∀ (i3 : Int),
   TParse.sig.post [(D.S s2), (D.I i3)] →
 (-9223372036854775808 ≤ i3 ∧ i3 < 9223372036854775808) →
   rMade.sig.pre [] ∧ (
 ∀ (v4 : Value),
 ∀ (z5 : List Int),
 ∀ (v6 : Value),
 ∀ (z7 : List Int),
   rMade.sig.post [(D.V v4), (D.Z z5), (D.V v6), (D.Z z7)] →
 (∀ x ∈ z5, IntKind.has .u32 x) →
 (∀ x ∈ z7, IntKind.has .u32 x) →
   rPs.sig.pre [(D.V v4), (D.Z z5), (D.V v6), (D.Z z7), (D.S s2)] ∧ (
 ∀ (v8 : Value),
 ∀ (i9 : Int),
 ∀ (l10 : List D),
   rPs.sig.post [(D.V v4), (D.Z z5), (D.V v6), (D.Z z7), (D.S s2), (D.V v8), (D.I i9), (D.L l10)] →
 (-9223372036854775808 ≤ i9 ∧ i9 < 9223372036854775808) →
 (EK.ok [.str, .str] (D.L l10)) →
   Awake22.sig.pre [] ∧ (
 ∀ (b11 : Bool),
   Awake22.sig.post [(D.B b11)] →
 ((
 (b11 = false) →
    LTableReads.sig.post [(D.S s0), (D.B b1), (D.B false)]) ∧ (
 (b11 = true) →
 ((
 (i3 ≠ i9) →
     LTableReads.sig.post [(D.S s0), (D.B b1), (D.B false)]) ∧ (
 (i3 = i9) →
 ((
 (true ≠ (!(i9 == (0 : Int)))) →
      LTableReads.sig.post [(D.S s0), (D.B b1), (D.B false)]) ∧ (
 (true = (!(i9 == (0 : Int)))) →
      LTableReads.sig.post [(D.S s0), (D.B b1), (D.B true)]))))))))))) ∧ (
   TParse.sig.pre [(D.S s2)] ∧ (
 ∀ (n3 : Nat),
 ∀ (v4 : Value),
 ∀ (l5 : List D),
   TParse.sig.post2 [(D.S s2), (D.N n3), (D.V v4), (D.L l5)] →
 (EK.ok [.ints .u8 32, .str] (D.L l5)) →
   rMade.sig.pre [] ∧ (
 ∀ (v6 : Value),
 ∀ (z7 : List Int),
 ∀ (v8 : Value),
 ∀ (z9 : List Int),
   rMade.sig.post [(D.V v6), (D.Z z7), (D.V v8), (D.Z z9)] →
 (∀ x ∈ z7, IntKind.has .u32 x) →
 (∀ x ∈ z9, IntKind.has .u32 x) →
   rPs.sig.pre [(D.V v6), (D.Z z7), (D.V v8), (D.Z z9), (D.S s2)] ∧ (
 ∀ (v10 : Value),
 ∀ (i11 : Int),
 ∀ (l12 : List D),
   rPs.sig.post [(D.V v6), (D.Z z7), (D.V v8), (D.Z z9), (D.S s2), (D.V v10), (D.I i11), (D.L l12)] →
 (-9223372036854775808 ≤ i11 ∧ i11 < 9223372036854775808) →
 (EK.ok [.str, .str] (D.L l12)) →
   Awake22.sig.pre [] ∧ (
 ∀ (b13 : Bool),
   Awake22.sig.post [(D.B b13)] →
 ((
 (b13 = false) →
    LTableReads.sig.post [(D.S s0), (D.B b1), (D.B false)]) ∧ (
 (b13 = true) →
 ((
 ((0 : Int) ≠ i11) →
     LTableReads.sig.post [(D.S s0), (D.B b1), (D.B false)]) ∧ (
 ((0 : Int) = i11) →
 ((
 (false ≠ (!(i11 == (0 : Int)))) →
      LTableReads.sig.post [(D.S s0), (D.B b1), (D.B false)]) ∧ (
 (false = (!(i11 == (0 : Int)))) →
      TSame.sig.pre [(D.N n3), (D.V v4), (D.L l5), (D.V v10), (D.L l12)] ∧ (
 ∀ (i14 : Int),
      TSame.sig.post [(D.N n3), (D.V v4), (D.L l5), (D.V v10), (D.L l12), (D.I i14)] →
 (-9223372036854775808 ≤ i14 ∧ i14 < 9223372036854775808) →
      LTableReads.sig.post [(D.S s0), (D.B b1), (D.B (i14 == (0 : Int)))]))))))))))))))))
theorem LTableReads.den : LTableReads.vc.den2 (mkEnv LTableReads.sig [Cut.sig, HOf.sig, TParse.sig, rMade.sig, rPs.sig, Awake22.sig, TSame.sig] []) [] = LTableReads.Pure := by kernel_rfl
end Go.Vc
namespace Go.Vc
theorem TClone.pure : TClone.Pure := by
  intro v0 l1 h1 h2 v2
  have h2 : l1.length ≤ 1000000 := h2
  refine ⟨fun h3 v3 => ?_, fun v3 => ⟨by rw [List.nil_append]; omega, fun _ v4 => List.nil_append _⟩⟩
  have : l1 = [] := List.length_eq_zero_iff.1 (by omega)
  subst this; rfl
theorem TAll.pure : TAll.Pure := by
  intro n0 v1 l2 h1 h2 v3
  exact ⟨h2, fun v4 l5 h3 h4 => h3⟩

theorem refs_at {L : List D} {i : Nat} (hi : i < L.length) : (refs L).getD i default = refRow (entAt L i) := by
  simp [refs, List.getD, hi, entAt]
theorem refs_len (L : List D) : (refs L).length = L.length := by simp [refs]
theorem TSame.pure : TSame.Pure := by
  intro n0 v1 l2 v3 l4 h1 h2 h3
  have h3 : l2.length ≤ 1000000 := h3
  refine ⟨h3, ?_⟩
  intro v5 l6 h4 h5
  have h4 : l6 = l2 := h4
  subst h4
  have neg : ∀ r : Int, l4 ≠ refs l6 → TSame.sig.post [(D.N n0), (D.V v1), (D.L l6), (D.V v3), (D.L l4), (D.I r)] := fun r h h' => absurd h' h
  refine ⟨fun h6 => neg _ (fun e => by rw [e, refs_len] at h6; exact h6 rfl), fun h6 => ⟨trivial, ?_⟩⟩
  intro i7 h7 h8
  have h7 : i7 = l6.length := h7
  refine ⟨fun h9 => by rw [h7] at h9; exact absurd h6 h9, fun h9 => ⟨⟨by omega, by omega, by omega⟩, ?_⟩⟩
  intro i8 h10 h11
  obtain ⟨a1, a2, a3⟩ : 0 ≤ i8 ∧ i8 ≤ l6.length ∧ l6.length = l4.length := h11
  refine ⟨fun h12 => ⟨a1, fun _ n9 => ⟨by omega, fun _ => ?_⟩⟩, fun h12 => fun _ => rfl⟩
  have go : TSame.I0 [(D.N n0), (D.V v1), (D.L l6), (D.V v3), (D.L l4), (D.I (IntKind.wrap .i64 (i8 + (1 : Int))))] ∧ TSame.I0M [(D.N n0), (D.V v1), (D.L l6), (D.V v3), (D.L l4), (D.I (IntKind.wrap .i64 (i8 + (1 : Int))))] < TSame.I0M [(D.N n0), (D.V v1), (D.L l6), (D.V v3), (D.L l4), (D.I i8)] := by
    rw [i64w (by omega) (by omega)]
    refine ⟨⟨by omega, by omega, a3⟩, ?_⟩
    show ((l6.length : Int) - (i8 + 1)).toNat < ((l6.length : Int) - i8).toNat
    omega
  have n1 : ∀ k : Int, textOf (((l6.getD i8.toNat default).toL.getD k.toNat default)).toLi ≠ (((l4.getD i8.toNat default).toL.getD k.toNat default)).toS → k = 0 → l4 ≠ refs l6 := by
    intro k h hk e
    subst hk
    rw [e, refs_at (by omega)] at h
    exact h rfl
  have n2 : ∀ k : Int, (((l6.getD i8.toNat default).toL.getD k.toNat default)).toS ≠ (((l4.getD i8.toNat default).toL.getD k.toNat default)).toS → k = 1 → l4 ≠ refs l6 := by
    intro k h hk e
    subst hk
    rw [e, refs_at (by omega)] at h
    exact h rfl
  have leaf := And.intro (fun h => neg (-1) (n1 0 h rfl)) (fun (_ : textOf (((l6.getD i8.toNat default).toL.getD (0 : Int).toNat default)).toLi = (((l4.getD i8.toNat default).toL.getD (0 : Int).toNat default)).toS) => And.intro (fun h => neg (-1) (n2 1 h rfl)) (fun (_ : (((l6.getD i8.toNat default).toL.getD (1 : Int).toNat default)).toS = (((l4.getD i8.toNat default).toL.getD (1 : Int).toNat default)).toS) => go))
  exact ⟨⟨leaf, leaf⟩, leaf⟩

theorem less_cmp : ∀ {a b : List Int}, a.length = b.length → (∀ x ∈ a, 0 ≤ x ∧ x < 256) → (∀ x ∈ b, 0 ≤ x ∧ x < 256) → Op.bytesLess (a.map u8) (b.map u8) = decide (cmpL a b < 0)
  | [], [], _, _, _ => by simp [Op.bytesLess, cmpL]
  | [], _ :: _, h, _, _ => by simp at h
  | _ :: _, [], h, _, _ => by simp at h
  | x :: a, y :: b, h, ha, hb => by
    have ih := less_cmp (a := a) (b := b) (by simpa using h) (fun z hz => ha z (by simp [hz])) (fun z hz => hb z (by simp [hz]))
    have hx := ha x (by simp)
    have hy := hb y (by simp)
    rw [List.map_cons, List.map_cons, less_step hx hy, ih, cmpL]
    by_cases c : x < y
    · rw [if_pos c, if_pos c]; rfl
    · rw [if_neg c, if_neg c]
      by_cases c2 : x > y
      · rw [if_pos c2, if_neg (by omega)]; rfl
      · rw [if_neg c2, if_pos (by omega)]
theorem less_text {k : List Int} {s : ByteArray} (hl : k.length = s.size) (hk : ∀ x ∈ k, 0 ≤ x ∧ x < 256) : Op.bytesLess (textOf k).toList s.toList = decide (cmpL k (bytesOf s) < 0) := by
  have e : s.toList = (bytesOf s).map u8 := by rw [← toList_textOf, textOf_bytesOf]
  rw [toList_textOf, e]
  exact less_cmp (by rw [hl, bytesOf_length']) hk (bytesOf_has s)

theorem num_err {S : ByteArray} {a e : Int} (he : e ≠ 0) : rdNum S a e = (a, e, 0) := rn_a (pk_err he).symm (.inl he)
theorem tblNum_at (s : ByteArray) : 0 ≤ (tblNum s).1 ∧ (tblNum s).1 ≤ s.size := by
  generalize hx : tblNum s = x
  obtain ⟨a, e, n⟩ := x
  unfold tblNum at hx
  exact rdNum_at (rdRaw_at (r := (rdRaw s 0 0 8).2.2) (e1 := (rdRaw s 0 0 8).2.1) (e := 0) (n := 8) (a := 0) ⟨by omega, by omega⟩ rfl) hx.symm

theorem rPs.pure : rPs.Pure := by
  intro v0 z1 v2 z3 s4 h1 h2 h3 h4 n5 v6
  obtain ⟨rfl, rfl, hs⟩ : z1 = shaStart ∧ z3 = shaRounds ∧ s4.size ≤ 500000 := h4
  have hw : IntKind.wrap .i64 (((s4.size : Nat) : Int) - (32 : Int)) = (s4.size : Int) - 32 := i64w (by omega) (by omega)
  rw [hw]
  refine ⟨?_, ?_⟩
  · intro h5 v7
    have e : tblPs s4 = (2, []) := by rw [tblPs, if_pos (by omega)]
    exact ⟨by rw [e], fun h => by cases h⟩
  · intro h5
    refine ⟨by omega, fun _ => ⟨by omega, fun _ => ?_⟩⟩
    rw [show (0 : Int).toNat = 0 from rfl, show ((s4.size : Int) - 32).toNat = s4.size - 32 from by omega, show ((s4.size : Nat) : Int).toNat = s4.size from by omega, show (8 : Int).toNat = 8 from rfl]
    obtain ⟨S, hS⟩ : ∃ S, S = s4.extract 0 (s4.size - 32) := ⟨_, rfl⟩
    rw [← hS]
    have hz : S.size = s4.size - 32 := by rw [hS, ByteArray.size_extract]; omega
    refine ⟨⟨rfl, rfl, by omega⟩, ?_⟩
    intro s7 h6 h7
    have h6 : s7 = textOf (shaL (bytesOf S)) := h6
    refine ⟨?_, ?_⟩
    · intro h8 v8
      rw [h6, hS] at h8
      have e : tblPs s4 = (4, []) := by rw [tblPs, if_neg (by omega), if_pos h8]
      exact ⟨by rw [e], fun h => by cases h⟩
    · intro h8
      rw [h6] at h8
      have e : tblPs s4 = tblRd S := by
        rw [tblPs, if_neg (by omega), hS.symm]
        rw [if_neg (fun h => h h8)]
      refine ⟨by omega, fun _ => ?_⟩
      have hm : s4.extract 0 8 = S.extract 0 8 := by
        apply text_inj
        rw [hS, bytesOf_extract, bytesOf_extract, bytesOf_extract, List.drop_zero, List.drop_zero, List.drop_zero, List.take_take, Nat.min_eq_left (by omega)]
      rw [hm]
      have hraw : rdRaw S 0 0 8 = (8, 0, S.extract 0 8) := by
        rw [rdRaw, if_neg (by decide), if_neg (by omega)]; rfl
      refine ⟨?_, ?_⟩
      · intro h9 v8
        have en : tblNum S = (8, 3, 0) := by
          unfold tblNum
          rw [hraw]
          simp only
          rw [if_pos ⟨trivial, h9⟩, num_err (by decide)]
        have er : (tblRd S).1 = 3 := by
          unfold tblRd tblAll
          rw [en]
          show rdDone S 8 3 = 3
          unfold rdDone; split <;> rfl
        exact ⟨by rw [e, er], fun h => by cases h⟩
      · intro h9
        have en : tblNum S = rdNum S 8 0 := by
          unfold tblNum
          rw [hraw]
          simp only
          rw [if_neg (fun h => h.2 h9)]
        refine ⟨⟨by omega, by omega, by omega⟩, ?_⟩
        intro i8 i9 i10 h10 h11 h12 h13 n11 v12
        have h10 : (i8, i9, i10) = rdNum S 8 0 := h10
        rw [← h10] at en
        have ha := tblNum_at S
        rw [en] at ha
        have hb : S = bodyT s4 := hS
        refine ⟨⟨hb, ha.1, ha.2, by omega, by rw [en]; exact h13.1, [], rfl, fun _ => ⟨rfl, fun d hd => by cases hd⟩, by simp; split <;> omega, by rw [tblAll, en]; simp⟩, ?_⟩
        intro v13 l14 i15 s16 i17 i18 h14 h15 h16 h17 h18 h19
        obtain ⟨b1, b2, b3, b4, b5, L, c1, c2, c3, c4⟩ : s16 = bodyT s4 ∧ 0 ≤ i17 ∧ i17 ≤ s16.size ∧ 0 ≤ i15 ∧ i15 ≤ (tblNum s16).2.2 ∧ ∃ L : List D, L.length = l14.length ∧ (i18 = 0 → l14 = refs L ∧ ∀ d ∈ L, (keyE d).length = 32 ∧ ∀ x ∈ keyE d, 0 ≤ x ∧ x < 256) ∧
          33 * L.length ≤ i17 + (if i18 = 0 then 0 else 33) ∧ tblGo s16 ((tblNum s16).2.2 - i15).toNat (i17, i18, L) = tblAll s16 := h19
        rw [← hb] at b1
        subst b1
        rw [en] at b5 c4
        simp only at b5 c4
        have fin : (i10 - i15).toNat = 0 ∨ i18 ≠ 0 → cDone.sig.pre [(D.S s16), (D.I i17), (D.I i18)] ∧ ∀ (i19 i20 : Int), cDone.sig.post [(D.S s16), (D.I i17), (D.I i18), (D.I i19), (D.I i20)] →
            (-9223372036854775808 ≤ i19 ∧ i19 < 9223372036854775808) → (-9223372036854775808 ≤ i20 ∧ i20 < 9223372036854775808) →
            (((i20 ≠ (0 : Int)) → ∀ (v21 : Value), rPs.sig.post [(D.V v0), (D.Z shaStart), (D.V v2), (D.Z shaRounds), (D.S s4), (D.V v21), (D.I i20), (D.L ([] : List D))]) ∧
             ((i20 = (0 : Int)) → rPs.sig.post [(D.V v0), (D.Z shaStart), (D.V v2), (D.Z shaRounds), (D.S s4), (D.V v13), (D.I (0 : Int)), (D.L l14)])) := by
          intro hc
          refine ⟨⟨b2, b3, by omega⟩, ?_⟩
          intro i19 i20 h _ _
          obtain ⟨_, h⟩ : i19 = i17 ∧ i20 = rdDone s16 i17 i18 := h
          have d := done_num L _ c4 hc
          rw [← h] at d
          refine ⟨fun h20 v21 => ⟨by rw [e, ← d], fun h' => absurd h' h20⟩, fun h20 => ⟨by rw [e, ← d, h20], fun _ => ?_⟩⟩
          rw [e, ← d]
          have h18 : i18 = 0 := by
            rw [h] at h20; unfold rdDone at h20
            split at h20
            · omega
            · exact h20
          exact (c2 h18).1
        refine ⟨?_, ?_⟩
        · intro h20
          refine ⟨?_, fun h21 => fin (.inr h21)⟩
          intro h21
          subst h21
          rw [if_pos rfl] at c3
          obtain ⟨d1, d2⟩ := c2 rfl
          have e15 : (i10 - i15).toNat = (i10 - (i15 + 1)).toNat + 1 := by omega
          rw [e15, tblGo, if_pos rfl] at c4
          have sr := step_rg (e := 0) (L := L) ⟨b2, b3⟩
          refine ⟨⟨b2, b3, by omega⟩, ?_⟩
          intro i19 i20 s21 h22 h23 h24 h25 n22
          have h22 : (i19, i20, s21) = rdRaw s16 i17 0 32 := h22
          have hb' := rdRaw_at ⟨b2, b3⟩ h22
          refine ⟨⟨hb'.1, hb'.2, by omega⟩, ?_⟩
          intro i23 i24 s25 h26 h27 h28 h29 n26
          have h26 : (i23, i24, s25) = rdText s16 i19 i20 4194304 := h26
          have hw2 : IntKind.wrap .u64 (i15 + 1) = i15 + 1 := u64w (by omega) (by omega)
          rw [hw2]
          have good : i24 = 0 → s21.size = 32 := by
            intro h
            subst h
            have t := text_spell hb' (by decide) h26
            obtain ⟨rfl, _⟩ := t
            have r := raw_spell ⟨b2, b3⟩ h22
            omega
          have hlen : (((l14 ++ [D.L [D.S s21, D.S s25]]).length : Nat) : Int) ≤ 4398046511104 := by
            rw [List.length_append]; simp; omega
          have go : ∀ x : Int, (x = if i24 = 0 ∧ 0 < L.length ∧ 0 ≤ cmpL (keyE (entAt L (L.length - 1))) (key32 s21) then 16 else i24) →
              rPs.I0 [(D.V v0), (D.Z shaStart), (D.V v2), (D.Z shaRounds), (D.S s4), (D.L (l14 ++ [D.L [D.S s21, D.S s25]])), (D.I (i15 + 1)), (D.S s16), (D.I i23), (D.I x)] ∧
              rPs.I0M [(D.V v0), (D.Z shaStart), (D.V v2), (D.Z shaRounds), (D.S s4), (D.L (l14 ++ [D.L [D.S s21, D.S s25]])), (D.I (i15 + 1)), (D.S s16), (D.I i23), (D.I x)] <
              rPs.I0M [(D.V v0), (D.Z shaStart), (D.V v2), (D.Z shaRounds), (D.S s4), (D.L l14), (D.I i15), (D.S s16), (D.I i17), (D.I 0)] := by
            intro x hx
            have es : tblStep s16 (i17, 0, L) = (i23, x, L ++ [rowE (key32 s21) s25]) := by
              unfold tblStep
              simp only
              rw [← h22]
              simp only
              rw [← h26]
              simp only
              rw [← hx]
            rw [es] at sr c4
            refine ⟨⟨hb, sr.1, sr.2.1, by omega, by rw [en]; simp only; omega, L ++ [rowE (key32 s21) s25], by simp [c1], ?_, ?_, by rw [en]; exact c4⟩, ?_⟩
            · intro hx0
              have h24 : i24 = 0 := by
                rw [hx0] at hx
                split at hx
                · omega
                · exact hx.symm
              have hsz := good h24
              have ek : key32 s21 = bytesOf s21 := key32_eq hsz
              refine ⟨?_, ?_⟩
              · rw [d1, refs, refs, List.map_append]
                congr 1
                show [D.L [D.S s21, D.S s25]] = [refRow (rowE (key32 s21) s25)]
                rw [ek]
                show _ = [D.L [D.S (textOf (bytesOf s21)), D.S s25]]
                rw [textOf_bytesOf]
              · intro d hd
                rcases List.mem_append.1 hd with hd | hd
                · exact d2 d hd
                · have hd : d = rowE (key32 s21) s25 := by simpa using hd
                  subst hd
                  show (key32 s21).length = 32 ∧ _
                  rw [ek]
                  exact ⟨by rw [bytesOf_length', hsz], fun x hx => by
                    have : x ∈ bytesOf s21 := hx
                    exact bytesOf_has s21 x this⟩
            · rw [List.length_append]
              simp only [List.length_cons, List.length_nil] at sr ⊢
              by_cases hx0 : x = 0
              · rw [if_pos hx0]; have := sr.2.2.2 hx0; omega
              · rw [if_neg hx0]; omega
            · show ((tblNum s16).2.2 - (i15 + 1)).toNat < ((tblNum s16).2.2 - i15).toNat
              rw [en]; simp only; omega
          refine ⟨?_, ?_⟩
          · intro h30
            have hsz := good h30
            refine ⟨?_, ?_⟩
            · intro h31
              rw [show IntKind.wrap .i64 (((l14.length : Nat) : Int) - (1 : Int)) = (l14.length : Int) - 1 from i64w (by omega) (by omega)]
              refine ⟨by omega, fun _ => ⟨by omega, fun _ => ?_⟩⟩
              have hm := entAt_mem (l := L) (i := L.length - 1) (by omega)
              have hk := d2 _ hm
              have el : (((l14.getD ((l14.length : Int) - 1).toNat default)).toL.getD 0 default).toS = textOf (keyE (entAt L (L.length - 1))) := by
                rw [d1, refs_len, show ((L.length : Int) - 1).toNat = L.length - 1 from by omega, refs_at (by omega)]; rfl
              rw [el, less_text (by rw [hk.1, hsz]) hk.2]
              refine ⟨?_, ?_⟩
              · intro h32 v27
                have g := go 16 (by rw [if_pos ⟨h30, by omega, by rw [key32_eq hsz]; simpa using h32⟩])
                exact ⟨hlen, fun _ _ => g⟩
              · intro h32 v27
                have g := go i24 (by rw [if_neg (fun h => by
                  have := h.2.2
                  rw [key32_eq hsz] at this
                  simp at h32
                  omega)])
                exact ⟨hlen, fun _ _ => g⟩
            · intro h31 v27
              have g := go i24 (by rw [if_neg (fun h => by omega)])
              exact ⟨hlen, fun _ _ => g⟩
          · intro h30 v27
            have g := go i24 (by rw [if_neg (fun h => h30 h.1)])
            exact ⟨hlen, fun _ _ => g⟩
        · intro h20
          exact fin (.inl (by omega))

theorem LTableReads.pure : LTableReads.Pure := by
  intro s0 b1 h1 h2
  refine ⟨by show (0 : Int) ≤ 400; decide, ?_⟩
  intro s2 h3 h4
  have h3 : s2 = if (s0.size : Int) > 400 then s0.extract 0 (400 : Int).toNat else s0 := h3
  have hs : s2.size ≤ 400 := by
    rw [h3]
    split
    · rw [ByteArray.size_extract]; omega
    · omega
  have both : ∀ S : ByteArray, S.size ≤ 500000 → ((
   TParse.sig.pre [(D.S S)] ∧ (
   ∀ (i5 : Int),
   TParse.sig.post [(D.S S), (D.I i5)] →
   (-9223372036854775808 ≤ i5 ∧ i5 < 9223372036854775808) →
   rMade.sig.pre [] ∧ (
   ∀ (v6 : Value),
   ∀ (z7 : List Int),
   ∀ (v8 : Value),
   ∀ (z9 : List Int),
   rMade.sig.post [(D.V v6), (D.Z z7), (D.V v8), (D.Z z9)] →
   (∀ x ∈ z7, IntKind.has .u32 x) →
   (∀ x ∈ z9, IntKind.has .u32 x) →
   rPs.sig.pre [(D.V v6), (D.Z z7), (D.V v8), (D.Z z9), (D.S S)] ∧ (
   ∀ (v10 : Value),
   ∀ (i11 : Int),
   ∀ (l12 : List D),
   rPs.sig.post [(D.V v6), (D.Z z7), (D.V v8), (D.Z z9), (D.S S), (D.V v10), (D.I i11), (D.L l12)] →
   (-9223372036854775808 ≤ i11 ∧ i11 < 9223372036854775808) →
   (EK.ok [.str, .str] (D.L l12)) →
   Awake22.sig.pre [] ∧ (
   ∀ (b13 : Bool),
   Awake22.sig.post [(D.B b13)] →
   ((
    (b13 = false) →
    LTableReads.sig.post [(D.S s0), (D.B b1), (D.B false)]) ∧ (
    (b13 = true) →
    ((
     (i5 ≠ i11) →
     LTableReads.sig.post [(D.S s0), (D.B b1), (D.B false)]) ∧ (
     (i5 = i11) →
     ((
      (true ≠ (!(i11 == (0 : Int)))) →
      LTableReads.sig.post [(D.S s0), (D.B b1), (D.B false)]) ∧ (
      (true = (!(i11 == (0 : Int)))) →
      LTableReads.sig.post [(D.S s0), (D.B b1), (D.B true)]))))))))))) ∧ (
   TParse.sig.pre [(D.S S)] ∧ (
   ∀ (n5 : Nat),
   ∀ (v6 : Value),
   ∀ (l7 : List D),
   TParse.sig.post2 [(D.S S), (D.N n5), (D.V v6), (D.L l7)] →
   (EK.ok [.ints .u8 32, .str] (D.L l7)) →
   rMade.sig.pre [] ∧ (
   ∀ (v8 : Value),
   ∀ (z9 : List Int),
   ∀ (v10 : Value),
   ∀ (z11 : List Int),
   rMade.sig.post [(D.V v8), (D.Z z9), (D.V v10), (D.Z z11)] →
   (∀ x ∈ z9, IntKind.has .u32 x) →
   (∀ x ∈ z11, IntKind.has .u32 x) →
   rPs.sig.pre [(D.V v8), (D.Z z9), (D.V v10), (D.Z z11), (D.S S)] ∧ (
   ∀ (v12 : Value),
   ∀ (i13 : Int),
   ∀ (l14 : List D),
   rPs.sig.post [(D.V v8), (D.Z z9), (D.V v10), (D.Z z11), (D.S S), (D.V v12), (D.I i13), (D.L l14)] →
   (-9223372036854775808 ≤ i13 ∧ i13 < 9223372036854775808) →
   (EK.ok [.str, .str] (D.L l14)) →
   Awake22.sig.pre [] ∧ (
   ∀ (b15 : Bool),
   Awake22.sig.post [(D.B b15)] →
   ((
    (b15 = false) →
    LTableReads.sig.post [(D.S s0), (D.B b1), (D.B false)]) ∧ (
    (b15 = true) →
    ((
     ((0 : Int) ≠ i13) →
     LTableReads.sig.post [(D.S s0), (D.B b1), (D.B false)]) ∧ (
     ((0 : Int) = i13) →
     ((
      (false ≠ (!(i13 == (0 : Int)))) →
      LTableReads.sig.post [(D.S s0), (D.B b1), (D.B false)]) ∧ (
      (false = (!(i13 == (0 : Int)))) →
      TSame.sig.pre [(D.N n5), (D.V v6), (D.L l7), (D.V v12), (D.L l14)] ∧ (
      ∀ (i16 : Int),
      TSame.sig.post [(D.N n5), (D.V v6), (D.L l7), (D.V v12), (D.L l14), (D.I i16)] →
      (-9223372036854775808 ≤ i16 ∧ i16 < 9223372036854775808) →
      LTableReads.sig.post [(D.S s0), (D.B b1), (D.B (i16 == (0 : Int)))]))))))))))))) := by
    intro S hS
    refine ⟨⟨hS, ?_⟩, ⟨hS, ?_⟩⟩
    · intro i5 h5 _
      obtain ⟨h5, h5'⟩ : i5 ≠ 0 ∧ i5 = (tblPs S).1 := h5
      refine ⟨trivial, ?_⟩
      intro v6 z7 v8 z9 h6 _ _
      refine ⟨⟨h6.1, h6.2, hS⟩, ?_⟩
      intro v10 i11 l12 h7 _ _
      have h7 : i11 = (tblPs S).1 := h7.1
      have e : i11 = i5 := by rw [h7, h5']
      refine ⟨trivial, fun b13 h8 => ?_⟩
      have h8 : b13 = true := of_yes (l := []) h8
      have hz : (i11 == (0 : Int)) = false := by rw [e]; simpa using h5
      exact ⟨(fun h => by rw [h8] at h; cases h), fun _ => ⟨fun h => absurd e.symm h, fun _ => ⟨fun h => by rw [hz] at h; exact absurd rfl h, fun _ => yesB (l := [_, _]) rfl⟩⟩⟩
    · intro n5 v6 l7 h5 h5k
      obtain ⟨h5, h5'⟩ : (tblPs S).1 = 0 ∧ l7 = (tblPs S).2 := h5
      have hl : l7.length ≤ 1000000 := by
        have p := ps_ok h5
        rw [p.2] at h5 h5'
        have := (tbl_spell h5).2
        rw [← h5', ByteArray.size_extract] at this
        omega
      refine ⟨trivial, ?_⟩
      intro v8 z9 v10 z11 h6 _ _
      refine ⟨⟨h6.1, h6.2, hS⟩, ?_⟩
      intro v12 i13 l14 h7 _ _
      obtain ⟨h7, h7'⟩ : i13 = (tblPs S).1 ∧ (i13 = 0 → l14 = refs (tblPs S).2) := h7
      have e : i13 = 0 := by rw [h7, h5]
      refine ⟨trivial, fun b15 h8 => ?_⟩
      have h8 : b15 = true := of_yes (l := []) h8
      have hz : (i13 == (0 : Int)) = true := by rw [e]; rfl
      refine ⟨(fun h => by rw [h8] at h; cases h), fun _ => ⟨fun h => absurd e.symm h, fun _ => ⟨fun h => by rw [hz] at h; exact absurd rfl h, fun _ => ⟨hl, fun i16 h9 _ => ?_⟩⟩⟩⟩
      have h9 : i16 = 0 := h9 (by rw [h7' e, ← h5'])
      exact yesB (l := [_, _]) (by rw [h9]; rfl)
  refine ⟨?_, ?_⟩
  · intro h5
    refine ⟨by show s2.size ≤ 1000000; omega, ?_⟩
    intro z3 h6 h7 h8 n4
    have hz : (s2 ++ textOf z3).size = s2.size + 32 := by rw [ByteArray.size_append, textOf_size, h7]
    exact ⟨by omega, fun _ => both _ (by omega)⟩
  · intro h5
    exact both s2 (by omega)
end Go.Vc
