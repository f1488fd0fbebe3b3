/-
  Contracts of tables: texts by names, in order.
  Printed by wip/vct.py: the conditions of functions, by their contracts.
  Tables: the plain part.
  Tables: bytes that are read as a table are its bytes.
  Tables: bytes that are read as a table are its bytes.
-/
import Derived.Test.YtnnjpgenekgciaaDoorShab
import Derived.Test.YtnnjpgenekgciaaDoorPackb
import Derived.KernelRfl
import Derived.Test.YtnnjpgenekgciaaDoorPackc
set_option linter.unusedVariables false
set_option linter.unusedSimpArgs false
namespace Go.Vc
/-- Entries: a name of 32 bytes, and a text. -/
def entK : EK := [.ints .u8 32, .str]
def keyE (r : D) : List Int := (r.toL.getD 0 default).toLi
def textE (r : D) : ByteArray := (r.toL.getD 1 default).toS
def rowE (k : List Int) (s : ByteArray) : D := .L [.Z k, .S s]
def entAt (L : List D) (i : Nat) : D := L.getD i default
/-- By rising names. -/
def rising (L : List D) : Prop := ∀ i j, i < j → j < L.length → cmpL (keyE (entAt L i)) (keyE (entAt L j)) < 0
/-- i is the place of k. -/
def placeOf (L : List D) (k : List Int) (i : Int) (f : Bool) : Prop :=
  0 ≤ i ∧ i ≤ L.length ∧ (∀ t : Nat, (t : Int) < i → cmpL (keyE (entAt L t)) k < 0) ∧ (∀ t : Nat, i ≤ (t : Int) → t < L.length → 0 ≤ cmpL (keyE (entAt L t)) k) ∧ f = (decide (i < L.length) && decide (cmpL (keyE (entAt L i.toNat)) k = 0))

def ECmp.post : List D → Prop
  | [.Z a, .S _, .Z k, .I r] => r = cmpL a k
  | _ => False
def ECmp.sig : Sig := { args := [.one (.agg [.ints .u8 32 (.at 0), .lf (.str (.at 1))]), arr .u8 32 2], heap := [], srts := [.Z, .S, .Z], res := aI .i64 3, heap' := [], news := [.I], pre := tru, post := ECmp.post }
def BSF.pre : List D → Prop
  | [.V _, .L L, .Z _] => rising L ∧ L.length ≤ 1000000
  | _ => False
def BSF.post : List D → Prop
  | [.V _, .L L, .Z k, .I i, .B f] => placeOf L k i f
  | _ => False
def BSF.sig (g : FuncId) : Sig := { args := [.one (.lf (.sl (.at 0))), arr .u8 32 2, .one (.lf (.fn g))], heap := [.rsl (.at 0) entK (.at 1)], srts := [.V, .L, .Z], res := .tup [.lf (.int .i64 (.at 3)), .lf (.bool (.at 4))], heap' := [], news := [.I, .B], pre := BSF.pre, post := BSF.post }
def BSF.I0 : List D → Prop
  | [.V _, .L L, .Z k, .I i, .I j] => 0 ≤ i ∧ i ≤ j ∧ j ≤ L.length ∧ (∀ t : Nat, (t : Int) < i → cmpL (keyE (entAt L t)) k < 0) ∧ (∀ t : Nat, j ≤ (t : Int) → t < L.length → 0 ≤ cmpL (keyE (entAt L t)) k)
  | _ => False
def BSF.I0M : List D → Nat
  | [.V _, .L _, .Z _, .I i, .I j] => (j - i).toNat
  | _ => 0

/-- A table, from the atom n on (its address: the atom 0). -/
def tbl (n : Nat) : List Ch := [.box (.at 0) [.lf (.sl (.at n))], .osl (.at n) entK (.at (n + 1))]
def TFind.pre : List D → Prop
  | [.N _, .V _, .L L, .Z _] => rising L ∧ L.length ≤ 1000000
  | _ => False
def TFind.post : List D → Prop
  | [.N _, .V _, .L L, .Z k, .I i, .B f] => placeOf L k i f
  | _ => False
def TFind.sig : Sig := { args := [.one (.lf (.ptr (.at 0) 0)), arr .u8 32 3], heap := tbl 1, srts := [.N, .V, .L, .Z], res := .tup [.lf (.int .i64 (.at 4)), .lf (.bool (.at 5))], heap' := tbl 1, news := [.I, .B], pre := TFind.pre, post := TFind.post }
def TLen.post : List D → Prop
  | [.N _, .V _, .L L, .I r] => r = L.length
  | _ => False
def TLen.sig : Sig := { args := [.one (.lf (.ptr (.at 0) 0))], heap := tbl 1, srts := [.N, .V, .L], res := aI .i64 3, heap' := tbl 1, news := [.I], pre := tru, post := TLen.post }
def TGet.post : List D → Prop
  | [.N _, .V _, .L L, .Z k, .S s, .B f] => ∃ i, placeOf L k i f ∧ s = if f then textE (entAt L i.toNat) else ByteArray.empty
  | _ => False
def TGet.sig : Sig := { args := [.one (.lf (.ptr (.at 0) 0)), arr .u8 32 3], heap := tbl 1, srts := [.N, .V, .L, .Z], res := .tup [.lf (.str (.at 4)), .lf (.bool (.at 5))], heap' := tbl 1, news := [.S, .B], pre := TFind.pre, post := TGet.post }

/-- At the end alone. -/
def TIns.pre : List D → Prop
  | [.V _, .L L, .I i, .V _, .L v] => i = L.length ∧ 1 ≤ v.length ∧ L.length ≤ 1000000 ∧ v.length ≤ 1000000
  | _ => False
def TIns.post : List D → Prop
  | [.V _, .L L, .I _, .V _, .L v, .V _, .L r] => r = L ++ v
  | _ => False
def TIns.sig : Sig := { args := [.one (.lf (.sl (.at 0))), aI .i64 2, .one (.lf (.sl (.at 3)))], heap := [.osl (.at 0) entK (.at 1), .rsl (.at 3) entK (.at 4)], srts := [.V, .L, .I, .V, .L], res := .one (.lf (.sl (.at 5))), heap' := [.osl (.at 5) entK (.at 6)], news := [.V, .L], pre := TIns.pre, post := TIns.post }
/-- Into an empty table, or where the name is there. -/
def TPut.pre : List D → Prop
  | [.N _, .V _, .L L, .Z k, .S _] => L = [] ∨ (rising L ∧ L.length ≤ 1000000 ∧ ∃ i : Nat, i < L.length ∧ cmpL (keyE (entAt L i)) k = 0)
  | _ => False
def TPut.post : List D → Prop
  | [.N _, .V _, .L L, .Z k, .S s, .V _, .L L', .B f] => (L = [] → L' = [rowE k s] ∧ f = true) ∧ (L ≠ [] → L' = L ∧ f = false)
  | _ => False
def TPut.sig : Sig := { args := [.one (.lf (.ptr (.at 0) 0)), arr .u8 32 3, aS 4], heap := tbl 1, srts := [.N, .V, .L, .Z, .S], res := aB 7, heap' := tbl 5, news := [.V, .L, .B], pre := TPut.pre, post := TPut.post }
/-- A table's bytes, without the seal; with it. -/
def entB (r : D) : List Int := keyE r ++ textB (textE r)
def tblB (L : List D) : List Int := [79, 82, 68, 69, 65, 76, 84, 49] ++ numB L.length ++ L.flatMap entB
def sealB (l : List Int) : List Int := l ++ shaL l
def TBytes.pre : List D → Prop
  | [.N _, .V _, .L L] => L.length ≤ 900000 ∧ (tblB L).length ≤ 900000
  | _ => False
def TBytes.post : List D → Prop
  | [.N _, .V _, .L L, .S r] => r = textOf (sealB (tblB L))
  | _ => False
def TBytes.sig : Sig := { args := [.one (.lf (.ptr (.at 0) 0))], heap := tbl 1, srts := [.N, .V, .L], res := aS 3, heap' := tbl 1, news := [.S], pre := TBytes.pre, post := TBytes.post }
def TBytes.I0 : List D → Prop
  | [.N _, .V _, .L L, .I i, .Z z] => 0 ≤ i ∧ i ≤ L.length ∧ z = [79, 82, 68, 69, 65, 76, 84, 49] ++ numB L.length ++ (L.take i.toNat).flatMap entB
  | _ => False
def TBytes.I0M : List D → Nat
  | [.N _, .V _, .L L, .I i, .Z _] => (L.length - i).toNat
  | _ => 0

/-- 32 bytes of a text, with zeros behind. -/
def key32 (s : ByteArray) : List Int := ((bytesOf s).take (32 : Int).toNat) ++ ((List.replicate (32 : Int).toNat (0 : Int)).drop (((bytesOf s).length : Nat) : Int).toNat)
def tblMagic : ByteArray := ⟨#[79, 82, 68, 69, 65, 76, 84, 49]⟩
/-- One more entry: the place, the error, the entries. -/
def tblStep (s : ByteArray) (x : Int × Int × List D) : Int × Int × List D :=
  let r := rdRaw s x.1 x.2.1 32
  let t := rdText s r.1 r.2.1 4194304
  (t.1, if t.2.1 = 0 ∧ 0 < x.2.2.length ∧ 0 ≤ cmpL (keyE (entAt x.2.2 (x.2.2.length - 1))) (key32 r.2.2) then 16 else t.2.1, x.2.2 ++ [rowE (key32 r.2.2) t.2.2])
def tblGo (s : ByteArray) : Nat → Int × Int × List D → Int × Int × List D
  | 0, x => x
  | n + 1, x => if x.2.1 = 0 then tblGo s n (tblStep s x) else x
/-- How many are said to come: the place, the error, the number. -/
def tblNum (s : ByteArray) : Int × Int × Int :=
  let r := rdRaw s 0 0 8
  rdNum s r.1 (if r.2.1 = 0 ∧ r.2.2 ≠ tblMagic then 3 else r.2.1)
def tblAll (s : ByteArray) : Int × Int × List D := tblGo s (tblNum s).2.2.toNat ((tblNum s).1, (tblNum s).2.1, [])
/-- The error, and the entries. -/
def tblRd (s : ByteArray) : Int × List D := (rdDone s (tblAll s).1 (tblAll s).2.1, (tblAll s).2.2)
def tblPs (s : ByteArray) : Int × List D :=
  if s.size < 40 then (2, []) else if textOf (shaL (bytesOf (s.extract 0 (s.size - 32)))) ≠ s.extract (s.size - 32) s.size then (4, []) else tblRd (s.extract 0 (s.size - 32))

/-- Nil and an error, or a table and none. -/
def tblOr (post post2 pre : List D → Prop) : Sig :=
  { args := [aS 0], heap := [], srts := [.S], res := .tup [.lf .nilp, .lf (.int .i64 (.at 1))], heap' := [], news := [.I],
    alt := some (.tup [.lf (.ptr (.at 1) 0), .lf (.int .i64 (.int 0))], [.box (.at 1) [.lf (.sl (.at 2))], .osl (.at 2) entK (.at 3)], [.N, .V, .L]), pre := pre, post := post, post2 := post2 }
def TRead.pre : List D → Prop
  | [.S s] => s.size ≤ 500000
  | _ => False
def TRead.post : List D → Prop
  | [.S s, .I e] => e ≠ 0 ∧ e = (tblRd s).1
  | _ => False
def TRead.post2 : List D → Prop
  | [.S s, .N _, .V _, .L L] => (tblRd s).1 = 0 ∧ L = (tblRd s).2
  | _ => False
def TRead.sig : Sig := tblOr TRead.post TRead.post2 TRead.pre
def TRead.I0 : List D → Prop
  | [.S s, .I n, .S s', .I a, .I e, .L L] => s' = s ∧ 0 ≤ a ∧ a ≤ s.size ∧ 33 * L.length ≤ a + (if e = 0 then 0 else 33) ∧ tblGo s n.toNat (a, e, L) = tblAll s
  | _ => False
def TRead.I0M : List D → Nat
  | [.S _, .I n, .S _, .I _, .I _, .L _] => n.toNat
  | _ => 0
def TRead.T : St :=
  ⟨jk 4 ++ [.one (.lf (.ptr (.at 1) 0)), .one (.lf (.ptr (.at 2) 0)), .one (.lf (.int .u64 (.at 3)))] ++ jk 76,
    [.box (.at 1) [.lf (.str (.at 0)), .lf (.int .i64 (.at 4)), .lf (.int .i64 (.at 5))], .box (.at 2) [.lf (.sl (.at 6))], .osl (.at 6) [.ints .u8 32, .str] .lnil], [.S, .N, .N, .I, .I, .I, .V]⟩
def TRead.J0 : List D → Prop
  | [.S s, .I n, .I a, .I e] => (a, e, n) = tblNum s
  | _ => False
def TRead.J0M : List D → Nat := fun _ => 0
def TParse.post : List D → Prop
  | [.S s, .I e] => e ≠ 0 ∧ e = (tblPs s).1
  | _ => False
def TParse.post2 : List D → Prop
  | [.S s, .N _, .V _, .L L] => (tblPs s).1 = 0 ∧ L = (tblPs s).2
  | _ => False
def TParse.sig : Sig := tblOr TParse.post TParse.post2 TRead.pre
def Awake22.sig : Sig := sigF [] [.b] tru yes
end Go.Vc
namespace Go.Vc
set_option linter.unusedVariables false
def ECmp.vc : VC :=
 (.all .Z
 (.all .S
 (.all .Z
 (.know (.len (.at 0) 32)
 (.know (.allHas .u8 (.at 0))
 (.know (.ssz (.at 1))
 (.know (.len (.at 2) 32)
 (.know (.allHas .u8 (.at 2))
 (.post 0 [(.at 0), (.at 1), (.at 2)]
 (.all .N
 (.all .N
 (.pre 1 [(.at 0), (.at 2)]
 (.all .I
 (.post 1 [(.at 0), (.at 2), (.at 5)]
 (.know (.has .i64 (.at 5))
 (.ret [(.at 0), (.at 1), (.at 2), (.at 5)]))))))))))))))))
def ECmp.Pure : Prop :=
 ∀ (z0 : List Int),
 ∀ (s1 : ByteArray),
 ∀ (z2 : List Int),
 (z0.length = 32) →
 (∀ x ∈ z0, IntKind.has .u8 x) →
 ((s1.size : Int) ≤ 9223372036854775807) →
 (z2.length = 32) →
 (∀ x ∈ z2, IntKind.has .u8 x) →
 ECmp.sig.pre [(D.Z z0), (D.S s1), (D.Z z2)] →
 ∀ (n3 : Nat),
 ∀ (n4 : Nat),
 HCmp.sig.pre [(D.Z z0), (D.Z z2)] ∧ (
 ∀ (i5 : Int),
 HCmp.sig.post [(D.Z z0), (D.Z z2), (D.I i5)] →
 (-9223372036854775808 ≤ i5 ∧ i5 < 9223372036854775808) →
 ECmp.sig.post [(D.Z z0), (D.S s1), (D.Z z2), (D.I i5)])
theorem ECmp.den : ECmp.vc.den2 (mkEnv ECmp.sig [HCmp.sig] []) [] = ECmp.Pure := by kernel_rfl
def BSF.vc : VC :=
 (.all .V
 (.all .L
 (.all .Z
 (.know (.len (.at 2) 32)
 (.know (.allHas .u8 (.at 2))
 (.know (.ekok [.ints .u8 32, .str] (.at 1))
 (.post 0 [(.at 0), (.at 1), (.at 2)]
 (.all .N
 (.inv 0 [(.at 0), (.at 1), (.at 2), (.int 0), (.o1 .llen (.at 1))]
 (.all .I
 (.all .I
 (.know (.has .i64 (.at 4))
 (.know (.has .i64 (.at 5))
 (.asm 0 [(.at 0), (.at 1), (.at 2), (.at 4), (.at 5)]
 (.and
 (.imp (.o2 .lt (.at 4) (.at 5)) true
 (.obl (.o2 .le (.int 0) (.o1 (.wrap .i64) (.o2 (.shr .u64) (.o1 (.wrap .u64) (.o2 (.add .i64) (.at 4) (.at 5))) (.int 1))))
 (.obl (.o2 .lt (.o1 (.wrap .i64) (.o2 (.shr .u64) (.o1 (.wrap .u64) (.o2 (.add .i64) (.at 4) (.at 5))) (.int 1))) (.o1 .llen (.at 1)))
 (.pre 1 [(.o1 .asZ (.o2 .lget (.o1 .asL (.o2 .lget (.at 1) (.o1 (.wrap .i64) (.o2 (.shr .u64) (.o1 (.wrap .u64) (.o2 (.add .i64) (.at 4) (.at 5))) (.int 1))))) (.int 0))), (.o1 .asS (.o2 .lget (.o1 .asL (.o2 .lget (.at 1) (.o1 (.wrap .i64) (.o2 (.shr .u64) (.o1 (.wrap .u64) (.o2 (.add .i64) (.at 4) (.at 5))) (.int 1))))) (.int 1))), (.at 2)]
 (.all .I
 (.post 1 [(.o1 .asZ (.o2 .lget (.o1 .asL (.o2 .lget (.at 1) (.o1 (.wrap .i64) (.o2 (.shr .u64) (.o1 (.wrap .u64) (.o2 (.add .i64) (.at 4) (.at 5))) (.int 1))))) (.int 0))), (.o1 .asS (.o2 .lget (.o1 .asL (.o2 .lget (.at 1) (.o1 (.wrap .i64) (.o2 (.shr .u64) (.o1 (.wrap .u64) (.o2 (.add .i64) (.at 4) (.at 5))) (.int 1))))) (.int 1))), (.at 2), (.at 6)]
 (.know (.has .i64 (.at 6))
 (.and
 (.imp (.o2 .lt (.at 6) (.int 0)) true
 (.back 0 [(.at 0), (.at 1), (.at 2), (.at 4), (.at 5)] [(.at 0), (.at 1), (.at 2), (.o2 (.add .i64) (.o1 (.wrap .i64) (.o2 (.shr .u64) (.o1 (.wrap .u64) (.o2 (.add .i64) (.at 4) (.at 5))) (.int 1))) (.int 1)), (.at 5)]))
 (.imp (.o2 .lt (.at 6) (.int 0)) false
 (.back 0 [(.at 0), (.at 1), (.at 2), (.at 4), (.at 5)] [(.at 0), (.at 1), (.at 2), (.at 4), (.o1 (.wrap .i64) (.o2 (.shr .u64) (.o1 (.wrap .u64) (.o2 (.add .i64) (.at 4) (.at 5))) (.int 1)))]))))))))))
 (.imp (.o2 .lt (.at 4) (.at 5)) false
 (.and
 (.imp (.o2 .lt (.at 4) (.o1 .llen (.at 1))) true
 (.obl (.o2 .le (.int 0) (.at 4))
 (.pre 1 [(.o1 .asZ (.o2 .lget (.o1 .asL (.o2 .lget (.at 1) (.at 4))) (.int 0))), (.o1 .asS (.o2 .lget (.o1 .asL (.o2 .lget (.at 1) (.at 4))) (.int 1))), (.at 2)]
 (.all .I
 (.post 1 [(.o1 .asZ (.o2 .lget (.o1 .asL (.o2 .lget (.at 1) (.at 4))) (.int 0))), (.o1 .asS (.o2 .lget (.o1 .asL (.o2 .lget (.at 1) (.at 4))) (.int 1))), (.at 2), (.at 6)]
 (.know (.has .i64 (.at 6))
 (.ret [(.at 0), (.at 1), (.at 2), (.at 4), (.o2 .eq (.at 6) (.int 0))])))))))
 (.imp (.o2 .lt (.at 4) (.o1 .llen (.at 1))) false
 (.ret [(.at 0), (.at 1), (.at 2), (.at 4), (.bool false)])))))))))))))))))))
def BSF.Pure : Prop :=
 ∀ (v0 : Value),
 ∀ (l1 : List D),
 ∀ (z2 : List Int),
 (z2.length = 32) →
 (∀ x ∈ z2, IntKind.has .u8 x) →
 (EK.ok [.ints .u8 32, .str] (D.L l1)) →
 (BSF.sig 0).pre [(D.V v0), (D.L l1), (D.Z z2)] →
 ∀ (n3 : Nat),
 BSF.I0 [(D.V v0), (D.L l1), (D.Z z2), (D.I (0 : Int)), (D.I ((l1.length : Nat) : Int))] ∧ (
 ∀ (i4 : Int),
 ∀ (i5 : Int),
 (-9223372036854775808 ≤ i4 ∧ i4 < 9223372036854775808) →
 (-9223372036854775808 ≤ i5 ∧ i5 < 9223372036854775808) →
 BSF.I0 [(D.V v0), (D.L l1), (D.Z z2), (D.I i4), (D.I i5)] →
 ((
 (i4 < i5) →
 ((0 : Int) ≤ (IntKind.wrap .i64 (shrI .u64 (IntKind.wrap .u64 (IntKind.wrap .i64 (i4 + i5))) (1 : Int)))) ∧ (((0 : Int) ≤ (IntKind.wrap .i64 (shrI .u64 (IntKind.wrap .u64 (IntKind.wrap .i64 (i4 + i5))) (1 : Int)))) →
 ((IntKind.wrap .i64 (shrI .u64 (IntKind.wrap .u64 (IntKind.wrap .i64 (i4 + i5))) (1 : Int))) < ((l1.length : Nat) : Int)) ∧ (((IntKind.wrap .i64 (shrI .u64 (IntKind.wrap .u64 (IntKind.wrap .i64 (i4 + i5))) (1 : Int))) < ((l1.length : Nat) : Int)) →
  ECmp.sig.pre [(D.Z ((((l1.getD (IntKind.wrap .i64 (shrI .u64 (IntKind.wrap .u64 (IntKind.wrap .i64 (i4 + i5))) (1 : Int))).toNat default)).toL.getD (0 : Int).toNat default)).toLi), (D.S ((((l1.getD (IntKind.wrap .i64 (shrI .u64 (IntKind.wrap .u64 (IntKind.wrap .i64 (i4 + i5))) (1 : Int))).toNat default)).toL.getD (1 : Int).toNat default)).toS), (D.Z z2)] ∧ (
 ∀ (i6 : Int),
  ECmp.sig.post [(D.Z ((((l1.getD (IntKind.wrap .i64 (shrI .u64 (IntKind.wrap .u64 (IntKind.wrap .i64 (i4 + i5))) (1 : Int))).toNat default)).toL.getD (0 : Int).toNat default)).toLi), (D.S ((((l1.getD (IntKind.wrap .i64 (shrI .u64 (IntKind.wrap .u64 (IntKind.wrap .i64 (i4 + i5))) (1 : Int))).toNat default)).toL.getD (1 : Int).toNat default)).toS), (D.Z z2), (D.I i6)] →
 (-9223372036854775808 ≤ i6 ∧ i6 < 9223372036854775808) →
 ((
 (i6 < (0 : Int)) →
   BSF.I0 [(D.V v0), (D.L l1), (D.Z z2), (D.I (IntKind.wrap .i64 ((IntKind.wrap .i64 (shrI .u64 (IntKind.wrap .u64 (IntKind.wrap .i64 (i4 + i5))) (1 : Int))) + (1 : Int)))), (D.I i5)] ∧ BSF.I0M [(D.V v0), (D.L l1), (D.Z z2), (D.I (IntKind.wrap .i64 ((IntKind.wrap .i64 (shrI .u64 (IntKind.wrap .u64 (IntKind.wrap .i64 (i4 + i5))) (1 : Int))) + (1 : Int)))), (D.I i5)] < BSF.I0M [(D.V v0), (D.L l1), (D.Z z2), (D.I i4), (D.I i5)]) ∧ (
 ((0 : Int) ≤ i6) →
   BSF.I0 [(D.V v0), (D.L l1), (D.Z z2), (D.I i4), (D.I (IntKind.wrap .i64 (shrI .u64 (IntKind.wrap .u64 (IntKind.wrap .i64 (i4 + i5))) (1 : Int))))] ∧ BSF.I0M [(D.V v0), (D.L l1), (D.Z z2), (D.I i4), (D.I (IntKind.wrap .i64 (shrI .u64 (IntKind.wrap .u64 (IntKind.wrap .i64 (i4 + i5))) (1 : Int))))] < BSF.I0M [(D.V v0), (D.L l1), (D.Z z2), (D.I i4), (D.I i5)])))))) ∧ (
 (i5 ≤ i4) →
 ((
 (i4 < ((l1.length : Nat) : Int)) →
 ((0 : Int) ≤ i4) ∧ (((0 : Int) ≤ i4) →
   ECmp.sig.pre [(D.Z ((((l1.getD i4.toNat default)).toL.getD (0 : Int).toNat default)).toLi), (D.S ((((l1.getD i4.toNat default)).toL.getD (1 : Int).toNat default)).toS), (D.Z z2)] ∧ (
 ∀ (i6 : Int),
   ECmp.sig.post [(D.Z ((((l1.getD i4.toNat default)).toL.getD (0 : Int).toNat default)).toLi), (D.S ((((l1.getD i4.toNat default)).toL.getD (1 : Int).toNat default)).toS), (D.Z z2), (D.I i6)] →
 (-9223372036854775808 ≤ i6 ∧ i6 < 9223372036854775808) →
 (BSF.sig 0).post [(D.V v0), (D.L l1), (D.Z z2), (D.I i4), (D.B (i6 == (0 : Int)))]))) ∧ (
 (((l1.length : Nat) : Int) ≤ i4) →
 (BSF.sig 0).post [(D.V v0), (D.L l1), (D.Z z2), (D.I i4), (D.B false)])))))
theorem BSF.den (g : FuncId) : BSF.vc.den2 (mkEnv (BSF.sig g) [ECmp.sig] [(BSF.I0, BSF.I0M)]) [] = BSF.Pure := by kernel_rfl
def TFind.vc : VC :=
 (.all .N
 (.all .V
 (.all .L
 (.all .Z
 (.know (.len (.at 3) 32)
 (.know (.allHas .u8 (.at 3))
 (.know (.ekok [.ints .u8 32, .str] (.at 2))
 (.post 0 [(.at 0), (.at 1), (.at 2), (.at 3)]
 (.all .N
 (.pre 1 [(.at 1), (.at 2), (.at 3)]
 (.all .I
 (.all .B
 (.post 1 [(.at 1), (.at 2), (.at 3), (.at 5), (.at 6)]
 (.know (.has .i64 (.at 5))
 (.ret [(.at 0), (.at 1), (.at 2), (.at 3), (.at 5), (.at 6)])))))))))))))))
def TFind.Pure : Prop :=
 ∀ (n0 : Nat),
 ∀ (v1 : Value),
 ∀ (l2 : List D),
 ∀ (z3 : List Int),
 (z3.length = 32) →
 (∀ x ∈ z3, IntKind.has .u8 x) →
 (EK.ok [.ints .u8 32, .str] (D.L l2)) →
 TFind.sig.pre [(D.N n0), (D.V v1), (D.L l2), (D.Z z3)] →
 ∀ (n4 : Nat),
 (BSF.sig 0).pre [(D.V v1), (D.L l2), (D.Z z3)] ∧ (
 ∀ (i5 : Int),
 ∀ (b6 : Bool),
 (BSF.sig 0).post [(D.V v1), (D.L l2), (D.Z z3), (D.I i5), (D.B b6)] →
 (-9223372036854775808 ≤ i5 ∧ i5 < 9223372036854775808) →
 TFind.sig.post [(D.N n0), (D.V v1), (D.L l2), (D.Z z3), (D.I i5), (D.B b6)])
theorem TFind.den (g : FuncId) : TFind.vc.den2 (mkEnv TFind.sig [(BSF.sig g)] []) [] = TFind.Pure := by kernel_rfl
def TLen.vc : VC :=
 (.all .N
 (.all .V
 (.all .L
 (.know (.ekok [.ints .u8 32, .str] (.at 2))
 (.post 0 [(.at 0), (.at 1), (.at 2)]
 (.ret [(.at 0), (.at 1), (.at 2), (.o1 .llen (.at 2))]))))))
def TLen.Pure : Prop :=
 ∀ (n0 : Nat),
 ∀ (v1 : Value),
 ∀ (l2 : List D),
 (EK.ok [.ints .u8 32, .str] (D.L l2)) →
 TLen.sig.pre [(D.N n0), (D.V v1), (D.L l2)] →
 TLen.sig.post [(D.N n0), (D.V v1), (D.L l2), (D.I ((l2.length : Nat) : Int))]
theorem TLen.den : TLen.vc.den2 (mkEnv TLen.sig [] []) [] = TLen.Pure := by kernel_rfl
def TGet.vc : VC :=
 (.all .N
 (.all .V
 (.all .L
 (.all .Z
 (.know (.len (.at 3) 32)
 (.know (.allHas .u8 (.at 3))
 (.know (.ekok [.ints .u8 32, .str] (.at 2))
 (.post 0 [(.at 0), (.at 1), (.at 2), (.at 3)]
 (.all .N
 (.pre 1 [(.at 0), (.at 1), (.at 2), (.at 3)]
 (.all .I
 (.all .B
 (.post 1 [(.at 0), (.at 1), (.at 2), (.at 3), (.at 5), (.at 6)]
 (.know (.has .i64 (.at 5))
 (.and
 (.imp (.o1 .not (.at 6)) true
 (.ret [(.at 0), (.at 1), (.at 2), (.at 3), (.str ⟨#[]⟩), (.bool false)]))
 (.imp (.o1 .not (.at 6)) false
 (.obl (.o2 .le (.int 0) (.at 5))
 (.obl (.o2 .lt (.at 5) (.o1 .llen (.at 2)))
 (.ret [(.at 0), (.at 1), (.at 2), (.at 3), (.o1 .asS (.o2 .lget (.o1 .asL (.o2 .lget (.at 2) (.at 5))) (.int 1))), (.bool true)])))))))))))))))))))
def TGet.Pure : Prop :=
 ∀ (n0 : Nat),
 ∀ (v1 : Value),
 ∀ (l2 : List D),
 ∀ (z3 : List Int),
 (z3.length = 32) →
 (∀ x ∈ z3, IntKind.has .u8 x) →
 (EK.ok [.ints .u8 32, .str] (D.L l2)) →
 TGet.sig.pre [(D.N n0), (D.V v1), (D.L l2), (D.Z z3)] →
 ∀ (n4 : Nat),
 TFind.sig.pre [(D.N n0), (D.V v1), (D.L l2), (D.Z z3)] ∧ (
 ∀ (i5 : Int),
 ∀ (b6 : Bool),
 TFind.sig.post [(D.N n0), (D.V v1), (D.L l2), (D.Z z3), (D.I i5), (D.B b6)] →
 (-9223372036854775808 ≤ i5 ∧ i5 < 9223372036854775808) →
 ((
 (b6 = false) →
  TGet.sig.post [(D.N n0), (D.V v1), (D.L l2), (D.Z z3), (D.S (⟨#[]⟩ : ByteArray)), (D.B false)]) ∧ (
 (b6 = true) →
 ((0 : Int) ≤ i5) ∧ (((0 : Int) ≤ i5) →
 (i5 < ((l2.length : Nat) : Int)) ∧ ((i5 < ((l2.length : Nat) : Int)) →
  TGet.sig.post [(D.N n0), (D.V v1), (D.L l2), (D.Z z3), (D.S ((((l2.getD i5.toNat default)).toL.getD (1 : Int).toNat default)).toS), (D.B true)])))))
theorem TGet.den : TGet.vc.den2 (mkEnv TGet.sig [TFind.sig] []) [] = TGet.Pure := by kernel_rfl
def TIns.vc : VC :=
 (.all .V
 (.all .L
 (.all .I
 (.all .V
 (.all .L
 (.know (.has .i64 (.at 2))
 (.know (.ekok [.ints .u8 32, .str] (.at 1))
 (.know (.ekok [.ints .u8 32, .str] (.at 4))
 (.post 0 [(.at 0), (.at 1), (.at 2), (.at 3), (.at 4)]
 (.all .V
 (.obl (.o2 .le (.at 2) (.o1 .llen (.at 1)))
 (.obl (.o2 .le (.int 0) (.at 2))
 (.and
 (.imp (.o2 .eq (.o1 .llen (.at 4)) (.int 0)) true
 (.obl (.bool false)
  .tt))
 (.imp (.o2 .eq (.o1 .llen (.at 4)) (.int 0)) false
 (.and
 (.imp (.o2 .eq (.at 2) (.o1 .llen (.at 1))) true
 (.obl (.o2 .le (.o1 .llen (.o2 .lapp (.at 1) (.at 4))) (.int 2932031007402))
 (.all .V
 (.ret [(.at 0), (.at 1), (.at 2), (.at 3), (.at 4), (.at 6), (.o2 .lapp (.at 1) (.at 4))]))))
 (.imp (.o2 .eq (.at 2) (.o1 .llen (.at 1))) false
 (.obl (.bool false)
   .tt)))))))))))))))))
def TIns.Pure : Prop :=
 ∀ (v0 : Value),
 ∀ (l1 : List D),
 ∀ (i2 : Int),
 ∀ (v3 : Value),
 ∀ (l4 : List D),
 (-9223372036854775808 ≤ i2 ∧ i2 < 9223372036854775808) →
 (EK.ok [.ints .u8 32, .str] (D.L l1)) →
 (EK.ok [.ints .u8 32, .str] (D.L l4)) →
 TIns.sig.pre [(D.V v0), (D.L l1), (D.I i2), (D.V v3), (D.L l4)] →
 ∀ (v5 : Value),
 (i2 ≤ ((l1.length : Nat) : Int)) ∧ ((i2 ≤ ((l1.length : Nat) : Int)) →
 ((0 : Int) ≤ i2) ∧ (((0 : Int) ≤ i2) →
 ((
 (((l4.length : Nat) : Int) = (0 : Int)) →
 (false = true) ∧ ((false = true) →
  True)) ∧ (
 (((l4.length : Nat) : Int) ≠ (0 : Int)) →
 ((
 (i2 = ((l1.length : Nat) : Int)) →
 ((((l1 ++ l4).length : Nat) : Int) ≤ (2932031007402 : Int)) ∧ (((((l1 ++ l4).length : Nat) : Int) ≤ (2932031007402 : Int)) →
 ∀ (v6 : Value),
   TIns.sig.post [(D.V v0), (D.L l1), (D.I i2), (D.V v3), (D.L l4), (D.V v6), (D.L (l1 ++ l4))])) ∧ (
 (i2 ≠ ((l1.length : Nat) : Int)) →
 (false = true) ∧ ((false = true) →
   True)))))))
theorem TIns.den : TIns.vc.den2 (mkEnv TIns.sig [] []) [] = TIns.Pure := by kernel_rfl
def TPut.vc : VC :=
 (.all .N
 (.all .V
 (.all .L
 (.all .Z
 (.all .S
 (.know (.len (.at 3) 32)
 (.know (.allHas .u8 (.at 3))
 (.know (.ssz (.at 4))
 (.know (.ekok [.ints .u8 32, .str] (.at 2))
 (.post 0 [(.at 0), (.at 1), (.at 2), (.at 3), (.at 4)]
 (.all .N
 (.pre 1 [(.at 0), (.at 1), (.at 2), (.at 3)]
 (.all .I
 (.all .B
 (.post 1 [(.at 0), (.at 1), (.at 2), (.at 3), (.at 6), (.at 7)]
 (.know (.has .i64 (.at 6))
 (.and
 (.imp (.o1 .not (.at 7)) true
 (.and
 (.all .V
 (.pre 2 [(.at 1), (.at 2), (.at 6), (.at 8), (.o2 .lcons (.o2 .lcons (.o1 .asZ (.at 3)) (.o2 .lcons (.o1 .asS (.at 4)) .lnil)) .lnil)]
 (.all .V
 (.all .L
 (.post 2 [(.at 1), (.at 2), (.at 6), (.at 8), (.o2 .lcons (.o2 .lcons (.o1 .asZ (.at 3)) (.o2 .lcons (.o1 .asS (.at 4)) .lnil)) .lnil), (.at 9), (.at 10)]
 (.know (.ekok [.ints .u8 32, .str] (.at 10))
 (.ret [(.at 0), (.at 1), (.at 2), (.at 3), (.at 4), (.at 9), (.at 10), (.o1 .not (.at 7))])))))))
 (.and
 (.all .V
 (.pre 2 [(.at 1), (.at 2), (.at 6), (.at 8), (.o2 .lcons (.o2 .lcons (.o1 .asZ (.at 3)) (.o2 .lcons (.o1 .asS (.at 4)) .lnil)) .lnil)]
 (.all .V
 (.all .L
 (.post 2 [(.at 1), (.at 2), (.at 6), (.at 8), (.o2 .lcons (.o2 .lcons (.o1 .asZ (.at 3)) (.o2 .lcons (.o1 .asS (.at 4)) .lnil)) .lnil), (.at 9), (.at 10)]
 (.know (.ekok [.ints .u8 32, .str] (.at 10))
 (.ret [(.at 0), (.at 1), (.at 2), (.at 3), (.at 4), (.at 9), (.at 10), (.o1 .not (.at 7))])))))))
 (.all .V
 (.pre 2 [(.at 1), (.at 2), (.at 6), (.at 8), (.o2 .lcons (.o2 .lcons (.o1 .asZ (.at 3)) (.o2 .lcons (.o1 .asS (.at 4)) .lnil)) .lnil)]
 (.all .V
 (.all .L
 (.post 2 [(.at 1), (.at 2), (.at 6), (.at 8), (.o2 .lcons (.o2 .lcons (.o1 .asZ (.at 3)) (.o2 .lcons (.o1 .asS (.at 4)) .lnil)) .lnil), (.at 9), (.at 10)]
 (.know (.ekok [.ints .u8 32, .str] (.at 10))
 (.ret [(.at 0), (.at 1), (.at 2), (.at 3), (.at 4), (.at 9), (.at 10), (.o1 .not (.at 7))]))))))))))
 (.imp (.o1 .not (.at 7)) false
 (.ret [(.at 0), (.at 1), (.at 2), (.at 3), (.at 4), (.at 1), (.at 2), (.o1 .not (.at 7))])))))))))))))))))))
def TPut.Pure : Prop :=
 ∀ (n0 : Nat),
 ∀ (v1 : Value),
 ∀ (l2 : List D),
 ∀ (z3 : List Int),
 ∀ (s4 : ByteArray),
 (z3.length = 32) →
 (∀ x ∈ z3, IntKind.has .u8 x) →
 ((s4.size : Int) ≤ 9223372036854775807) →
 (EK.ok [.ints .u8 32, .str] (D.L l2)) →
 TPut.sig.pre [(D.N n0), (D.V v1), (D.L l2), (D.Z z3), (D.S s4)] →
 ∀ (n5 : Nat),
 TFind.sig.pre [(D.N n0), (D.V v1), (D.L l2), (D.Z z3)] ∧ (
 ∀ (i6 : Int),
 ∀ (b7 : Bool),
 TFind.sig.post [(D.N n0), (D.V v1), (D.L l2), (D.Z z3), (D.I i6), (D.B b7)] →
 (-9223372036854775808 ≤ i6 ∧ i6 < 9223372036854775808) →
 ((
 (b7 = false) →
 ((
 ∀ (v8 : Value),
   TIns.sig.pre [(D.V v1), (D.L l2), (D.I i6), (D.V v8), (D.L ((D.L ((D.Z z3) :: ((D.S s4) :: ([] : List D)))) :: ([] : List D)))] ∧ (
 ∀ (v9 : Value),
 ∀ (l10 : List D),
   TIns.sig.post [(D.V v1), (D.L l2), (D.I i6), (D.V v8), (D.L ((D.L ((D.Z z3) :: ((D.S s4) :: ([] : List D)))) :: ([] : List D))), (D.V v9), (D.L l10)] →
 (EK.ok [.ints .u8 32, .str] (D.L l10)) →
   TPut.sig.post [(D.N n0), (D.V v1), (D.L l2), (D.Z z3), (D.S s4), (D.V v9), (D.L l10), (D.B (!b7))])) ∧ (
 ((
 ∀ (v8 : Value),
    TIns.sig.pre [(D.V v1), (D.L l2), (D.I i6), (D.V v8), (D.L ((D.L ((D.Z z3) :: ((D.S s4) :: ([] : List D)))) :: ([] : List D)))] ∧ (
 ∀ (v9 : Value),
 ∀ (l10 : List D),
    TIns.sig.post [(D.V v1), (D.L l2), (D.I i6), (D.V v8), (D.L ((D.L ((D.Z z3) :: ((D.S s4) :: ([] : List D)))) :: ([] : List D))), (D.V v9), (D.L l10)] →
 (EK.ok [.ints .u8 32, .str] (D.L l10)) →
    TPut.sig.post [(D.N n0), (D.V v1), (D.L l2), (D.Z z3), (D.S s4), (D.V v9), (D.L l10), (D.B (!b7))])) ∧ (
 ∀ (v8 : Value),
    TIns.sig.pre [(D.V v1), (D.L l2), (D.I i6), (D.V v8), (D.L ((D.L ((D.Z z3) :: ((D.S s4) :: ([] : List D)))) :: ([] : List D)))] ∧ (
 ∀ (v9 : Value),
 ∀ (l10 : List D),
    TIns.sig.post [(D.V v1), (D.L l2), (D.I i6), (D.V v8), (D.L ((D.L ((D.Z z3) :: ((D.S s4) :: ([] : List D)))) :: ([] : List D))), (D.V v9), (D.L l10)] →
 (EK.ok [.ints .u8 32, .str] (D.L l10)) →
    TPut.sig.post [(D.N n0), (D.V v1), (D.L l2), (D.Z z3), (D.S s4), (D.V v9), (D.L l10), (D.B (!b7))])))))) ∧ (
 (b7 = true) →
  TPut.sig.post [(D.N n0), (D.V v1), (D.L l2), (D.Z z3), (D.S s4), (D.V v1), (D.L l2), (D.B (!b7))])))
theorem TPut.den : TPut.vc.den2 (mkEnv TPut.sig [TFind.sig, TIns.sig] []) [] = TPut.Pure := by kernel_rfl
def TBytes.vc : VC :=
 (.all .N
 (.all .V
 (.all .L
 (.know (.ekok [.ints .u8 32, .str] (.at 2))
 (.post 0 [(.at 0), (.at 1), (.at 2)]
 (.all .V
 (.all .N
 (.pre 1 [(.at 4), (.at 3), (.lis []), (.str ⟨#[79, 82, 68, 69, 65, 76, 84, 49]⟩)]
 (.all .V
 (.all .Z
 (.post 1 [(.at 4), (.at 3), (.lis []), (.str ⟨#[79, 82, 68, 69, 65, 76, 84, 49]⟩), (.at 5), (.at 6)]
 (.know (.allHas .u8 (.at 6))
 (.pre 2 [(.at 4), (.at 5), (.at 6), (.o1 (.wrap .u64) (.o1 .llen (.at 2)))]
 (.all .V
 (.all .Z
 (.post 2 [(.at 4), (.at 5), (.at 6), (.o1 (.wrap .u64) (.o1 .llen (.at 2))), (.at 7), (.at 8)]
 (.know (.allHas .u8 (.at 8))
 (.inv 0 [(.at 0), (.at 1), (.at 2), (.int 0), (.at 8)]
 (.all .I
 (.all .V
 (.all .Z
 (.know (.has .i64 (.at 9))
 (.know (.allHas .u8 (.at 11))
 (.asm 0 [(.at 0), (.at 1), (.at 2), (.at 9), (.at 11)]
 (.and
 (.imp (.o2 .lt (.at 9) (.o1 .llen (.at 2))) true
 (.obl (.o2 .le (.int 0) (.at 9))
 (.all .N
 (.pre 1 [(.at 4), (.at 10), (.at 11), (.o1 .ofLi (.o1 .asZ (.o2 .lget (.o1 .asL (.o2 .lget (.at 2) (.at 9))) (.int 0))))]
 (.all .V
 (.all .Z
 (.post 1 [(.at 4), (.at 10), (.at 11), (.o1 .ofLi (.o1 .asZ (.o2 .lget (.o1 .asL (.o2 .lget (.at 2) (.at 9))) (.int 0)))), (.at 13), (.at 14)]
 (.know (.allHas .u8 (.at 14))
 (.pre 3 [(.at 4), (.at 13), (.at 14), (.o1 .asS (.o2 .lget (.o1 .asL (.o2 .lget (.at 2) (.at 9))) (.int 1)))]
 (.all .V
 (.all .Z
 (.post 3 [(.at 4), (.at 13), (.at 14), (.o1 .asS (.o2 .lget (.o1 .asL (.o2 .lget (.at 2) (.at 9))) (.int 1))), (.at 15), (.at 16)]
 (.know (.allHas .u8 (.at 16))
 (.back 0 [(.at 0), (.at 1), (.at 2), (.at 9), (.at 11)] [(.at 0), (.at 1), (.at 2), (.o2 (.add .i64) (.at 9) (.int 1)), (.at 16)]))))))))))))))
 (.imp (.o2 .lt (.at 9) (.o1 .llen (.at 2))) false
 (.pre 4 [(.at 4), (.at 10), (.at 11)]
 (.all .S
 (.post 4 [(.at 4), (.at 10), (.at 11), (.at 12)]
 (.know (.ssz (.at 12))
 (.pre 5 [(.at 12)]
 (.all .Z
 (.post 5 [(.at 12), (.at 13)]
 (.know (.len (.at 13) 32)
 (.know (.allHas .u8 (.at 13))
 (.all .N
 (.pre 1 [(.at 4), (.at 10), (.at 11), (.o1 .ofLi (.at 13))]
 (.all .V
 (.all .Z
 (.post 1 [(.at 4), (.at 10), (.at 11), (.o1 .ofLi (.at 13)), (.at 15), (.at 16)]
 (.know (.allHas .u8 (.at 16))
 (.pre 4 [(.at 4), (.at 15), (.at 16)]
 (.all .S
 (.post 4 [(.at 4), (.at 15), (.at 16), (.at 17)]
 (.know (.ssz (.at 17))
 (.ret [(.at 0), (.at 1), (.at 2), (.at 17)]))))))))))))))))))))))))))))))))))))))))))))))
def TBytes.Pure : Prop :=
 ∀ (n0 : Nat),
 ∀ (v1 : Value),
 ∀ (l2 : List D),
 (EK.ok [.ints .u8 32, .str] (D.L l2)) →
 TBytes.sig.pre [(D.N n0), (D.V v1), (D.L l2)] →
 ∀ (v3 : Value),
 ∀ (n4 : Nat),
 WRaw.sig.pre [(D.N n4), (D.V v3), (D.Z ([] : List Int)), (D.S (⟨#[79, 82, 68, 69, 65, 76, 84, 49]⟩ : ByteArray))] ∧ (
 ∀ (v5 : Value),
 ∀ (z6 : List Int),
 WRaw.sig.post [(D.N n4), (D.V v3), (D.Z ([] : List Int)), (D.S (⟨#[79, 82, 68, 69, 65, 76, 84, 49]⟩ : ByteArray)), (D.V v5), (D.Z z6)] →
 (∀ x ∈ z6, IntKind.has .u8 x) →
 WNum.sig.pre [(D.N n4), (D.V v5), (D.Z z6), (D.I (IntKind.wrap .u64 ((l2.length : Nat) : Int)))] ∧ (
 ∀ (v7 : Value),
 ∀ (z8 : List Int),
 WNum.sig.post [(D.N n4), (D.V v5), (D.Z z6), (D.I (IntKind.wrap .u64 ((l2.length : Nat) : Int))), (D.V v7), (D.Z z8)] →
 (∀ x ∈ z8, IntKind.has .u8 x) →
 TBytes.I0 [(D.N n0), (D.V v1), (D.L l2), (D.I (0 : Int)), (D.Z z8)] ∧ (
 ∀ (i9 : Int),
 ∀ (v10 : Value),
 ∀ (z11 : List Int),
 (-9223372036854775808 ≤ i9 ∧ i9 < 9223372036854775808) →
 (∀ x ∈ z11, IntKind.has .u8 x) →
 TBytes.I0 [(D.N n0), (D.V v1), (D.L l2), (D.I i9), (D.Z z11)] →
 ((
 (i9 < ((l2.length : Nat) : Int)) →
 ((0 : Int) ≤ i9) ∧ (((0 : Int) ≤ i9) →
 ∀ (n12 : Nat),
  WRaw.sig.pre [(D.N n4), (D.V v10), (D.Z z11), (D.S (textOf ((((l2.getD i9.toNat default)).toL.getD (0 : Int).toNat default)).toLi))] ∧ (
 ∀ (v13 : Value),
 ∀ (z14 : List Int),
  WRaw.sig.post [(D.N n4), (D.V v10), (D.Z z11), (D.S (textOf ((((l2.getD i9.toNat default)).toL.getD (0 : Int).toNat default)).toLi)), (D.V v13), (D.Z z14)] →
 (∀ x ∈ z14, IntKind.has .u8 x) →
  WText.sig.pre [(D.N n4), (D.V v13), (D.Z z14), (D.S ((((l2.getD i9.toNat default)).toL.getD (1 : Int).toNat default)).toS)] ∧ (
 ∀ (v15 : Value),
 ∀ (z16 : List Int),
  WText.sig.post [(D.N n4), (D.V v13), (D.Z z14), (D.S ((((l2.getD i9.toNat default)).toL.getD (1 : Int).toNat default)).toS), (D.V v15), (D.Z z16)] →
 (∀ x ∈ z16, IntKind.has .u8 x) →
  TBytes.I0 [(D.N n0), (D.V v1), (D.L l2), (D.I (IntKind.wrap .i64 (i9 + (1 : Int)))), (D.Z z16)] ∧ TBytes.I0M [(D.N n0), (D.V v1), (D.L l2), (D.I (IntKind.wrap .i64 (i9 + (1 : Int)))), (D.Z z16)] < TBytes.I0M [(D.N n0), (D.V v1), (D.L l2), (D.I i9), (D.Z z11)])))) ∧ (
 (((l2.length : Nat) : Int) ≤ i9) →
  WBytes.sig.pre [(D.N n4), (D.V v10), (D.Z z11)] ∧ (
 ∀ (s12 : ByteArray),
  WBytes.sig.post [(D.N n4), (D.V v10), (D.Z z11), (D.S s12)] →
 ((s12.size : Int) ≤ 9223372036854775807) →
  HOf.sig.pre [(D.S s12)] ∧ (
 ∀ (z13 : List Int),
  HOf.sig.post [(D.S s12), (D.Z z13)] →
 (z13.length = 32) →
 (∀ x ∈ z13, IntKind.has .u8 x) →
 ∀ (n14 : Nat),
  WRaw.sig.pre [(D.N n4), (D.V v10), (D.Z z11), (D.S (textOf z13))] ∧ (
 ∀ (v15 : Value),
 ∀ (z16 : List Int),
  WRaw.sig.post [(D.N n4), (D.V v10), (D.Z z11), (D.S (textOf z13)), (D.V v15), (D.Z z16)] →
 (∀ x ∈ z16, IntKind.has .u8 x) →
  WBytes.sig.pre [(D.N n4), (D.V v15), (D.Z z16)] ∧ (
 ∀ (s17 : ByteArray),
  WBytes.sig.post [(D.N n4), (D.V v15), (D.Z z16), (D.S s17)] →
 ((s17.size : Int) ≤ 9223372036854775807) →
  TBytes.sig.post [(D.N n0), (D.V v1), (D.L l2), (D.S s17)])))))))))
theorem TBytes.den : TBytes.vc.den2 (mkEnv TBytes.sig [WRaw.sig, WNum.sig, WText.sig, WBytes.sig, HOf.sig] [(TBytes.I0, TBytes.I0M)]) [] = TBytes.Pure := by kernel_rfl
def TRead.k0 : VC :=
 (.pre 2 [(.at 1), (.at 8), (.at 9), (.at 10), (.int 32)]
 (.all .I
 (.all .I
 (.all .S
 (.post 2 [(.at 1), (.at 8), (.at 9), (.at 10), (.int 32), (.at 14), (.at 15), (.at 16)]
 (.know (.ssz (.at 16))
 (.know (.has .i64 (.at 14))
 (.know (.has .i64 (.at 15))
 (.pre 6 [(.at 1), (.at 8), (.at 14), (.at 15), (.int 4194304)]
 (.all .I
 (.all .I
 (.all .S
 (.post 6 [(.at 1), (.at 8), (.at 14), (.at 15), (.int 4194304), (.at 17), (.at 18), (.at 19)]
 (.know (.ssz (.at 19))
 (.know (.has .i64 (.at 17))
 (.know (.has .i64 (.at 18))
 (.pre 5 [(.at 1), (.at 8), (.at 17), (.at 18)]
 (.post 5 [(.at 1), (.at 8), (.at 17), (.at 18)]
 (.and
 (.imp (.o2 .eq (.at 18) (.int 0)) true
 (.and
 (.imp (.o2 .lt (.int 0) (.o1 .llen (.at 12))) true
 (.obl (.o2 .le (.int 0) (.o2 (.sub .i64) (.o1 .llen (.at 12)) (.int 1)))
 (.obl (.o2 .lt (.o2 (.sub .i64) (.o1 .llen (.at 12)) (.int 1)) (.o1 .llen (.at 12)))
 (.pre 7 [(.o1 .asZ (.o2 .lget (.o1 .asL (.o2 .lget (.at 12) (.o2 (.sub .i64) (.o1 .llen (.at 12)) (.int 1)))) (.int 0))), (.o2 .liapp (.o2 .litake (.o1 .toLi (.at 16)) (.int 32)) (.o2 .lidrop (.o2 .lirep (.int 32) (.int 0)) (.o1 .lilen (.o1 .toLi (.at 16)))))]
 (.all .I
 (.post 7 [(.o1 .asZ (.o2 .lget (.o1 .asL (.o2 .lget (.at 12) (.o2 (.sub .i64) (.o1 .llen (.at 12)) (.int 1)))) (.int 0))), (.o2 .liapp (.o2 .litake (.o1 .toLi (.at 16)) (.int 32)) (.o2 .lidrop (.o2 .lirep (.int 32) (.int 0)) (.o1 .lilen (.o1 .toLi (.at 16))))), (.at 20)]
 (.know (.has .i64 (.at 20))
 (.and
 (.imp (.o2 .le (.int 0) (.at 20)) true
 (.pre 4 [(.at 1), (.at 8), (.at 17), (.at 18), (.int 16)]
 (.all .I
 (.all .I
 (.post 4 [(.at 1), (.at 8), (.at 17), (.at 18), (.int 16), (.at 21), (.at 22)]
 (.know (.has .i64 (.at 21))
 (.know (.has .i64 (.at 22))
 (.and
 (.all .V
 (.obl (.o2 .le (.o1 .llen (.o2 .lapp (.at 12) (.o2 .lcons (.o2 .lcons (.o1 .asZ (.o2 .liapp (.o2 .litake (.o1 .toLi (.at 16)) (.int 32)) (.o2 .lidrop (.o2 .lirep (.int 32) (.int 0)) (.o1 .lilen (.o1 .toLi (.at 16)))))) (.o2 .lcons (.o1 .asS (.at 19)) .lnil)) .lnil))) (.int 2932031007402))
 (.all .V
 (.back 0 [(.at 0), (.at 7), (.at 8), (.at 9), (.at 10), (.at 12)] [(.at 0), (.o2 (.sub .u64) (.at 7) (.int 1)), (.at 8), (.at 21), (.at 22), (.o2 .lapp (.at 12) (.o2 .lcons (.o2 .lcons (.o1 .asZ (.o2 .liapp (.o2 .litake (.o1 .toLi (.at 16)) (.int 32)) (.o2 .lidrop (.o2 .lirep (.int 32) (.int 0)) (.o1 .lilen (.o1 .toLi (.at 16)))))) (.o2 .lcons (.o1 .asS (.at 19)) .lnil)) .lnil))]))))
 (.and
 (.all .V
 (.obl (.o2 .le (.o1 .llen (.o2 .lapp (.at 12) (.o2 .lcons (.o2 .lcons (.o1 .asZ (.o2 .liapp (.o2 .litake (.o1 .toLi (.at 16)) (.int 32)) (.o2 .lidrop (.o2 .lirep (.int 32) (.int 0)) (.o1 .lilen (.o1 .toLi (.at 16)))))) (.o2 .lcons (.o1 .asS (.at 19)) .lnil)) .lnil))) (.int 2932031007402))
 (.all .V
 (.back 0 [(.at 0), (.at 7), (.at 8), (.at 9), (.at 10), (.at 12)] [(.at 0), (.o2 (.sub .u64) (.at 7) (.int 1)), (.at 8), (.at 21), (.at 22), (.o2 .lapp (.at 12) (.o2 .lcons (.o2 .lcons (.o1 .asZ (.o2 .liapp (.o2 .litake (.o1 .toLi (.at 16)) (.int 32)) (.o2 .lidrop (.o2 .lirep (.int 32) (.int 0)) (.o1 .lilen (.o1 .toLi (.at 16)))))) (.o2 .lcons (.o1 .asS (.at 19)) .lnil)) .lnil))]))))
 (.all .V
 (.obl (.o2 .le (.o1 .llen (.o2 .lapp (.at 12) (.o2 .lcons (.o2 .lcons (.o1 .asZ (.o2 .liapp (.o2 .litake (.o1 .toLi (.at 16)) (.int 32)) (.o2 .lidrop (.o2 .lirep (.int 32) (.int 0)) (.o1 .lilen (.o1 .toLi (.at 16)))))) (.o2 .lcons (.o1 .asS (.at 19)) .lnil)) .lnil))) (.int 2932031007402))
 (.all .V
 (.back 0 [(.at 0), (.at 7), (.at 8), (.at 9), (.at 10), (.at 12)] [(.at 0), (.o2 (.sub .u64) (.at 7) (.int 1)), (.at 8), (.at 21), (.at 22), (.o2 .lapp (.at 12) (.o2 .lcons (.o2 .lcons (.o1 .asZ (.o2 .liapp (.o2 .litake (.o1 .toLi (.at 16)) (.int 32)) (.o2 .lidrop (.o2 .lirep (.int 32) (.int 0)) (.o1 .lilen (.o1 .toLi (.at 16)))))) (.o2 .lcons (.o1 .asS (.at 19)) .lnil)) .lnil))])))))))))))))
 (.imp (.o2 .le (.int 0) (.at 20)) false
 (.and
 (.all .V
 (.obl (.o2 .le (.o1 .llen (.o2 .lapp (.at 12) (.o2 .lcons (.o2 .lcons (.o1 .asZ (.o2 .liapp (.o2 .litake (.o1 .toLi (.at 16)) (.int 32)) (.o2 .lidrop (.o2 .lirep (.int 32) (.int 0)) (.o1 .lilen (.o1 .toLi (.at 16)))))) (.o2 .lcons (.o1 .asS (.at 19)) .lnil)) .lnil))) (.int 2932031007402))
 (.all .V
 (.back 0 [(.at 0), (.at 7), (.at 8), (.at 9), (.at 10), (.at 12)] [(.at 0), (.o2 (.sub .u64) (.at 7) (.int 1)), (.at 8), (.at 17), (.at 18), (.o2 .lapp (.at 12) (.o2 .lcons (.o2 .lcons (.o1 .asZ (.o2 .liapp (.o2 .litake (.o1 .toLi (.at 16)) (.int 32)) (.o2 .lidrop (.o2 .lirep (.int 32) (.int 0)) (.o1 .lilen (.o1 .toLi (.at 16)))))) (.o2 .lcons (.o1 .asS (.at 19)) .lnil)) .lnil))]))))
 (.and
 (.all .V
 (.obl (.o2 .le (.o1 .llen (.o2 .lapp (.at 12) (.o2 .lcons (.o2 .lcons (.o1 .asZ (.o2 .liapp (.o2 .litake (.o1 .toLi (.at 16)) (.int 32)) (.o2 .lidrop (.o2 .lirep (.int 32) (.int 0)) (.o1 .lilen (.o1 .toLi (.at 16)))))) (.o2 .lcons (.o1 .asS (.at 19)) .lnil)) .lnil))) (.int 2932031007402))
 (.all .V
 (.back 0 [(.at 0), (.at 7), (.at 8), (.at 9), (.at 10), (.at 12)] [(.at 0), (.o2 (.sub .u64) (.at 7) (.int 1)), (.at 8), (.at 17), (.at 18), (.o2 .lapp (.at 12) (.o2 .lcons (.o2 .lcons (.o1 .asZ (.o2 .liapp (.o2 .litake (.o1 .toLi (.at 16)) (.int 32)) (.o2 .lidrop (.o2 .lirep (.int 32) (.int 0)) (.o1 .lilen (.o1 .toLi (.at 16)))))) (.o2 .lcons (.o1 .asS (.at 19)) .lnil)) .lnil))]))))
 (.all .V
 (.obl (.o2 .le (.o1 .llen (.o2 .lapp (.at 12) (.o2 .lcons (.o2 .lcons (.o1 .asZ (.o2 .liapp (.o2 .litake (.o1 .toLi (.at 16)) (.int 32)) (.o2 .lidrop (.o2 .lirep (.int 32) (.int 0)) (.o1 .lilen (.o1 .toLi (.at 16)))))) (.o2 .lcons (.o1 .asS (.at 19)) .lnil)) .lnil))) (.int 2932031007402))
 (.all .V
 (.back 0 [(.at 0), (.at 7), (.at 8), (.at 9), (.at 10), (.at 12)] [(.at 0), (.o2 (.sub .u64) (.at 7) (.int 1)), (.at 8), (.at 17), (.at 18), (.o2 .lapp (.at 12) (.o2 .lcons (.o2 .lcons (.o1 .asZ (.o2 .liapp (.o2 .litake (.o1 .toLi (.at 16)) (.int 32)) (.o2 .lidrop (.o2 .lirep (.int 32) (.int 0)) (.o1 .lilen (.o1 .toLi (.at 16)))))) (.o2 .lcons (.o1 .asS (.at 19)) .lnil)) .lnil))])))))))))))))))
 (.imp (.o2 .lt (.int 0) (.o1 .llen (.at 12))) false
 (.and
 (.all .V
 (.obl (.o2 .le (.o1 .llen (.o2 .lapp (.at 12) (.o2 .lcons (.o2 .lcons (.o1 .asZ (.o2 .liapp (.o2 .litake (.o1 .toLi (.at 16)) (.int 32)) (.o2 .lidrop (.o2 .lirep (.int 32) (.int 0)) (.o1 .lilen (.o1 .toLi (.at 16)))))) (.o2 .lcons (.o1 .asS (.at 19)) .lnil)) .lnil))) (.int 2932031007402))
 (.all .V
 (.back 0 [(.at 0), (.at 7), (.at 8), (.at 9), (.at 10), (.at 12)] [(.at 0), (.o2 (.sub .u64) (.at 7) (.int 1)), (.at 8), (.at 17), (.at 18), (.o2 .lapp (.at 12) (.o2 .lcons (.o2 .lcons (.o1 .asZ (.o2 .liapp (.o2 .litake (.o1 .toLi (.at 16)) (.int 32)) (.o2 .lidrop (.o2 .lirep (.int 32) (.int 0)) (.o1 .lilen (.o1 .toLi (.at 16)))))) (.o2 .lcons (.o1 .asS (.at 19)) .lnil)) .lnil))]))))
 (.and
 (.all .V
 (.obl (.o2 .le (.o1 .llen (.o2 .lapp (.at 12) (.o2 .lcons (.o2 .lcons (.o1 .asZ (.o2 .liapp (.o2 .litake (.o1 .toLi (.at 16)) (.int 32)) (.o2 .lidrop (.o2 .lirep (.int 32) (.int 0)) (.o1 .lilen (.o1 .toLi (.at 16)))))) (.o2 .lcons (.o1 .asS (.at 19)) .lnil)) .lnil))) (.int 2932031007402))
 (.all .V
 (.back 0 [(.at 0), (.at 7), (.at 8), (.at 9), (.at 10), (.at 12)] [(.at 0), (.o2 (.sub .u64) (.at 7) (.int 1)), (.at 8), (.at 17), (.at 18), (.o2 .lapp (.at 12) (.o2 .lcons (.o2 .lcons (.o1 .asZ (.o2 .liapp (.o2 .litake (.o1 .toLi (.at 16)) (.int 32)) (.o2 .lidrop (.o2 .lirep (.int 32) (.int 0)) (.o1 .lilen (.o1 .toLi (.at 16)))))) (.o2 .lcons (.o1 .asS (.at 19)) .lnil)) .lnil))]))))
 (.all .V
 (.obl (.o2 .le (.o1 .llen (.o2 .lapp (.at 12) (.o2 .lcons (.o2 .lcons (.o1 .asZ (.o2 .liapp (.o2 .litake (.o1 .toLi (.at 16)) (.int 32)) (.o2 .lidrop (.o2 .lirep (.int 32) (.int 0)) (.o1 .lilen (.o1 .toLi (.at 16)))))) (.o2 .lcons (.o1 .asS (.at 19)) .lnil)) .lnil))) (.int 2932031007402))
 (.all .V
 (.back 0 [(.at 0), (.at 7), (.at 8), (.at 9), (.at 10), (.at 12)] [(.at 0), (.o2 (.sub .u64) (.at 7) (.int 1)), (.at 8), (.at 17), (.at 18), (.o2 .lapp (.at 12) (.o2 .lcons (.o2 .lcons (.o1 .asZ (.o2 .liapp (.o2 .litake (.o1 .toLi (.at 16)) (.int 32)) (.o2 .lidrop (.o2 .lirep (.int 32) (.int 0)) (.o1 .lilen (.o1 .toLi (.at 16)))))) (.o2 .lcons (.o1 .asS (.at 19)) .lnil)) .lnil))])))))))))
 (.imp (.o2 .eq (.at 18) (.int 0)) false
 (.and
 (.all .V
 (.obl (.o2 .le (.o1 .llen (.o2 .lapp (.at 12) (.o2 .lcons (.o2 .lcons (.o1 .asZ (.o2 .liapp (.o2 .litake (.o1 .toLi (.at 16)) (.int 32)) (.o2 .lidrop (.o2 .lirep (.int 32) (.int 0)) (.o1 .lilen (.o1 .toLi (.at 16)))))) (.o2 .lcons (.o1 .asS (.at 19)) .lnil)) .lnil))) (.int 2932031007402))
 (.all .V
 (.back 0 [(.at 0), (.at 7), (.at 8), (.at 9), (.at 10), (.at 12)] [(.at 0), (.o2 (.sub .u64) (.at 7) (.int 1)), (.at 8), (.at 17), (.at 18), (.o2 .lapp (.at 12) (.o2 .lcons (.o2 .lcons (.o1 .asZ (.o2 .liapp (.o2 .litake (.o1 .toLi (.at 16)) (.int 32)) (.o2 .lidrop (.o2 .lirep (.int 32) (.int 0)) (.o1 .lilen (.o1 .toLi (.at 16)))))) (.o2 .lcons (.o1 .asS (.at 19)) .lnil)) .lnil))]))))
 (.and
 (.all .V
 (.obl (.o2 .le (.o1 .llen (.o2 .lapp (.at 12) (.o2 .lcons (.o2 .lcons (.o1 .asZ (.o2 .liapp (.o2 .litake (.o1 .toLi (.at 16)) (.int 32)) (.o2 .lidrop (.o2 .lirep (.int 32) (.int 0)) (.o1 .lilen (.o1 .toLi (.at 16)))))) (.o2 .lcons (.o1 .asS (.at 19)) .lnil)) .lnil))) (.int 2932031007402))
 (.all .V
 (.back 0 [(.at 0), (.at 7), (.at 8), (.at 9), (.at 10), (.at 12)] [(.at 0), (.o2 (.sub .u64) (.at 7) (.int 1)), (.at 8), (.at 17), (.at 18), (.o2 .lapp (.at 12) (.o2 .lcons (.o2 .lcons (.o1 .asZ (.o2 .liapp (.o2 .litake (.o1 .toLi (.at 16)) (.int 32)) (.o2 .lidrop (.o2 .lirep (.int 32) (.int 0)) (.o1 .lilen (.o1 .toLi (.at 16)))))) (.o2 .lcons (.o1 .asS (.at 19)) .lnil)) .lnil))]))))
 (.all .V
 (.obl (.o2 .le (.o1 .llen (.o2 .lapp (.at 12) (.o2 .lcons (.o2 .lcons (.o1 .asZ (.o2 .liapp (.o2 .litake (.o1 .toLi (.at 16)) (.int 32)) (.o2 .lidrop (.o2 .lirep (.int 32) (.int 0)) (.o1 .lilen (.o1 .toLi (.at 16)))))) (.o2 .lcons (.o1 .asS (.at 19)) .lnil)) .lnil))) (.int 2932031007402))
 (.all .V
 (.back 0 [(.at 0), (.at 7), (.at 8), (.at 9), (.at 10), (.at 12)] [(.at 0), (.o2 (.sub .u64) (.at 7) (.int 1)), (.at 8), (.at 17), (.at 18), (.o2 .lapp (.at 12) (.o2 .lcons (.o2 .lcons (.o1 .asZ (.o2 .liapp (.o2 .litake (.o1 .toLi (.at 16)) (.int 32)) (.o2 .lidrop (.o2 .lirep (.int 32) (.int 0)) (.o1 .lilen (.o1 .toLi (.at 16)))))) (.o2 .lcons (.o1 .asS (.at 19)) .lnil)) .lnil))]))))))))))))))))))))))))))
def TRead.k1 : VC :=
 (.cut 1
 (.all .N
 (.all .N
 (.all .I
 (.all .I
 (.all .I
 (.all .V
 (.know (.has .u64 (.at 3))
 (.know (.has .i64 (.at 4))
 (.know (.has .i64 (.at 5))
 (.asm 1 [(.at 0), (.at 3), (.at 4), (.at 5)]
 (.inv 0 [(.at 0), (.at 3), (.at 0), (.at 4), (.at 5), .lnil]
 (.all .I
 (.all .S
 (.all .I
 (.all .I
 (.all .V
 (.all .L
 (.know (.has .u64 (.at 7))
 (.know (.ssz (.at 8))
 (.know (.has .i64 (.at 9))
 (.know (.has .i64 (.at 10))
 (.know (.ekok [.ints .u8 32, .str] (.at 12))
 (.asm 0 [(.at 0), (.at 7), (.at 8), (.at 9), (.at 10), (.at 12)]
 (.and
 (.imp (.o2 .lt (.int 0) (.at 7)) true
 (.pre 5 [(.at 1), (.at 8), (.at 9), (.at 10)]
 (.post 5 [(.at 1), (.at 8), (.at 9), (.at 10)]
 (.and
 (.imp (.o2 .eq (.at 10) (.int 0)) true
 (.all .N
 (.and
     TRead.k0
     TRead.k0)))
 (.imp (.o2 .eq (.at 10) (.int 0)) false
 (.pre 8 [(.at 1), (.at 8), (.at 9), (.at 10)]
 (.all .I
 (.all .I
 (.all .I
 (.post 8 [(.at 1), (.at 8), (.at 9), (.at 10), (.at 13), (.at 14), (.at 15)]
 (.know (.has .i64 (.at 15))
 (.know (.has .i64 (.at 13))
 (.know (.has .i64 (.at 14))
 (.and
 (.imp (.o1 .not (.o2 .eq (.at 15) (.int 0))) true
 (.ret [(.at 0), (.at 15)]))
 (.imp (.o1 .not (.o2 .eq (.at 15) (.int 0))) false
 (.pre 200 [(.at 0), (.at 2), (.at 11), (.at 12)]
     .tt))))))))))))))))
 (.imp (.o2 .lt (.int 0) (.at 7)) false
 (.pre 8 [(.at 1), (.at 8), (.at 9), (.at 10)]
 (.all .I
 (.all .I
 (.all .I
 (.post 8 [(.at 1), (.at 8), (.at 9), (.at 10), (.at 13), (.at 14), (.at 15)]
 (.know (.has .i64 (.at 15))
 (.know (.has .i64 (.at 13))
 (.know (.has .i64 (.at 14))
 (.and
 (.imp (.o1 .not (.o2 .eq (.at 15) (.int 0))) true
 (.ret [(.at 0), (.at 15)]))
 (.imp (.o1 .not (.o2 .eq (.at 15) (.int 0))) false
 (.pre 200 [(.at 0), (.at 2), (.at 11), (.at 12)]
    .tt)))))))))))))))))))))))))))))))))))))
def TRead.vc : VC :=
 (.all .S
 (.know (.ssz (.at 0))
 (.post 0 [(.at 0)]
 (.pre 1 [(.at 0)]
 (.all .N
 (.post 1 [(.at 0), (.at 1)]
 (.pre 2 [(.at 1), (.at 0), (.int 0), (.int 0), (.int 8)]
 (.all .I
 (.all .I
 (.all .S
 (.post 2 [(.at 1), (.at 0), (.int 0), (.int 0), (.int 8), (.at 2), (.at 3), (.at 4)]
 (.know (.ssz (.at 4))
 (.know (.has .i64 (.at 2))
 (.know (.has .i64 (.at 3))
 (.and
 (.imp (.o1 .not (.o2 .eqs (.at 4) (.str ⟨#[79, 82, 68, 69, 65, 76, 84, 49]⟩))) true
 (.pre 4 [(.at 1), (.at 0), (.at 2), (.at 3), (.int 3)]
 (.all .I
 (.all .I
 (.post 4 [(.at 1), (.at 0), (.at 2), (.at 3), (.int 3), (.at 5), (.at 6)]
 (.know (.has .i64 (.at 5))
 (.know (.has .i64 (.at 6))
 (.all .V
 (.all .N
 (.pre 3 [(.at 1), (.at 0), (.at 5), (.at 6)]
 (.all .I
 (.all .I
 (.all .I
 (.post 3 [(.at 1), (.at 0), (.at 5), (.at 6), (.at 9), (.at 10), (.at 11)]
 (.know (.has .u64 (.at 11))
 (.know (.has .i64 (.at 9))
 (.know (.has .i64 (.at 10))
 (.inv 1 [(.at 0), (.at 11), (.at 9), (.at 10)]
  TRead.k1))))))))))))))))))
 (.imp (.o1 .not (.o2 .eqs (.at 4) (.str ⟨#[79, 82, 68, 69, 65, 76, 84, 49]⟩))) false
 (.all .V
 (.all .N
 (.pre 3 [(.at 1), (.at 0), (.at 2), (.at 3)]
 (.all .I
 (.all .I
 (.all .I
 (.post 3 [(.at 1), (.at 0), (.at 2), (.at 3), (.at 7), (.at 8), (.at 9)]
 (.know (.has .u64 (.at 9))
 (.know (.has .i64 (.at 7))
 (.know (.has .i64 (.at 8))
 (.inv 1 [(.at 0), (.at 9), (.at 7), (.at 8)]
  TRead.k1)))))))))))))))))))))))))))
def TRead.K0 (n1 : Nat) (s8 : ByteArray) (i9 : Int) (i10 : Int) (l12 : List D) (s0 : ByteArray) (i7 : Int) : Prop :=
 (
     PRaw.sig.pre [(D.N n1), (D.S s8), (D.I i9), (D.I i10), (D.I (32 : Int))] ∧ (
 ∀ (i14 : Int),
 ∀ (i15 : Int),
 ∀ (s16 : ByteArray),
     PRaw.sig.post [(D.N n1), (D.S s8), (D.I i9), (D.I i10), (D.I (32 : Int)), (D.I i14), (D.I i15), (D.S s16)] →
 ((s16.size : Int) ≤ 9223372036854775807) →
 (-9223372036854775808 ≤ i14 ∧ i14 < 9223372036854775808) →
 (-9223372036854775808 ≤ i15 ∧ i15 < 9223372036854775808) →
     PText.sig.pre [(D.N n1), (D.S s8), (D.I i14), (D.I i15), (D.I (4194304 : Int))] ∧ (
 ∀ (i17 : Int),
 ∀ (i18 : Int),
 ∀ (s19 : ByteArray),
     PText.sig.post [(D.N n1), (D.S s8), (D.I i14), (D.I i15), (D.I (4194304 : Int)), (D.I i17), (D.I i18), (D.S s19)] →
 ((s19.size : Int) ≤ 9223372036854775807) →
 (-9223372036854775808 ≤ i17 ∧ i17 < 9223372036854775808) →
 (-9223372036854775808 ≤ i18 ∧ i18 < 9223372036854775808) →
     PErr.sig.pre [(D.N n1), (D.S s8), (D.I i17), (D.I i18)] ∧ (
     PErr.sig.post [(D.N n1), (D.S s8), (D.I i17), (D.I i18)] →
 ((
 (i18 = (0 : Int)) →
 ((
 ((0 : Int) < ((l12.length : Nat) : Int)) →
 ((0 : Int) ≤ (IntKind.wrap .i64 (((l12.length : Nat) : Int) - (1 : Int)))) ∧ (((0 : Int) ≤ (IntKind.wrap .i64 (((l12.length : Nat) : Int) - (1 : Int)))) →
 ((IntKind.wrap .i64 (((l12.length : Nat) : Int) - (1 : Int))) < ((l12.length : Nat) : Int)) ∧ (((IntKind.wrap .i64 (((l12.length : Nat) : Int) - (1 : Int))) < ((l12.length : Nat) : Int)) →
       HCmp.sig.pre [(D.Z ((((l12.getD (IntKind.wrap .i64 (((l12.length : Nat) : Int) - (1 : Int))).toNat default)).toL.getD (0 : Int).toNat default)).toLi), (D.Z (((bytesOf s16).take (32 : Int).toNat) ++ ((List.replicate (32 : Int).toNat (0 : Int)).drop (((bytesOf s16).length : Nat) : Int).toNat)))] ∧ (
 ∀ (i20 : Int),
       HCmp.sig.post [(D.Z ((((l12.getD (IntKind.wrap .i64 (((l12.length : Nat) : Int) - (1 : Int))).toNat default)).toL.getD (0 : Int).toNat default)).toLi), (D.Z (((bytesOf s16).take (32 : Int).toNat) ++ ((List.replicate (32 : Int).toNat (0 : Int)).drop (((bytesOf s16).length : Nat) : Int).toNat))), (D.I i20)] →
 (-9223372036854775808 ≤ i20 ∧ i20 < 9223372036854775808) →
 ((
 ((0 : Int) ≤ i20) →
        PFail.sig.pre [(D.N n1), (D.S s8), (D.I i17), (D.I i18), (D.I (16 : Int))] ∧ (
 ∀ (i21 : Int),
 ∀ (i22 : Int),
        PFail.sig.post [(D.N n1), (D.S s8), (D.I i17), (D.I i18), (D.I (16 : Int)), (D.I i21), (D.I i22)] →
 (-9223372036854775808 ≤ i21 ∧ i21 < 9223372036854775808) →
 (-9223372036854775808 ≤ i22 ∧ i22 < 9223372036854775808) →
 ((
 ∀ (v23 : Value),
 ((((l12 ++ ((D.L ((D.Z (((bytesOf s16).take (32 : Int).toNat) ++ ((List.replicate (32 : Int).toNat (0 : Int)).drop (((bytesOf s16).length : Nat) : Int).toNat))) :: ((D.S s19) :: ([] : List D)))) :: ([] : List D))).length : Nat) : Int) ≤ (2932031007402 : Int)) ∧ (((((l12 ++ ((D.L ((D.Z (((bytesOf s16).take (32 : Int).toNat) ++ ((List.replicate (32 : Int).toNat (0 : Int)).drop (((bytesOf s16).length : Nat) : Int).toNat))) :: ((D.S s19) :: ([] : List D)))) :: ([] : List D))).length : Nat) : Int) ≤ (2932031007402 : Int)) →
 ∀ (v24 : Value),
         TRead.I0 [(D.S s0), (D.I (IntKind.wrap .u64 (i7 - (1 : Int)))), (D.S s8), (D.I i21), (D.I i22), (D.L (l12 ++ ((D.L ((D.Z (((bytesOf s16).take (32 : Int).toNat) ++ ((List.replicate (32 : Int).toNat (0 : Int)).drop (((bytesOf s16).length : Nat) : Int).toNat))) :: ((D.S s19) :: ([] : List D)))) :: ([] : List D))))] ∧ TRead.I0M [(D.S s0), (D.I (IntKind.wrap .u64 (i7 - (1 : Int)))), (D.S s8), (D.I i21), (D.I i22), (D.L (l12 ++ ((D.L ((D.Z (((bytesOf s16).take (32 : Int).toNat) ++ ((List.replicate (32 : Int).toNat (0 : Int)).drop (((bytesOf s16).length : Nat) : Int).toNat))) :: ((D.S s19) :: ([] : List D)))) :: ([] : List D))))] < TRead.I0M [(D.S s0), (D.I i7), (D.S s8), (D.I i9), (D.I i10), (D.L l12)])) ∧ (
 ((
 ∀ (v23 : Value),
 ((((l12 ++ ((D.L ((D.Z (((bytesOf s16).take (32 : Int).toNat) ++ ((List.replicate (32 : Int).toNat (0 : Int)).drop (((bytesOf s16).length : Nat) : Int).toNat))) :: ((D.S s19) :: ([] : List D)))) :: ([] : List D))).length : Nat) : Int) ≤ (2932031007402 : Int)) ∧ (((((l12 ++ ((D.L ((D.Z (((bytesOf s16).take (32 : Int).toNat) ++ ((List.replicate (32 : Int).toNat (0 : Int)).drop (((bytesOf s16).length : Nat) : Int).toNat))) :: ((D.S s19) :: ([] : List D)))) :: ([] : List D))).length : Nat) : Int) ≤ (2932031007402 : Int)) →
 ∀ (v24 : Value),
          TRead.I0 [(D.S s0), (D.I (IntKind.wrap .u64 (i7 - (1 : Int)))), (D.S s8), (D.I i21), (D.I i22), (D.L (l12 ++ ((D.L ((D.Z (((bytesOf s16).take (32 : Int).toNat) ++ ((List.replicate (32 : Int).toNat (0 : Int)).drop (((bytesOf s16).length : Nat) : Int).toNat))) :: ((D.S s19) :: ([] : List D)))) :: ([] : List D))))] ∧ TRead.I0M [(D.S s0), (D.I (IntKind.wrap .u64 (i7 - (1 : Int)))), (D.S s8), (D.I i21), (D.I i22), (D.L (l12 ++ ((D.L ((D.Z (((bytesOf s16).take (32 : Int).toNat) ++ ((List.replicate (32 : Int).toNat (0 : Int)).drop (((bytesOf s16).length : Nat) : Int).toNat))) :: ((D.S s19) :: ([] : List D)))) :: ([] : List D))))] < TRead.I0M [(D.S s0), (D.I i7), (D.S s8), (D.I i9), (D.I i10), (D.L l12)])) ∧ (
 ∀ (v23 : Value),
 ((((l12 ++ ((D.L ((D.Z (((bytesOf s16).take (32 : Int).toNat) ++ ((List.replicate (32 : Int).toNat (0 : Int)).drop (((bytesOf s16).length : Nat) : Int).toNat))) :: ((D.S s19) :: ([] : List D)))) :: ([] : List D))).length : Nat) : Int) ≤ (2932031007402 : Int)) ∧ (((((l12 ++ ((D.L ((D.Z (((bytesOf s16).take (32 : Int).toNat) ++ ((List.replicate (32 : Int).toNat (0 : Int)).drop (((bytesOf s16).length : Nat) : Int).toNat))) :: ((D.S s19) :: ([] : List D)))) :: ([] : List D))).length : Nat) : Int) ≤ (2932031007402 : Int)) →
 ∀ (v24 : Value),
          TRead.I0 [(D.S s0), (D.I (IntKind.wrap .u64 (i7 - (1 : Int)))), (D.S s8), (D.I i21), (D.I i22), (D.L (l12 ++ ((D.L ((D.Z (((bytesOf s16).take (32 : Int).toNat) ++ ((List.replicate (32 : Int).toNat (0 : Int)).drop (((bytesOf s16).length : Nat) : Int).toNat))) :: ((D.S s19) :: ([] : List D)))) :: ([] : List D))))] ∧ TRead.I0M [(D.S s0), (D.I (IntKind.wrap .u64 (i7 - (1 : Int)))), (D.S s8), (D.I i21), (D.I i22), (D.L (l12 ++ ((D.L ((D.Z (((bytesOf s16).take (32 : Int).toNat) ++ ((List.replicate (32 : Int).toNat (0 : Int)).drop (((bytesOf s16).length : Nat) : Int).toNat))) :: ((D.S s19) :: ([] : List D)))) :: ([] : List D))))] < TRead.I0M [(D.S s0), (D.I i7), (D.S s8), (D.I i9), (D.I i10), (D.L l12)]))))))) ∧ (
 (i20 < (0 : Int)) →
 ((
 ∀ (v21 : Value),
 ((((l12 ++ ((D.L ((D.Z (((bytesOf s16).take (32 : Int).toNat) ++ ((List.replicate (32 : Int).toNat (0 : Int)).drop (((bytesOf s16).length : Nat) : Int).toNat))) :: ((D.S s19) :: ([] : List D)))) :: ([] : List D))).length : Nat) : Int) ≤ (2932031007402 : Int)) ∧ (((((l12 ++ ((D.L ((D.Z (((bytesOf s16).take (32 : Int).toNat) ++ ((List.replicate (32 : Int).toNat (0 : Int)).drop (((bytesOf s16).length : Nat) : Int).toNat))) :: ((D.S s19) :: ([] : List D)))) :: ([] : List D))).length : Nat) : Int) ≤ (2932031007402 : Int)) →
 ∀ (v22 : Value),
         TRead.I0 [(D.S s0), (D.I (IntKind.wrap .u64 (i7 - (1 : Int)))), (D.S s8), (D.I i17), (D.I i18), (D.L (l12 ++ ((D.L ((D.Z (((bytesOf s16).take (32 : Int).toNat) ++ ((List.replicate (32 : Int).toNat (0 : Int)).drop (((bytesOf s16).length : Nat) : Int).toNat))) :: ((D.S s19) :: ([] : List D)))) :: ([] : List D))))] ∧ TRead.I0M [(D.S s0), (D.I (IntKind.wrap .u64 (i7 - (1 : Int)))), (D.S s8), (D.I i17), (D.I i18), (D.L (l12 ++ ((D.L ((D.Z (((bytesOf s16).take (32 : Int).toNat) ++ ((List.replicate (32 : Int).toNat (0 : Int)).drop (((bytesOf s16).length : Nat) : Int).toNat))) :: ((D.S s19) :: ([] : List D)))) :: ([] : List D))))] < TRead.I0M [(D.S s0), (D.I i7), (D.S s8), (D.I i9), (D.I i10), (D.L l12)])) ∧ (
 ((
 ∀ (v21 : Value),
 ((((l12 ++ ((D.L ((D.Z (((bytesOf s16).take (32 : Int).toNat) ++ ((List.replicate (32 : Int).toNat (0 : Int)).drop (((bytesOf s16).length : Nat) : Int).toNat))) :: ((D.S s19) :: ([] : List D)))) :: ([] : List D))).length : Nat) : Int) ≤ (2932031007402 : Int)) ∧ (((((l12 ++ ((D.L ((D.Z (((bytesOf s16).take (32 : Int).toNat) ++ ((List.replicate (32 : Int).toNat (0 : Int)).drop (((bytesOf s16).length : Nat) : Int).toNat))) :: ((D.S s19) :: ([] : List D)))) :: ([] : List D))).length : Nat) : Int) ≤ (2932031007402 : Int)) →
 ∀ (v22 : Value),
          TRead.I0 [(D.S s0), (D.I (IntKind.wrap .u64 (i7 - (1 : Int)))), (D.S s8), (D.I i17), (D.I i18), (D.L (l12 ++ ((D.L ((D.Z (((bytesOf s16).take (32 : Int).toNat) ++ ((List.replicate (32 : Int).toNat (0 : Int)).drop (((bytesOf s16).length : Nat) : Int).toNat))) :: ((D.S s19) :: ([] : List D)))) :: ([] : List D))))] ∧ TRead.I0M [(D.S s0), (D.I (IntKind.wrap .u64 (i7 - (1 : Int)))), (D.S s8), (D.I i17), (D.I i18), (D.L (l12 ++ ((D.L ((D.Z (((bytesOf s16).take (32 : Int).toNat) ++ ((List.replicate (32 : Int).toNat (0 : Int)).drop (((bytesOf s16).length : Nat) : Int).toNat))) :: ((D.S s19) :: ([] : List D)))) :: ([] : List D))))] < TRead.I0M [(D.S s0), (D.I i7), (D.S s8), (D.I i9), (D.I i10), (D.L l12)])) ∧ (
 ∀ (v21 : Value),
 ((((l12 ++ ((D.L ((D.Z (((bytesOf s16).take (32 : Int).toNat) ++ ((List.replicate (32 : Int).toNat (0 : Int)).drop (((bytesOf s16).length : Nat) : Int).toNat))) :: ((D.S s19) :: ([] : List D)))) :: ([] : List D))).length : Nat) : Int) ≤ (2932031007402 : Int)) ∧ (((((l12 ++ ((D.L ((D.Z (((bytesOf s16).take (32 : Int).toNat) ++ ((List.replicate (32 : Int).toNat (0 : Int)).drop (((bytesOf s16).length : Nat) : Int).toNat))) :: ((D.S s19) :: ([] : List D)))) :: ([] : List D))).length : Nat) : Int) ≤ (2932031007402 : Int)) →
 ∀ (v22 : Value),
          TRead.I0 [(D.S s0), (D.I (IntKind.wrap .u64 (i7 - (1 : Int)))), (D.S s8), (D.I i17), (D.I i18), (D.L (l12 ++ ((D.L ((D.Z (((bytesOf s16).take (32 : Int).toNat) ++ ((List.replicate (32 : Int).toNat (0 : Int)).drop (((bytesOf s16).length : Nat) : Int).toNat))) :: ((D.S s19) :: ([] : List D)))) :: ([] : List D))))] ∧ TRead.I0M [(D.S s0), (D.I (IntKind.wrap .u64 (i7 - (1 : Int)))), (D.S s8), (D.I i17), (D.I i18), (D.L (l12 ++ ((D.L ((D.Z (((bytesOf s16).take (32 : Int).toNat) ++ ((List.replicate (32 : Int).toNat (0 : Int)).drop (((bytesOf s16).length : Nat) : Int).toNat))) :: ((D.S s19) :: ([] : List D)))) :: ([] : List D))))] < TRead.I0M [(D.S s0), (D.I i7), (D.S s8), (D.I i9), (D.I i10), (D.L l12)]))))))))))) ∧ (
 (((l12.length : Nat) : Int) ≤ (0 : Int)) →
 ((
 ∀ (v20 : Value),
 ((((l12 ++ ((D.L ((D.Z (((bytesOf s16).take (32 : Int).toNat) ++ ((List.replicate (32 : Int).toNat (0 : Int)).drop (((bytesOf s16).length : Nat) : Int).toNat))) :: ((D.S s19) :: ([] : List D)))) :: ([] : List D))).length : Nat) : Int) ≤ (2932031007402 : Int)) ∧ (((((l12 ++ ((D.L ((D.Z (((bytesOf s16).take (32 : Int).toNat) ++ ((List.replicate (32 : Int).toNat (0 : Int)).drop (((bytesOf s16).length : Nat) : Int).toNat))) :: ((D.S s19) :: ([] : List D)))) :: ([] : List D))).length : Nat) : Int) ≤ (2932031007402 : Int)) →
 ∀ (v21 : Value),
        TRead.I0 [(D.S s0), (D.I (IntKind.wrap .u64 (i7 - (1 : Int)))), (D.S s8), (D.I i17), (D.I i18), (D.L (l12 ++ ((D.L ((D.Z (((bytesOf s16).take (32 : Int).toNat) ++ ((List.replicate (32 : Int).toNat (0 : Int)).drop (((bytesOf s16).length : Nat) : Int).toNat))) :: ((D.S s19) :: ([] : List D)))) :: ([] : List D))))] ∧ TRead.I0M [(D.S s0), (D.I (IntKind.wrap .u64 (i7 - (1 : Int)))), (D.S s8), (D.I i17), (D.I i18), (D.L (l12 ++ ((D.L ((D.Z (((bytesOf s16).take (32 : Int).toNat) ++ ((List.replicate (32 : Int).toNat (0 : Int)).drop (((bytesOf s16).length : Nat) : Int).toNat))) :: ((D.S s19) :: ([] : List D)))) :: ([] : List D))))] < TRead.I0M [(D.S s0), (D.I i7), (D.S s8), (D.I i9), (D.I i10), (D.L l12)])) ∧ (
 ((
 ∀ (v20 : Value),
 ((((l12 ++ ((D.L ((D.Z (((bytesOf s16).take (32 : Int).toNat) ++ ((List.replicate (32 : Int).toNat (0 : Int)).drop (((bytesOf s16).length : Nat) : Int).toNat))) :: ((D.S s19) :: ([] : List D)))) :: ([] : List D))).length : Nat) : Int) ≤ (2932031007402 : Int)) ∧ (((((l12 ++ ((D.L ((D.Z (((bytesOf s16).take (32 : Int).toNat) ++ ((List.replicate (32 : Int).toNat (0 : Int)).drop (((bytesOf s16).length : Nat) : Int).toNat))) :: ((D.S s19) :: ([] : List D)))) :: ([] : List D))).length : Nat) : Int) ≤ (2932031007402 : Int)) →
 ∀ (v21 : Value),
         TRead.I0 [(D.S s0), (D.I (IntKind.wrap .u64 (i7 - (1 : Int)))), (D.S s8), (D.I i17), (D.I i18), (D.L (l12 ++ ((D.L ((D.Z (((bytesOf s16).take (32 : Int).toNat) ++ ((List.replicate (32 : Int).toNat (0 : Int)).drop (((bytesOf s16).length : Nat) : Int).toNat))) :: ((D.S s19) :: ([] : List D)))) :: ([] : List D))))] ∧ TRead.I0M [(D.S s0), (D.I (IntKind.wrap .u64 (i7 - (1 : Int)))), (D.S s8), (D.I i17), (D.I i18), (D.L (l12 ++ ((D.L ((D.Z (((bytesOf s16).take (32 : Int).toNat) ++ ((List.replicate (32 : Int).toNat (0 : Int)).drop (((bytesOf s16).length : Nat) : Int).toNat))) :: ((D.S s19) :: ([] : List D)))) :: ([] : List D))))] < TRead.I0M [(D.S s0), (D.I i7), (D.S s8), (D.I i9), (D.I i10), (D.L l12)])) ∧ (
 ∀ (v20 : Value),
 ((((l12 ++ ((D.L ((D.Z (((bytesOf s16).take (32 : Int).toNat) ++ ((List.replicate (32 : Int).toNat (0 : Int)).drop (((bytesOf s16).length : Nat) : Int).toNat))) :: ((D.S s19) :: ([] : List D)))) :: ([] : List D))).length : Nat) : Int) ≤ (2932031007402 : Int)) ∧ (((((l12 ++ ((D.L ((D.Z (((bytesOf s16).take (32 : Int).toNat) ++ ((List.replicate (32 : Int).toNat (0 : Int)).drop (((bytesOf s16).length : Nat) : Int).toNat))) :: ((D.S s19) :: ([] : List D)))) :: ([] : List D))).length : Nat) : Int) ≤ (2932031007402 : Int)) →
 ∀ (v21 : Value),
         TRead.I0 [(D.S s0), (D.I (IntKind.wrap .u64 (i7 - (1 : Int)))), (D.S s8), (D.I i17), (D.I i18), (D.L (l12 ++ ((D.L ((D.Z (((bytesOf s16).take (32 : Int).toNat) ++ ((List.replicate (32 : Int).toNat (0 : Int)).drop (((bytesOf s16).length : Nat) : Int).toNat))) :: ((D.S s19) :: ([] : List D)))) :: ([] : List D))))] ∧ TRead.I0M [(D.S s0), (D.I (IntKind.wrap .u64 (i7 - (1 : Int)))), (D.S s8), (D.I i17), (D.I i18), (D.L (l12 ++ ((D.L ((D.Z (((bytesOf s16).take (32 : Int).toNat) ++ ((List.replicate (32 : Int).toNat (0 : Int)).drop (((bytesOf s16).length : Nat) : Int).toNat))) :: ((D.S s19) :: ([] : List D)))) :: ([] : List D))))] < TRead.I0M [(D.S s0), (D.I i7), (D.S s8), (D.I i9), (D.I i10), (D.L l12)])))))))) ∧ (
 (i18 ≠ (0 : Int)) →
 ((
 ∀ (v20 : Value),
 ((((l12 ++ ((D.L ((D.Z (((bytesOf s16).take (32 : Int).toNat) ++ ((List.replicate (32 : Int).toNat (0 : Int)).drop (((bytesOf s16).length : Nat) : Int).toNat))) :: ((D.S s19) :: ([] : List D)))) :: ([] : List D))).length : Nat) : Int) ≤ (2932031007402 : Int)) ∧ (((((l12 ++ ((D.L ((D.Z (((bytesOf s16).take (32 : Int).toNat) ++ ((List.replicate (32 : Int).toNat (0 : Int)).drop (((bytesOf s16).length : Nat) : Int).toNat))) :: ((D.S s19) :: ([] : List D)))) :: ([] : List D))).length : Nat) : Int) ≤ (2932031007402 : Int)) →
 ∀ (v21 : Value),
       TRead.I0 [(D.S s0), (D.I (IntKind.wrap .u64 (i7 - (1 : Int)))), (D.S s8), (D.I i17), (D.I i18), (D.L (l12 ++ ((D.L ((D.Z (((bytesOf s16).take (32 : Int).toNat) ++ ((List.replicate (32 : Int).toNat (0 : Int)).drop (((bytesOf s16).length : Nat) : Int).toNat))) :: ((D.S s19) :: ([] : List D)))) :: ([] : List D))))] ∧ TRead.I0M [(D.S s0), (D.I (IntKind.wrap .u64 (i7 - (1 : Int)))), (D.S s8), (D.I i17), (D.I i18), (D.L (l12 ++ ((D.L ((D.Z (((bytesOf s16).take (32 : Int).toNat) ++ ((List.replicate (32 : Int).toNat (0 : Int)).drop (((bytesOf s16).length : Nat) : Int).toNat))) :: ((D.S s19) :: ([] : List D)))) :: ([] : List D))))] < TRead.I0M [(D.S s0), (D.I i7), (D.S s8), (D.I i9), (D.I i10), (D.L l12)])) ∧ (
 ((
 ∀ (v20 : Value),
 ((((l12 ++ ((D.L ((D.Z (((bytesOf s16).take (32 : Int).toNat) ++ ((List.replicate (32 : Int).toNat (0 : Int)).drop (((bytesOf s16).length : Nat) : Int).toNat))) :: ((D.S s19) :: ([] : List D)))) :: ([] : List D))).length : Nat) : Int) ≤ (2932031007402 : Int)) ∧ (((((l12 ++ ((D.L ((D.Z (((bytesOf s16).take (32 : Int).toNat) ++ ((List.replicate (32 : Int).toNat (0 : Int)).drop (((bytesOf s16).length : Nat) : Int).toNat))) :: ((D.S s19) :: ([] : List D)))) :: ([] : List D))).length : Nat) : Int) ≤ (2932031007402 : Int)) →
 ∀ (v21 : Value),
        TRead.I0 [(D.S s0), (D.I (IntKind.wrap .u64 (i7 - (1 : Int)))), (D.S s8), (D.I i17), (D.I i18), (D.L (l12 ++ ((D.L ((D.Z (((bytesOf s16).take (32 : Int).toNat) ++ ((List.replicate (32 : Int).toNat (0 : Int)).drop (((bytesOf s16).length : Nat) : Int).toNat))) :: ((D.S s19) :: ([] : List D)))) :: ([] : List D))))] ∧ TRead.I0M [(D.S s0), (D.I (IntKind.wrap .u64 (i7 - (1 : Int)))), (D.S s8), (D.I i17), (D.I i18), (D.L (l12 ++ ((D.L ((D.Z (((bytesOf s16).take (32 : Int).toNat) ++ ((List.replicate (32 : Int).toNat (0 : Int)).drop (((bytesOf s16).length : Nat) : Int).toNat))) :: ((D.S s19) :: ([] : List D)))) :: ([] : List D))))] < TRead.I0M [(D.S s0), (D.I i7), (D.S s8), (D.I i9), (D.I i10), (D.L l12)])) ∧ (
 ∀ (v20 : Value),
 ((((l12 ++ ((D.L ((D.Z (((bytesOf s16).take (32 : Int).toNat) ++ ((List.replicate (32 : Int).toNat (0 : Int)).drop (((bytesOf s16).length : Nat) : Int).toNat))) :: ((D.S s19) :: ([] : List D)))) :: ([] : List D))).length : Nat) : Int) ≤ (2932031007402 : Int)) ∧ (((((l12 ++ ((D.L ((D.Z (((bytesOf s16).take (32 : Int).toNat) ++ ((List.replicate (32 : Int).toNat (0 : Int)).drop (((bytesOf s16).length : Nat) : Int).toNat))) :: ((D.S s19) :: ([] : List D)))) :: ([] : List D))).length : Nat) : Int) ≤ (2932031007402 : Int)) →
 ∀ (v21 : Value),
        TRead.I0 [(D.S s0), (D.I (IntKind.wrap .u64 (i7 - (1 : Int)))), (D.S s8), (D.I i17), (D.I i18), (D.L (l12 ++ ((D.L ((D.Z (((bytesOf s16).take (32 : Int).toNat) ++ ((List.replicate (32 : Int).toNat (0 : Int)).drop (((bytesOf s16).length : Nat) : Int).toNat))) :: ((D.S s19) :: ([] : List D)))) :: ([] : List D))))] ∧ TRead.I0M [(D.S s0), (D.I (IntKind.wrap .u64 (i7 - (1 : Int)))), (D.S s8), (D.I i17), (D.I i18), (D.L (l12 ++ ((D.L ((D.Z (((bytesOf s16).take (32 : Int).toNat) ++ ((List.replicate (32 : Int).toNat (0 : Int)).drop (((bytesOf s16).length : Nat) : Int).toNat))) :: ((D.S s19) :: ([] : List D)))) :: ([] : List D))))] < TRead.I0M [(D.S s0), (D.I i7), (D.S s8), (D.I i9), (D.I i10), (D.L l12)])))))))))))
def TRead.K1 (s0 : ByteArray) : Prop :=
 (
 (
 ∀ (n1 : Nat),
 ∀ (n2 : Nat),
 ∀ (i3 : Int),
 ∀ (i4 : Int),
 ∀ (i5 : Int),
 ∀ (v6 : Value),
 (0 ≤ i3 ∧ i3 < 18446744073709551616) →
 (-9223372036854775808 ≤ i4 ∧ i4 < 9223372036854775808) →
 (-9223372036854775808 ≤ i5 ∧ i5 < 9223372036854775808) →
  TRead.J0 [(D.S s0), (D.I i3), (D.I i4), (D.I i5)] →
  TRead.I0 [(D.S s0), (D.I i3), (D.S s0), (D.I i4), (D.I i5), (D.L ([] : List D))] ∧ (
 ∀ (i7 : Int),
 ∀ (s8 : ByteArray),
 ∀ (i9 : Int),
 ∀ (i10 : Int),
 ∀ (v11 : Value),
 ∀ (l12 : List D),
 (0 ≤ i7 ∧ i7 < 18446744073709551616) →
 ((s8.size : Int) ≤ 9223372036854775807) →
 (-9223372036854775808 ≤ i9 ∧ i9 < 9223372036854775808) →
 (-9223372036854775808 ≤ i10 ∧ i10 < 9223372036854775808) →
 (EK.ok [.ints .u8 32, .str] (D.L l12)) →
  TRead.I0 [(D.S s0), (D.I i7), (D.S s8), (D.I i9), (D.I i10), (D.L l12)] →
 ((
 ((0 : Int) < i7) →
   PErr.sig.pre [(D.N n1), (D.S s8), (D.I i9), (D.I i10)] ∧ (
   PErr.sig.post [(D.N n1), (D.S s8), (D.I i9), (D.I i10)] →
 ((
 (i10 = (0 : Int)) →
 ∀ (n13 : Nat),
 ((TRead.K0 n1 s8 i9 i10 l12 s0 i7) ∧ (TRead.K0 n1 s8 i9 i10 l12 s0 i7))) ∧ (
 (i10 ≠ (0 : Int)) →
    PDone.sig.pre [(D.N n1), (D.S s8), (D.I i9), (D.I i10)] ∧ (
 ∀ (i13 : Int),
 ∀ (i14 : Int),
 ∀ (i15 : Int),
    PDone.sig.post [(D.N n1), (D.S s8), (D.I i9), (D.I i10), (D.I i13), (D.I i14), (D.I i15)] →
 (-9223372036854775808 ≤ i15 ∧ i15 < 9223372036854775808) →
 (-9223372036854775808 ≤ i13 ∧ i13 < 9223372036854775808) →
 (-9223372036854775808 ≤ i14 ∧ i14 < 9223372036854775808) →
 ((
 (i15 ≠ (0 : Int)) →
     TRead.sig.post [(D.S s0), (D.I i15)]) ∧ (
 (i15 = (0 : Int)) →
     TRead.sig.post2 [(D.S s0), (D.N n2), (D.V v11), (D.L l12)] ∧ (
     True)))))))) ∧ (
 (i7 ≤ (0 : Int)) →
   PDone.sig.pre [(D.N n1), (D.S s8), (D.I i9), (D.I i10)] ∧ (
 ∀ (i13 : Int),
 ∀ (i14 : Int),
 ∀ (i15 : Int),
   PDone.sig.post [(D.N n1), (D.S s8), (D.I i9), (D.I i10), (D.I i13), (D.I i14), (D.I i15)] →
 (-9223372036854775808 ≤ i15 ∧ i15 < 9223372036854775808) →
 (-9223372036854775808 ≤ i13 ∧ i13 < 9223372036854775808) →
 (-9223372036854775808 ≤ i14 ∧ i14 < 9223372036854775808) →
 ((
 (i15 ≠ (0 : Int)) →
    TRead.sig.post [(D.S s0), (D.I i15)]) ∧ (
 (i15 = (0 : Int)) →
    TRead.sig.post2 [(D.S s0), (D.N n2), (D.V v11), (D.L l12)] ∧ (
    True)))))))))
def TRead.Pure : Prop :=
 ∀ (s0 : ByteArray),
 ((s0.size : Int) ≤ 9223372036854775807) →
 TRead.sig.pre [(D.S s0)] →
 PRead.sig.pre [(D.S s0)] ∧ (
 ∀ (n1 : Nat),
 PRead.sig.post [(D.S s0), (D.N n1)] →
 PRaw.sig.pre [(D.N n1), (D.S s0), (D.I (0 : Int)), (D.I (0 : Int)), (D.I (8 : Int))] ∧ (
 ∀ (i2 : Int),
 ∀ (i3 : Int),
 ∀ (s4 : ByteArray),
 PRaw.sig.post [(D.N n1), (D.S s0), (D.I (0 : Int)), (D.I (0 : Int)), (D.I (8 : Int)), (D.I i2), (D.I i3), (D.S s4)] →
 ((s4.size : Int) ≤ 9223372036854775807) →
 (-9223372036854775808 ≤ i2 ∧ i2 < 9223372036854775808) →
 (-9223372036854775808 ≤ i3 ∧ i3 < 9223372036854775808) →
 ((
 (s4 ≠ (⟨#[79, 82, 68, 69, 65, 76, 84, 49]⟩ : ByteArray)) →
  PFail.sig.pre [(D.N n1), (D.S s0), (D.I i2), (D.I i3), (D.I (3 : Int))] ∧ (
 ∀ (i5 : Int),
 ∀ (i6 : Int),
  PFail.sig.post [(D.N n1), (D.S s0), (D.I i2), (D.I i3), (D.I (3 : Int)), (D.I i5), (D.I i6)] →
 (-9223372036854775808 ≤ i5 ∧ i5 < 9223372036854775808) →
 (-9223372036854775808 ≤ i6 ∧ i6 < 9223372036854775808) →
 ∀ (v7 : Value),
 ∀ (n8 : Nat),
  PNum.sig.pre [(D.N n1), (D.S s0), (D.I i5), (D.I i6)] ∧ (
 ∀ (i9 : Int),
 ∀ (i10 : Int),
 ∀ (i11 : Int),
  PNum.sig.post [(D.N n1), (D.S s0), (D.I i5), (D.I i6), (D.I i9), (D.I i10), (D.I i11)] →
 (0 ≤ i11 ∧ i11 < 18446744073709551616) →
 (-9223372036854775808 ≤ i9 ∧ i9 < 9223372036854775808) →
 (-9223372036854775808 ≤ i10 ∧ i10 < 9223372036854775808) →
  TRead.J0 [(D.S s0), (D.I i11), (D.I i9), (D.I i10)] ∧ (TRead.K1 s0)))) ∧ (
 (s4 = (⟨#[79, 82, 68, 69, 65, 76, 84, 49]⟩ : ByteArray)) →
 ∀ (v5 : Value),
 ∀ (n6 : Nat),
  PNum.sig.pre [(D.N n1), (D.S s0), (D.I i2), (D.I i3)] ∧ (
 ∀ (i7 : Int),
 ∀ (i8 : Int),
 ∀ (i9 : Int),
  PNum.sig.post [(D.N n1), (D.S s0), (D.I i2), (D.I i3), (D.I i7), (D.I i8), (D.I i9)] →
 (0 ≤ i9 ∧ i9 < 18446744073709551616) →
 (-9223372036854775808 ≤ i7 ∧ i7 < 9223372036854775808) →
 (-9223372036854775808 ≤ i8 ∧ i8 < 9223372036854775808) →
  TRead.J0 [(D.S s0), (D.I i9), (D.I i7), (D.I i8)] ∧ (TRead.K1 s0))))))
theorem TRead.den : TRead.vc.den2 (mkEnv TRead.sig [PRead.sig, PRaw.sig, PNum.sig, PFail.sig, PErr.sig, PText.sig, HCmp.sig, PDone.sig] [(TRead.I0, TRead.I0M), (TRead.J0, TRead.J0M)]) [] = TRead.Pure := by kernel_rfl
def TParse.vc : VC :=
 (.all .S
 (.know (.ssz (.at 0))
 (.post 0 [(.at 0)]
 (.and
 (.imp (.o2 .lt (.o2 (.sub .i64) (.o1 .slen (.at 0)) (.int 32)) (.int 8)) true
 (.ret [(.at 0), (.int 2)]))
 (.imp (.o2 .lt (.o2 (.sub .i64) (.o1 .slen (.at 0)) (.int 32)) (.int 8)) false
 (.obl (.o2 .le (.int 0) (.o2 (.sub .i64) (.o1 .slen (.at 0)) (.int 32)))
 (.obl (.o2 .le (.o2 (.sub .i64) (.o1 .slen (.at 0)) (.int 32)) (.o1 .slen (.at 0)))
 (.pre 1 [(.o3 .ssub (.at 0) (.int 0) (.o2 (.sub .i64) (.o1 .slen (.at 0)) (.int 32)))]
 (.all .Z
 (.post 1 [(.o3 .ssub (.at 0) (.int 0) (.o2 (.sub .i64) (.o1 .slen (.at 0)) (.int 32))), (.at 1)]
 (.know (.len (.at 1) 32)
 (.know (.allHas .u8 (.at 1))
 (.all .N
 (.and
 (.imp (.o1 .not (.o2 .eqs (.o1 .ofLi (.at 1)) (.o3 .ssub (.at 0) (.o2 (.sub .i64) (.o1 .slen (.at 0)) (.int 32)) (.o1 .slen (.at 0))))) true
 (.ret [(.at 0), (.int 4)]))
 (.imp (.o1 .not (.o2 .eqs (.o1 .ofLi (.at 1)) (.o3 .ssub (.at 0) (.o2 (.sub .i64) (.o1 .slen (.at 0)) (.int 32)) (.o1 .slen (.at 0))))) false
 (.and
 (.pre 2 [(.o3 .ssub (.at 0) (.int 0) (.o2 (.sub .i64) (.o1 .slen (.at 0)) (.int 32)))]
 (.all .I
 (.post 2 [(.o3 .ssub (.at 0) (.int 0) (.o2 (.sub .i64) (.o1 .slen (.at 0)) (.int 32))), (.at 3)]
 (.know (.has .i64 (.at 3))
 (.ret [(.at 0), (.at 3)])))))
 (.pre 202 [(.o3 .ssub (.at 0) (.int 0) (.o2 (.sub .i64) (.o1 .slen (.at 0)) (.int 32)))]
 (.all .N
 (.all .V
 (.all .L
 (.post 202 [(.o3 .ssub (.at 0) (.int 0) (.o2 (.sub .i64) (.o1 .slen (.at 0)) (.int 32))), (.at 3), (.at 4), (.at 5)]
 (.know (.ekok [.ints .u8 32, .str] (.at 5))
 (.pre 200 [(.at 0), (.at 3), (.at 4), (.at 5)]
    .tt)))))))))))))))))))))))
def TParse.Pure : Prop :=
 ∀ (s0 : ByteArray),
 ((s0.size : Int) ≤ 9223372036854775807) →
 TParse.sig.pre [(D.S s0)] →
 ((
 ((IntKind.wrap .i64 (((s0.size : Nat) : Int) - (32 : Int))) < (8 : Int)) →
  TParse.sig.post [(D.S s0), (D.I (2 : Int))]) ∧ (
 ((8 : Int) ≤ (IntKind.wrap .i64 (((s0.size : Nat) : Int) - (32 : Int)))) →
 ((0 : Int) ≤ (IntKind.wrap .i64 (((s0.size : Nat) : Int) - (32 : Int)))) ∧ (((0 : Int) ≤ (IntKind.wrap .i64 (((s0.size : Nat) : Int) - (32 : Int)))) →
 ((IntKind.wrap .i64 (((s0.size : Nat) : Int) - (32 : Int))) ≤ ((s0.size : Nat) : Int)) ∧ (((IntKind.wrap .i64 (((s0.size : Nat) : Int) - (32 : Int))) ≤ ((s0.size : Nat) : Int)) →
  HOf.sig.pre [(D.S (s0.extract (0 : Int).toNat (IntKind.wrap .i64 (((s0.size : Nat) : Int) - (32 : Int))).toNat))] ∧ (
 ∀ (z1 : List Int),
  HOf.sig.post [(D.S (s0.extract (0 : Int).toNat (IntKind.wrap .i64 (((s0.size : Nat) : Int) - (32 : Int))).toNat)), (D.Z z1)] →
 (z1.length = 32) →
 (∀ x ∈ z1, IntKind.has .u8 x) →
 ∀ (n2 : Nat),
 ((
 ((textOf z1) ≠ (s0.extract (IntKind.wrap .i64 (((s0.size : Nat) : Int) - (32 : Int))).toNat ((s0.size : Nat) : Int).toNat)) →
   TParse.sig.post [(D.S s0), (D.I (4 : Int))]) ∧ (
 ((textOf z1) = (s0.extract (IntKind.wrap .i64 (((s0.size : Nat) : Int) - (32 : Int))).toNat ((s0.size : Nat) : Int).toNat)) →
 ((
    TRead.sig.pre [(D.S (s0.extract (0 : Int).toNat (IntKind.wrap .i64 (((s0.size : Nat) : Int) - (32 : Int))).toNat))] ∧ (
 ∀ (i3 : Int),
    TRead.sig.post [(D.S (s0.extract (0 : Int).toNat (IntKind.wrap .i64 (((s0.size : Nat) : Int) - (32 : Int))).toNat)), (D.I i3)] →
 (-9223372036854775808 ≤ i3 ∧ i3 < 9223372036854775808) →
    TParse.sig.post [(D.S s0), (D.I i3)])) ∧ (
    TRead.sig.pre [(D.S (s0.extract (0 : Int).toNat (IntKind.wrap .i64 (((s0.size : Nat) : Int) - (32 : Int))).toNat))] ∧ (
 ∀ (n3 : Nat),
 ∀ (v4 : Value),
 ∀ (l5 : List D),
    TRead.sig.post2 [(D.S (s0.extract (0 : Int).toNat (IntKind.wrap .i64 (((s0.size : Nat) : Int) - (32 : Int))).toNat)), (D.N n3), (D.V v4), (D.L l5)] →
 (EK.ok [.ints .u8 32, .str] (D.L l5)) →
    TParse.sig.post2 [(D.S s0), (D.N n3), (D.V v4), (D.L l5)] ∧ (
    True)))))))))))
theorem TParse.den : TParse.vc.den2 (mkEnv TParse.sig [HOf.sig, TRead.sig] []) [] = TParse.Pure := by kernel_rfl
def Awake22.vc : VC :=
 (.post 0 []
 (.all .V
 (.all .N
 (.pre 1 [(.str ⟨#[120]⟩)]
 (.all .Z
 (.post 1 [(.str ⟨#[120]⟩), (.at 2)]
 (.know (.len (.at 2) 32)
 (.know (.allHas .u8 (.at 2))
 (.all .N
 (.pre 2 [(.at 1), (.at 0), .lnil, (.at 2), (.str ⟨#[97]⟩)]
 (.all .V
 (.all .L
 (.all .B
 (.post 2 [(.at 1), (.at 0), .lnil, (.at 2), (.str ⟨#[97]⟩), (.at 4), (.at 5), (.at 6)]
 (.know (.ekok [.ints .u8 32, .str] (.at 5))
 (.pre 2 [(.at 1), (.at 4), (.at 5), (.at 2), (.str ⟨#[98]⟩)]
 (.all .V
 (.all .L
 (.all .B
 (.post 2 [(.at 1), (.at 4), (.at 5), (.at 2), (.str ⟨#[98]⟩), (.at 7), (.at 8), (.at 9)]
 (.know (.ekok [.ints .u8 32, .str] (.at 8))
 (.pre 3 [(.at 1), (.at 7), (.at 8), (.at 2)]
 (.all .S
 (.all .B
 (.post 3 [(.at 1), (.at 7), (.at 8), (.at 2), (.at 10), (.at 11)]
 (.know (.ssz (.at 10))
 (.and
 (.imp (.at 6) true
 (.and
 (.imp (.o1 .not (.at 9)) true
 (.and
 (.imp (.at 11) true
 (.and
 (.imp (.o2 .eqs (.at 10) (.str ⟨#[97]⟩)) true
 (.pre 4 [(.at 1), (.at 7), (.at 8)]
 (.all .I
 (.post 4 [(.at 1), (.at 7), (.at 8), (.at 12)]
 (.know (.has .i64 (.at 12))
 (.ret [(.o2 .eq (.at 12) (.int 1))]))))))
 (.imp (.o2 .eqs (.at 10) (.str ⟨#[97]⟩)) false
 (.ret [(.bool false)]))))
 (.imp (.at 11) false
 (.ret [(.bool false)]))))
 (.imp (.o1 .not (.at 9)) false
 (.ret [(.bool false)]))))
 (.imp (.at 6) false
 (.ret [(.bool false)])))))))))))))))))))))))))))))
def Awake22.Pure : Prop :=
 Awake22.sig.pre [] →
 ∀ (v0 : Value),
 ∀ (n1 : Nat),
 HOf.sig.pre [(D.S (⟨#[120]⟩ : ByteArray))] ∧ (
 ∀ (z2 : List Int),
 HOf.sig.post [(D.S (⟨#[120]⟩ : ByteArray)), (D.Z z2)] →
 (z2.length = 32) →
 (∀ x ∈ z2, IntKind.has .u8 x) →
 ∀ (n3 : Nat),
 TPut.sig.pre [(D.N n1), (D.V v0), (D.L ([] : List D)), (D.Z z2), (D.S (⟨#[97]⟩ : ByteArray))] ∧ (
 ∀ (v4 : Value),
 ∀ (l5 : List D),
 ∀ (b6 : Bool),
 TPut.sig.post [(D.N n1), (D.V v0), (D.L ([] : List D)), (D.Z z2), (D.S (⟨#[97]⟩ : ByteArray)), (D.V v4), (D.L l5), (D.B b6)] →
 (EK.ok [.ints .u8 32, .str] (D.L l5)) →
 TPut.sig.pre [(D.N n1), (D.V v4), (D.L l5), (D.Z z2), (D.S (⟨#[98]⟩ : ByteArray))] ∧ (
 ∀ (v7 : Value),
 ∀ (l8 : List D),
 ∀ (b9 : Bool),
 TPut.sig.post [(D.N n1), (D.V v4), (D.L l5), (D.Z z2), (D.S (⟨#[98]⟩ : ByteArray)), (D.V v7), (D.L l8), (D.B b9)] →
 (EK.ok [.ints .u8 32, .str] (D.L l8)) →
 TGet.sig.pre [(D.N n1), (D.V v7), (D.L l8), (D.Z z2)] ∧ (
 ∀ (s10 : ByteArray),
 ∀ (b11 : Bool),
 TGet.sig.post [(D.N n1), (D.V v7), (D.L l8), (D.Z z2), (D.S s10), (D.B b11)] →
 ((s10.size : Int) ≤ 9223372036854775807) →
 ((
 (b6 = true) →
 ((
 (b9 = false) →
 ((
 (b11 = true) →
 ((
 (s10 = (⟨#[97]⟩ : ByteArray)) →
     TLen.sig.pre [(D.N n1), (D.V v7), (D.L l8)] ∧ (
 ∀ (i12 : Int),
     TLen.sig.post [(D.N n1), (D.V v7), (D.L l8), (D.I i12)] →
 (-9223372036854775808 ≤ i12 ∧ i12 < 9223372036854775808) →
     Awake22.sig.post [(D.B (i12 == (1 : Int)))])) ∧ (
 (s10 ≠ (⟨#[97]⟩ : ByteArray)) →
     Awake22.sig.post [(D.B false)]))) ∧ (
 (b11 = false) →
    Awake22.sig.post [(D.B false)]))) ∧ (
 (b9 = true) →
   Awake22.sig.post [(D.B false)]))) ∧ (
 (b6 = false) →
  Awake22.sig.post [(D.B false)]))))))
theorem Awake22.den : Awake22.vc.den2 (mkEnv Awake22.sig [HOf.sig, TPut.sig, TGet.sig, TLen.sig] []) [] = Awake22.Pure := by kernel_rfl
end Go.Vc
namespace Go.Vc
theorem row_ok {l : List D} (h : EK.ok [.ints .u8 32, .str] (.L l)) {d : D} (hd : d ∈ l) : ∃ k s, d.toL = [k, s] ∧ k.toLi.length = 32 ∧ (∀ x ∈ k.toLi, 0 ≤ x ∧ x < 256) ∧ (s.toS.size : Int) ≤ int64max := by
  have h1 : ∀ r ∈ l, ckOk [.ints .u8 32, .str] r.toL := h
  have h3 := h1 _ hd
  generalize d.toL = r at h3 ⊢
  match r, h3 with
  | [k, s], h3 =>
    obtain ⟨h4, h5, _⟩ := h3
    exact ⟨k, s, rfl, h4.1, fun x hx => has_in.1 (h4.2 x hx), h5⟩
theorem entAt_mem {l : List D} {i : Nat} (hi : i < l.length) : entAt l i ∈ l := by
  simp only [entAt, List.getD, List.getElem?_eq_getElem hi, Option.getD_some]
  exact List.getElem_mem _
theorem key_ok {l : List D} (h : EK.ok [.ints .u8 32, .str] (.L l)) {d : D} (hd : d ∈ l) : (keyE d).length = 32 ∧ (∀ x ∈ keyE d, 0 ≤ x ∧ x < 256) := by
  obtain ⟨k, s, e, h1, h2, _⟩ := row_ok h hd
  rw [keyE, e]; exact ⟨h1, h2⟩

theorem cmp_trans : ∀ {a b c : List Int}, a.length = b.length → b.length = c.length → cmpL a b < 0 → cmpL b c ≤ 0 → cmpL a c < 0
  | [], [], [], _, _, h, _ => by simp [cmpL] at h
  | x :: a, y :: b, z :: c, h1, h2, h, h' => by
    simp only [cmpL] at h h' ⊢
    have h1 : a.length = b.length := by simpa using h1
    have h2 : b.length = c.length := by simpa using h2
    split at h
    · split at h'
      · rw [if_pos (by omega)]; omega
      · split at h'
        · omega
        · rw [if_pos (by omega)]; omega
    · split at h
      · omega
      · split at h'
        · rw [if_pos (by omega)]; omega
        · split at h'
          · omega
          · rw [if_neg (by omega), if_neg (by omega)]
            exact cmp_trans h1 h2 h h'
theorem cmp_anti : ∀ {a b : List Int}, a.length = b.length → cmpL a b = - cmpL b a
  | [], [], _ => by simp [cmpL]
  | x :: a, y :: b, h => by
    simp only [cmpL]
    have h : a.length = b.length := by simpa using h
    by_cases h1 : x < y
    · rw [if_pos h1, if_neg (by omega), if_pos h1]
    · by_cases h2 : x > y
      · rw [if_neg h1, if_pos h2, if_pos h2]; rfl
      · rw [if_neg h1, if_neg h2, if_neg h2, if_neg h1]
        exact cmp_anti h
theorem cmp_eq : ∀ {a b : List Int}, a.length = b.length → (cmpL a b = 0 ↔ a = b)
  | [], [], _ => by simp [cmpL]
  | x :: a, y :: b, h => by
    simp only [cmpL]
    have h : a.length = b.length := by simpa using h
    by_cases h1 : x < y
    · rw [if_pos h1]; simp; omega
    · by_cases h2 : x > y
      · rw [if_neg h1, if_pos h2]; simp; omega
      · rw [if_neg h1, if_neg h2, cmp_eq h, show x = y from by omega]; simp

theorem half {i j : Int} (h : 0 ≤ i) (h' : i < j) (h2 : j ≤ 1000000) : IntKind.wrap .i64 (shrI .u64 (IntKind.wrap .u64 (IntKind.wrap .i64 (i + j))) (1 : Int)) = (i + j) / 2 := by
  have e0 : IntKind.wrap .i64 (i + j) = i + j := i64w (by omega) (by omega)
  have e1 : IntKind.wrap .u64 (i + j) = i + j := u64w (by omega) (by omega)
  have e : shrI .u64 (i + j) 1 = (i + j) / 2 := by
    show (i + j).fdiv 2 = (i + j) / 2
    exact Int.fdiv_eq_ediv_of_nonneg _ (by decide)
  rw [e0, e1, e, i64w (by omega) (by omega)]

theorem BSF.pure : BSF.Pure := by
  intro v0 l1 z2 h1 h2 h3 h4 n3
  have h4 : rising l1 ∧ l1.length ≤ 1000000 := h4
  have hk : ∀ i : Nat, i < l1.length → (keyE (entAt l1 i)).length = z2.length := fun i hi => by rw [(key_ok h3 (entAt_mem hi)).1, h1]
  have anti : ∀ a b : List Int, a.length = b.length → cmpL a b = - cmpL b a := fun a b h => cmp_anti h
  refine ⟨?_, ?_⟩
  · exact ⟨by omega, by omega, by omega, fun t ht => by omega, fun t ht ht' => by omega⟩
  intro i4 i5 h5 h6 h7
  obtain ⟨a1, a2, a3, a4, a5⟩ : 0 ≤ i4 ∧ i4 ≤ i5 ∧ i5 ≤ l1.length ∧ (∀ t : Nat, (t : Int) < i4 → cmpL (keyE (entAt l1 t)) z2 < 0) ∧ (∀ t : Nat, i5 ≤ (t : Int) → t < l1.length → 0 ≤ cmpL (keyE (entAt l1 t)) z2) := h7
  refine ⟨?_, ?_⟩
  · intro h8
    rw [half a1 h8 (by omega)]
    refine ⟨by omega, fun h9 => ?_⟩
    refine ⟨by omega, fun h10 => ?_⟩
    refine ⟨trivial, ?_⟩
    intro i6 h11 h12
    have h11 : i6 = cmpL (keyE (entAt l1 ((i4 + i5) / 2).toNat)) z2 := h11
    refine ⟨?_, ?_⟩
    · intro h13
      rw [i64w (by omega) (by omega)]
      refine ⟨⟨by omega, by omega, by omega, fun t ht => ?_, a5⟩, ?_⟩
      · by_cases ht2 : t = ((i4 + i5) / 2).toNat
        · subst ht2; omega
        · have hl := h4.1 t ((i4 + i5) / 2).toNat (by omega) (by omega)
          exact cmp_trans (by rw [hk t (by omega), hk _ (by omega)]) (hk _ (by omega)) hl (by omega)
      · show (i5 - ((i4 + i5) / 2 + 1)).toNat < (i5 - i4).toNat
        omega
    · intro h13
      refine ⟨⟨by omega, by omega, by omega, a4, fun t ht ht' => ?_⟩, ?_⟩
      · by_cases ht2 : t = ((i4 + i5) / 2).toNat
        · subst ht2; omega
        · have hl := h4.1 ((i4 + i5) / 2).toNat t (by omega) (by omega)
          have e1 := anti (keyE (entAt l1 t)) z2 (hk t ht')
          have e2 := anti (keyE (entAt l1 ((i4 + i5) / 2).toNat)) z2 (hk _ (by omega))
          by_cases hc : cmpL (keyE (entAt l1 t)) z2 < 0
          · have := cmp_trans (by rw [hk t (by omega), hk _ (by omega)]) (hk _ (by omega)) hl (Int.le_of_lt hc)
            omega
          · omega
      · show ((i4 + i5) / 2 - i4).toNat < (i5 - i4).toNat
        omega
  · intro h8
    refine ⟨?_, ?_⟩
    · intro h9
      refine ⟨a1, fun h10 => ?_⟩
      refine ⟨trivial, ?_⟩
      intro i6 h11 h12
      have h11 : i6 = cmpL (keyE (entAt l1 i4.toNat)) z2 := h11
      refine ⟨a1, by omega, a4, fun t ht ht' => a5 t (by omega) ht', ?_⟩
      rw [h11]
      simp [h9]
      try rfl
    · intro h9
      refine ⟨a1, by omega, a4, fun t ht ht' => by omega, ?_⟩
      simp [Int.not_lt.2 h9]

theorem ECmp.pure : ECmp.Pure := by
  intro z0 s1 z2 h1 h2 h3 h4 h5 h6 n3 n4
  exact ⟨trivial, fun i5 h7 h8 => h7⟩
theorem TFind.pure : TFind.Pure := by
  intro n0 v1 l2 z3 h1 h2 h3 h4 n4
  exact ⟨h4, fun i5 b6 h5 h6 => h5⟩
theorem TLen.pure : TLen.Pure := by
  intro n0 v1 l2
  intros
  rfl
theorem TGet.pure : TGet.Pure := by
  intro n0 v1 l2 z3 h1 h2 h3 h4 n4
  refine ⟨h4, fun i5 b6 h5 h6 => ?_⟩
  have h5 : placeOf l2 z3 i5 b6 := h5
  refine ⟨?_, ?_⟩
  · intro h7
    subst h7
    exact ⟨i5, h5, rfl⟩
  · intro h7
    subst h7
    obtain ⟨p1, p2, p3, p4, p5⟩ := h5
    have hh : i5 < l2.length := by
      have := p5.symm
      simp only [Bool.and_eq_true, decide_eq_true_eq] at this
      exact this.1
    exact ⟨p1, fun _ => ⟨hh, fun _ => ⟨i5, ⟨p1, p2, p3, p4, p5⟩, rfl⟩⟩⟩
theorem TIns.pure : TIns.Pure := by
  intro v0 l1 i2 v3 l4 h1 h2 h3 h4 v5
  obtain ⟨p1, p2, p3, p4⟩ : i2 = l1.length ∧ 1 ≤ l4.length ∧ l1.length ≤ 1000000 ∧ l4.length ≤ 1000000 := h4
  refine ⟨by omega, fun _ => ⟨by omega, fun _ => ⟨fun h => by omega, fun _ => ⟨fun h => ⟨by rw [List.length_append]; omega, fun _ v6 => rfl⟩, fun h => absurd p1 h⟩⟩⟩⟩
theorem put_place {l : List D} {k : List Int} {i : Int} {f : Bool} (hk : ∀ i : Nat, i < l.length → (keyE (entAt l i)).length = k.length)
    (hl : l = [] ∨ (rising l ∧ l.length ≤ 1000000 ∧ ∃ i : Nat, i < l.length ∧ cmpL (keyE (entAt l i)) k = 0)) (h : placeOf l k i f) :
    (f = false → l = [] ∧ i = 0) ∧ (f = true → l ≠ []) := by
  obtain ⟨p1, p2, p3, p4, p5⟩ := h
  constructor
  · intro hf
    rcases hl with hl | ⟨hr, hn, j, hj, hc⟩
    · subst hl; simp at p2; exact ⟨rfl, by omega⟩
    · exfalso
      have h1 : i ≤ j := by
        by_cases hh : i ≤ j
        · exact hh
        · have := p3 j (by omega); omega
      have hi : i < l.length := by omega
      rw [hf] at p5
      have h4 := p4 i.toNat (by omega) (by omega)
      have h5 : ¬ cmpL (keyE (entAt l i.toNat)) k = 0 := by
        intro he
        simp [hi, he] at p5
      by_cases hij : i.toNat = j
      · rw [hij] at h5; exact h5 hc
      · have := cmp_trans (by rw [hk _ (by omega), hk j hj]) (hk j hj) (hr i.toNat j (by omega) hj) (by omega)
        omega
  · intro hf he
    subst he
    rw [hf] at p5
    simp at p5 p2
    omega
theorem TPut.pure : TPut.Pure := by
  intro n0 v1 l2 z3 s4 h1 h2 h3 h4 h5 n5
  have h5 : l2 = [] ∨ (rising l2 ∧ l2.length ≤ 1000000 ∧ ∃ i : Nat, i < l2.length ∧ cmpL (keyE (entAt l2 i)) z3 = 0) := h5
  have hk : ∀ i : Nat, i < l2.length → (keyE (entAt l2 i)).length = z3.length := fun i hi => by rw [(key_ok h4 (entAt_mem hi)).1, h1]
  have hpre : rising l2 ∧ l2.length ≤ 1000000 := by
    rcases h5 with h | h
    · subst h; exact ⟨fun i j _ hj => by simp at hj, by simp⟩
    · exact ⟨h.1, h.2.1⟩
  refine ⟨hpre, ?_⟩
  intro i6 b7 h6 h7
  have pl := put_place hk h5 h6
  have fin : b7 = false → ∀ v8 : Value, TIns.sig.pre [(D.V v1), (D.L l2), (D.I i6), (D.V v8), (D.L ((D.L ((D.Z z3) :: ((D.S s4) :: ([] : List D)))) :: ([] : List D)))] ∧
      ∀ (v9 : Value) (l10 : List D), TIns.sig.post [(D.V v1), (D.L l2), (D.I i6), (D.V v8), (D.L ((D.L ((D.Z z3) :: ((D.S s4) :: ([] : List D)))) :: ([] : List D))), (D.V v9), (D.L l10)] → (EK.ok [.ints .u8 32, .str] (D.L l10)) →
       TPut.sig.post [(D.N n0), (D.V v1), (D.L l2), (D.Z z3), (D.S s4), (D.V v9), (D.L l10), (D.B (!b7))] := by
    intro hb v8
    obtain ⟨e1, e2⟩ := pl.1 hb
    subst e1; subst e2; subst hb
    refine ⟨⟨rfl, by simp, by simp, by simp⟩, fun v9 l10 h9 _ => ?_⟩
    have h9 : l10 = [] ++ [D.L [.Z z3, .S s4]] := h9
    exact ⟨fun _ => ⟨h9, rfl⟩, fun h => absurd rfl h⟩
  exact ⟨fun h8 => ⟨fin h8, fin h8, fin h8⟩, fun h8 => ⟨fun he => absurd he (pl.2 h8), fun _ => ⟨rfl, by rw [h8]; rfl⟩⟩⟩
theorem Awake22.pure : Awake22.Pure := by
  intro h0 v0 n1
  refine ⟨by show (1 : Nat) ≤ 1000000; omega, ?_⟩
  intro z2 h1 h2 h3 n3
  refine ⟨.inl rfl, ?_⟩
  intro v4 l5 b6 h4 h5
  obtain ⟨rfl, rfl⟩ := h4.1 rfl
  have hcc : cmpL z2 z2 = 0 := (cmp_eq rfl).2 rfl
  have hr : rising [rowE z2 ⟨#[97]⟩] := fun i j hij hj => by simp at hj; omega
  have hone : ∃ i : Nat, i < [rowE z2 ⟨#[97]⟩].length ∧ cmpL (keyE (entAt [rowE z2 ⟨#[97]⟩] i)) z2 = 0 := ⟨0, by simp, hcc⟩
  refine ⟨.inr ⟨hr, by simp, hone⟩, ?_⟩
  intro v7 l8 b9 h6 h7
  obtain ⟨rfl, rfl⟩ := h6.2 (by simp)
  refine ⟨⟨hr, by simp⟩, ?_⟩
  intro s10 b11 h8 h9
  obtain ⟨i, hp, hs⟩ := h8
  have hk : ∀ i : Nat, i < [rowE z2 ⟨#[97]⟩].length → (keyE (entAt [rowE z2 ⟨#[97]⟩] i)).length = z2.length := fun i hi => by
    have : i = 0 := by simp at hi; omega
    subst this; rfl
  have pl := put_place hk (.inr ⟨hr, by simp, hone⟩) hp
  cases b11 with
  | false => exact absurd (pl.1 rfl).1 (by simp)
  | true =>
    have hi : i = 0 := by
      obtain ⟨p1, p2, p3, p4, p5⟩ := hp
      simp at p5
      omega
    subst hi
    rw [if_pos rfl] at hs
    subst hs
    refine ⟨fun _ => ⟨fun _ => ⟨fun _ => ⟨fun _ => ⟨trivial, fun i12 h12 _ => ?_⟩, fun h => absurd rfl h⟩, fun h => by cases h⟩, fun h => by cases h⟩, fun h => by cases h⟩
    have h12 : i12 = 1 := h12
    subst h12; rfl

theorem entB_snoc {l : List D} {i : Nat} (hi : i < l.length) : (l.take (i + 1)).flatMap entB = (l.take i).flatMap entB ++ entB (entAt l i) := by
  have e : l.take (i + 1) = l.take i ++ [entAt l i] := by
    rw [List.take_add_one]
    simp [entAt, List.getD, List.getElem?_eq_getElem hi]
  rw [e, List.flatMap_append]; simp
theorem entB_part (l : List D) (i : Nat) : ((l.take i).flatMap entB).length ≤ (l.flatMap entB).length := by
  have : l.flatMap entB = (l.take i).flatMap entB ++ (l.drop i).flatMap entB := by rw [← List.flatMap_append, List.take_append_drop]
  rw [this, List.length_append]; omega
theorem TBytes.pure : TBytes.Pure := by
  intro n0 v1 l2 h1 h2 v3 n4
  obtain ⟨q1, q2⟩ : l2.length ≤ 900000 ∧ (tblB l2).length ≤ 900000 := h2
  have hu : IntKind.wrap .u64 ((l2.length : Nat) : Int) = l2.length := u64w (by omega) (by omega)
  rw [hu]
  have ql : 8 + (numB l2.length).length + (l2.flatMap entB).length ≤ 900000 := by
    rw [tblB, List.length_append, List.length_append] at q2
    exact q2
  refine ⟨⟨by simp, by decide⟩, ?_⟩
  intro v5 z6 h3 h4
  have h3 : z6 = [] ++ bytesOf ⟨#[79, 82, 68, 69, 65, 76, 84, 49]⟩ := h3
  have e6 : z6 = [79, 82, 68, 69, 65, 76, 84, 49] := by rw [h3]; decide
  subst e6
  refine ⟨by show (8 : Nat) ≤ 3000000000; omega, ?_⟩
  intro v7 z8 h5 h6
  refine ⟨⟨by omega, by omega, ?_⟩, ?_⟩
  · have h5 : z8 = _ ++ numB l2.length := h5
    rw [h5]; simp
  intro i9 v10 z11 h7 h8 h9
  obtain ⟨a1, a2, a3⟩ : 0 ≤ i9 ∧ i9 ≤ l2.length ∧ z11 = [79, 82, 68, 69, 65, 76, 84, 49] ++ numB l2.length ++ (l2.take i9.toNat).flatMap entB := h9
  have hz : z11.length ≤ 900000 := by
    have := entB_part l2 i9.toNat
    rw [a3, List.length_append, List.length_append]
    show 8 + _ + _ ≤ _
    omega
  refine ⟨?_, ?_⟩
  · intro h10
    refine ⟨a1, fun h11 => ?_⟩
    intro n12
    have hm := entAt_mem (l := l2) (i := i9.toNat) (by omega)
    have hk := key_ok h1 hm
    obtain ⟨k, s, er, r1, r2, r3⟩ := row_ok h1 hm
    have es := entB_snoc (l := l2) (i := i9.toNat) (by omega)
    have el := entB_part l2 (i9.toNat + 1)
    rw [es, List.length_append, entB, List.length_append, textB, List.length_append, bytesOf_length'] at el
    refine ⟨⟨by omega, ?_⟩, ?_⟩
    · show (textOf (keyE (entAt l2 i9.toNat))).size ≤ _
      rw [textOf_size, hk.1]; omega
    intro v13 z14 h12 h13
    have h12 : z14 = z11 ++ bytesOf (textOf (keyE (entAt l2 i9.toNat))) := h12
    rw [bytesOf_textOf hk.2] at h12
    refine ⟨⟨by rw [h12, List.length_append, hk.1]; omega, ?_⟩, ?_⟩
    · show (textE (entAt l2 i9.toNat)).size ≤ _
      omega
    intro v15 z16 h14 h15
    have h14 : z16 = z14 ++ textB (textE (entAt l2 i9.toNat)) := h14
    rw [i64w (by omega) (by omega)]
    refine ⟨⟨by omega, by omega, ?_⟩, ?_⟩
    · rw [show (i9 + 1).toNat = i9.toNat + 1 from by omega, es, h14, h12, a3, entB]
      simp only [List.append_assoc]
    · show ((l2.length : Int) - (i9 + 1)).toNat < ((l2.length : Int) - i9).toNat
      omega
  · intro h10
    have e11 : z11 = tblB l2 := by
      rw [a3, List.take_of_length_le (by omega)]; rfl
    refine ⟨trivial, ?_⟩
    intro s12 h11 h12
    have h11 : s12 = textOf z11 := h11
    subst h11
    refine ⟨by show (textOf z11).size ≤ 1000000; rw [textOf_size]; omega, ?_⟩
    intro z13 h13 h14 h15 n14
    have h13 : z13 = shaL (bytesOf (textOf z11)) := h13
    have h8' : ∀ x ∈ z11, 0 ≤ x ∧ x < 256 := fun x hx => has_in.1 (h8 x hx)
    have h15' : ∀ x ∈ z13, 0 ≤ x ∧ x < 256 := fun x hx => has_in.1 (h15 x hx)
    rw [bytesOf_textOf h8'] at h13
    refine ⟨⟨by omega, by rw [textOf_size, h14]; omega⟩, ?_⟩
    intro v15 z16 h16 h17
    have h16 : z16 = z11 ++ bytesOf (textOf z13) := h16
    rw [bytesOf_textOf h15'] at h16
    refine ⟨trivial, ?_⟩
    intro s17 h18 h19
    have h18 : s17 = textOf z16 := h18
    show s17 = textOf (sealB (tblB l2))
    rw [h18, h16, h13, e11]; rfl
end Go.Vc
namespace Go.Vc
theorem rdText_rg {S : ByteArray} {a e m a1 e1 : Int} {r : ByteArray} (ha : 0 ≤ a ∧ a ≤ S.size) (h : (a1, e1, r) = rdText S a e m) : 0 ≤ a1 ∧ a1 ≤ S.size ∧ (e1 ≠ 0 → a1 = a) := by
  generalize hn : rdNum S a e = n at h
  obtain ⟨b, f, w⟩ := n
  have hb := rdNum_at ha hn.symm
  unfold rdText at h
  rw [hn] at h
  simp only at h
  generalize hx : (if f = 0 ∧ w > max m 0 then (12 : Int) else f) = x at h
  generalize hq : rdRaw S b x (min w 1099511627776) = q at h
  obtain ⟨c, g, u⟩ := q
  have hc := rdRaw_at hb hq.symm
  simp only [Prod.mk.injEq] at h
  obtain ⟨h1, h2, _⟩ := h
  subst h2
  by_cases hg : e1 = 0
  · rw [if_neg (by omega)] at h1; subst h1; exact ⟨hc.1, hc.2, fun h => absurd hg h⟩
  · rw [if_pos hg] at h1; subst h1; exact ⟨ha.1, ha.2, fun _ => rfl⟩
theorem numB_pos (v : Int) : 1 ≤ (numB v).length := by
  unfold numB; split <;> simp
theorem rdRaw_32 {S : ByteArray} {a e a1 e1 : Int} {r : ByteArray} (h : (a1, e1, r) = rdRaw S a e 32) : (e1 = 0 → a1 = a + 32) ∧ (a ≤ a1) := by
  unfold rdRaw at h
  split at h
  · simp only [Prod.mk.injEq] at h; exact ⟨fun h' => by omega, by omega⟩
  · split at h <;> simp only [Prod.mk.injEq] at h
    · exact ⟨fun h' => by omega, by omega⟩
    · exact ⟨fun h' => by omega, by omega⟩
/-- Of one more entry: where it ends. -/
theorem step_rg {S : ByteArray} {a e : Int} {L : List D} (ha : 0 ≤ a ∧ a ≤ S.size) : 0 ≤ (tblStep S (a, e, L)).1 ∧ (tblStep S (a, e, L)).1 ≤ S.size ∧ a ≤ (tblStep S (a, e, L)).1 ∧ ((tblStep S (a, e, L)).2.1 = 0 → a + 33 ≤ (tblStep S (a, e, L)).1) := by
  unfold tblStep
  simp only
  generalize hr : rdRaw S a e 32 = r
  obtain ⟨b, f, k⟩ := r
  have hb := rdRaw_at ha hr.symm
  have h32 := rdRaw_32 hr.symm
  simp only
  generalize ht : rdText S b f 4194304 = t
  obtain ⟨c, g, u⟩ := t
  have hc := rdText_rg hb ht.symm
  simp only
  refine ⟨hc.1, hc.2.1, ?_, ?_⟩
  · by_cases hg : g = 0
    · subst hg
      have := text_spell hb (by decide) ht.symm
      omega
    · have := hc.2.2 hg
      omega
  · intro hz
    have hg : g = 0 := by
      split at hz
      · omega
      · exact hz
    subst hg
    have s := text_spell hb (by decide) ht.symm
    have h1 := h32.1 s.1
    have hl := congrArg List.length s.2.2.2
    have hn := numB_pos u.size
    rw [textB, List.length_append, pk_len (by rw [bytesOf_length']; omega)] at hl
    omega
theorem go_stop {S : ByteArray} {x : Int × Int × List D} (h : x.2.1 ≠ 0) : ∀ n, tblGo S n x = x
  | 0 => rfl
  | n + 1 => by rw [tblGo, if_neg h]

theorem TRead.p0 {n1 : Nat} {s0 s8 : ByteArray} {i9 i10 i7 : Int} {l12 : List D} (hs : s0.size ≤ 500000) (hi : 0 < i7 ∧ i7 < 18446744073709551616) (he : i10 = 0)
    (h : TRead.I0 [(D.S s0), (D.I i7), (D.S s8), (D.I i9), (D.I i10), (D.L l12)]) : TRead.K0 n1 s8 i9 i10 l12 s0 i7 := by
  obtain ⟨rfl, a1, a2, a3, a4⟩ : s8 = s0 ∧ 0 ≤ i9 ∧ i9 ≤ s0.size ∧ 33 * l12.length ≤ i9 + (if i10 = 0 then 0 else 33) ∧ tblGo s0 i7.toNat (i9, i10, l12) = tblAll s0 := h
  subst he
  rw [if_pos rfl] at a3
  rw [show i7.toNat = (i7 - 1).toNat + 1 from by omega, tblGo, if_pos rfl] at a4
  have sr := step_rg (e := 0) (L := l12) ⟨a1, a2⟩
  refine ⟨⟨a1, a2⟩, ?_⟩
  intro i14 i15 s16 h29 h30 h31 h32
  have h29 : (i14, i15, s16) = rdRaw s8 i9 0 32 := h29
  have hb := rdRaw_at ⟨a1, a2⟩ h29
  refine ⟨hb, ?_⟩
  intro i17 i18 s19 h33 h34 h35 h36
  have h33 : (i17, i18, s19) = rdText s8 i14 i15 4194304 := h33
  refine ⟨trivial, fun _ => ?_⟩
  have hw : IntKind.wrap .u64 (i7 - 1) = i7 - 1 := u64w (by omega) (by omega)
  have hlen : (((l12 ++ [D.L [D.Z (key32 s16), D.S s19]]).length : Nat) : Int) ≤ 2932031007402 := by
    rw [List.length_append]; simp; omega
  have go : ∀ x : Int, (x = if i18 = 0 ∧ 0 < l12.length ∧ 0 ≤ cmpL (keyE (entAt l12 (l12.length - 1))) (key32 s16) then 16 else i18) →
      TRead.I0 [(D.S s8), (D.I (IntKind.wrap .u64 (i7 - (1 : Int)))), (D.S s8), (D.I i17), (D.I x), (D.L (l12 ++ [D.L [D.Z (key32 s16), D.S s19]]))] ∧
      TRead.I0M [(D.S s8), (D.I (IntKind.wrap .u64 (i7 - (1 : Int)))), (D.S s8), (D.I i17), (D.I x), (D.L (l12 ++ [D.L [D.Z (key32 s16), D.S s19]]))] < TRead.I0M [(D.S s8), (D.I i7), (D.S s8), (D.I i9), (D.I 0), (D.L l12)] := by
    intro x hx
    have e : tblStep s8 (i9, 0, l12) = (i17, x, l12 ++ [D.L [D.Z (key32 s16), D.S s19]]) := by
      unfold tblStep
      simp only
      rw [← h29]
      simp only
      rw [← h33]
      simp only
      rw [← hx]; rfl
    rw [e] at sr a4
    rw [hw]
    refine ⟨⟨rfl, sr.1, sr.2.1, ?_, a4⟩, ?_⟩
    · rw [List.length_append]
      simp only [List.length_cons, List.length_nil] at sr ⊢
      by_cases hx0 : x = 0
      · rw [if_pos hx0]; have := sr.2.2.2 hx0; omega
      · rw [if_neg hx0]; omega
    · show (i7 - 1).toNat < i7.toNat
      omega
  refine ⟨?_, ?_⟩
  · intro h38
    refine ⟨?_, ?_⟩
    · intro h39
      rw [show IntKind.wrap .i64 (((l12.length : Nat) : Int) - (1 : Int)) = (l12.length : Int) - 1 from i64w (by omega) (by omega)]
      refine ⟨by omega, fun _ => ⟨by omega, fun _ => ⟨trivial, ?_⟩⟩⟩
      intro i20 h42 h43
      have h42 : i20 = cmpL (keyE (entAt l12 ((l12.length : Int) - 1).toNat)) (key32 s16) := h42
      rw [show ((l12.length : Int) - 1).toNat = l12.length - 1 from by omega] at h42
      refine ⟨?_, ?_⟩
      · intro h44
        refine ⟨rdText_at hb h33, ?_⟩
        intro i21 i22 h45 h46 h47
        obtain ⟨rfl, h45⟩ : i21 = i17 ∧ i22 = if i18 = 0 then 16 else i18 := h45
        rw [if_pos h38] at h45
        have g := go i22 (by rw [h45, if_pos ⟨h38, by omega, by omega⟩])
        exact ⟨fun _ => ⟨hlen, fun _ _ => g⟩, fun _ => ⟨hlen, fun _ _ => g⟩, fun _ => ⟨hlen, fun _ _ => g⟩⟩
      · intro h44
        have g := go i18 (by rw [if_neg (by omega)])
        exact ⟨fun _ => ⟨hlen, fun _ _ => g⟩, fun _ => ⟨hlen, fun _ _ => g⟩, fun _ => ⟨hlen, fun _ _ => g⟩⟩
    · intro h39
      have g := go i18 (by rw [if_neg (by omega)])
      exact ⟨fun _ => ⟨hlen, fun _ _ => g⟩, fun _ => ⟨hlen, fun _ _ => g⟩, fun _ => ⟨hlen, fun _ _ => g⟩⟩
  · intro h38
    have g := go i18 (by rw [if_neg (by omega)])
    exact ⟨fun _ => ⟨hlen, fun _ _ => g⟩, fun _ => ⟨hlen, fun _ _ => g⟩, fun _ => ⟨hlen, fun _ _ => g⟩⟩

theorem done_num {S : ByteArray} {a e : Int} (x : List D) : (∀ n, tblGo S n (a, e, x) = tblAll S → (n = 0 ∨ e ≠ 0) → (rdDone S a e, x) = tblRd S) := by
  intro n h hc
  have h2 : tblGo S n (a, e, x) = (a, e, x) := by
    rcases hc with rfl | hc
    · rfl
    · exact go_stop hc n
  rw [tblRd, ← h, h2]
theorem TRead.p1 {s0 : ByteArray} (hs : s0.size ≤ 500000) : TRead.K1 s0 := by
  intro n1 n2 i3 i4 i5 v6 h1 h2 h3 h4
  have h4 : (i4, i5, i3) = tblNum s0 := h4
  have ha : 0 ≤ i4 ∧ i4 ≤ s0.size := by
    have e0 : (i4, i5, i3) = rdNum s0 (rdRaw s0 0 0 8).1 (if (rdRaw s0 0 0 8).2.1 = 0 ∧ (rdRaw s0 0 0 8).2.2 ≠ tblMagic then 3 else (rdRaw s0 0 0 8).2.1) := h4
    exact rdNum_at (rdRaw_at (r := (rdRaw s0 0 0 8).2.2) (e1 := (rdRaw s0 0 0 8).2.1) (e := 0) (n := 8) (a := 0) ⟨by omega, by omega⟩ rfl) e0
  refine ⟨⟨rfl, ha.1, ha.2, by simp; split <;> omega, by rw [tblAll, ← h4]⟩, ?_⟩
  intro i7 s8 i9 i10 v11 l12 h5 h6 h7 h8 h9 h10
  have h10' := h10
  obtain ⟨rfl, a1, a2, a3, a4⟩ : s8 = s0 ∧ 0 ≤ i9 ∧ i9 ≤ s0.size ∧ 33 * l12.length ≤ i9 + (if i10 = 0 then 0 else 33) ∧ tblGo s0 i7.toNat (i9, i10, l12) = tblAll s0 := h10'
  have fin : (i7.toNat = 0 ∨ i10 ≠ 0) → PDone.sig.pre [(D.N n1), (D.S s8), (D.I i9), (D.I i10)] ∧ ∀ (i13 i14 i15 : Int), PDone.sig.post [(D.N n1), (D.S s8), (D.I i9), (D.I i10), (D.I i13), (D.I i14), (D.I i15)] →
     (-9223372036854775808 ≤ i15 ∧ i15 < 9223372036854775808) → (-9223372036854775808 ≤ i13 ∧ i13 < 9223372036854775808) → (-9223372036854775808 ≤ i14 ∧ i14 < 9223372036854775808) →
     (((i15 ≠ (0 : Int)) → TRead.sig.post [(D.S s8), (D.I i15)]) ∧ ((i15 = (0 : Int)) → TRead.sig.post2 [(D.S s8), (D.N n2), (D.V v11), (D.L l12)] ∧ True)) := by
    intro hc
    refine ⟨⟨a1, a2⟩, ?_⟩
    intro i13 i14 i15 h _ _ _
    obtain ⟨_, e1, e2⟩ : i13 = i9 ∧ i14 = rdDone s8 i9 i10 ∧ i15 = i14 := h
    have d := done_num l12 _ a4 hc
    rw [e1] at e2
    subst e2
    exact ⟨fun h => ⟨h, congrArg (·.1) d⟩, fun h => ⟨⟨by rw [← d]; exact h, congrArg (·.2) d⟩, trivial⟩⟩
  refine ⟨?_, ?_⟩
  · intro h26
    refine ⟨trivial, fun _ => ⟨?_, ?_⟩⟩
    · intro h28 n13
      have k := TRead.p0 (n1 := n1) hs ⟨h26, h5.2⟩ h28 h10
      exact ⟨k, k⟩
    · intro h28
      exact fin (.inr h28)
  · intro h26
    exact fin (.inl (by omega))
theorem TRead.pure : TRead.Pure := by
  intro s0 h1 h2
  have hs : s0.size ≤ 500000 := h2
  refine ⟨trivial, ?_⟩
  intro n1 h3
  refine ⟨⟨by omega, by omega⟩, ?_⟩
  intro i2 i3 s4 h4 h5 h6 h7
  have h4 : (i2, i3, s4) = rdRaw s0 0 0 8 := h4
  have hr := rdRaw_at (S := s0) (a := 0) ⟨by omega, by omega⟩ h4
  have key : ∀ x, (x = if i3 = 0 ∧ s4 ≠ tblMagic then 3 else i3) → ∀ a e n, (a, e, n) = rdNum s0 i2 x → (a, e, n) = tblNum s0 := by
    intro x hx a e n h
    rw [tblNum, ← h4]
    simp only
    rw [← hx]; exact h
  refine ⟨?_, ?_⟩
  · intro h8
    refine ⟨hr, ?_⟩
    intro i5 i6 h9 h10 h11 v7 n8
    obtain ⟨rfl, h9⟩ : i5 = i2 ∧ i6 = if i3 = 0 then 3 else i3 := h9
    refine ⟨hr, ?_⟩
    intro i9 i10 i11 h12 h13 h14 h15
    refine ⟨key i6 ?_ _ _ _ h12, TRead.p1 hs⟩
    rw [h9]
    by_cases hc : i3 = 0
    · rw [if_pos hc, if_pos ⟨hc, h8⟩]
    · rw [if_neg hc, if_neg (fun h => hc h.1)]
  · intro h8 v5 n6
    refine ⟨hr, ?_⟩
    intro i7 i8 i9 h12 h13 h14 h15
    exact ⟨key i3 (by rw [if_neg (fun h => h.2 h8)]) _ _ _ h12, TRead.p1 hs⟩

theorem TParse.pure : TParse.Pure := by
  intro s0 h1 h2
  have hs : s0.size ≤ 500000 := h2
  have hw : IntKind.wrap .i64 (((s0.size : Nat) : Int) - (32 : Int)) = (s0.size : Int) - 32 := i64w (by omega) (by omega)
  rw [hw]
  refine ⟨?_, ?_⟩
  · intro h3
    refine ⟨by decide, ?_⟩
    rw [tblPs, if_pos (by omega)]
  · intro h3
    refine ⟨by omega, fun _ => ⟨by omega, fun _ => ?_⟩⟩
    rw [show (0 : Int).toNat = 0 from rfl, show ((s0.size : Int) - 32).toNat = s0.size - 32 from by omega, show ((s0.size : Nat) : Int).toNat = s0.size from by omega]
    have hz : (s0.extract 0 (s0.size - 32)).size ≤ 500000 := by rw [ByteArray.size_extract]; omega
    refine ⟨by show _ ≤ 1000000; omega, ?_⟩
    intro z1 h4 h5 h6 n2
    have h4 : z1 = shaL (bytesOf (s0.extract 0 (s0.size - 32))) := h4
    refine ⟨?_, ?_⟩
    · intro h7
      rw [h4] at h7
      refine ⟨by decide, ?_⟩
      rw [tblPs, if_neg (by omega), if_pos h7]
    · intro h7
      rw [h4] at h7
      have e : tblPs s0 = tblRd (s0.extract 0 (s0.size - 32)) := by rw [tblPs, if_neg (by omega), if_neg (fun h => h h7)]
      refine ⟨⟨hz, ?_⟩, ⟨hz, ?_⟩⟩
      · intro i3 h8 h9
        exact ⟨h8.1, by rw [e]; exact h8.2⟩
      · intro n3 v4 l5 h8 h9
        exact ⟨⟨by rw [e]; exact h8.1, by rw [e]; exact h8.2⟩, trivial⟩

theorem magicB : bytesOf tblMagic = [79, 82, 68, 69, 65, 76, 84, 49] := by decide
end Go.Vc
namespace Go.Vc
theorem extract_left {a b : ByteArray} : (a ++ b).extract 0 a.size = a := by
  apply text_inj
  rw [bytesOf_extract, bytesOf_append, List.drop_zero, ← bytesOf_length', List.take_left]

end Go.Vc
