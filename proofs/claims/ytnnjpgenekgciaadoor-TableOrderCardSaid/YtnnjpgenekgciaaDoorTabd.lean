/-
  Contracts of tables that grow: insertion anywhere, the document's lists, items.
  Printed by wip/vct.py: the conditions of functions, by their contracts.
  Tables that grow: the plain part.
  Tables that grow: bytes there and back; the laws.
  Tables that grow: the order in which entries come doesn't matter.
-/
import Derived.Test.YtnnjpgenekgciaaDoorTabc
import Derived.Test.YtnnjpgenekgciaaDoorTabi
import Derived.KernelRfl
set_option linter.unusedVariables false
set_option linter.unusedSimpArgs false
namespace Go.Vc
/-- A place for a name: ahead of it what is smaller. -/
def before (k : List Int) (r : D) : Bool := decide (cmpL (keyE r) k < 0)
def hasE (L : List D) (k : List Int) : Bool := L.any fun r => decide (cmpL (keyE r) k = 0)
/-- A text more, unless the name has one. -/
def putE (L : List D) (k : List Int) (s : ByteArray) : List D :=
  if hasE L k then L else L.takeWhile (before k) ++ rowE k s :: L.dropWhile (before k)

def TPutA.pre : List D → Prop
  | [.N _, .V _, .L L, .Z _, .S _] => rising L ∧ L.length ≤ 900000
  | _ => False
def TPutA.post : List D → Prop
  | [.N _, .V _, .L L, .Z k, .S s, .V _, .L L', .B f] => L' = putE L k s ∧ f = !hasE L k ∧ rising L'
  | _ => False
def TPutA.sig : Sig := { args := [.one (.lf (.ptr (.at 0) 0)), arr .u8 32 3, aS 4], heap := tbl 1, srts := [.N, .V, .L, .Z, .S], res := aB 7, heap' := tbl 5, news := [.V, .L, .B], pre := TPutA.pre, post := TPutA.post }

/-- Another table. -/
def tblAt (b n : Nat) : List Ch := [.box (.at b) [.lf (.sl (.at n))], .osl (.at n) entK (.at (n + 1))]
/-- Are all of one in the other? -/
def wIn (L M : List D) : Prop := ∀ d ∈ L, ∃ q ∈ M, keyE q = keyE d ∧ textE q = textE d
def TWithin.pre : List D → Prop
  | [.N _, .V _, .L L, .N _, .V _, .L M] => L.length ≤ 1000000 ∧ rising M ∧ M.length ≤ 1000000
  | _ => False
def TWithin.post : List D → Prop
  | [.N _, .V _, .L L, .N _, .V _, .L M, .B r] => r = true ↔ wIn L M
  | _ => False
def TWithin.sig : Sig := { args := [.one (.lf (.ptr (.at 0) 0)), .one (.lf (.ptr (.at 3) 0))], heap := tblAt 0 1 ++ tblAt 3 4, srts := [.N, .V, .L, .N, .V, .L], res := aB 6, heap' := tblAt 0 1 ++ tblAt 3 4, news := [.B], pre := TWithin.pre, post := TWithin.post }
def TWithin.I0 : List D → Prop
  | [.N _, .V _, .L L, .N _, .V _, .L M, .I i] => 0 ≤ i ∧ i ≤ L.length ∧ ∀ t : Nat, (t : Int) < i → ∃ q ∈ M, keyE q = keyE (entAt L t) ∧ textE q = textE (entAt L t)
  | _ => False
def TWithin.I0M : List D → Nat
  | [.N _, .V _, .L L, .N _, .V _, .L _, .I i] => (L.length - i).toNat
  | _ => 0
def TCopy.post : List D → Prop
  | [.N _, .V _, .L L, .N _, .V _, .L L'] => L' = L
  | _ => False
def TCopy.sig : Sig := { args := [.one (.lf (.ptr (.at 0) 0))], heap := tbl 1, srts := [.N, .V, .L], res := .one (.lf (.ptr (.at 3) 0)), heap' := tbl 1 ++ tblAt 3 4, news := [.N, .V, .L], pre := TAll.pre, post := TCopy.post }

def keyT (X : List D) (t : Nat) : ByteArray := ((X.getD t default).toL.getD 0 default).toS
def textT (X : List D) (t : Nat) : ByteArray := ((X.getD t default).toL.getD 1 default).toS
/-- The first one of that name. -/
def firstAt (X : List D) (k : ByteArray) (j : Nat) : Prop := j < X.length ∧ keyT X j = k ∧ ∀ t, t < j → keyT X t ≠ k
def rFind.post : List D → Prop
  | [.V _, .L X, .S k, .I i] => (i < 0 → ∀ t, t < X.length → keyT X t ≠ k) ∧ (0 ≤ i → firstAt X k i.toNat)
  | _ => False
def rFind.pre : List D → Prop
  | [.V _, .L X, .S _] => X.length ≤ 1000000
  | _ => False
def rFind.sig : Sig := sigF [.l refK, .s] [.i .i64] rFind.pre rFind.post
def rFind.I0 : List D → Prop
  | [.V _, .L X, .S k, .I i] => 0 ≤ i ∧ i ≤ X.length ∧ ∀ t : Nat, (t : Int) < i → keyT X t ≠ k
  | _ => False
def rFind.I0M : List D → Nat
  | [.V _, .L X, .S _, .I i] => (X.length - i).toNat
  | _ => 0
/-- An entry of its two texts. -/
def normX (d : D) : D := .L [.S (d.toL.getD 0 default).toS, .S (d.toL.getD 1 default).toS]
def hasX (X : List D) (k : ByteArray) : Bool := X.any fun d => decide ((d.toL.getD 0 default).toS = k)
def aheadX (k : ByteArray) (d : D) : Bool := !(Op.bytesLess k.toList (d.toL.getD 0 default).toS.toList)
/-- The list that it was, or a longer one. -/
def putX (X : List D) (k s : ByteArray) : List D := if hasX X k then X else (X.takeWhile (aheadX k)).map normX ++ .L [.S k, .S s] :: (X.dropWhile (aheadX k)).map normX
def rPut.pre : List D → Prop
  | [.V _, .L X, .S _, .S _] => X.length ≤ 900000
  | _ => False
def rPut.post : List D → Prop
  | [.V _, .L X, .S k, .S s, .V _, .B f, .L X'] => X' = putX X k s ∧ f = !hasX X k
  | _ => False
def rPut.sig : Sig := { args := [.one (.lf (.sl (.at 0))), .one (.agg [.lf (.str (.at 2)), .lf (.str (.at 3))])], heap := [.rsl (.at 0) refK (.at 1)], srts := [.V, .L, .S, .S], res := .tup [.lf (.sl (.at 4)), .lf (.bool (.at 5))], heap' := [.rsl (.at 4) refK (.at 6)], news := [.V, .B, .L], pre := rPut.pre, post := rPut.post }
def rPut.I0 : List D → Prop
  | [.V _, .L X, .S k, .S s, .L out, .B done, .I i] => 0 ≤ i ∧ i ≤ X.length ∧
      (done = false → out = (X.take i.toNat).map normX ∧ ∀ d ∈ X.take i.toNat, aheadX k d = true) ∧
      (done = true → ∃ j : Nat, (j : Int) < i ∧ (∀ d ∈ X.take j, aheadX k d = true) ∧ aheadX k (entAt X j) = false ∧ out = (X.take j).map normX ++ .L [.S k, .S s] :: ((X.take i.toNat).drop j).map normX)
  | _ => False
def rPut.I0M : List D → Nat
  | [.V _, .L X, .S _, .S _, .L _, .B _, .I i] => (X.length - i).toNat
  | _ => 0
def rWithin.pre : List D → Prop
  | [.V _, .L X, .V _, .L Y] => X.length ≤ 1000000 ∧ Y.length ≤ 1000000
  | _ => False
def rWithin.post : List D → Prop
  | [.V _, .L X, .V _, .L Y, .B r] => r = true ↔ ∀ t, t < X.length → ∃ j, firstAt Y (keyT X t) j ∧ textT Y j = textT X t
  | _ => False
def rWithin.sig : Sig := sigF [.l refK, .l refK] [.b] rWithin.pre rWithin.post
def rWithin.I0 : List D → Prop
  | [.V _, .L X, .V _, .L Y, .I i] => 0 ≤ i ∧ i ≤ X.length ∧ ∀ t : Nat, (t : Int) < i → ∃ j, firstAt Y (keyT X t) j ∧ textT Y j = textT X t
  | _ => False
def rWithin.I0M : List D → Nat
  | [.V _, .L X, .V _, .L _, .I i] => (X.length - i).toNat
  | _ => 0
/-- A list's bytes, without the seal. -/
def rowX (d : D) : List Int := bytesOf (d.toL.getD 0 default).toS ++ textB (d.toL.getD 1 default).toS
def tblX (X : List D) : List Int := [79, 82, 68, 69, 65, 76, 84, 49] ++ numB X.length ++ X.flatMap rowX
def rBytes22.pre : List D → Prop
  | [.V _, .Z st, .V _, .Z k, .V _, .L X] => st = shaStart ∧ k = shaRounds ∧ X.length ≤ 900000 ∧ (tblX X).length ≤ 900000
  | _ => False
def rBytes22.post : List D → Prop
  | [.V _, .Z _, .V _, .Z _, .V _, .L X, .S r] => r = textOf (sealB (tblX X))
  | _ => False
def rBytes22.sig : Sig := { args := [.one (rTabs 0), .one (.lf (.sl (.at 4)))], heap := [.rsl (.at 0) [.int .u32] (.at 1), .rsl (.at 2) [.int .u32] (.at 3), .rsl (.at 4) refK (.at 5)], srts := [.V, .Z, .V, .Z, .V, .L], res := aS 6, heap' := [], news := [.S], pre := rBytes22.pre, post := rBytes22.post }
def rBytes22.I0 : List D → Prop
  | [.V _, .Z _, .V _, .Z _, .V _, .L X, .S s, .I i] => 0 ≤ i ∧ i ≤ X.length ∧ s = textOf ([79, 82, 68, 69, 65, 76, 84, 49] ++ numB X.length ++ (X.take i.toNat).flatMap rowX)
  | _ => False
def rBytes22.I0M : List D → Nat
  | [.V _, .Z _, .V _, .Z _, .V _, .L X, .S _, .I i] => (X.length - i).toNat
  | _ => 0

def itemK : EK := [.str, .str]
/-- The name and the text of an item. -/
def itemKey (d : D) : List Int := shaL (bytesOf ((d.toL.getD 0 default).toS.extract 0 20))
def itemText (d : D) : ByteArray := (d.toL.getD 1 default).toS.extract 0 60
/-- The table of the first n items. -/
def growE : List D → List D → List D
  | L, [] => L
  | L, d :: ds => growE (putE L (itemKey d) (itemText d)) ds
def Grow.post : List D → Prop
  | [.V _, .L items, .N _, .V _, .V _, .L L, .L X] => L = growE [] (items.take 12) ∧ X = refs L ∧ rising L ∧ L.length ≤ 12 ∧ ∀ d ∈ L, (textE d).size ≤ 60
  | _ => False
def Grow.pre : List D → Prop
  | [.V _, .L _] => True
  | _ => False
def Grow.sig : Sig := { args := [.one (.lf (.sl (.at 0)))], heap := [.rsl (.at 0) itemK (.at 1)], srts := [.V, .L], res := .tup [.lf (.ptr (.at 2) 0), .lf (.sl (.at 4))], heap' := [.box (.at 2) [.lf (.sl (.at 3))], .osl (.at 3) entK (.at 5), .rsl (.at 4) refK (.at 6)], news := [.N, .V, .V, .L, .L], pre := Grow.pre, post := Grow.post }
def Grow.I0 : List D → Prop
  | [.V _, .L items, .L X, .I i, .L L] => 0 ≤ i ∧ i ≤ 12 ∧ i ≤ items.length ∧ L = growE [] (items.take i.toNat) ∧ X = refs L ∧ rising L ∧ L.length ≤ i ∧ ∀ d ∈ L, (textE d).size ≤ 60
  | _ => False
def Grow.I0M : List D → Nat
  | [.V _, .L _, .L _, .I i, .L _] => (12 - i).toNat
  | _ => 0
def LTablePlays.I0 : List D → Prop
  | .V _ :: .L _ :: .V _ :: .L _ :: .S _ :: .Z _ :: .I i :: _ => 0 ≤ i ∧ i ≤ 2
  | _ => False
def LTablePlays.I0M : List D → Nat
  | .V _ :: .L _ :: .V _ :: .L _ :: .S _ :: .Z _ :: .I i :: _ => (2 - i).toNat
  | _ => 0
def LTablePlays.sig : Sig := sigF [.l itemK, .l itemK, .s, .a .u8 32] [.b] tru yes
def LTableOrder.sig : Sig := sigF [.l itemK, .i .i64] [.b] tru yes
/-- The items by their turns. -/
def turnAt (step : Int) (n : Nat) (i : Nat) : Option Nat := if (i * (1 + (step % 12).toNat)) % 13 < n then some ((i * (1 + (step % 12).toNat)) % 13) else none
def turned (step : Int) (items : List D) (m : Nat) : List D := ((List.range m).filterMap (turnAt step (min items.length 12))).map (entAt items)
def LTableOrder.I0 : List D → Prop
  | [.V _, .L items, .I step, .I i, .L U] => 0 ≤ i ∧ i ≤ 13 ∧ U = growE [] (turned step items i.toNat) ∧ rising U ∧ U.length ≤ i ∧ ∀ d ∈ U, (textE d).size ≤ 60
  | _ => False
def LTableOrder.I0M : List D → Nat
  | [.V _, .L _, .I _, .I i, .L _] => (13 - i).toNat
  | _ => 0
def LTableBack.sig : Sig := sigF [.l itemK, .i .i64, .i .u8] [.b] tru yes
end Go.Vc
namespace Go.Vc
set_option linter.unusedVariables false
def TPutA.vc : VC :=
 (.all .N
 (.all .V
 (.all .L
 (.all .Z
 (.all .S
 (.know (.len (.at 3) 32)
 (.know (.allHas .u8 (.at 3))
 (.know (.ssz (.at 4))
 (.know (.ekok [.ints .u8 32, .str] (.at 2))
 (.post 0 [(.at 0), (.at 1), (.at 2), (.at 3), (.at 4)]
 (.all .N
 (.pre 1 [(.at 0), (.at 1), (.at 2), (.at 3)]
 (.all .I
 (.all .B
 (.post 1 [(.at 0), (.at 1), (.at 2), (.at 3), (.at 6), (.at 7)]
 (.know (.has .i64 (.at 6))
 (.and
 (.imp (.o1 .not (.at 7)) true
 (.and
 (.all .V
 (.pre 2 [(.at 1), (.at 2), (.at 6), (.at 8), (.o2 .lcons (.o2 .lcons (.o1 .asZ (.at 3)) (.o2 .lcons (.o1 .asS (.at 4)) .lnil)) .lnil)]
 (.all .V
 (.all .L
 (.post 2 [(.at 1), (.at 2), (.at 6), (.at 8), (.o2 .lcons (.o2 .lcons (.o1 .asZ (.at 3)) (.o2 .lcons (.o1 .asS (.at 4)) .lnil)) .lnil), (.at 9), (.at 10)]
 (.know (.ekok [.ints .u8 32, .str] (.at 10))
 (.ret [(.at 0), (.at 1), (.at 2), (.at 3), (.at 4), (.at 9), (.at 10), (.o1 .not (.at 7))])))))))
 (.and
 (.all .V
 (.pre 2 [(.at 1), (.at 2), (.at 6), (.at 8), (.o2 .lcons (.o2 .lcons (.o1 .asZ (.at 3)) (.o2 .lcons (.o1 .asS (.at 4)) .lnil)) .lnil)]
 (.all .V
 (.all .L
 (.post 2 [(.at 1), (.at 2), (.at 6), (.at 8), (.o2 .lcons (.o2 .lcons (.o1 .asZ (.at 3)) (.o2 .lcons (.o1 .asS (.at 4)) .lnil)) .lnil), (.at 9), (.at 10)]
 (.know (.ekok [.ints .u8 32, .str] (.at 10))
 (.ret [(.at 0), (.at 1), (.at 2), (.at 3), (.at 4), (.at 9), (.at 10), (.o1 .not (.at 7))])))))))
 (.all .V
 (.pre 2 [(.at 1), (.at 2), (.at 6), (.at 8), (.o2 .lcons (.o2 .lcons (.o1 .asZ (.at 3)) (.o2 .lcons (.o1 .asS (.at 4)) .lnil)) .lnil)]
 (.all .V
 (.all .L
 (.post 2 [(.at 1), (.at 2), (.at 6), (.at 8), (.o2 .lcons (.o2 .lcons (.o1 .asZ (.at 3)) (.o2 .lcons (.o1 .asS (.at 4)) .lnil)) .lnil), (.at 9), (.at 10)]
 (.know (.ekok [.ints .u8 32, .str] (.at 10))
 (.ret [(.at 0), (.at 1), (.at 2), (.at 3), (.at 4), (.at 9), (.at 10), (.o1 .not (.at 7))]))))))))))
 (.imp (.o1 .not (.at 7)) false
 (.ret [(.at 0), (.at 1), (.at 2), (.at 3), (.at 4), (.at 1), (.at 2), (.o1 .not (.at 7))])))))))))))))))))))
def TPutA.Pure : Prop :=
 ∀ (n0 : Nat),
 ∀ (v1 : Value),
 ∀ (l2 : List D),
 ∀ (z3 : List Int),
 ∀ (s4 : ByteArray),
 (z3.length = 32) →
 (∀ x ∈ z3, IntKind.has .u8 x) →
 ((s4.size : Int) ≤ 9223372036854775807) →
 (EK.ok [.ints .u8 32, .str] (D.L l2)) →
 TPutA.sig.pre [(D.N n0), (D.V v1), (D.L l2), (D.Z z3), (D.S s4)] →
 ∀ (n5 : Nat),
 TFind.sig.pre [(D.N n0), (D.V v1), (D.L l2), (D.Z z3)] ∧ (
 ∀ (i6 : Int),
 ∀ (b7 : Bool),
 TFind.sig.post [(D.N n0), (D.V v1), (D.L l2), (D.Z z3), (D.I i6), (D.B b7)] →
 (-9223372036854775808 ≤ i6 ∧ i6 < 9223372036854775808) →
 ((
 (b7 = false) →
 ((
 ∀ (v8 : Value),
   TInsA.sig.pre [(D.V v1), (D.L l2), (D.I i6), (D.V v8), (D.L ((D.L ((D.Z z3) :: ((D.S s4) :: ([] : List D)))) :: ([] : List D)))] ∧ (
 ∀ (v9 : Value),
 ∀ (l10 : List D),
   TInsA.sig.post [(D.V v1), (D.L l2), (D.I i6), (D.V v8), (D.L ((D.L ((D.Z z3) :: ((D.S s4) :: ([] : List D)))) :: ([] : List D))), (D.V v9), (D.L l10)] →
 (EK.ok [.ints .u8 32, .str] (D.L l10)) →
   TPutA.sig.post [(D.N n0), (D.V v1), (D.L l2), (D.Z z3), (D.S s4), (D.V v9), (D.L l10), (D.B (!b7))])) ∧ (
 ((
 ∀ (v8 : Value),
    TInsA.sig.pre [(D.V v1), (D.L l2), (D.I i6), (D.V v8), (D.L ((D.L ((D.Z z3) :: ((D.S s4) :: ([] : List D)))) :: ([] : List D)))] ∧ (
 ∀ (v9 : Value),
 ∀ (l10 : List D),
    TInsA.sig.post [(D.V v1), (D.L l2), (D.I i6), (D.V v8), (D.L ((D.L ((D.Z z3) :: ((D.S s4) :: ([] : List D)))) :: ([] : List D))), (D.V v9), (D.L l10)] →
 (EK.ok [.ints .u8 32, .str] (D.L l10)) →
    TPutA.sig.post [(D.N n0), (D.V v1), (D.L l2), (D.Z z3), (D.S s4), (D.V v9), (D.L l10), (D.B (!b7))])) ∧ (
 ∀ (v8 : Value),
    TInsA.sig.pre [(D.V v1), (D.L l2), (D.I i6), (D.V v8), (D.L ((D.L ((D.Z z3) :: ((D.S s4) :: ([] : List D)))) :: ([] : List D)))] ∧ (
 ∀ (v9 : Value),
 ∀ (l10 : List D),
    TInsA.sig.post [(D.V v1), (D.L l2), (D.I i6), (D.V v8), (D.L ((D.L ((D.Z z3) :: ((D.S s4) :: ([] : List D)))) :: ([] : List D))), (D.V v9), (D.L l10)] →
 (EK.ok [.ints .u8 32, .str] (D.L l10)) →
    TPutA.sig.post [(D.N n0), (D.V v1), (D.L l2), (D.Z z3), (D.S s4), (D.V v9), (D.L l10), (D.B (!b7))])))))) ∧ (
 (b7 = true) →
  TPutA.sig.post [(D.N n0), (D.V v1), (D.L l2), (D.Z z3), (D.S s4), (D.V v1), (D.L l2), (D.B (!b7))])))
theorem TPutA.den : TPutA.vc.den2 (mkEnv TPutA.sig [TFind.sig, TInsA.sig] []) [] = TPutA.Pure := by kernel_rfl
def TWithin.vc : VC :=
 (.all .N
 (.all .V
 (.all .L
 (.all .N
 (.all .V
 (.all .L
 (.know (.ekok [.ints .u8 32, .str] (.at 2))
 (.know (.ekok [.ints .u8 32, .str] (.at 5))
 (.post 0 [(.at 0), (.at 1), (.at 2), (.at 3), (.at 4), (.at 5)]
 (.inv 0 [(.at 0), (.at 1), (.at 2), (.at 3), (.at 4), (.at 5), (.int 0)]
 (.all .I
 (.know (.has .i64 (.at 6))
 (.asm 0 [(.at 0), (.at 1), (.at 2), (.at 3), (.at 4), (.at 5), (.at 6)]
 (.and
 (.imp (.o2 .lt (.at 6) (.o1 .llen (.at 2))) true
 (.obl (.o2 .le (.int 0) (.at 6))
 (.all .N
 (.pre 1 [(.at 3), (.at 4), (.at 5), (.o1 .asZ (.o2 .lget (.o1 .asL (.o2 .lget (.at 2) (.at 6))) (.int 0)))]
 (.all .S
 (.all .B
 (.post 1 [(.at 3), (.at 4), (.at 5), (.o1 .asZ (.o2 .lget (.o1 .asL (.o2 .lget (.at 2) (.at 6))) (.int 0))), (.at 8), (.at 9)]
 (.know (.ssz (.at 8))
 (.and
 (.imp (.o1 .not (.at 9)) true
 (.ret [(.at 0), (.at 1), (.at 2), (.at 3), (.at 4), (.at 5), (.bool false)]))
 (.imp (.o1 .not (.at 9)) false
 (.and
 (.imp (.o1 .not (.o2 .eqs (.at 8) (.o1 .asS (.o2 .lget (.o1 .asL (.o2 .lget (.at 2) (.at 6))) (.int 1))))) true
 (.ret [(.at 0), (.at 1), (.at 2), (.at 3), (.at 4), (.at 5), (.bool false)]))
 (.imp (.o1 .not (.o2 .eqs (.at 8) (.o1 .asS (.o2 .lget (.o1 .asL (.o2 .lget (.at 2) (.at 6))) (.int 1))))) false
 (.back 0 [(.at 0), (.at 1), (.at 2), (.at 3), (.at 4), (.at 5), (.at 6)] [(.at 0), (.at 1), (.at 2), (.at 3), (.at 4), (.at 5), (.o2 (.add .i64) (.at 6) (.int 1))])))))))))))))
 (.imp (.o2 .lt (.at 6) (.o1 .llen (.at 2))) false
 (.ret [(.at 0), (.at 1), (.at 2), (.at 3), (.at 4), (.at 5), (.bool true)]))))))))))))))))
def TWithin.Pure : Prop :=
 ∀ (n0 : Nat),
 ∀ (v1 : Value),
 ∀ (l2 : List D),
 ∀ (n3 : Nat),
 ∀ (v4 : Value),
 ∀ (l5 : List D),
 (EK.ok [.ints .u8 32, .str] (D.L l2)) →
 (EK.ok [.ints .u8 32, .str] (D.L l5)) →
 TWithin.sig.pre [(D.N n0), (D.V v1), (D.L l2), (D.N n3), (D.V v4), (D.L l5)] →
 TWithin.I0 [(D.N n0), (D.V v1), (D.L l2), (D.N n3), (D.V v4), (D.L l5), (D.I (0 : Int))] ∧ (
 ∀ (i6 : Int),
 (-9223372036854775808 ≤ i6 ∧ i6 < 9223372036854775808) →
 TWithin.I0 [(D.N n0), (D.V v1), (D.L l2), (D.N n3), (D.V v4), (D.L l5), (D.I i6)] →
 ((
 (i6 < ((l2.length : Nat) : Int)) →
 ((0 : Int) ≤ i6) ∧ (((0 : Int) ≤ i6) →
 ∀ (n7 : Nat),
  TGet.sig.pre [(D.N n3), (D.V v4), (D.L l5), (D.Z ((((l2.getD i6.toNat default)).toL.getD (0 : Int).toNat default)).toLi)] ∧ (
 ∀ (s8 : ByteArray),
 ∀ (b9 : Bool),
  TGet.sig.post [(D.N n3), (D.V v4), (D.L l5), (D.Z ((((l2.getD i6.toNat default)).toL.getD (0 : Int).toNat default)).toLi), (D.S s8), (D.B b9)] →
 ((s8.size : Int) ≤ 9223372036854775807) →
 ((
 (b9 = false) →
   TWithin.sig.post [(D.N n0), (D.V v1), (D.L l2), (D.N n3), (D.V v4), (D.L l5), (D.B false)]) ∧ (
 (b9 = true) →
 ((
 (s8 ≠ ((((l2.getD i6.toNat default)).toL.getD (1 : Int).toNat default)).toS) →
    TWithin.sig.post [(D.N n0), (D.V v1), (D.L l2), (D.N n3), (D.V v4), (D.L l5), (D.B false)]) ∧ (
 (s8 = ((((l2.getD i6.toNat default)).toL.getD (1 : Int).toNat default)).toS) →
    TWithin.I0 [(D.N n0), (D.V v1), (D.L l2), (D.N n3), (D.V v4), (D.L l5), (D.I (IntKind.wrap .i64 (i6 + (1 : Int))))] ∧ TWithin.I0M [(D.N n0), (D.V v1), (D.L l2), (D.N n3), (D.V v4), (D.L l5), (D.I (IntKind.wrap .i64 (i6 + (1 : Int))))] < TWithin.I0M [(D.N n0), (D.V v1), (D.L l2), (D.N n3), (D.V v4), (D.L l5), (D.I i6)]))))))) ∧ (
 (((l2.length : Nat) : Int) ≤ i6) →
  TWithin.sig.post [(D.N n0), (D.V v1), (D.L l2), (D.N n3), (D.V v4), (D.L l5), (D.B true)])))
theorem TWithin.den : TWithin.vc.den2 (mkEnv TWithin.sig [TGet.sig] [(TWithin.I0, TWithin.I0M)]) [] = TWithin.Pure := by kernel_rfl
def TCopy.vc : VC :=
 (.all .N
 (.all .V
 (.all .L
 (.know (.ekok [.ints .u8 32, .str] (.at 2))
 (.post 0 [(.at 0), (.at 1), (.at 2)]
 (.pre 1 [(.at 1), (.at 2)]
 (.all .V
 (.all .L
 (.post 1 [(.at 1), (.at 2), (.at 3), (.at 4)]
 (.know (.ekok [.ints .u8 32, .str] (.at 4))
 (.all .N
 (.ret [(.at 0), (.at 1), (.at 2), (.at 5), (.at 3), (.at 4)]))))))))))))
def TCopy.Pure : Prop :=
 ∀ (n0 : Nat),
 ∀ (v1 : Value),
 ∀ (l2 : List D),
 (EK.ok [.ints .u8 32, .str] (D.L l2)) →
 TCopy.sig.pre [(D.N n0), (D.V v1), (D.L l2)] →
 TClone.sig.pre [(D.V v1), (D.L l2)] ∧ (
 ∀ (v3 : Value),
 ∀ (l4 : List D),
 TClone.sig.post [(D.V v1), (D.L l2), (D.V v3), (D.L l4)] →
 (EK.ok [.ints .u8 32, .str] (D.L l4)) →
 ∀ (n5 : Nat),
 TCopy.sig.post [(D.N n0), (D.V v1), (D.L l2), (D.N n5), (D.V v3), (D.L l4)])
theorem TCopy.den : TCopy.vc.den2 (mkEnv TCopy.sig [TClone.sig] []) [] = TCopy.Pure := by kernel_rfl
def rFind.vc : VC :=
 (.all .V
 (.all .L
 (.all .S
 (.know (.ssz (.at 2))
 (.know (.ekok [.str, .str] (.at 1))
 (.post 0 [(.at 0), (.at 1), (.at 2)]
 (.inv 0 [(.at 0), (.at 1), (.at 2), (.int 0)]
 (.all .I
 (.know (.has .i64 (.at 3))
 (.asm 0 [(.at 0), (.at 1), (.at 2), (.at 3)]
 (.and
 (.imp (.o2 .lt (.at 3) (.o1 .llen (.at 1))) true
 (.obl (.o2 .le (.int 0) (.at 3))
 (.all .N
 (.and
 (.imp (.o2 .eqs (.o1 .asS (.o2 .lget (.o1 .asL (.o2 .lget (.at 1) (.at 3))) (.int 0))) (.at 2)) true
 (.ret [(.at 0), (.at 1), (.at 2), (.at 3)]))
 (.imp (.o2 .eqs (.o1 .asS (.o2 .lget (.o1 .asL (.o2 .lget (.at 1) (.at 3))) (.int 0))) (.at 2)) false
 (.back 0 [(.at 0), (.at 1), (.at 2), (.at 3)] [(.at 0), (.at 1), (.at 2), (.o2 (.add .i64) (.at 3) (.int 1))]))))))
 (.imp (.o2 .lt (.at 3) (.o1 .llen (.at 1))) false
 (.ret [(.at 0), (.at 1), (.at 2), (.int (-1))])))))))))))))
def rFind.Pure : Prop :=
 ∀ (v0 : Value),
 ∀ (l1 : List D),
 ∀ (s2 : ByteArray),
 ((s2.size : Int) ≤ 9223372036854775807) →
 (EK.ok [.str, .str] (D.L l1)) →
 rFind.sig.pre [(D.V v0), (D.L l1), (D.S s2)] →
 rFind.I0 [(D.V v0), (D.L l1), (D.S s2), (D.I (0 : Int))] ∧ (
 ∀ (i3 : Int),
 (-9223372036854775808 ≤ i3 ∧ i3 < 9223372036854775808) →
 rFind.I0 [(D.V v0), (D.L l1), (D.S s2), (D.I i3)] →
 ((
 (i3 < ((l1.length : Nat) : Int)) →
 ((0 : Int) ≤ i3) ∧ (((0 : Int) ≤ i3) →
 ∀ (n4 : Nat),
 ((
 (((((l1.getD i3.toNat default)).toL.getD (0 : Int).toNat default)).toS = s2) →
   rFind.sig.post [(D.V v0), (D.L l1), (D.S s2), (D.I i3)]) ∧ (
 (((((l1.getD i3.toNat default)).toL.getD (0 : Int).toNat default)).toS ≠ s2) →
   rFind.I0 [(D.V v0), (D.L l1), (D.S s2), (D.I (IntKind.wrap .i64 (i3 + (1 : Int))))] ∧ rFind.I0M [(D.V v0), (D.L l1), (D.S s2), (D.I (IntKind.wrap .i64 (i3 + (1 : Int))))] < rFind.I0M [(D.V v0), (D.L l1), (D.S s2), (D.I i3)])))) ∧ (
 (((l1.length : Nat) : Int) ≤ i3) →
  rFind.sig.post [(D.V v0), (D.L l1), (D.S s2), (D.I (-1 : Int))])))
theorem rFind.den : rFind.vc.den2 (mkEnv rFind.sig [] [(rFind.I0, rFind.I0M)]) [] = rFind.Pure := by kernel_rfl
def rPut.vc : VC :=
 (.all .V
 (.all .L
 (.all .S
 (.all .S
 (.know (.ssz (.at 2))
 (.know (.ssz (.at 3))
 (.know (.ekok [.str, .str] (.at 1))
 (.post 0 [(.at 0), (.at 1), (.at 2), (.at 3)]
 (.all .N
 (.all .V
 (.pre 1 [(.at 0), (.at 1), (.at 2)]
 (.all .I
 (.post 1 [(.at 0), (.at 1), (.at 2), (.at 6)]
 (.know (.has .i64 (.at 6))
 (.and
 (.imp (.o2 .le (.int 0) (.at 6)) true
 (.ret [(.at 0), (.at 1), (.at 2), (.at 3), (.at 0), (.bool false), (.at 1)]))
 (.imp (.o2 .le (.int 0) (.at 6)) false
 (.all .V
 (.inv 0 [(.at 0), (.at 1), (.at 2), (.at 3), .lnil, (.bool false), (.int 0)]
 (.all .V
 (.all .L
 (.all .B
 (.all .I
 (.know (.has .i64 (.at 11))
 (.know (.ekok [.str, .str] (.at 9))
 (.asm 0 [(.at 0), (.at 1), (.at 2), (.at 3), (.at 9), (.at 10), (.at 11)]
 (.and
 (.imp (.o2 .lt (.at 11) (.o1 .llen (.at 1))) true
 (.obl (.o2 .le (.int 0) (.at 11))
 (.all .N
 (.and
 (.imp (.o1 .not (.at 10)) true
 (.and
 (.imp (.o2 .lts (.at 2) (.o1 .asS (.o2 .lget (.o1 .asL (.o2 .lget (.at 1) (.at 11))) (.int 0)))) true
 (.all .V
 (.obl (.o2 .le (.o1 .llen (.o2 .lapp (.at 9) (.o2 .lcons (.o2 .lcons (.o1 .asS (.at 2)) (.o2 .lcons (.o1 .asS (.at 3)) .lnil)) .lnil))) (.int 4398046511104))
 (.all .V
 (.all .V
 (.obl (.o2 .le (.o1 .llen (.o2 .lapp (.o2 .lapp (.at 9) (.o2 .lcons (.o2 .lcons (.o1 .asS (.at 2)) (.o2 .lcons (.o1 .asS (.at 3)) .lnil)) .lnil)) (.o2 .lcons (.o2 .lcons (.o1 .asS (.o1 .asS (.o2 .lget (.o1 .asL (.o2 .lget (.at 1) (.at 11))) (.int 0)))) (.o2 .lcons (.o1 .asS (.o1 .asS (.o2 .lget (.o1 .asL (.o2 .lget (.at 1) (.at 11))) (.int 1)))) .lnil)) .lnil))) (.int 4398046511104))
 (.all .V
 (.back 0 [(.at 0), (.at 1), (.at 2), (.at 3), (.at 9), (.at 10), (.at 11)] [(.at 0), (.at 1), (.at 2), (.at 3), (.o2 .lapp (.o2 .lapp (.at 9) (.o2 .lcons (.o2 .lcons (.o1 .asS (.at 2)) (.o2 .lcons (.o1 .asS (.at 3)) .lnil)) .lnil)) (.o2 .lcons (.o2 .lcons (.o1 .asS (.o1 .asS (.o2 .lget (.o1 .asL (.o2 .lget (.at 1) (.at 11))) (.int 0)))) (.o2 .lcons (.o1 .asS (.o1 .asS (.o2 .lget (.o1 .asL (.o2 .lget (.at 1) (.at 11))) (.int 1)))) .lnil)) .lnil)), (.bool true), (.o2 (.add .i64) (.at 11) (.int 1))]))))))))
 (.imp (.o2 .lts (.at 2) (.o1 .asS (.o2 .lget (.o1 .asL (.o2 .lget (.at 1) (.at 11))) (.int 0)))) false
 (.all .V
 (.obl (.o2 .le (.o1 .llen (.o2 .lapp (.at 9) (.o2 .lcons (.o2 .lcons (.o1 .asS (.o1 .asS (.o2 .lget (.o1 .asL (.o2 .lget (.at 1) (.at 11))) (.int 0)))) (.o2 .lcons (.o1 .asS (.o1 .asS (.o2 .lget (.o1 .asL (.o2 .lget (.at 1) (.at 11))) (.int 1)))) .lnil)) .lnil))) (.int 4398046511104))
 (.all .V
 (.back 0 [(.at 0), (.at 1), (.at 2), (.at 3), (.at 9), (.at 10), (.at 11)] [(.at 0), (.at 1), (.at 2), (.at 3), (.o2 .lapp (.at 9) (.o2 .lcons (.o2 .lcons (.o1 .asS (.o1 .asS (.o2 .lget (.o1 .asL (.o2 .lget (.at 1) (.at 11))) (.int 0)))) (.o2 .lcons (.o1 .asS (.o1 .asS (.o2 .lget (.o1 .asL (.o2 .lget (.at 1) (.at 11))) (.int 1)))) .lnil)) .lnil)), (.at 10), (.o2 (.add .i64) (.at 11) (.int 1))])))))))
 (.imp (.o1 .not (.at 10)) false
 (.all .V
 (.obl (.o2 .le (.o1 .llen (.o2 .lapp (.at 9) (.o2 .lcons (.o2 .lcons (.o1 .asS (.o1 .asS (.o2 .lget (.o1 .asL (.o2 .lget (.at 1) (.at 11))) (.int 0)))) (.o2 .lcons (.o1 .asS (.o1 .asS (.o2 .lget (.o1 .asL (.o2 .lget (.at 1) (.at 11))) (.int 1)))) .lnil)) .lnil))) (.int 4398046511104))
 (.all .V
 (.back 0 [(.at 0), (.at 1), (.at 2), (.at 3), (.at 9), (.at 10), (.at 11)] [(.at 0), (.at 1), (.at 2), (.at 3), (.o2 .lapp (.at 9) (.o2 .lcons (.o2 .lcons (.o1 .asS (.o1 .asS (.o2 .lget (.o1 .asL (.o2 .lget (.at 1) (.at 11))) (.int 0)))) (.o2 .lcons (.o1 .asS (.o1 .asS (.o2 .lget (.o1 .asL (.o2 .lget (.at 1) (.at 11))) (.int 1)))) .lnil)) .lnil)), (.at 10), (.o2 (.add .i64) (.at 11) (.int 1))])))))))))
 (.imp (.o2 .lt (.at 11) (.o1 .llen (.at 1))) false
 (.and
 (.imp (.o1 .not (.at 10)) true
 (.all .V
 (.obl (.o2 .le (.o1 .llen (.o2 .lapp (.at 9) (.o2 .lcons (.o2 .lcons (.o1 .asS (.at 2)) (.o2 .lcons (.o1 .asS (.at 3)) .lnil)) .lnil))) (.int 4398046511104))
 (.all .V
 (.ret [(.at 0), (.at 1), (.at 2), (.at 3), (.at 13), (.bool true), (.o2 .lapp (.at 9) (.o2 .lcons (.o2 .lcons (.o1 .asS (.at 2)) (.o2 .lcons (.o1 .asS (.at 3)) .lnil)) .lnil))])))))
 (.imp (.o1 .not (.at 10)) false
 (.ret [(.at 0), (.at 1), (.at 2), (.at 3), (.at 8), (.bool true), (.at 9)]))))))))))))))))))))))))))))))
def rPut.Pure : Prop :=
 ∀ (v0 : Value),
 ∀ (l1 : List D),
 ∀ (s2 : ByteArray),
 ∀ (s3 : ByteArray),
 ((s2.size : Int) ≤ 9223372036854775807) →
 ((s3.size : Int) ≤ 9223372036854775807) →
 (EK.ok [.str, .str] (D.L l1)) →
 rPut.sig.pre [(D.V v0), (D.L l1), (D.S s2), (D.S s3)] →
 ∀ (n4 : Nat),
 ∀ (v5 : Value),
 rFind.sig.pre [(D.V v0), (D.L l1), (D.S s2)] ∧ (
 ∀ (i6 : Int),
 rFind.sig.post [(D.V v0), (D.L l1), (D.S s2), (D.I i6)] →
 (-9223372036854775808 ≤ i6 ∧ i6 < 9223372036854775808) →
 ((
 ((0 : Int) ≤ i6) →
  rPut.sig.post [(D.V v0), (D.L l1), (D.S s2), (D.S s3), (D.V v0), (D.B false), (D.L l1)]) ∧ (
 (i6 < (0 : Int)) →
 ∀ (v7 : Value),
  rPut.I0 [(D.V v0), (D.L l1), (D.S s2), (D.S s3), (D.L ([] : List D)), (D.B false), (D.I (0 : Int))] ∧ (
 ∀ (v8 : Value),
 ∀ (l9 : List D),
 ∀ (b10 : Bool),
 ∀ (i11 : Int),
 (-9223372036854775808 ≤ i11 ∧ i11 < 9223372036854775808) →
 (EK.ok [.str, .str] (D.L l9)) →
  rPut.I0 [(D.V v0), (D.L l1), (D.S s2), (D.S s3), (D.L l9), (D.B b10), (D.I i11)] →
 ((
 (i11 < ((l1.length : Nat) : Int)) →
 ((0 : Int) ≤ i11) ∧ (((0 : Int) ≤ i11) →
 ∀ (n12 : Nat),
 ((
 (b10 = false) →
 ((
 ((Op.bytesLess s2.toList ((((l1.getD i11.toNat default)).toL.getD (0 : Int).toNat default)).toS.toList) = true) →
 ∀ (v13 : Value),
 ((((l9 ++ ((D.L ((D.S s2) :: ((D.S s3) :: ([] : List D)))) :: ([] : List D))).length : Nat) : Int) ≤ (4398046511104 : Int)) ∧ (((((l9 ++ ((D.L ((D.S s2) :: ((D.S s3) :: ([] : List D)))) :: ([] : List D))).length : Nat) : Int) ≤ (4398046511104 : Int)) →
 ∀ (v14 : Value),
 ∀ (v15 : Value),
 (((((l9 ++ ((D.L ((D.S s2) :: ((D.S s3) :: ([] : List D)))) :: ([] : List D))) ++ ((D.L ((D.S ((((l1.getD i11.toNat default)).toL.getD (0 : Int).toNat default)).toS) :: ((D.S ((((l1.getD i11.toNat default)).toL.getD (1 : Int).toNat default)).toS) :: ([] : List D)))) :: ([] : List D))).length : Nat) : Int) ≤ (4398046511104 : Int)) ∧ ((((((l9 ++ ((D.L ((D.S s2) :: ((D.S s3) :: ([] : List D)))) :: ([] : List D))) ++ ((D.L ((D.S ((((l1.getD i11.toNat default)).toL.getD (0 : Int).toNat default)).toS) :: ((D.S ((((l1.getD i11.toNat default)).toL.getD (1 : Int).toNat default)).toS) :: ([] : List D)))) :: ([] : List D))).length : Nat) : Int) ≤ (4398046511104 : Int)) →
 ∀ (v16 : Value),
     rPut.I0 [(D.V v0), (D.L l1), (D.S s2), (D.S s3), (D.L ((l9 ++ ((D.L ((D.S s2) :: ((D.S s3) :: ([] : List D)))) :: ([] : List D))) ++ ((D.L ((D.S ((((l1.getD i11.toNat default)).toL.getD (0 : Int).toNat default)).toS) :: ((D.S ((((l1.getD i11.toNat default)).toL.getD (1 : Int).toNat default)).toS) :: ([] : List D)))) :: ([] : List D)))), (D.B true), (D.I (IntKind.wrap .i64 (i11 + (1 : Int))))] ∧ rPut.I0M [(D.V v0), (D.L l1), (D.S s2), (D.S s3), (D.L ((l9 ++ ((D.L ((D.S s2) :: ((D.S s3) :: ([] : List D)))) :: ([] : List D))) ++ ((D.L ((D.S ((((l1.getD i11.toNat default)).toL.getD (0 : Int).toNat default)).toS) :: ((D.S ((((l1.getD i11.toNat default)).toL.getD (1 : Int).toNat default)).toS) :: ([] : List D)))) :: ([] : List D)))), (D.B true), (D.I (IntKind.wrap .i64 (i11 + (1 : Int))))] < rPut.I0M [(D.V v0), (D.L l1), (D.S s2), (D.S s3), (D.L l9), (D.B b10), (D.I i11)]))) ∧ (
 ((Op.bytesLess s2.toList ((((l1.getD i11.toNat default)).toL.getD (0 : Int).toNat default)).toS.toList) = false) →
 ∀ (v13 : Value),
 ((((l9 ++ ((D.L ((D.S ((((l1.getD i11.toNat default)).toL.getD (0 : Int).toNat default)).toS) :: ((D.S ((((l1.getD i11.toNat default)).toL.getD (1 : Int).toNat default)).toS) :: ([] : List D)))) :: ([] : List D))).length : Nat) : Int) ≤ (4398046511104 : Int)) ∧ (((((l9 ++ ((D.L ((D.S ((((l1.getD i11.toNat default)).toL.getD (0 : Int).toNat default)).toS) :: ((D.S ((((l1.getD i11.toNat default)).toL.getD (1 : Int).toNat default)).toS) :: ([] : List D)))) :: ([] : List D))).length : Nat) : Int) ≤ (4398046511104 : Int)) →
 ∀ (v14 : Value),
     rPut.I0 [(D.V v0), (D.L l1), (D.S s2), (D.S s3), (D.L (l9 ++ ((D.L ((D.S ((((l1.getD i11.toNat default)).toL.getD (0 : Int).toNat default)).toS) :: ((D.S ((((l1.getD i11.toNat default)).toL.getD (1 : Int).toNat default)).toS) :: ([] : List D)))) :: ([] : List D)))), (D.B b10), (D.I (IntKind.wrap .i64 (i11 + (1 : Int))))] ∧ rPut.I0M [(D.V v0), (D.L l1), (D.S s2), (D.S s3), (D.L (l9 ++ ((D.L ((D.S ((((l1.getD i11.toNat default)).toL.getD (0 : Int).toNat default)).toS) :: ((D.S ((((l1.getD i11.toNat default)).toL.getD (1 : Int).toNat default)).toS) :: ([] : List D)))) :: ([] : List D)))), (D.B b10), (D.I (IntKind.wrap .i64 (i11 + (1 : Int))))] < rPut.I0M [(D.V v0), (D.L l1), (D.S s2), (D.S s3), (D.L l9), (D.B b10), (D.I i11)])))) ∧ (
 (b10 = true) →
 ∀ (v13 : Value),
 ((((l9 ++ ((D.L ((D.S ((((l1.getD i11.toNat default)).toL.getD (0 : Int).toNat default)).toS) :: ((D.S ((((l1.getD i11.toNat default)).toL.getD (1 : Int).toNat default)).toS) :: ([] : List D)))) :: ([] : List D))).length : Nat) : Int) ≤ (4398046511104 : Int)) ∧ (((((l9 ++ ((D.L ((D.S ((((l1.getD i11.toNat default)).toL.getD (0 : Int).toNat default)).toS) :: ((D.S ((((l1.getD i11.toNat default)).toL.getD (1 : Int).toNat default)).toS) :: ([] : List D)))) :: ([] : List D))).length : Nat) : Int) ≤ (4398046511104 : Int)) →
 ∀ (v14 : Value),
    rPut.I0 [(D.V v0), (D.L l1), (D.S s2), (D.S s3), (D.L (l9 ++ ((D.L ((D.S ((((l1.getD i11.toNat default)).toL.getD (0 : Int).toNat default)).toS) :: ((D.S ((((l1.getD i11.toNat default)).toL.getD (1 : Int).toNat default)).toS) :: ([] : List D)))) :: ([] : List D)))), (D.B b10), (D.I (IntKind.wrap .i64 (i11 + (1 : Int))))] ∧ rPut.I0M [(D.V v0), (D.L l1), (D.S s2), (D.S s3), (D.L (l9 ++ ((D.L ((D.S ((((l1.getD i11.toNat default)).toL.getD (0 : Int).toNat default)).toS) :: ((D.S ((((l1.getD i11.toNat default)).toL.getD (1 : Int).toNat default)).toS) :: ([] : List D)))) :: ([] : List D)))), (D.B b10), (D.I (IntKind.wrap .i64 (i11 + (1 : Int))))] < rPut.I0M [(D.V v0), (D.L l1), (D.S s2), (D.S s3), (D.L l9), (D.B b10), (D.I i11)]))))) ∧ (
 (((l1.length : Nat) : Int) ≤ i11) →
 ((
 (b10 = false) →
 ∀ (v12 : Value),
 ((((l9 ++ ((D.L ((D.S s2) :: ((D.S s3) :: ([] : List D)))) :: ([] : List D))).length : Nat) : Int) ≤ (4398046511104 : Int)) ∧ (((((l9 ++ ((D.L ((D.S s2) :: ((D.S s3) :: ([] : List D)))) :: ([] : List D))).length : Nat) : Int) ≤ (4398046511104 : Int)) →
 ∀ (v13 : Value),
    rPut.sig.post [(D.V v0), (D.L l1), (D.S s2), (D.S s3), (D.V v13), (D.B true), (D.L (l9 ++ ((D.L ((D.S s2) :: ((D.S s3) :: ([] : List D)))) :: ([] : List D))))])) ∧ (
 (b10 = true) →
    rPut.sig.post [(D.V v0), (D.L l1), (D.S s2), (D.S s3), (D.V v8), (D.B true), (D.L l9)]))))))))
theorem rPut.den : rPut.vc.den2 (mkEnv rPut.sig [rFind.sig] [(rPut.I0, rPut.I0M)]) [] = rPut.Pure := by kernel_rfl
def rWithin.vc : VC :=
 (.all .V
 (.all .L
 (.all .V
 (.all .L
 (.know (.ekok [.str, .str] (.at 1))
 (.know (.ekok [.str, .str] (.at 3))
 (.post 0 [(.at 0), (.at 1), (.at 2), (.at 3)]
 (.inv 0 [(.at 0), (.at 1), (.at 2), (.at 3), (.int 0)]
 (.all .I
 (.know (.has .i64 (.at 4))
 (.asm 0 [(.at 0), (.at 1), (.at 2), (.at 3), (.at 4)]
 (.and
 (.imp (.o2 .lt (.at 4) (.o1 .llen (.at 1))) true
 (.obl (.o2 .le (.int 0) (.at 4))
 (.all .N
 (.pre 1 [(.at 2), (.at 3), (.o1 .asS (.o2 .lget (.o1 .asL (.o2 .lget (.at 1) (.at 4))) (.int 0)))]
 (.all .I
 (.post 1 [(.at 2), (.at 3), (.o1 .asS (.o2 .lget (.o1 .asL (.o2 .lget (.at 1) (.at 4))) (.int 0))), (.at 6)]
 (.know (.has .i64 (.at 6))
 (.and
 (.imp (.o2 .lt (.at 6) (.int 0)) true
 (.ret [(.at 0), (.at 1), (.at 2), (.at 3), (.bool false)]))
 (.imp (.o2 .lt (.at 6) (.int 0)) false
 (.obl (.o2 .le (.int 0) (.at 6))
 (.obl (.o2 .lt (.at 6) (.o1 .llen (.at 3)))
 (.and
 (.imp (.o1 .not (.o2 .eqs (.o1 .asS (.o2 .lget (.o1 .asL (.o2 .lget (.at 3) (.at 6))) (.int 1))) (.o1 .asS (.o2 .lget (.o1 .asL (.o2 .lget (.at 1) (.at 4))) (.int 1))))) true
 (.ret [(.at 0), (.at 1), (.at 2), (.at 3), (.bool false)]))
 (.imp (.o1 .not (.o2 .eqs (.o1 .asS (.o2 .lget (.o1 .asL (.o2 .lget (.at 3) (.at 6))) (.int 1))) (.o1 .asS (.o2 .lget (.o1 .asL (.o2 .lget (.at 1) (.at 4))) (.int 1))))) false
 (.back 0 [(.at 0), (.at 1), (.at 2), (.at 3), (.at 4)] [(.at 0), (.at 1), (.at 2), (.at 3), (.o2 (.add .i64) (.at 4) (.int 1))]))))))))))))))
 (.imp (.o2 .lt (.at 4) (.o1 .llen (.at 1))) false
 (.ret [(.at 0), (.at 1), (.at 2), (.at 3), (.bool true)]))))))))))))))
def rWithin.Pure : Prop :=
 ∀ (v0 : Value),
 ∀ (l1 : List D),
 ∀ (v2 : Value),
 ∀ (l3 : List D),
 (EK.ok [.str, .str] (D.L l1)) →
 (EK.ok [.str, .str] (D.L l3)) →
 rWithin.sig.pre [(D.V v0), (D.L l1), (D.V v2), (D.L l3)] →
 rWithin.I0 [(D.V v0), (D.L l1), (D.V v2), (D.L l3), (D.I (0 : Int))] ∧ (
 ∀ (i4 : Int),
 (-9223372036854775808 ≤ i4 ∧ i4 < 9223372036854775808) →
 rWithin.I0 [(D.V v0), (D.L l1), (D.V v2), (D.L l3), (D.I i4)] →
 ((
 (i4 < ((l1.length : Nat) : Int)) →
 ((0 : Int) ≤ i4) ∧ (((0 : Int) ≤ i4) →
 ∀ (n5 : Nat),
  rFind.sig.pre [(D.V v2), (D.L l3), (D.S ((((l1.getD i4.toNat default)).toL.getD (0 : Int).toNat default)).toS)] ∧ (
 ∀ (i6 : Int),
  rFind.sig.post [(D.V v2), (D.L l3), (D.S ((((l1.getD i4.toNat default)).toL.getD (0 : Int).toNat default)).toS), (D.I i6)] →
 (-9223372036854775808 ≤ i6 ∧ i6 < 9223372036854775808) →
 ((
 (i6 < (0 : Int)) →
   rWithin.sig.post [(D.V v0), (D.L l1), (D.V v2), (D.L l3), (D.B false)]) ∧ (
 ((0 : Int) ≤ i6) →
 ((0 : Int) ≤ i6) ∧ (((0 : Int) ≤ i6) →
 (i6 < ((l3.length : Nat) : Int)) ∧ ((i6 < ((l3.length : Nat) : Int)) →
 ((
 (((((l3.getD i6.toNat default)).toL.getD (1 : Int).toNat default)).toS ≠ ((((l1.getD i4.toNat default)).toL.getD (1 : Int).toNat default)).toS) →
    rWithin.sig.post [(D.V v0), (D.L l1), (D.V v2), (D.L l3), (D.B false)]) ∧ (
 (((((l3.getD i6.toNat default)).toL.getD (1 : Int).toNat default)).toS = ((((l1.getD i4.toNat default)).toL.getD (1 : Int).toNat default)).toS) →
    rWithin.I0 [(D.V v0), (D.L l1), (D.V v2), (D.L l3), (D.I (IntKind.wrap .i64 (i4 + (1 : Int))))] ∧ rWithin.I0M [(D.V v0), (D.L l1), (D.V v2), (D.L l3), (D.I (IntKind.wrap .i64 (i4 + (1 : Int))))] < rWithin.I0M [(D.V v0), (D.L l1), (D.V v2), (D.L l3), (D.I i4)]))))))))) ∧ (
 (((l1.length : Nat) : Int) ≤ i4) →
  rWithin.sig.post [(D.V v0), (D.L l1), (D.V v2), (D.L l3), (D.B true)])))
theorem rWithin.den : rWithin.vc.den2 (mkEnv rWithin.sig [rFind.sig] [(rWithin.I0, rWithin.I0M)]) [] = rWithin.Pure := by kernel_rfl
def rBytes22.vc : VC :=
 (.all .V
 (.all .Z
 (.all .V
 (.all .Z
 (.all .V
 (.all .L
 (.know (.allHas .u32 (.at 1))
 (.know (.allHas .u32 (.at 3))
 (.know (.ekok [.str, .str] (.at 5))
 (.post 0 [(.at 0), (.at 1), (.at 2), (.at 3), (.at 4), (.at 5)]
 (.all .N
 (.pre 1 [(.o1 (.wrap .u64) (.o1 .llen (.at 5)))]
 (.all .S
 (.post 1 [(.o1 (.wrap .u64) (.o1 .llen (.at 5))), (.at 7)]
 (.know (.ssz (.at 7))
 (.obl (.o2 .le (.o1 .slen (.o2 .cat (.str ⟨#[79, 82, 68, 69, 65, 76, 84, 49]⟩) (.at 7))) (.int 9223372036854775807))
 (.inv 0 [(.at 0), (.at 1), (.at 2), (.at 3), (.at 4), (.at 5), (.o2 .cat (.str ⟨#[79, 82, 68, 69, 65, 76, 84, 49]⟩) (.at 7)), (.int 0)]
 (.all .S
 (.all .I
 (.know (.ssz (.at 8))
 (.know (.has .i64 (.at 9))
 (.asm 0 [(.at 0), (.at 1), (.at 2), (.at 3), (.at 4), (.at 5), (.at 8), (.at 9)]
 (.and
 (.imp (.o2 .lt (.at 9) (.o1 .llen (.at 5))) true
 (.obl (.o2 .le (.int 0) (.at 9))
 (.all .N
 (.pre 2 [(.o1 .asS (.o2 .lget (.o1 .asL (.o2 .lget (.at 5) (.at 9))) (.int 1)))]
 (.all .S
 (.post 2 [(.o1 .asS (.o2 .lget (.o1 .asL (.o2 .lget (.at 5) (.at 9))) (.int 1))), (.at 11)]
 (.know (.ssz (.at 11))
 (.obl (.o2 .le (.o1 .slen (.o2 .cat (.o1 .asS (.o2 .lget (.o1 .asL (.o2 .lget (.at 5) (.at 9))) (.int 0))) (.at 11))) (.int 9223372036854775807))
 (.obl (.o2 .le (.o1 .slen (.o2 .cat (.at 8) (.o2 .cat (.o1 .asS (.o2 .lget (.o1 .asL (.o2 .lget (.at 5) (.at 9))) (.int 0))) (.at 11)))) (.int 9223372036854775807))
 (.back 0 [(.at 0), (.at 1), (.at 2), (.at 3), (.at 4), (.at 5), (.at 8), (.at 9)] [(.at 0), (.at 1), (.at 2), (.at 3), (.at 4), (.at 5), (.o2 .cat (.at 8) (.o2 .cat (.o1 .asS (.o2 .lget (.o1 .asL (.o2 .lget (.at 5) (.at 9))) (.int 0))) (.at 11))), (.o2 (.add .i64) (.at 9) (.int 1))]))))))))))
 (.imp (.o2 .lt (.at 9) (.o1 .llen (.at 5))) false
 (.pre 3 [(.at 0), (.at 1), (.at 2), (.at 3), (.at 8)]
 (.all .S
 (.post 3 [(.at 0), (.at 1), (.at 2), (.at 3), (.at 8), (.at 10)]
 (.know (.ssz (.at 10))
 (.obl (.o2 .le (.o1 .slen (.o2 .cat (.at 8) (.at 10))) (.int 9223372036854775807))
 (.ret [(.at 0), (.at 1), (.at 2), (.at 3), (.at 4), (.at 5), (.o2 .cat (.at 8) (.at 10))]))))))))))))))))))))))))))))))
def rBytes22.Pure : Prop :=
 ∀ (v0 : Value),
 ∀ (z1 : List Int),
 ∀ (v2 : Value),
 ∀ (z3 : List Int),
 ∀ (v4 : Value),
 ∀ (l5 : List D),
 (∀ x ∈ z1, IntKind.has .u32 x) →
 (∀ x ∈ z3, IntKind.has .u32 x) →
 (EK.ok [.str, .str] (D.L l5)) →
 rBytes22.sig.pre [(D.V v0), (D.Z z1), (D.V v2), (D.Z z3), (D.V v4), (D.L l5)] →
 ∀ (n6 : Nat),
 RNum.sig.pre [(D.I (IntKind.wrap .u64 ((l5.length : Nat) : Int)))] ∧ (
 ∀ (s7 : ByteArray),
 RNum.sig.post [(D.I (IntKind.wrap .u64 ((l5.length : Nat) : Int))), (D.S s7)] →
 ((s7.size : Int) ≤ 9223372036854775807) →
 (((((⟨#[79, 82, 68, 69, 65, 76, 84, 49]⟩ : ByteArray) ++ s7).size : Nat) : Int) ≤ (9223372036854775807 : Int)) ∧ ((((((⟨#[79, 82, 68, 69, 65, 76, 84, 49]⟩ : ByteArray) ++ s7).size : Nat) : Int) ≤ (9223372036854775807 : Int)) →
 rBytes22.I0 [(D.V v0), (D.Z z1), (D.V v2), (D.Z z3), (D.V v4), (D.L l5), (D.S ((⟨#[79, 82, 68, 69, 65, 76, 84, 49]⟩ : ByteArray) ++ s7)), (D.I (0 : Int))] ∧ (
 ∀ (s8 : ByteArray),
 ∀ (i9 : Int),
 ((s8.size : Int) ≤ 9223372036854775807) →
 (-9223372036854775808 ≤ i9 ∧ i9 < 9223372036854775808) →
 rBytes22.I0 [(D.V v0), (D.Z z1), (D.V v2), (D.Z z3), (D.V v4), (D.L l5), (D.S s8), (D.I i9)] →
 ((
 (i9 < ((l5.length : Nat) : Int)) →
 ((0 : Int) ≤ i9) ∧ (((0 : Int) ≤ i9) →
 ∀ (n10 : Nat),
  RText.sig.pre [(D.S ((((l5.getD i9.toNat default)).toL.getD (1 : Int).toNat default)).toS)] ∧ (
 ∀ (s11 : ByteArray),
  RText.sig.post [(D.S ((((l5.getD i9.toNat default)).toL.getD (1 : Int).toNat default)).toS), (D.S s11)] →
 ((s11.size : Int) ≤ 9223372036854775807) →
 ((((((((l5.getD i9.toNat default)).toL.getD (0 : Int).toNat default)).toS ++ s11).size : Nat) : Int) ≤ (9223372036854775807 : Int)) ∧ (((((((((l5.getD i9.toNat default)).toL.getD (0 : Int).toNat default)).toS ++ s11).size : Nat) : Int) ≤ (9223372036854775807 : Int)) →
 ((((s8 ++ (((((l5.getD i9.toNat default)).toL.getD (0 : Int).toNat default)).toS ++ s11)).size : Nat) : Int) ≤ (9223372036854775807 : Int)) ∧ (((((s8 ++ (((((l5.getD i9.toNat default)).toL.getD (0 : Int).toNat default)).toS ++ s11)).size : Nat) : Int) ≤ (9223372036854775807 : Int)) →
  rBytes22.I0 [(D.V v0), (D.Z z1), (D.V v2), (D.Z z3), (D.V v4), (D.L l5), (D.S (s8 ++ (((((l5.getD i9.toNat default)).toL.getD (0 : Int).toNat default)).toS ++ s11))), (D.I (IntKind.wrap .i64 (i9 + (1 : Int))))] ∧ rBytes22.I0M [(D.V v0), (D.Z z1), (D.V v2), (D.Z z3), (D.V v4), (D.L l5), (D.S (s8 ++ (((((l5.getD i9.toNat default)).toL.getD (0 : Int).toNat default)).toS ++ s11))), (D.I (IntKind.wrap .i64 (i9 + (1 : Int))))] < rBytes22.I0M [(D.V v0), (D.Z z1), (D.V v2), (D.Z z3), (D.V v4), (D.L l5), (D.S s8), (D.I i9)]))))) ∧ (
 (((l5.length : Nat) : Int) ≤ i9) →
  rOf.sig.pre [(D.V v0), (D.Z z1), (D.V v2), (D.Z z3), (D.S s8)] ∧ (
 ∀ (s10 : ByteArray),
  rOf.sig.post [(D.V v0), (D.Z z1), (D.V v2), (D.Z z3), (D.S s8), (D.S s10)] →
 ((s10.size : Int) ≤ 9223372036854775807) →
 ((((s8 ++ s10).size : Nat) : Int) ≤ (9223372036854775807 : Int)) ∧ (((((s8 ++ s10).size : Nat) : Int) ≤ (9223372036854775807 : Int)) →
  rBytes22.sig.post [(D.V v0), (D.Z z1), (D.V v2), (D.Z z3), (D.V v4), (D.L l5), (D.S (s8 ++ s10))])))))))
theorem rBytes22.den : rBytes22.vc.den2 (mkEnv rBytes22.sig [RNum.sig, RText.sig, rOf.sig] [(rBytes22.I0, rBytes22.I0M)]) [] = rBytes22.Pure := by kernel_rfl
def Grow.vc : VC :=
 (.all .V
 (.all .L
 (.know (.ekok [.str, .str] (.at 1))
 (.post 0 [(.at 0), (.at 1)]
 (.all .V
 (.all .V
 (.all .N
 (.all .V
 (.inv 0 [(.at 0), (.at 1), .lnil, (.int 0), .lnil]
 (.all .V
 (.all .L
 (.all .I
 (.all .V
 (.all .L
 (.know (.has .i64 (.at 8))
 (.know (.ekok [.str, .str] (.at 7))
 (.know (.ekok [.ints .u8 32, .str] (.at 10))
 (.asm 0 [(.at 0), (.at 1), (.at 7), (.at 8), (.at 10)]
 (.and
 (.imp (.o2 .lt (.at 8) (.o1 .llen (.at 1))) true
 (.and
 (.imp (.o2 .lt (.at 8) (.int 12)) true
 (.obl (.o2 .le (.int 0) (.at 8))
 (.pre 2 [(.o1 .asS (.o2 .lget (.o1 .asL (.o2 .lget (.at 1) (.at 8))) (.int 0))), (.int 20)]
 (.all .S
 (.post 2 [(.o1 .asS (.o2 .lget (.o1 .asL (.o2 .lget (.at 1) (.at 8))) (.int 0))), (.int 20), (.at 11)]
 (.know (.ssz (.at 11))
 (.pre 1 [(.at 11)]
 (.all .Z
 (.post 1 [(.at 11), (.at 12)]
 (.know (.len (.at 12) 32)
 (.know (.allHas .u8 (.at 12))
 (.all .N
 (.pre 2 [(.o1 .asS (.o2 .lget (.o1 .asL (.o2 .lget (.at 1) (.at 8))) (.int 1))), (.int 60)]
 (.all .S
 (.post 2 [(.o1 .asS (.o2 .lget (.o1 .asL (.o2 .lget (.at 1) (.at 8))) (.int 1))), (.int 60), (.at 14)]
 (.know (.ssz (.at 14))
 (.pre 3 [(.at 4), (.at 9), (.at 10), (.at 12), (.at 14)]
 (.all .V
 (.all .L
 (.all .B
 (.post 3 [(.at 4), (.at 9), (.at 10), (.at 12), (.at 14), (.at 15), (.at 16), (.at 17)]
 (.know (.ekok [.ints .u8 32, .str] (.at 16))
 (.pre 4 [(.at 6), (.at 7), (.o1 .ofLi (.at 12)), (.at 14)]
 (.all .V
 (.all .B
 (.all .L
 (.post 4 [(.at 6), (.at 7), (.o1 .ofLi (.at 12)), (.at 14), (.at 18), (.at 19), (.at 20)]
 (.know (.ekok [.str, .str] (.at 20))
 (.back 0 [(.at 0), (.at 1), (.at 7), (.at 8), (.at 10)] [(.at 0), (.at 1), (.at 20), (.o2 (.add .i64) (.at 8) (.int 1)), (.at 16)])))))))))))))))))))))))))))))
 (.imp (.o2 .lt (.at 8) (.int 12)) false
 (.ret [(.at 0), (.at 1), (.at 4), (.at 9), (.at 6), (.at 10), (.at 7)]))))
 (.imp (.o2 .lt (.at 8) (.o1 .llen (.at 1))) false
 (.ret [(.at 0), (.at 1), (.at 4), (.at 9), (.at 6), (.at 10), (.at 7)])))))))))))))))))))))
def Grow.Pure : Prop :=
 ∀ (v0 : Value),
 ∀ (l1 : List D),
 (EK.ok [.str, .str] (D.L l1)) →
 Grow.sig.pre [(D.V v0), (D.L l1)] →
 ∀ (v2 : Value),
 ∀ (v3 : Value),
 ∀ (n4 : Nat),
 ∀ (v5 : Value),
 Grow.I0 [(D.V v0), (D.L l1), (D.L ([] : List D)), (D.I (0 : Int)), (D.L ([] : List D))] ∧ (
 ∀ (v6 : Value),
 ∀ (l7 : List D),
 ∀ (i8 : Int),
 ∀ (v9 : Value),
 ∀ (l10 : List D),
 (-9223372036854775808 ≤ i8 ∧ i8 < 9223372036854775808) →
 (EK.ok [.str, .str] (D.L l7)) →
 (EK.ok [.ints .u8 32, .str] (D.L l10)) →
 Grow.I0 [(D.V v0), (D.L l1), (D.L l7), (D.I i8), (D.L l10)] →
 ((
 (i8 < ((l1.length : Nat) : Int)) →
 ((
 (i8 < (12 : Int)) →
 ((0 : Int) ≤ i8) ∧ (((0 : Int) ≤ i8) →
   Cut.sig.pre [(D.S ((((l1.getD i8.toNat default)).toL.getD (0 : Int).toNat default)).toS), (D.I (20 : Int))] ∧ (
 ∀ (s11 : ByteArray),
   Cut.sig.post [(D.S ((((l1.getD i8.toNat default)).toL.getD (0 : Int).toNat default)).toS), (D.I (20 : Int)), (D.S s11)] →
 ((s11.size : Int) ≤ 9223372036854775807) →
   HOf.sig.pre [(D.S s11)] ∧ (
 ∀ (z12 : List Int),
   HOf.sig.post [(D.S s11), (D.Z z12)] →
 (z12.length = 32) →
 (∀ x ∈ z12, IntKind.has .u8 x) →
 ∀ (n13 : Nat),
   Cut.sig.pre [(D.S ((((l1.getD i8.toNat default)).toL.getD (1 : Int).toNat default)).toS), (D.I (60 : Int))] ∧ (
 ∀ (s14 : ByteArray),
   Cut.sig.post [(D.S ((((l1.getD i8.toNat default)).toL.getD (1 : Int).toNat default)).toS), (D.I (60 : Int)), (D.S s14)] →
 ((s14.size : Int) ≤ 9223372036854775807) →
   TPutA.sig.pre [(D.N n4), (D.V v9), (D.L l10), (D.Z z12), (D.S s14)] ∧ (
 ∀ (v15 : Value),
 ∀ (l16 : List D),
 ∀ (b17 : Bool),
   TPutA.sig.post [(D.N n4), (D.V v9), (D.L l10), (D.Z z12), (D.S s14), (D.V v15), (D.L l16), (D.B b17)] →
 (EK.ok [.ints .u8 32, .str] (D.L l16)) →
   rPut.sig.pre [(D.V v6), (D.L l7), (D.S (textOf z12)), (D.S s14)] ∧ (
 ∀ (v18 : Value),
 ∀ (b19 : Bool),
 ∀ (l20 : List D),
   rPut.sig.post [(D.V v6), (D.L l7), (D.S (textOf z12)), (D.S s14), (D.V v18), (D.B b19), (D.L l20)] →
 (EK.ok [.str, .str] (D.L l20)) →
   Grow.I0 [(D.V v0), (D.L l1), (D.L l20), (D.I (IntKind.wrap .i64 (i8 + (1 : Int)))), (D.L l16)] ∧ Grow.I0M [(D.V v0), (D.L l1), (D.L l20), (D.I (IntKind.wrap .i64 (i8 + (1 : Int)))), (D.L l16)] < Grow.I0M [(D.V v0), (D.L l1), (D.L l7), (D.I i8), (D.L l10)]))))))) ∧ (
 ((12 : Int) ≤ i8) →
   Grow.sig.post [(D.V v0), (D.L l1), (D.N n4), (D.V v9), (D.V v6), (D.L l10), (D.L l7)]))) ∧ (
 (((l1.length : Nat) : Int) ≤ i8) →
  Grow.sig.post [(D.V v0), (D.L l1), (D.N n4), (D.V v9), (D.V v6), (D.L l10), (D.L l7)])))
theorem Grow.den : Grow.vc.den2 (mkEnv Grow.sig [HOf.sig, Cut.sig, TPutA.sig, rPut.sig] [(Grow.I0, Grow.I0M)]) [] = Grow.Pure := by kernel_rfl
def LTablePlays.vc : VC :=
 (.all .V
 (.all .L
 (.all .V
 (.all .L
 (.all .S
 (.all .Z
 (.know (.ssz (.at 4))
 (.know (.len (.at 5) 32)
 (.know (.allHas .u8 (.at 5))
 (.know (.ekok [.str, .str] (.at 1))
 (.know (.ekok [.str, .str] (.at 3))
 (.post 0 [(.at 0), (.at 1), (.at 2), (.at 3), (.at 4), (.at 5)]
 (.all .N
 (.pre 1 [(.at 0), (.at 1)]
 (.all .N
 (.all .V
 (.all .V
 (.all .L
 (.all .L
 (.post 1 [(.at 0), (.at 1), (.at 7), (.at 8), (.at 9), (.at 10), (.at 11)]
 (.know (.ekok [.ints .u8 32, .str] (.at 10))
 (.know (.ekok [.str, .str] (.at 11))
 (.pre 1 [(.at 2), (.at 3)]
 (.all .N
 (.all .V
 (.all .V
 (.all .L
 (.all .L
 (.post 1 [(.at 2), (.at 3), (.at 12), (.at 13), (.at 14), (.at 15), (.at 16)]
 (.know (.ekok [.ints .u8 32, .str] (.at 15))
 (.know (.ekok [.str, .str] (.at 16))
 (.pre 2 []
 (.all .B
 (.post 2 [(.at 17)]
 (.and
 (.imp (.o1 .not (.at 17)) true
 (.ret [(.at 0), (.at 1), (.at 2), (.at 3), (.at 4), (.at 5), (.bool false)]))
 (.imp (.o1 .not (.at 17)) false
 (.pre 3 [(.at 7), (.at 8), (.at 10), (.at 9), (.at 11)]
 (.all .I
 (.post 3 [(.at 7), (.at 8), (.at 10), (.at 9), (.at 11), (.at 18)]
 (.know (.has .i64 (.at 18))
 (.and
 (.imp (.o1 .not (.o2 .eq (.at 18) (.int 0))) true
 (.ret [(.at 0), (.at 1), (.at 2), (.at 3), (.at 4), (.at 5), (.bool false)]))
 (.imp (.o1 .not (.o2 .eq (.at 18) (.int 0))) false
 (.pre 3 [(.at 12), (.at 13), (.at 15), (.at 14), (.at 16)]
 (.all .I
 (.post 3 [(.at 12), (.at 13), (.at 15), (.at 14), (.at 16), (.at 19)]
 (.know (.has .i64 (.at 19))
 (.and
 (.imp (.o1 .not (.o2 .eq (.at 19) (.int 0))) true
 (.ret [(.at 0), (.at 1), (.at 2), (.at 3), (.at 4), (.at 5), (.bool false)]))
 (.imp (.o1 .not (.o2 .eq (.at 19) (.int 0))) false
 (.pre 4 [(.at 7), (.at 8), (.at 10), (.at 12), (.at 13), (.at 15)]
 (.all .B
 (.post 4 [(.at 7), (.at 8), (.at 10), (.at 12), (.at 13), (.at 15), (.at 20)]
 (.pre 5 [(.at 9), (.at 11), (.at 14), (.at 16)]
 (.all .B
 (.post 5 [(.at 9), (.at 11), (.at 14), (.at 16), (.at 21)]
 (.and
 (.imp (.o1 .not (.o2 .eqb (.at 20) (.at 21))) true
 (.ret [(.at 0), (.at 1), (.at 2), (.at 3), (.at 4), (.at 5), (.bool false)]))
 (.imp (.o1 .not (.o2 .eqb (.at 20) (.at 21))) false
 (.pre 6 [(.at 7), (.at 8), (.at 10)]
 (.all .N
 (.all .V
 (.all .L
 (.post 6 [(.at 7), (.at 8), (.at 10), (.at 22), (.at 23), (.at 24)]
 (.know (.ekok [.ints .u8 32, .str] (.at 24))
 (.pre 3 [(.at 22), (.at 23), (.at 24), (.at 9), (.at 11)]
 (.all .I
 (.post 3 [(.at 22), (.at 23), (.at 24), (.at 9), (.at 11), (.at 25)]
 (.know (.has .i64 (.at 25))
 (.and
 (.imp (.o1 .not (.o2 .eq (.at 25) (.int 0))) true
 (.ret [(.at 0), (.at 1), (.at 2), (.at 3), (.at 4), (.at 5), (.bool false)]))
 (.imp (.o1 .not (.o2 .eq (.at 25) (.int 0))) false
 (.pre 8 [(.at 4), (.int 20)]
 (.all .S
 (.post 8 [(.at 4), (.int 20), (.at 26)]
 (.know (.ssz (.at 26))
 (.pre 7 [(.at 26)]
 (.all .Z
 (.post 7 [(.at 26), (.at 27)]
 (.know (.len (.at 27) 32)
 (.know (.allHas .u8 (.at 27))
 (.all .V
 (.inv 0 [(.at 0), (.at 1), (.at 2), (.at 3), (.at 4), (.at 5), (.int 0)]
 (.all .I
 (.know (.has .i64 (.at 29))
 (.asm 0 [(.at 0), (.at 1), (.at 2), (.at 3), (.at 4), (.at 5), (.at 29)]
 (.and
 (.imp (.o2 .lt (.at 29) (.o1 .llen (.o2 .lcons (.o1 .asZ (.at 27)) (.o2 .lcons (.o1 .asZ (.at 5)) .lnil)))) true
 (.obl (.o2 .le (.int 0) (.at 29))
 (.all .N
 (.pre 9 [(.at 7), (.at 8), (.at 10), (.o1 .asZ (.o2 .lget (.o2 .lcons (.o1 .asZ (.at 27)) (.o2 .lcons (.o1 .asZ (.at 5)) .lnil)) (.at 29)))]
 (.all .S
 (.all .B
 (.post 9 [(.at 7), (.at 8), (.at 10), (.o1 .asZ (.o2 .lget (.o2 .lcons (.o1 .asZ (.at 27)) (.o2 .lcons (.o1 .asZ (.at 5)) .lnil)) (.at 29))), (.at 31), (.at 32)]
 (.know (.ssz (.at 31))
 (.pre 10 [(.at 9), (.at 11), (.o1 .ofLi (.o1 .asZ (.o2 .lget (.o2 .lcons (.o1 .asZ (.at 27)) (.o2 .lcons (.o1 .asZ (.at 5)) .lnil)) (.at 29))))]
 (.all .I
 (.post 10 [(.at 9), (.at 11), (.o1 .ofLi (.o1 .asZ (.o2 .lget (.o2 .lcons (.o1 .asZ (.at 27)) (.o2 .lcons (.o1 .asZ (.at 5)) .lnil)) (.at 29)))), (.at 33)]
 (.know (.has .i64 (.at 33))
 (.and
 (.imp (.o1 .not (.o2 .eqb (.at 32) (.o2 .le (.int 0) (.at 33)))) true
 (.ret [(.at 0), (.at 1), (.at 2), (.at 3), (.at 4), (.at 5), (.bool false)]))
 (.imp (.o1 .not (.o2 .eqb (.at 32) (.o2 .le (.int 0) (.at 33)))) false
 (.and
 (.imp (.at 32) true
 (.obl (.o2 .le (.int 0) (.at 33))
 (.obl (.o2 .lt (.at 33) (.o1 .llen (.at 11)))
 (.and
 (.imp (.o1 .not (.o2 .eqs (.at 31) (.o1 .asS (.o2 .lget (.o1 .asL (.o2 .lget (.at 11) (.at 33))) (.int 1))))) true
 (.ret [(.at 0), (.at 1), (.at 2), (.at 3), (.at 4), (.at 5), (.bool false)]))
 (.imp (.o1 .not (.o2 .eqs (.at 31) (.o1 .asS (.o2 .lget (.o1 .asL (.o2 .lget (.at 11) (.at 33))) (.int 1))))) false
 (.and
 (.imp (.o1 .not (.at 32)) true
 (.and
 (.imp (.o1 .not (.o2 .eqs (.at 31) (.str ⟨#[]⟩))) true
 (.ret [(.at 0), (.at 1), (.at 2), (.at 3), (.at 4), (.at 5), (.bool false)]))
 (.imp (.o1 .not (.o2 .eqs (.at 31) (.str ⟨#[]⟩))) false
 (.back 0 [(.at 0), (.at 1), (.at 2), (.at 3), (.at 4), (.at 5), (.at 29)] [(.at 0), (.at 1), (.at 2), (.at 3), (.at 4), (.at 5), (.o2 (.add .i64) (.at 29) (.int 1))]))))
 (.imp (.o1 .not (.at 32)) false
 (.back 0 [(.at 0), (.at 1), (.at 2), (.at 3), (.at 4), (.at 5), (.at 29)] [(.at 0), (.at 1), (.at 2), (.at 3), (.at 4), (.at 5), (.o2 (.add .i64) (.at 29) (.int 1))]))))))))
 (.imp (.at 32) false
 (.and
 (.imp (.o1 .not (.at 32)) true
 (.and
 (.imp (.o1 .not (.o2 .eqs (.at 31) (.str ⟨#[]⟩))) true
 (.ret [(.at 0), (.at 1), (.at 2), (.at 3), (.at 4), (.at 5), (.bool false)]))
 (.imp (.o1 .not (.o2 .eqs (.at 31) (.str ⟨#[]⟩))) false
 (.back 0 [(.at 0), (.at 1), (.at 2), (.at 3), (.at 4), (.at 5), (.at 29)] [(.at 0), (.at 1), (.at 2), (.at 3), (.at 4), (.at 5), (.o2 (.add .i64) (.at 29) (.int 1))]))))
 (.imp (.o1 .not (.at 32)) false
 (.back 0 [(.at 0), (.at 1), (.at 2), (.at 3), (.at 4), (.at 5), (.at 29)] [(.at 0), (.at 1), (.at 2), (.at 3), (.at 4), (.at 5), (.o2 (.add .i64) (.at 29) (.int 1))])))))))))))))))))))
 (.imp (.o2 .lt (.at 29) (.o1 .llen (.o2 .lcons (.o1 .asZ (.at 27)) (.o2 .lcons (.o1 .asZ (.at 5)) .lnil)))) false
 (.pre 11 [(.at 7), (.at 8), (.at 10)]
 (.all .S
 (.post 11 [(.at 7), (.at 8), (.at 10), (.at 30)]
 (.know (.ssz (.at 30))
 (.pre 12 []
 (.all .V
 (.all .Z
 (.all .V
 (.all .Z
 (.post 12 [(.at 31), (.at 32), (.at 33), (.at 34)]
 (.know (.allHas .u32 (.at 32))
 (.know (.allHas .u32 (.at 34))
 (.pre 13 [(.at 31), (.at 32), (.at 33), (.at 34), (.at 9), (.at 11)]
 (.all .S
 (.post 13 [(.at 31), (.at 32), (.at 33), (.at 34), (.at 9), (.at 11), (.at 35)]
 (.know (.ssz (.at 35))
 (.ret [(.at 0), (.at 1), (.at 2), (.at 3), (.at 4), (.at 5), (.o2 .eqs (.at 30) (.at 35))])))))))))))))))))))))))))))))))))))))))))))))))))))))))))))))))))))))))))))))))))))))))))))))))))))))
def LTablePlays.Pure : Prop :=
 ∀ (v0 : Value),
 ∀ (l1 : List D),
 ∀ (v2 : Value),
 ∀ (l3 : List D),
 ∀ (s4 : ByteArray),
 ∀ (z5 : List Int),
 ((s4.size : Int) ≤ 9223372036854775807) →
 (z5.length = 32) →
 (∀ x ∈ z5, IntKind.has .u8 x) →
 (EK.ok [.str, .str] (D.L l1)) →
 (EK.ok [.str, .str] (D.L l3)) →
 LTablePlays.sig.pre [(D.V v0), (D.L l1), (D.V v2), (D.L l3), (D.S s4), (D.Z z5)] →
 ∀ (n6 : Nat),
 Grow.sig.pre [(D.V v0), (D.L l1)] ∧ (
 ∀ (n7 : Nat),
 ∀ (v8 : Value),
 ∀ (v9 : Value),
 ∀ (l10 : List D),
 ∀ (l11 : List D),
 Grow.sig.post [(D.V v0), (D.L l1), (D.N n7), (D.V v8), (D.V v9), (D.L l10), (D.L l11)] →
 (EK.ok [.ints .u8 32, .str] (D.L l10)) →
 (EK.ok [.str, .str] (D.L l11)) →
 Grow.sig.pre [(D.V v2), (D.L l3)] ∧ (
 ∀ (n12 : Nat),
 ∀ (v13 : Value),
 ∀ (v14 : Value),
 ∀ (l15 : List D),
 ∀ (l16 : List D),
 Grow.sig.post [(D.V v2), (D.L l3), (D.N n12), (D.V v13), (D.V v14), (D.L l15), (D.L l16)] →
 (EK.ok [.ints .u8 32, .str] (D.L l15)) →
 (EK.ok [.str, .str] (D.L l16)) →
 Awake22.sig.pre [] ∧ (
 ∀ (b17 : Bool),
 Awake22.sig.post [(D.B b17)] →
 ((
 (b17 = false) →
  LTablePlays.sig.post [(D.V v0), (D.L l1), (D.V v2), (D.L l3), (D.S s4), (D.Z z5), (D.B false)]) ∧ (
 (b17 = true) →
  TSame.sig.pre [(D.N n7), (D.V v8), (D.L l10), (D.V v9), (D.L l11)] ∧ (
 ∀ (i18 : Int),
  TSame.sig.post [(D.N n7), (D.V v8), (D.L l10), (D.V v9), (D.L l11), (D.I i18)] →
 (-9223372036854775808 ≤ i18 ∧ i18 < 9223372036854775808) →
 ((
 (i18 ≠ (0 : Int)) →
   LTablePlays.sig.post [(D.V v0), (D.L l1), (D.V v2), (D.L l3), (D.S s4), (D.Z z5), (D.B false)]) ∧ (
 (i18 = (0 : Int)) →
   TSame.sig.pre [(D.N n12), (D.V v13), (D.L l15), (D.V v14), (D.L l16)] ∧ (
 ∀ (i19 : Int),
   TSame.sig.post [(D.N n12), (D.V v13), (D.L l15), (D.V v14), (D.L l16), (D.I i19)] →
 (-9223372036854775808 ≤ i19 ∧ i19 < 9223372036854775808) →
 ((
 (i19 ≠ (0 : Int)) →
    LTablePlays.sig.post [(D.V v0), (D.L l1), (D.V v2), (D.L l3), (D.S s4), (D.Z z5), (D.B false)]) ∧ (
 (i19 = (0 : Int)) →
    TWithin.sig.pre [(D.N n7), (D.V v8), (D.L l10), (D.N n12), (D.V v13), (D.L l15)] ∧ (
 ∀ (b20 : Bool),
    TWithin.sig.post [(D.N n7), (D.V v8), (D.L l10), (D.N n12), (D.V v13), (D.L l15), (D.B b20)] →
    rWithin.sig.pre [(D.V v9), (D.L l11), (D.V v14), (D.L l16)] ∧ (
 ∀ (b21 : Bool),
    rWithin.sig.post [(D.V v9), (D.L l11), (D.V v14), (D.L l16), (D.B b21)] →
 ((
 (b20 ≠ b21) →
     LTablePlays.sig.post [(D.V v0), (D.L l1), (D.V v2), (D.L l3), (D.S s4), (D.Z z5), (D.B false)]) ∧ (
 (b20 = b21) →
     TCopy.sig.pre [(D.N n7), (D.V v8), (D.L l10)] ∧ (
 ∀ (n22 : Nat),
 ∀ (v23 : Value),
 ∀ (l24 : List D),
     TCopy.sig.post [(D.N n7), (D.V v8), (D.L l10), (D.N n22), (D.V v23), (D.L l24)] →
 (EK.ok [.ints .u8 32, .str] (D.L l24)) →
     TSame.sig.pre [(D.N n22), (D.V v23), (D.L l24), (D.V v9), (D.L l11)] ∧ (
 ∀ (i25 : Int),
     TSame.sig.post [(D.N n22), (D.V v23), (D.L l24), (D.V v9), (D.L l11), (D.I i25)] →
 (-9223372036854775808 ≤ i25 ∧ i25 < 9223372036854775808) →
 ((
 (i25 ≠ (0 : Int)) →
      LTablePlays.sig.post [(D.V v0), (D.L l1), (D.V v2), (D.L l3), (D.S s4), (D.Z z5), (D.B false)]) ∧ (
 (i25 = (0 : Int)) →
      Cut.sig.pre [(D.S s4), (D.I (20 : Int))] ∧ (
 ∀ (s26 : ByteArray),
      Cut.sig.post [(D.S s4), (D.I (20 : Int)), (D.S s26)] →
 ((s26.size : Int) ≤ 9223372036854775807) →
      HOf.sig.pre [(D.S s26)] ∧ (
 ∀ (z27 : List Int),
      HOf.sig.post [(D.S s26), (D.Z z27)] →
 (z27.length = 32) →
 (∀ x ∈ z27, IntKind.has .u8 x) →
 ∀ (v28 : Value),
      LTablePlays.I0 [(D.V v0), (D.L l1), (D.V v2), (D.L l3), (D.S s4), (D.Z z5), (D.I (0 : Int))] ∧ (
 ∀ (i29 : Int),
 (-9223372036854775808 ≤ i29 ∧ i29 < 9223372036854775808) →
      LTablePlays.I0 [(D.V v0), (D.L l1), (D.V v2), (D.L l3), (D.S s4), (D.Z z5), (D.I i29)] →
 ((
 (i29 < ((((D.Z z27) :: ((D.Z z5) :: ([] : List D))).length : Nat) : Int)) →
 ((0 : Int) ≤ i29) ∧ (((0 : Int) ≤ i29) →
 ∀ (n30 : Nat),
       TGet.sig.pre [(D.N n7), (D.V v8), (D.L l10), (D.Z ((((D.Z z27) :: ((D.Z z5) :: ([] : List D))).getD i29.toNat default)).toLi)] ∧ (
 ∀ (s31 : ByteArray),
 ∀ (b32 : Bool),
       TGet.sig.post [(D.N n7), (D.V v8), (D.L l10), (D.Z ((((D.Z z27) :: ((D.Z z5) :: ([] : List D))).getD i29.toNat default)).toLi), (D.S s31), (D.B b32)] →
 ((s31.size : Int) ≤ 9223372036854775807) →
       rFind.sig.pre [(D.V v9), (D.L l11), (D.S (textOf ((((D.Z z27) :: ((D.Z z5) :: ([] : List D))).getD i29.toNat default)).toLi))] ∧ (
 ∀ (i33 : Int),
       rFind.sig.post [(D.V v9), (D.L l11), (D.S (textOf ((((D.Z z27) :: ((D.Z z5) :: ([] : List D))).getD i29.toNat default)).toLi)), (D.I i33)] →
 (-9223372036854775808 ≤ i33 ∧ i33 < 9223372036854775808) →
 ((
 (b32 ≠ (decide ((0 : Int) ≤ i33))) →
        LTablePlays.sig.post [(D.V v0), (D.L l1), (D.V v2), (D.L l3), (D.S s4), (D.Z z5), (D.B false)]) ∧ (
 (b32 = (decide ((0 : Int) ≤ i33))) →
 ((
 (b32 = true) →
 ((0 : Int) ≤ i33) ∧ (((0 : Int) ≤ i33) →
 (i33 < ((l11.length : Nat) : Int)) ∧ ((i33 < ((l11.length : Nat) : Int)) →
 ((
 (s31 ≠ ((((l11.getD i33.toNat default)).toL.getD (1 : Int).toNat default)).toS) →
          LTablePlays.sig.post [(D.V v0), (D.L l1), (D.V v2), (D.L l3), (D.S s4), (D.Z z5), (D.B false)]) ∧ (
 (s31 = ((((l11.getD i33.toNat default)).toL.getD (1 : Int).toNat default)).toS) →
 ((
 (b32 = false) →
 ((
 (s31 ≠ (⟨#[]⟩ : ByteArray)) →
            LTablePlays.sig.post [(D.V v0), (D.L l1), (D.V v2), (D.L l3), (D.S s4), (D.Z z5), (D.B false)]) ∧ (
 (s31 = (⟨#[]⟩ : ByteArray)) →
            LTablePlays.I0 [(D.V v0), (D.L l1), (D.V v2), (D.L l3), (D.S s4), (D.Z z5), (D.I (IntKind.wrap .i64 (i29 + (1 : Int))))] ∧ LTablePlays.I0M [(D.V v0), (D.L l1), (D.V v2), (D.L l3), (D.S s4), (D.Z z5), (D.I (IntKind.wrap .i64 (i29 + (1 : Int))))] < LTablePlays.I0M [(D.V v0), (D.L l1), (D.V v2), (D.L l3), (D.S s4), (D.Z z5), (D.I i29)]))) ∧ (
 (b32 = true) →
           LTablePlays.I0 [(D.V v0), (D.L l1), (D.V v2), (D.L l3), (D.S s4), (D.Z z5), (D.I (IntKind.wrap .i64 (i29 + (1 : Int))))] ∧ LTablePlays.I0M [(D.V v0), (D.L l1), (D.V v2), (D.L l3), (D.S s4), (D.Z z5), (D.I (IntKind.wrap .i64 (i29 + (1 : Int))))] < LTablePlays.I0M [(D.V v0), (D.L l1), (D.V v2), (D.L l3), (D.S s4), (D.Z z5), (D.I i29)]))))))) ∧ (
 (b32 = false) →
 ((
 (b32 = false) →
 ((
 (s31 ≠ (⟨#[]⟩ : ByteArray)) →
           LTablePlays.sig.post [(D.V v0), (D.L l1), (D.V v2), (D.L l3), (D.S s4), (D.Z z5), (D.B false)]) ∧ (
 (s31 = (⟨#[]⟩ : ByteArray)) →
           LTablePlays.I0 [(D.V v0), (D.L l1), (D.V v2), (D.L l3), (D.S s4), (D.Z z5), (D.I (IntKind.wrap .i64 (i29 + (1 : Int))))] ∧ LTablePlays.I0M [(D.V v0), (D.L l1), (D.V v2), (D.L l3), (D.S s4), (D.Z z5), (D.I (IntKind.wrap .i64 (i29 + (1 : Int))))] < LTablePlays.I0M [(D.V v0), (D.L l1), (D.V v2), (D.L l3), (D.S s4), (D.Z z5), (D.I i29)]))) ∧ (
 (b32 = true) →
          LTablePlays.I0 [(D.V v0), (D.L l1), (D.V v2), (D.L l3), (D.S s4), (D.Z z5), (D.I (IntKind.wrap .i64 (i29 + (1 : Int))))] ∧ LTablePlays.I0M [(D.V v0), (D.L l1), (D.V v2), (D.L l3), (D.S s4), (D.Z z5), (D.I (IntKind.wrap .i64 (i29 + (1 : Int))))] < LTablePlays.I0M [(D.V v0), (D.L l1), (D.V v2), (D.L l3), (D.S s4), (D.Z z5), (D.I i29)])))))))))) ∧ (
 (((((D.Z z27) :: ((D.Z z5) :: ([] : List D))).length : Nat) : Int) ≤ i29) →
       TBytes.sig.pre [(D.N n7), (D.V v8), (D.L l10)] ∧ (
 ∀ (s30 : ByteArray),
       TBytes.sig.post [(D.N n7), (D.V v8), (D.L l10), (D.S s30)] →
 ((s30.size : Int) ≤ 9223372036854775807) →
       rMade.sig.pre [] ∧ (
 ∀ (v31 : Value),
 ∀ (z32 : List Int),
 ∀ (v33 : Value),
 ∀ (z34 : List Int),
       rMade.sig.post [(D.V v31), (D.Z z32), (D.V v33), (D.Z z34)] →
 (∀ x ∈ z32, IntKind.has .u32 x) →
 (∀ x ∈ z34, IntKind.has .u32 x) →
       rBytes22.sig.pre [(D.V v31), (D.Z z32), (D.V v33), (D.Z z34), (D.V v9), (D.L l11)] ∧ (
 ∀ (s35 : ByteArray),
       rBytes22.sig.post [(D.V v31), (D.Z z32), (D.V v33), (D.Z z34), (D.V v9), (D.L l11), (D.S s35)] →
 ((s35.size : Int) ≤ 9223372036854775807) →
       LTablePlays.sig.post [(D.V v0), (D.L l1), (D.V v2), (D.L l3), (D.S s4), (D.Z z5), (D.B (s30.toList == s35.toList))])))))))))))))))))))))))))))
theorem LTablePlays.den : LTablePlays.vc.den2 (mkEnv LTablePlays.sig [Grow.sig, Awake22.sig, TSame.sig, TWithin.sig, rWithin.sig, TCopy.sig, HOf.sig, Cut.sig, TGet.sig, rFind.sig, TBytes.sig, rMade.sig, rBytes22.sig] [(LTablePlays.I0, LTablePlays.I0M)]) [] = LTablePlays.Pure := by kernel_rfl
def LTableOrder.vc : VC :=
 (.all .V
 (.all .L
 (.all .I
 (.know (.has .i64 (.at 2))
 (.know (.ekok [.str, .str] (.at 1))
 (.post 0 [(.at 0), (.at 1), (.at 2)]
 (.pre 1 [(.at 0), (.at 1)]
 (.all .N
 (.all .V
 (.all .V
 (.all .L
 (.all .L
 (.post 1 [(.at 0), (.at 1), (.at 3), (.at 4), (.at 5), (.at 6), (.at 7)]
 (.know (.ekok [.ints .u8 32, .str] (.at 6))
 (.know (.ekok [.str, .str] (.at 7))
 (.and
 (.imp (.o1 .not (.o2 .eq (.o1 .llen (.at 7)) (.o2 .min (.o1 .llen (.at 1)) (.int 12)))) true
 (.pre 2 []
 (.all .B
 (.post 2 [(.at 8)]
 (.ret [(.at 0), (.at 1), (.at 2), (.at 8)])))))
 (.imp (.o1 .not (.o2 .eq (.o1 .llen (.at 7)) (.o2 .min (.o1 .llen (.at 1)) (.int 12)))) false
 (.and
 (.imp (.o2 .lt (.at 2) (.int 1)) true
 (.pre 2 []
 (.all .B
 (.post 2 [(.at 8)]
 (.ret [(.at 0), (.at 1), (.at 2), (.at 8)])))))
 (.imp (.o2 .lt (.at 2) (.int 1)) false
 (.and
 (.imp (.o2 .lt (.int 100) (.at 2)) true
 (.pre 2 []
 (.all .B
 (.post 2 [(.at 8)]
 (.ret [(.at 0), (.at 1), (.at 2), (.at 8)])))))
 (.imp (.o2 .lt (.int 100) (.at 2)) false
 (.all .V
 (.all .N
 (.inv 0 [(.at 0), (.at 1), (.at 2), (.int 0), .lnil]
 (.all .I
 (.all .V
 (.all .L
 (.know (.has .i64 (.at 10))
 (.know (.ekok [.ints .u8 32, .str] (.at 12))
 (.asm 0 [(.at 0), (.at 1), (.at 2), (.at 10), (.at 12)]
 (.and
 (.imp (.o2 .lt (.at 10) (.int 13)) true
 (.and
 (.imp (.o2 .lt (.o2 .rem (.o2 (.mul .i64) (.at 10) (.o2 (.add .i64) (.int 1) (.o2 .rem (.at 2) (.int 12)))) (.int 13)) (.o2 .min (.o1 .llen (.at 1)) (.int 12))) true
 (.obl (.o2 .le (.int 0) (.o2 .rem (.o2 (.mul .i64) (.at 10) (.o2 (.add .i64) (.int 1) (.o2 .rem (.at 2) (.int 12)))) (.int 13)))
 (.obl (.o2 .lt (.o2 .rem (.o2 (.mul .i64) (.at 10) (.o2 (.add .i64) (.int 1) (.o2 .rem (.at 2) (.int 12)))) (.int 13)) (.o1 .llen (.at 1)))
 (.pre 5 [(.o1 .asS (.o2 .lget (.o1 .asL (.o2 .lget (.at 1) (.o2 .rem (.o2 (.mul .i64) (.at 10) (.o2 (.add .i64) (.int 1) (.o2 .rem (.at 2) (.int 12)))) (.int 13)))) (.int 0))), (.int 20)]
 (.all .S
 (.post 5 [(.o1 .asS (.o2 .lget (.o1 .asL (.o2 .lget (.at 1) (.o2 .rem (.o2 (.mul .i64) (.at 10) (.o2 (.add .i64) (.int 1) (.o2 .rem (.at 2) (.int 12)))) (.int 13)))) (.int 0))), (.int 20), (.at 13)]
 (.know (.ssz (.at 13))
 (.pre 4 [(.at 13)]
 (.all .Z
 (.post 4 [(.at 13), (.at 14)]
 (.know (.len (.at 14) 32)
 (.know (.allHas .u8 (.at 14))
 (.pre 5 [(.o1 .asS (.o2 .lget (.o1 .asL (.o2 .lget (.at 1) (.o2 .rem (.o2 (.mul .i64) (.at 10) (.o2 (.add .i64) (.int 1) (.o2 .rem (.at 2) (.int 12)))) (.int 13)))) (.int 1))), (.int 60)]
 (.all .S
 (.post 5 [(.o1 .asS (.o2 .lget (.o1 .asL (.o2 .lget (.at 1) (.o2 .rem (.o2 (.mul .i64) (.at 10) (.o2 (.add .i64) (.int 1) (.o2 .rem (.at 2) (.int 12)))) (.int 13)))) (.int 1))), (.int 60), (.at 15)]
 (.know (.ssz (.at 15))
 (.pre 3 [(.at 9), (.at 11), (.at 12), (.at 14), (.at 15)]
 (.all .V
 (.all .L
 (.all .B
 (.post 3 [(.at 9), (.at 11), (.at 12), (.at 14), (.at 15), (.at 16), (.at 17), (.at 18)]
 (.know (.ekok [.ints .u8 32, .str] (.at 17))
 (.back 0 [(.at 0), (.at 1), (.at 2), (.at 10), (.at 12)] [(.at 0), (.at 1), (.at 2), (.o2 (.add .i64) (.at 10) (.int 1)), (.at 17)])))))))))))))))))))))))
 (.imp (.o2 .lt (.o2 .rem (.o2 (.mul .i64) (.at 10) (.o2 (.add .i64) (.int 1) (.o2 .rem (.at 2) (.int 12)))) (.int 13)) (.o2 .min (.o1 .llen (.at 1)) (.int 12))) false
 (.back 0 [(.at 0), (.at 1), (.at 2), (.at 10), (.at 12)] [(.at 0), (.at 1), (.at 2), (.o2 (.add .i64) (.at 10) (.int 1)), (.at 12)]))))
 (.imp (.o2 .lt (.at 10) (.int 13)) false
 (.pre 2 []
 (.all .B
 (.post 2 [(.at 13)]
 (.and
 (.imp (.at 13) true
 (.pre 6 [(.at 9), (.at 11), (.at 12)]
 (.all .S
 (.post 6 [(.at 9), (.at 11), (.at 12), (.at 14)]
 (.know (.ssz (.at 14))
 (.pre 6 [(.at 3), (.at 4), (.at 6)]
 (.all .S
 (.post 6 [(.at 3), (.at 4), (.at 6), (.at 15)]
 (.know (.ssz (.at 15))
 (.and
 (.imp (.o2 .eqs (.at 14) (.at 15)) true
 (.pre 7 [(.at 9), (.at 11), (.at 12), (.at 3), (.at 4), (.at 6)]
 (.all .B
 (.post 7 [(.at 9), (.at 11), (.at 12), (.at 3), (.at 4), (.at 6), (.at 16)]
 (.and
 (.imp (.at 16) true
 (.pre 7 [(.at 3), (.at 4), (.at 6), (.at 9), (.at 11), (.at 12)]
 (.all .B
 (.post 7 [(.at 3), (.at 4), (.at 6), (.at 9), (.at 11), (.at 12), (.at 17)]
 (.ret [(.at 0), (.at 1), (.at 2), (.at 17)])))))
 (.imp (.at 16) false
 (.ret [(.at 0), (.at 1), (.at 2), (.bool false)])))))))
 (.imp (.o2 .eqs (.at 14) (.at 15)) false
 (.ret [(.at 0), (.at 1), (.at 2), (.bool false)]))))))))))))
 (.imp (.at 13) false
 (.ret [(.at 0), (.at 1), (.at 2), (.bool false)]))))))))))))))))))))))))))))))))))))))
def LTableOrder.Pure : Prop :=
 ∀ (v0 : Value),
 ∀ (l1 : List D),
 ∀ (i2 : Int),
 (-9223372036854775808 ≤ i2 ∧ i2 < 9223372036854775808) →
 (EK.ok [.str, .str] (D.L l1)) →
 LTableOrder.sig.pre [(D.V v0), (D.L l1), (D.I i2)] →
 Grow.sig.pre [(D.V v0), (D.L l1)] ∧ (
 ∀ (n3 : Nat),
 ∀ (v4 : Value),
 ∀ (v5 : Value),
 ∀ (l6 : List D),
 ∀ (l7 : List D),
 Grow.sig.post [(D.V v0), (D.L l1), (D.N n3), (D.V v4), (D.V v5), (D.L l6), (D.L l7)] →
 (EK.ok [.ints .u8 32, .str] (D.L l6)) →
 (EK.ok [.str, .str] (D.L l7)) →
 ((
 (((l7.length : Nat) : Int) ≠ (minI ((l1.length : Nat) : Int) (12 : Int))) →
  Awake22.sig.pre [] ∧ (
 ∀ (b8 : Bool),
  Awake22.sig.post [(D.B b8)] →
  LTableOrder.sig.post [(D.V v0), (D.L l1), (D.I i2), (D.B b8)])) ∧ (
 (((l7.length : Nat) : Int) = (minI ((l1.length : Nat) : Int) (12 : Int))) →
 ((
 (i2 < (1 : Int)) →
   Awake22.sig.pre [] ∧ (
 ∀ (b8 : Bool),
   Awake22.sig.post [(D.B b8)] →
   LTableOrder.sig.post [(D.V v0), (D.L l1), (D.I i2), (D.B b8)])) ∧ (
 ((1 : Int) ≤ i2) →
 ((
 ((100 : Int) < i2) →
    Awake22.sig.pre [] ∧ (
 ∀ (b8 : Bool),
    Awake22.sig.post [(D.B b8)] →
    LTableOrder.sig.post [(D.V v0), (D.L l1), (D.I i2), (D.B b8)])) ∧ (
 (i2 ≤ (100 : Int)) →
 ∀ (v8 : Value),
 ∀ (n9 : Nat),
    LTableOrder.I0 [(D.V v0), (D.L l1), (D.I i2), (D.I (0 : Int)), (D.L ([] : List D))] ∧ (
 ∀ (i10 : Int),
 ∀ (v11 : Value),
 ∀ (l12 : List D),
 (-9223372036854775808 ≤ i10 ∧ i10 < 9223372036854775808) →
 (EK.ok [.ints .u8 32, .str] (D.L l12)) →
    LTableOrder.I0 [(D.V v0), (D.L l1), (D.I i2), (D.I i10), (D.L l12)] →
 ((
 (i10 < (13 : Int)) →
 ((
 ((Int.tmod (IntKind.wrap .i64 (i10 * (IntKind.wrap .i64 ((1 : Int) + (Int.tmod i2 (12 : Int)))))) (13 : Int)) < (minI ((l1.length : Nat) : Int) (12 : Int))) →
 ((0 : Int) ≤ (Int.tmod (IntKind.wrap .i64 (i10 * (IntKind.wrap .i64 ((1 : Int) + (Int.tmod i2 (12 : Int)))))) (13 : Int))) ∧ (((0 : Int) ≤ (Int.tmod (IntKind.wrap .i64 (i10 * (IntKind.wrap .i64 ((1 : Int) + (Int.tmod i2 (12 : Int)))))) (13 : Int))) →
 ((Int.tmod (IntKind.wrap .i64 (i10 * (IntKind.wrap .i64 ((1 : Int) + (Int.tmod i2 (12 : Int)))))) (13 : Int)) < ((l1.length : Nat) : Int)) ∧ (((Int.tmod (IntKind.wrap .i64 (i10 * (IntKind.wrap .i64 ((1 : Int) + (Int.tmod i2 (12 : Int)))))) (13 : Int)) < ((l1.length : Nat) : Int)) →
      Cut.sig.pre [(D.S ((((l1.getD (Int.tmod (IntKind.wrap .i64 (i10 * (IntKind.wrap .i64 ((1 : Int) + (Int.tmod i2 (12 : Int)))))) (13 : Int)).toNat default)).toL.getD (0 : Int).toNat default)).toS), (D.I (20 : Int))] ∧ (
 ∀ (s13 : ByteArray),
      Cut.sig.post [(D.S ((((l1.getD (Int.tmod (IntKind.wrap .i64 (i10 * (IntKind.wrap .i64 ((1 : Int) + (Int.tmod i2 (12 : Int)))))) (13 : Int)).toNat default)).toL.getD (0 : Int).toNat default)).toS), (D.I (20 : Int)), (D.S s13)] →
 ((s13.size : Int) ≤ 9223372036854775807) →
      HOf.sig.pre [(D.S s13)] ∧ (
 ∀ (z14 : List Int),
      HOf.sig.post [(D.S s13), (D.Z z14)] →
 (z14.length = 32) →
 (∀ x ∈ z14, IntKind.has .u8 x) →
      Cut.sig.pre [(D.S ((((l1.getD (Int.tmod (IntKind.wrap .i64 (i10 * (IntKind.wrap .i64 ((1 : Int) + (Int.tmod i2 (12 : Int)))))) (13 : Int)).toNat default)).toL.getD (1 : Int).toNat default)).toS), (D.I (60 : Int))] ∧ (
 ∀ (s15 : ByteArray),
      Cut.sig.post [(D.S ((((l1.getD (Int.tmod (IntKind.wrap .i64 (i10 * (IntKind.wrap .i64 ((1 : Int) + (Int.tmod i2 (12 : Int)))))) (13 : Int)).toNat default)).toL.getD (1 : Int).toNat default)).toS), (D.I (60 : Int)), (D.S s15)] →
 ((s15.size : Int) ≤ 9223372036854775807) →
      TPutA.sig.pre [(D.N n9), (D.V v11), (D.L l12), (D.Z z14), (D.S s15)] ∧ (
 ∀ (v16 : Value),
 ∀ (l17 : List D),
 ∀ (b18 : Bool),
      TPutA.sig.post [(D.N n9), (D.V v11), (D.L l12), (D.Z z14), (D.S s15), (D.V v16), (D.L l17), (D.B b18)] →
 (EK.ok [.ints .u8 32, .str] (D.L l17)) →
      LTableOrder.I0 [(D.V v0), (D.L l1), (D.I i2), (D.I (IntKind.wrap .i64 (i10 + (1 : Int)))), (D.L l17)] ∧ LTableOrder.I0M [(D.V v0), (D.L l1), (D.I i2), (D.I (IntKind.wrap .i64 (i10 + (1 : Int)))), (D.L l17)] < LTableOrder.I0M [(D.V v0), (D.L l1), (D.I i2), (D.I i10), (D.L l12)]))))))) ∧ (
 ((minI ((l1.length : Nat) : Int) (12 : Int)) ≤ (Int.tmod (IntKind.wrap .i64 (i10 * (IntKind.wrap .i64 ((1 : Int) + (Int.tmod i2 (12 : Int)))))) (13 : Int))) →
      LTableOrder.I0 [(D.V v0), (D.L l1), (D.I i2), (D.I (IntKind.wrap .i64 (i10 + (1 : Int)))), (D.L l12)] ∧ LTableOrder.I0M [(D.V v0), (D.L l1), (D.I i2), (D.I (IntKind.wrap .i64 (i10 + (1 : Int)))), (D.L l12)] < LTableOrder.I0M [(D.V v0), (D.L l1), (D.I i2), (D.I i10), (D.L l12)]))) ∧ (
 ((13 : Int) ≤ i10) →
     Awake22.sig.pre [] ∧ (
 ∀ (b13 : Bool),
     Awake22.sig.post [(D.B b13)] →
 ((
 (b13 = true) →
      TBytes.sig.pre [(D.N n9), (D.V v11), (D.L l12)] ∧ (
 ∀ (s14 : ByteArray),
      TBytes.sig.post [(D.N n9), (D.V v11), (D.L l12), (D.S s14)] →
 ((s14.size : Int) ≤ 9223372036854775807) →
      TBytes.sig.pre [(D.N n3), (D.V v4), (D.L l6)] ∧ (
 ∀ (s15 : ByteArray),
      TBytes.sig.post [(D.N n3), (D.V v4), (D.L l6), (D.S s15)] →
 ((s15.size : Int) ≤ 9223372036854775807) →
 ((
 (s14 = s15) →
       TWithin.sig.pre [(D.N n9), (D.V v11), (D.L l12), (D.N n3), (D.V v4), (D.L l6)] ∧ (
 ∀ (b16 : Bool),
       TWithin.sig.post [(D.N n9), (D.V v11), (D.L l12), (D.N n3), (D.V v4), (D.L l6), (D.B b16)] →
 ((
 (b16 = true) →
        TWithin.sig.pre [(D.N n3), (D.V v4), (D.L l6), (D.N n9), (D.V v11), (D.L l12)] ∧ (
 ∀ (b17 : Bool),
        TWithin.sig.post [(D.N n3), (D.V v4), (D.L l6), (D.N n9), (D.V v11), (D.L l12), (D.B b17)] →
        LTableOrder.sig.post [(D.V v0), (D.L l1), (D.I i2), (D.B b17)])) ∧ (
 (b16 = false) →
        LTableOrder.sig.post [(D.V v0), (D.L l1), (D.I i2), (D.B false)])))) ∧ (
 (s14 ≠ s15) →
       LTableOrder.sig.post [(D.V v0), (D.L l1), (D.I i2), (D.B false)]))))) ∧ (
 (b13 = false) →
      LTableOrder.sig.post [(D.V v0), (D.L l1), (D.I i2), (D.B false)])))))))))))))
theorem LTableOrder.den : LTableOrder.vc.den2 (mkEnv LTableOrder.sig [Grow.sig, Awake22.sig, TPutA.sig, HOf.sig, Cut.sig, TBytes.sig, TWithin.sig] [(LTableOrder.I0, LTableOrder.I0M)]) [] = LTableOrder.Pure := by kernel_rfl
def LTableBack.vc : VC :=
 (.all .V
 (.all .L
 (.all .I
 (.all .I
 (.know (.has .i64 (.at 2))
 (.know (.has .u8 (.at 3))
 (.know (.ekok [.str, .str] (.at 1))
 (.post 0 [(.at 0), (.at 1), (.at 2), (.at 3)]
 (.pre 1 [(.at 0), (.at 1)]
 (.all .N
 (.all .V
 (.all .V
 (.all .L
 (.all .L
 (.post 1 [(.at 0), (.at 1), (.at 4), (.at 5), (.at 6), (.at 7), (.at 8)]
 (.know (.ekok [.ints .u8 32, .str] (.at 7))
 (.know (.ekok [.str, .str] (.at 8))
 (.pre 2 [(.at 4), (.at 5), (.at 7)]
 (.all .S
 (.post 2 [(.at 4), (.at 5), (.at 7), (.at 9)]
 (.know (.ssz (.at 9))
 (.and
 (.pre 3 [(.at 9)]
 (.all .I
 (.post 3 [(.at 9), (.at 10)]
 (.know (.has .i64 (.at 10))
 (.and
 (.imp (.o1 .not (.o2 .eq (.at 10) (.int 0))) true
 (.ret [(.at 0), (.at 1), (.at 2), (.at 3), (.bool false)]))
 (.imp (.o1 .not (.o2 .eq (.at 10) (.int 0))) false
 (.ret [(.at 0), (.at 1), (.at 2), (.at 3), (.bool false)])))))))
 (.pre 203 [(.at 9)]
 (.all .N
 (.all .V
 (.all .L
 (.post 203 [(.at 9), (.at 10), (.at 11), (.at 12)]
 (.know (.ekok [.ints .u8 32, .str] (.at 12))
 (.and
 (.imp (.o1 .not (.o2 .eq (.int 0) (.int 0))) true
 (.ret [(.at 0), (.at 1), (.at 2), (.at 3), (.bool false)]))
 (.imp (.o1 .not (.o2 .eq (.int 0) (.int 0))) false
 (.pre 4 [(.at 10), (.at 11), (.at 12), (.at 6), (.at 8)]
 (.all .I
 (.post 4 [(.at 10), (.at 11), (.at 12), (.at 6), (.at 8), (.at 13)]
 (.know (.has .i64 (.at 13))
 (.and
 (.imp (.o1 .not (.o2 .eq (.at 13) (.int 0))) true
 (.ret [(.at 0), (.at 1), (.at 2), (.at 3), (.bool false)]))
 (.imp (.o1 .not (.o2 .eq (.at 13) (.int 0))) false
 (.pre 2 [(.at 10), (.at 11), (.at 12)]
 (.all .S
 (.post 2 [(.at 10), (.at 11), (.at 12), (.at 14)]
 (.know (.ssz (.at 14))
 (.and
 (.imp (.o1 .not (.o2 .eqs (.at 14) (.at 9))) true
 (.ret [(.at 0), (.at 1), (.at 2), (.at 3), (.bool false)]))
 (.imp (.o1 .not (.o2 .eqs (.at 14) (.at 9))) false
 (.and
 (.imp (.o2 .lt (.at 2) (.o2 (.sub .i64) (.o1 .slen (.at 9)) (.int 32))) true
 (.pre 5 []
 (.all .B
 (.post 5 [(.at 15)]
 (.ret [(.at 0), (.at 1), (.at 2), (.at 3), (.at 15)])))))
 (.imp (.o2 .lt (.at 2) (.o2 (.sub .i64) (.o1 .slen (.at 9)) (.int 32))) false
 (.and
 (.imp (.o2 .le (.o1 .slen (.at 9)) (.at 2)) true
 (.pre 5 []
 (.all .B
 (.post 5 [(.at 15)]
 (.ret [(.at 0), (.at 1), (.at 2), (.at 3), (.at 15)])))))
 (.imp (.o2 .le (.o1 .slen (.at 9)) (.at 2)) false
 (.and
 (.imp (.o2 .eq (.at 3) (.int 0)) true
 (.pre 5 []
 (.all .B
 (.post 5 [(.at 15)]
 (.ret [(.at 0), (.at 1), (.at 2), (.at 3), (.at 15)])))))
 (.imp (.o2 .eq (.at 3) (.int 0)) false
 (.all .V
 (.obl (.o2 .le (.int 0) (.at 2))
 (.obl (.o2 .lt (.at 2) (.o1 .lilen (.o1 .toLi (.at 9))))
 (.and
 (.pre 3 [(.o1 .ofLi (.o3 .liset (.o1 .toLi (.at 9)) (.at 2) (.o2 (.bits .xor .u8) (.o2 .liget (.o1 .toLi (.at 9)) (.at 2)) (.at 3))))]
 (.all .I
 (.post 3 [(.o1 .ofLi (.o3 .liset (.o1 .toLi (.at 9)) (.at 2) (.o2 (.bits .xor .u8) (.o2 .liget (.o1 .toLi (.at 9)) (.at 2)) (.at 3)))), (.at 16)]
 (.know (.has .i64 (.at 16))
 (.pre 5 []
 (.all .B
 (.post 5 [(.at 17)]
 (.and
 (.imp (.at 17) true
 (.and
 (.imp (.o2 .eq (.at 16) (.int 4)) true
 (.ret [(.at 0), (.at 1), (.at 2), (.at 3), (.bool true)]))
 (.imp (.o2 .eq (.at 16) (.int 4)) false
 (.ret [(.at 0), (.at 1), (.at 2), (.at 3), (.bool false)]))))
 (.imp (.at 17) false
 (.ret [(.at 0), (.at 1), (.at 2), (.at 3), (.bool false)]))))))))))
 (.pre 203 [(.o1 .ofLi (.o3 .liset (.o1 .toLi (.at 9)) (.at 2) (.o2 (.bits .xor .u8) (.o2 .liget (.o1 .toLi (.at 9)) (.at 2)) (.at 3))))]
 (.all .N
 (.all .V
 (.all .L
 (.post 203 [(.o1 .ofLi (.o3 .liset (.o1 .toLi (.at 9)) (.at 2) (.o2 (.bits .xor .u8) (.o2 .liget (.o1 .toLi (.at 9)) (.at 2)) (.at 3)))), (.at 16), (.at 17), (.at 18)]
 (.know (.ekok [.ints .u8 32, .str] (.at 18))
 (.pre 5 []
 (.all .B
 (.post 5 [(.at 19)]
 (.and
 (.imp (.at 19) true
 (.and
 (.imp (.o2 .eq (.int 0) (.int 4)) true
 (.ret [(.at 0), (.at 1), (.at 2), (.at 3), (.bool false)]))
 (.imp (.o2 .eq (.int 0) (.int 4)) false
 (.ret [(.at 0), (.at 1), (.at 2), (.at 3), (.bool false)]))))
 (.imp (.at 19) false
 (.ret [(.at 0), (.at 1), (.at 2), (.at 3), (.bool false)]))))))))))))))))))))))))))))))))))))))))))))))))))))))))))))))))
def LTableBack.Pure : Prop :=
 ∀ (v0 : Value),
 ∀ (l1 : List D),
 ∀ (i2 : Int),
 ∀ (i3 : Int),
 (-9223372036854775808 ≤ i2 ∧ i2 < 9223372036854775808) →
 (0 ≤ i3 ∧ i3 < 256) →
 (EK.ok [.str, .str] (D.L l1)) →
 LTableBack.sig.pre [(D.V v0), (D.L l1), (D.I i2), (D.I i3)] →
 Grow.sig.pre [(D.V v0), (D.L l1)] ∧ (
 ∀ (n4 : Nat),
 ∀ (v5 : Value),
 ∀ (v6 : Value),
 ∀ (l7 : List D),
 ∀ (l8 : List D),
 Grow.sig.post [(D.V v0), (D.L l1), (D.N n4), (D.V v5), (D.V v6), (D.L l7), (D.L l8)] →
 (EK.ok [.ints .u8 32, .str] (D.L l7)) →
 (EK.ok [.str, .str] (D.L l8)) →
 TBytes.sig.pre [(D.N n4), (D.V v5), (D.L l7)] ∧ (
 ∀ (s9 : ByteArray),
 TBytes.sig.post [(D.N n4), (D.V v5), (D.L l7), (D.S s9)] →
 ((s9.size : Int) ≤ 9223372036854775807) →
 ((
  TParse.sig.pre [(D.S s9)] ∧ (
 ∀ (i10 : Int),
  TParse.sig.post [(D.S s9), (D.I i10)] →
 (-9223372036854775808 ≤ i10 ∧ i10 < 9223372036854775808) →
 ((
 (i10 ≠ (0 : Int)) →
   LTableBack.sig.post [(D.V v0), (D.L l1), (D.I i2), (D.I i3), (D.B false)]) ∧ (
 (i10 = (0 : Int)) →
   LTableBack.sig.post [(D.V v0), (D.L l1), (D.I i2), (D.I i3), (D.B false)])))) ∧ (
  TParse.sig.pre [(D.S s9)] ∧ (
 ∀ (n10 : Nat),
 ∀ (v11 : Value),
 ∀ (l12 : List D),
  TParse.sig.post2 [(D.S s9), (D.N n10), (D.V v11), (D.L l12)] →
 (EK.ok [.ints .u8 32, .str] (D.L l12)) →
 ((
 ((0 : Int) ≠ (0 : Int)) →
   LTableBack.sig.post [(D.V v0), (D.L l1), (D.I i2), (D.I i3), (D.B false)]) ∧ (
 ((0 : Int) = (0 : Int)) →
   TSame.sig.pre [(D.N n10), (D.V v11), (D.L l12), (D.V v6), (D.L l8)] ∧ (
 ∀ (i13 : Int),
   TSame.sig.post [(D.N n10), (D.V v11), (D.L l12), (D.V v6), (D.L l8), (D.I i13)] →
 (-9223372036854775808 ≤ i13 ∧ i13 < 9223372036854775808) →
 ((
 (i13 ≠ (0 : Int)) →
    LTableBack.sig.post [(D.V v0), (D.L l1), (D.I i2), (D.I i3), (D.B false)]) ∧ (
 (i13 = (0 : Int)) →
    TBytes.sig.pre [(D.N n10), (D.V v11), (D.L l12)] ∧ (
 ∀ (s14 : ByteArray),
    TBytes.sig.post [(D.N n10), (D.V v11), (D.L l12), (D.S s14)] →
 ((s14.size : Int) ≤ 9223372036854775807) →
 ((
 (s14 ≠ s9) →
     LTableBack.sig.post [(D.V v0), (D.L l1), (D.I i2), (D.I i3), (D.B false)]) ∧ (
 (s14 = s9) →
 ((
 (i2 < (IntKind.wrap .i64 (((s9.size : Nat) : Int) - (32 : Int)))) →
      Awake22.sig.pre [] ∧ (
 ∀ (b15 : Bool),
      Awake22.sig.post [(D.B b15)] →
      LTableBack.sig.post [(D.V v0), (D.L l1), (D.I i2), (D.I i3), (D.B b15)])) ∧ (
 ((IntKind.wrap .i64 (((s9.size : Nat) : Int) - (32 : Int))) ≤ i2) →
 ((
 (((s9.size : Nat) : Int) ≤ i2) →
       Awake22.sig.pre [] ∧ (
 ∀ (b15 : Bool),
       Awake22.sig.post [(D.B b15)] →
       LTableBack.sig.post [(D.V v0), (D.L l1), (D.I i2), (D.I i3), (D.B b15)])) ∧ (
 (i2 < ((s9.size : Nat) : Int)) →
 ((
 (i3 = (0 : Int)) →
        Awake22.sig.pre [] ∧ (
 ∀ (b15 : Bool),
        Awake22.sig.post [(D.B b15)] →
        LTableBack.sig.post [(D.V v0), (D.L l1), (D.I i2), (D.I i3), (D.B b15)])) ∧ (
 (i3 ≠ (0 : Int)) →
 ∀ (v15 : Value),
 ((0 : Int) ≤ i2) ∧ (((0 : Int) ≤ i2) →
 (i2 < (((bytesOf s9).length : Nat) : Int)) ∧ ((i2 < (((bytesOf s9).length : Nat) : Int)) →
 ((
         TParse.sig.pre [(D.S (textOf ((bytesOf s9).set i2.toNat (Go.bits .xor .u8 ((bytesOf s9).getD i2.toNat 0) i3))))] ∧ (
 ∀ (i16 : Int),
         TParse.sig.post [(D.S (textOf ((bytesOf s9).set i2.toNat (Go.bits .xor .u8 ((bytesOf s9).getD i2.toNat 0) i3)))), (D.I i16)] →
 (-9223372036854775808 ≤ i16 ∧ i16 < 9223372036854775808) →
         Awake22.sig.pre [] ∧ (
 ∀ (b17 : Bool),
         Awake22.sig.post [(D.B b17)] →
 ((
 (b17 = true) →
 ((
 (i16 = (4 : Int)) →
           LTableBack.sig.post [(D.V v0), (D.L l1), (D.I i2), (D.I i3), (D.B true)]) ∧ (
 (i16 ≠ (4 : Int)) →
           LTableBack.sig.post [(D.V v0), (D.L l1), (D.I i2), (D.I i3), (D.B false)]))) ∧ (
 (b17 = false) →
          LTableBack.sig.post [(D.V v0), (D.L l1), (D.I i2), (D.I i3), (D.B false)]))))) ∧ (
         TParse.sig.pre [(D.S (textOf ((bytesOf s9).set i2.toNat (Go.bits .xor .u8 ((bytesOf s9).getD i2.toNat 0) i3))))] ∧ (
 ∀ (n16 : Nat),
 ∀ (v17 : Value),
 ∀ (l18 : List D),
         TParse.sig.post2 [(D.S (textOf ((bytesOf s9).set i2.toNat (Go.bits .xor .u8 ((bytesOf s9).getD i2.toNat 0) i3)))), (D.N n16), (D.V v17), (D.L l18)] →
 (EK.ok [.ints .u8 32, .str] (D.L l18)) →
         Awake22.sig.pre [] ∧ (
 ∀ (b19 : Bool),
         Awake22.sig.post [(D.B b19)] →
 ((
 (b19 = true) →
 ((
 ((0 : Int) = (4 : Int)) →
           LTableBack.sig.post [(D.V v0), (D.L l1), (D.I i2), (D.I i3), (D.B false)]) ∧ (
 ((0 : Int) ≠ (4 : Int)) →
           LTableBack.sig.post [(D.V v0), (D.L l1), (D.I i2), (D.I i3), (D.B false)]))) ∧ (
 (b19 = false) →
          LTableBack.sig.post [(D.V v0), (D.L l1), (D.I i2), (D.I i3), (D.B false)])))))))))))))))))))))))))))
theorem LTableBack.den : LTableBack.vc.den2 (mkEnv LTableBack.sig [Grow.sig, TBytes.sig, TParse.sig, TSame.sig, Awake22.sig] []) [] = LTableBack.Pure := by kernel_rfl
end Go.Vc
namespace Go.Vc
def RE (a b : D) : Prop := cmpL (keyE a) (keyE b) < 0
/-- Names of 32 bytes. -/
def keysOk (L : List D) : Prop := ∀ d ∈ L, (keyE d).length = 32 ∧ ∀ x ∈ keyE d, 0 ≤ x ∧ x < 256
theorem keysOk_of {l : List D} (h : EK.ok [.ints .u8 32, .str] (.L l)) : keysOk l := fun _ hd => key_ok h hd
theorem rising_iff {L : List D} : rising L ↔ L.Pairwise RE := by
  rw [List.pairwise_iff_getElem]
  constructor
  · intro h i j hi hj hij
    have := h i j hij hj
    simpa [entAt, List.getD, List.getElem?_eq_getElem hi, List.getElem?_eq_getElem hj, RE] using this
  · intro h i j hij hj
    have := h i j (by omega) hj hij
    simpa [entAt, List.getD, List.getElem?_eq_getElem hj, List.getElem?_eq_getElem (show i < L.length by omega), RE] using this
theorem tw_at {p : D → Bool} : ∀ {L : List D} {i : Nat}, (∀ d ∈ L.take i, p d = true) → (∀ d, L[i]? = some d → p d = false) → L.takeWhile p = L.take i ∧ L.dropWhile p = L.drop i
  | [], i, _, _ => by simp
  | x :: L, 0, _, h2 => by
    have := h2 x rfl
    simp [List.takeWhile, List.dropWhile, this]
  | x :: L, i + 1, h1, h2 => by
    have hx := h1 x (by simp)
    have ih := tw_at (L := L) (i := i) (fun d hd => h1 d (by simp [hd])) (fun d hd => h2 d (by simpa using hd))
    simp [List.takeWhile, List.dropWhile, hx, ih]
theorem has_iff {L : List D} {k : List Int} (hk : k.length = 32) (ho : keysOk L) : hasE L k = true ↔ ∃ d ∈ L, keyE d = k := by
  simp only [hasE, List.any_eq_true, decide_eq_true_eq]
  constructor
  · rintro ⟨d, hd, h⟩; exact ⟨d, hd, (cmp_eq (by rw [(ho d hd).1, hk])).1 h⟩
  · rintro ⟨d, hd, h⟩; exact ⟨d, hd, (cmp_eq (by rw [(ho d hd).1, hk])).2 h⟩
theorem ent_eq {L : List D} {i : Nat} (hi : i < L.length) : L[i]? = some (entAt L i) := by
  simp [entAt, List.getD, List.getElem?_eq_getElem hi]

/-- What a place says. -/
theorem place_has {L : List D} {k : List Int} {i : Int} {f : Bool} (hk : k.length = 32) (ho : keysOk L) (hr : rising L) (h : placeOf L k i f) : f = hasE L k ∧ (f = true → keyE (entAt L i.toNat) = k) := by
  obtain ⟨p1, p2, p3, p4, p5⟩ := h
  have len : ∀ j, j < L.length → (keyE (entAt L j)).length = k.length := fun j hj => by rw [(ho _ (entAt_mem hj)).1, hk]
  have one : f = true → keyE (entAt L i.toNat) = k := by
    intro hf
    rw [hf] at p5
    have := p5.symm
    simp only [Bool.and_eq_true, decide_eq_true_eq] at this
    exact (cmp_eq (len _ (by omega))).1 this.2
  refine ⟨?_, one⟩
  cases hf : f with
  | true =>
    symm
    rw [has_iff hk ho]
    have hi : i < L.length := by
      rw [hf] at p5
      have := p5.symm
      simp only [Bool.and_eq_true, decide_eq_true_eq] at this
      exact this.1
    exact ⟨_, entAt_mem (by omega), one hf⟩
  | false =>
    symm
    rw [Bool.eq_false_iff]
    intro hh
    obtain ⟨d, hd, he⟩ := (has_iff hk ho).1 hh
    obtain ⟨j, hj, rfl⟩ := List.getElem_of_mem hd
    have ej : entAt L j = L[j] := by simp [entAt, List.getD, List.getElem?_eq_getElem hj]
    have c0 : cmpL (keyE (entAt L j)) k = 0 := (cmp_eq (len j hj)).2 (by rw [ej]; exact he)
    have h1 : i ≤ j := by
      by_cases hh : i ≤ j
      · exact hh
      · have := p3 j (by omega); omega
    by_cases hij : i.toNat = j
    · rw [hf] at p5
      have := p5
      rw [hij, c0] at this
      simp at this; omega
    · have c1 := hr i.toNat j (by omega) hj
      have := cmp_trans (by rw [len _ (by omega), len j hj]) (len j hj) c1 (by omega)
      have := p4 i.toNat (by omega) (by omega)
      omega
theorem place_put {L : List D} {k : List Int} {i : Int} {f : Bool} {s : ByteArray} (hk : k.length = 32) (ho : keysOk L) (hr : rising L) (h : placeOf L k i f) :
    (f = true → putE L k s = L) ∧ (f = false → putE L k s = L.take i.toNat ++ rowE k s :: L.drop i.toNat) ∧ rising (putE L k s) := by
  have hh := (place_has hk ho hr h).1
  obtain ⟨p1, p2, p3, p4, p5⟩ := h
  have len : ∀ d ∈ L, (keyE d).length = k.length := fun d hd => by rw [(ho d hd).1, hk]
  have a1 : ∀ d ∈ L.take i.toNat, before k d = true := by
    intro d hd
    obtain ⟨j, hj, rfl⟩ := List.getElem_of_mem hd
    rw [List.length_take] at hj
    have := p3 j (by omega)
    simpa [before, entAt, List.getD, List.getElem?_eq_getElem (show j < L.length by omega)] using this
  have a2 : ∀ d ∈ L.drop i.toNat, 0 ≤ cmpL (keyE d) k := by
    intro d hd
    obtain ⟨j, hj, rfl⟩ := List.getElem_of_mem hd
    rw [List.length_drop] at hj
    have := p4 (i.toNat + j) (by omega) (by omega)
    rw [List.getElem_drop]
    simpa [entAt, List.getD, List.getElem?_eq_getElem (show i.toNat + j < L.length by omega)] using this
  obtain ⟨t1, t2⟩ := tw_at a1 (fun d hd => by
    have hm : d ∈ L.drop i.toNat := by
      rw [List.mem_iff_getElem?]
      exact ⟨0, by rw [List.getElem?_drop]; simpa using hd⟩
    have := a2 d hm
    simp [before]; omega)
  have e2 : f = false → putE L k s = L.take i.toNat ++ rowE k s :: L.drop i.toNat := by
    intro hf
    rw [putE, if_neg (by rw [← hh, hf]; simp), t1, t2]
  have e1 : f = true → putE L k s = L := by
    intro hf
    rw [putE, if_pos (by rw [← hh, hf])]
  refine ⟨e1, e2, ?_⟩
  cases hf : f with
  | true => rw [e1 hf]; exact hr
  | false =>
    rw [e2 hf, rising_iff, List.pairwise_append]
    have hp := rising_iff.1 hr
    rw [← List.take_append_drop i.toNat L, List.pairwise_append] at hp
    obtain ⟨q1, q2, q3⟩ := hp
    have hno : ∀ d ∈ L, keyE d ≠ k := by
      intro d hd he
      have := (has_iff hk ho).2 ⟨d, hd, he⟩
      rw [← hh, hf] at this; cases this
    have b2 : ∀ d ∈ L.drop i.toNat, cmpL k (keyE d) < 0 := by
      intro d hd
      have hdm := List.mem_of_mem_drop hd
      have h1 := a2 d hd
      have h2 : cmpL (keyE d) k ≠ 0 := fun h => hno d hdm ((cmp_eq (len d hdm)).1 h)
      have h3 := cmp_anti (len d hdm)
      omega
    refine ⟨q1, List.pairwise_cons.2 ⟨fun d hd => b2 d hd, q2⟩, ?_⟩
    intro a ha b hb
    have ha1 : cmpL (keyE a) k < 0 := by simpa [before] using a1 a ha
    rcases List.mem_cons.1 hb with rfl | hb
    · exact ha1
    · exact q3 a ha b hb
theorem put_keys {L : List D} {k : List Int} {s : ByteArray} (hk : k.length = 32 ∧ ∀ x ∈ k, 0 ≤ x ∧ x < 256) (ho : keysOk L) : keysOk (putE L k s) := by
  unfold putE
  split
  · exact ho
  · intro d hd
    rcases List.mem_append.1 hd with hd | hd
    · exact ho d (List.takeWhile_sublist _ |>.subset hd)
    · rcases List.mem_cons.1 hd with rfl | hd
      · exact hk
      · exact ho d (List.dropWhile_sublist _ |>.subset hd)
theorem put_len (L : List D) (k : List Int) (s : ByteArray) : (putE L k s).length ≤ L.length + 1 ∧ L.length ≤ (putE L k s).length := by
  unfold putE
  split
  · omega
  · have := congrArg List.length (List.takeWhile_append_dropWhile (p := before k) (l := L))
    simp only [List.length_append, List.length_cons] at this ⊢
    omega

theorem TPutA.pure : TPutA.Pure := by
  intro n0 v1 l2 z3 s4 h1 h2 h3 h4 h5 n5
  obtain ⟨h5, h6⟩ : rising l2 ∧ l2.length ≤ 900000 := h5
  have ho := keysOk_of h4
  refine ⟨⟨h5, by omega⟩, ?_⟩
  intro i6 b7 h7 h8
  have h7 : placeOf l2 z3 i6 b7 := h7
  have hp := place_put (s := s4) h1 ho h5 h7
  have hh := (place_has h1 ho h5 h7).1
  have fin : b7 = false → ∀ v8 : Value, TInsA.sig.pre [(D.V v1), (D.L l2), (D.I i6), (D.V v8), (D.L ((D.L ((D.Z z3) :: ((D.S s4) :: ([] : List D)))) :: ([] : List D)))] ∧
      ∀ (v9 : Value) (l10 : List D), TInsA.sig.post [(D.V v1), (D.L l2), (D.I i6), (D.V v8), (D.L ((D.L ((D.Z z3) :: ((D.S s4) :: ([] : List D)))) :: ([] : List D))), (D.V v9), (D.L l10)] → (EK.ok [.ints .u8 32, .str] (D.L l10)) →
       TPutA.sig.post [(D.N n0), (D.V v1), (D.L l2), (D.Z z3), (D.S s4), (D.V v9), (D.L l10), (D.B (!b7))] := by
    intro hb v8
    refine ⟨⟨h7.1, h7.2.1, by simp, by omega, by simp⟩, fun v9 l10 h9 _ => ?_⟩
    have h9 : l10 = l2.take i6.toNat ++ [rowE z3 s4] ++ l2.drop i6.toNat := h9
    have e : l10 = putE l2 z3 s4 := by rw [h9, hp.2.1 hb]; simp
    exact ⟨e, by rw [hh], by rw [e]; exact hp.2.2⟩
  exact ⟨fun h8 => ⟨fin h8, fin h8, fin h8⟩, fun h8 => ⟨(hp.1 h8).symm, by rw [hh], h5⟩⟩

theorem TCopy.pure : TCopy.Pure := by
  intro n0 v1 l2 h1 h2
  refine ⟨h2, ?_⟩
  intro v3 l4 h3 h4
  have h3 : l4 = l2 := h3
  intros
  exact h3

theorem TWithin.pure : TWithin.Pure := by
  intro n0 v1 l2 n3 v4 l5 h1 h2 h3
  obtain ⟨h3, h4, h5⟩ : l2.length ≤ 1000000 ∧ rising l5 ∧ l5.length ≤ 1000000 := h3
  have o1 := keysOk_of h1; have o2 := keysOk_of h2
  refine ⟨⟨by omega, by omega, fun t ht => by omega⟩, ?_⟩
  intro i6 h6 h7
  obtain ⟨a1, a2, a3⟩ : 0 ≤ i6 ∧ i6 ≤ l2.length ∧ ∀ t : Nat, (t : Int) < i6 → ∃ q ∈ l5, keyE q = keyE (entAt l2 t) ∧ textE q = textE (entAt l2 t) := h7
  refine ⟨?_, ?_⟩
  · intro h8
    refine ⟨a1, fun _ n7 => ⟨⟨h4, h5⟩, ?_⟩⟩
    intro s8 b9 h9 h10
    have hm := entAt_mem (l := l2) (i := i6.toNat) (by omega)
    obtain ⟨i, hp, hs⟩ : ∃ i, placeOf l5 (keyE (entAt l2 i6.toNat)) i b9 ∧ s8 = if b9 then textE (entAt l5 i.toNat) else ByteArray.empty := h9
    have hh := place_has (o1 _ hm).1 o2 h4 hp
    have nope : (∀ q ∈ l5, keyE q = keyE (entAt l2 i6.toNat) → textE q ≠ textE (entAt l2 i6.toNat)) → TWithin.sig.post [(D.N n0), (D.V v1), (D.L l2), (D.N n3), (D.V v4), (D.L l5), (D.B false)] := by
      intro hq
      refine ⟨fun h => (by cases h), fun h => ?_⟩
      obtain ⟨q, q1, q2, q3⟩ := h _ hm
      exact absurd q3 (hq q q1 q2)
    refine ⟨?_, ?_⟩
    · intro h11
      refine nope fun q q1 q2 => ?_
      have := (has_iff (o1 _ hm).1 o2).2 ⟨q, q1, q2⟩
      rw [← hh.1, h11] at this; cases this
    · intro h11
      subst h11
      rw [if_pos rfl] at hs
      have hi : i.toNat < l5.length := by
        have := hp.2.2.2.2.symm
        simp only [Bool.and_eq_true, decide_eq_true_eq] at this
        have := hp.1; omega
      refine ⟨?_, ?_⟩
      · intro h12
        refine nope fun q q1 q2 q3 => h12 ?_
        obtain ⟨j, hj, rfl⟩ := List.getElem_of_mem q1
        have ej : entAt l5 j = l5[j] := by simp [entAt, List.getD, List.getElem?_eq_getElem hj]
        have hk := hh.2 rfl
        have same : i.toNat = j := by
          have e0 : cmpL (keyE (entAt l5 i.toNat)) (keyE (entAt l5 j)) = 0 := (cmp_eq (by rw [(o2 _ (entAt_mem hi)).1, (o2 _ (entAt_mem hj)).1])).2 (by rw [hk, ej, q2])
          have e1 : cmpL (keyE (entAt l5 j)) (keyE (entAt l5 i.toNat)) = 0 := (cmp_eq (by rw [(o2 _ (entAt_mem hi)).1, (o2 _ (entAt_mem hj)).1])).2 (by rw [hk, ej, q2])
          rcases Nat.lt_trichotomy i.toNat j with h | h | h
          · have := h4 _ _ h hj; omega
          · exact h
          · have := h4 _ _ h hi; omega
        rw [hs, same, ej]; exact q3
      · intro h12
        rw [i64w (by omega) (by omega)]
        refine ⟨⟨by omega, by omega, fun t ht => ?_⟩, ?_⟩
        · by_cases htt : t = i6.toNat
          · subst htt
            exact ⟨_, entAt_mem hi, hh.2 rfl, by rw [← hs]; exact h12⟩
          · exact a3 t (by omega)
        · show ((l2.length : Int) - (i6 + 1)).toNat < ((l2.length : Int) - i6).toNat
          omega
  · intro h8
    refine ⟨fun _ d hd => ?_, fun _ => rfl⟩
    obtain ⟨j, hj, rfl⟩ := List.getElem_of_mem hd
    have ej : entAt l2 j = l2[j] := by simp [entAt, List.getD, List.getElem?_eq_getElem hj]
    rw [← ej]
    exact a3 j (by omega)

theorem rFind.pure : rFind.Pure := by
  intro v0 l1 s2 h1 h2 h3
  have h3 : l1.length ≤ 1000000 := h3
  refine ⟨⟨by omega, by omega, fun t ht => by omega⟩, ?_⟩
  intro i3 h4 h5
  obtain ⟨a1, a2, a3⟩ : 0 ≤ i3 ∧ i3 ≤ l1.length ∧ ∀ t : Nat, (t : Int) < i3 → keyT l1 t ≠ s2 := h5
  refine ⟨?_, ?_⟩
  · intro h6
    refine ⟨a1, fun _ n4 => ⟨?_, ?_⟩⟩
    · intro h7
      exact ⟨fun h => by omega, fun _ => ⟨by omega, h7, fun t ht => a3 t (by omega)⟩⟩
    · intro h7
      rw [i64w (by omega) (by omega)]
      refine ⟨⟨by omega, by omega, fun t ht => ?_⟩, ?_⟩
      · by_cases htt : t = i3.toNat
        · subst htt; exact h7
        · exact a3 t (by omega)
      · show ((l1.length : Int) - (i3 + 1)).toNat < ((l1.length : Int) - i3).toNat
        omega
  · intro h6
    exact ⟨fun _ t ht => a3 t (by omega), fun h => by omega⟩
theorem rWithin.pure : rWithin.Pure := by
  intro v0 l1 v2 l3 h1 h2 h3
  obtain ⟨h3, h4⟩ : l1.length ≤ 1000000 ∧ l3.length ≤ 1000000 := h3
  refine ⟨⟨by omega, by omega, fun t ht => by omega⟩, ?_⟩
  intro i4 h5 h6
  obtain ⟨a1, a2, a3⟩ : 0 ≤ i4 ∧ i4 ≤ l1.length ∧ ∀ t : Nat, (t : Int) < i4 → ∃ j, firstAt l3 (keyT l1 t) j ∧ textT l3 j = textT l1 t := h6
  refine ⟨?_, ?_⟩
  · intro h7
    refine ⟨a1, fun _ n5 => ⟨h4, ?_⟩⟩
    intro i6 h8 h9
    obtain ⟨f1, f2⟩ : (i6 < 0 → ∀ t, t < l3.length → keyT l3 t ≠ keyT l1 i4.toNat) ∧ (0 ≤ i6 → firstAt l3 (keyT l1 i4.toNat) i6.toNat) := h8
    refine ⟨?_, ?_⟩
    · intro h10
      refine ⟨fun h => (by cases h), fun h => ?_⟩
      obtain ⟨j, q1, q2⟩ := h i4.toNat (by omega)
      exact absurd q1.2.1 (f1 h10 j q1.1)
    · intro h10
      have hf := f2 h10
      refine ⟨h10, fun _ => ⟨by have := hf.1; omega, fun _ => ⟨?_, ?_⟩⟩⟩
      · intro h11
        refine ⟨fun h => (by cases h), fun h => ?_⟩
        obtain ⟨j, q1, q2⟩ := h i4.toNat (by omega)
        have : j = i6.toNat := by
          rcases Nat.lt_trichotomy j i6.toNat with h | h | h
          · exact absurd q1.2.1 (hf.2.2 j h)
          · exact h
          · exact absurd hf.2.1 (q1.2.2 _ h)
        subst this
        exact absurd q2 h11
      · intro h11
        rw [i64w (by omega) (by omega)]
        refine ⟨⟨by omega, by omega, fun t ht => ?_⟩, ?_⟩
        · by_cases htt : t = i4.toNat
          · subst htt; exact ⟨_, hf, h11⟩
          · exact a3 t (by omega)
        · show ((l1.length : Int) - (i4 + 1)).toNat < ((l1.length : Int) - i4).toNat
          omega
  · intro h7
    exact ⟨fun _ t ht => a3 t (by omega), fun _ => rfl⟩

theorem take_succ_ent {L : List D} {i : Nat} (hi : i < L.length) : L.take (i + 1) = L.take i ++ [entAt L i] := by
  rw [List.take_add_one]
  simp [entAt, List.getD, List.getElem?_eq_getElem hi]
theorem rPut.pure : rPut.Pure := by
  intro v0 l1 s2 s3 h1 h2 h3 h4 n4 v5
  have h4 : l1.length ≤ 900000 := h4
  refine ⟨by show l1.length ≤ 1000000; omega, ?_⟩
  intro i6 h5 h6
  obtain ⟨f1, f2⟩ : (i6 < 0 → ∀ t, t < l1.length → keyT l1 t ≠ s2) ∧ (0 ≤ i6 → firstAt l1 s2 i6.toNat) := h5
  refine ⟨?_, ?_⟩
  · intro h7
    have hf := f2 h7
    have hx : hasX l1 s2 = true := by
      simp only [hasX, List.any_eq_true, decide_eq_true_eq]
      exact ⟨entAt l1 i6.toNat, entAt_mem hf.1, hf.2.1⟩
    exact ⟨by rw [putX, if_pos hx], by rw [hx]; rfl⟩
  intro h7
  have hx : hasX l1 s2 = false := by
    rw [Bool.eq_false_iff]
    intro hh
    simp only [hasX, List.any_eq_true, decide_eq_true_eq] at hh
    obtain ⟨d, hd, he⟩ := hh
    obtain ⟨j, hj, rfl⟩ := List.getElem_of_mem hd
    have ej : entAt l1 j = l1[j] := by simp [entAt, List.getD, List.getElem?_eq_getElem hj]
    exact f1 h7 j hj (by show ((entAt l1 j).toL.getD 0 default).toS = s2; rw [ej]; exact he)
  intro v7
  refine ⟨⟨by omega, by omega, fun _ => ⟨rfl, by simp⟩, fun h => by cases h⟩, ?_⟩
  intro v8 l9 b10 i11 h8 h9 h10
  obtain ⟨a1, a2, a3, a4⟩ : 0 ≤ i11 ∧ i11 ≤ l1.length ∧ (b10 = false → l9 = (l1.take i11.toNat).map normX ∧ ∀ d ∈ l1.take i11.toNat, aheadX s2 d = true) ∧
      (b10 = true → ∃ j : Nat, (j : Int) < i11 ∧ (∀ d ∈ l1.take j, aheadX s2 d = true) ∧ aheadX s2 (entAt l1 j) = false ∧ l9 = (l1.take j).map normX ++ .L [.S s2, .S s3] :: ((l1.take i11.toNat).drop j).map normX) := h10
  have hlen : l9.length ≤ l1.length + 1 := by
    cases b10 with
    | false => rw [(a3 rfl).1]; simp; omega
    | true => obtain ⟨j, q1, _, _, q4⟩ := a4 rfl; rw [q4]; simp; omega
  have lens : ∀ x y : D, (((l9 ++ [x]).length : Nat) : Int) ≤ 4398046511104 ∧ ((((l9 ++ [x]) ++ [y]).length : Nat) : Int) ≤ 4398046511104 := by
    intro x y
    simp only [List.length_append, List.length_singleton]
    omega
  have fin : ∀ (b : Bool) (z : List D), (b = false → z = (l1.take (i11.toNat + 1)).map normX ∧ ∀ d ∈ l1.take (i11.toNat + 1), aheadX s2 d = true) →
      (b = true → ∃ j : Nat, (j : Int) < i11 + 1 ∧ (∀ d ∈ l1.take j, aheadX s2 d = true) ∧ aheadX s2 (entAt l1 j) = false ∧ z = (l1.take j).map normX ++ .L [.S s2, .S s3] :: ((l1.take (i11.toNat + 1)).drop j).map normX) →
      i11 < l1.length →
      rPut.I0 [(D.V v0), (D.L l1), (D.S s2), (D.S s3), (D.L z), (D.B b), (D.I (IntKind.wrap .i64 (i11 + (1 : Int))))] ∧
        rPut.I0M [(D.V v0), (D.L l1), (D.S s2), (D.S s3), (D.L z), (D.B b), (D.I (IntKind.wrap .i64 (i11 + (1 : Int))))] < rPut.I0M [(D.V v0), (D.L l1), (D.S s2), (D.S s3), (D.L l9), (D.B b10), (D.I i11)] := by
    intro b z z1 z2 hi
    rw [i64w (by omega) (by omega)]
    refine ⟨⟨by omega, by omega, fun h => ?_, fun h => ?_⟩, ?_⟩
    · rw [show (i11 + 1).toNat = i11.toNat + 1 from by omega]; exact z1 h
    · rw [show (i11 + 1).toNat = i11.toNat + 1 from by omega]; exact z2 h
    · show ((l1.length : Int) - (i11 + 1)).toNat < ((l1.length : Int) - i11).toNat
      omega
  refine ⟨?_, ?_⟩
  · intro h11
    have ts := take_succ_ent (L := l1) (i := i11.toNat) (by omega)
    refine ⟨a1, fun _ n12 => ⟨?_, ?_⟩⟩
    · intro h12
      obtain ⟨q1, q2⟩ := a3 h12
      refine ⟨?_, ?_⟩
      · intro h13 v13
        refine ⟨(lens _ (.I 0)).1, fun _ v14 v15 => ⟨(lens _ _).2, fun _ v16 => ?_⟩⟩
        refine fin true _ (fun h => by cases h) (fun _ => ⟨i11.toNat, by omega, q2, ?_, ?_⟩) h11
        · show (!(Op.bytesLess s2.toList ((l1.getD i11.toNat default).toL.getD 0 default).toS.toList)) = false
          rw [show ((l1.getD i11.toNat default).toL.getD 0 default) = ((l1.getD i11.toNat default).toL.getD (0 : Int).toNat default) from rfl, h13]; rfl
        · have hd : (l1.take i11.toNat).drop i11.toNat = [] := List.drop_of_length_le (by rw [List.length_take]; omega)
          have hd2 : (l1.take (i11.toNat + 1)).drop i11.toNat = [entAt l1 i11.toNat] := by
            rw [ts, List.drop_append_of_le_length (by rw [List.length_take]; omega), hd]; rfl
          rw [hd2, q1]
          simp only [List.append_assoc]
          rfl
      · intro h13 v13
        refine ⟨(lens _ (.I 0)).1, fun _ v14 => ?_⟩
        rw [h12]
        refine fin false _ (fun _ => ⟨?_, ?_⟩) (fun h => by cases h) h11
        · rw [ts, List.map_append, q1]; rfl
        · intro d hd
          rw [ts] at hd
          rcases List.mem_append.1 hd with hd | hd
          · exact q2 d hd
          · rw [List.mem_singleton] at hd
            subst hd
            show (!(Op.bytesLess s2.toList ((l1.getD i11.toNat default).toL.getD 0 default).toS.toList)) = true
            rw [show ((l1.getD i11.toNat default).toL.getD 0 default) = ((l1.getD i11.toNat default).toL.getD (0 : Int).toNat default) from rfl, h13]; rfl
    · intro h12 v13
      obtain ⟨j, q1, q2, q3, q4⟩ := a4 h12
      refine ⟨(lens _ (.I 0)).1, fun _ v14 => ?_⟩
      rw [h12]
      refine fin true _ (fun h => by cases h) (fun _ => ⟨j, by omega, q2, q3, ?_⟩) h11
      rw [ts, List.drop_append_of_le_length (by rw [List.length_take]; omega), List.map_append, q4]
      simp only [List.append_assoc, List.cons_append]
      rfl
  · intro h11
    have ht : l1.take i11.toNat = l1 := List.take_of_length_le (by omega)
    rw [ht] at a3 a4
    refine ⟨?_, ?_⟩
    · intro h12 v12
      obtain ⟨q1, q2⟩ := a3 h12
      refine ⟨(lens _ (.I 0)).1, fun _ v13 => ⟨?_, by rw [hx]; rfl⟩⟩
      have := tw_at (p := aheadX s2) (L := l1) (i := l1.length) (fun d hd => q2 d (List.mem_of_mem_take hd)) (fun d hd => by simp at hd)
      rw [putX, if_neg (by rw [hx]; simp), this.1, this.2, List.take_length, List.drop_length, q1]
      rfl
    · intro h12
      obtain ⟨j, q1, q2, q3, q4⟩ := a4 h12
      refine ⟨?_, by rw [hx]; rfl⟩
      have := tw_at (p := aheadX s2) (L := l1) (i := j) q2 (fun d hd => by
        rw [ent_eq (by omega)] at hd
        cases hd; exact q3)
      rw [putX, if_neg (by rw [hx]; simp), this.1, this.2, q4]

theorem normX_ref (L : List D) : (refs L).map normX = refs L := by
  simp only [refs, List.map_map]
  exact List.map_congr_left fun d _ => rfl
theorem tw_congr {p q : D → Bool} : ∀ {L : List D}, (∀ d ∈ L, p d = q d) → L.takeWhile p = L.takeWhile q ∧ L.dropWhile p = L.dropWhile q
  | [], _ => by simp
  | x :: L, h => by
    have hx := h x (by simp)
    have ih := tw_congr (L := L) fun d hd => h d (by simp [hd])
    cases hp : p x with
    | true => rw [hp] at hx; simp [List.takeWhile, List.dropWhile, hp, ← hx, ih]
    | false => rw [hp] at hx; simp [List.takeWhile, List.dropWhile, hp, ← hx]
theorem textOf_inj {a b : List Int} (ha : ∀ x ∈ a, 0 ≤ x ∧ x < 256) (hb : ∀ x ∈ b, 0 ≤ x ∧ x < 256) (h : textOf a = textOf b) : a = b := by
  have := congrArg bytesOf h
  rwa [bytesOf_textOf ha, bytesOf_textOf hb] at this
theorem has_refs {L : List D} {k : List Int} (hk : k.length = 32 ∧ ∀ x ∈ k, 0 ≤ x ∧ x < 256) (ho : keysOk L) : hasX (refs L) (textOf k) = hasE L k := by
  rw [Bool.eq_iff_iff, has_iff hk.1 ho]
  simp only [hasX, refs, List.any_map, List.any_eq_true, Function.comp, decide_eq_true_eq]
  constructor
  · rintro ⟨d, hd, h⟩; exact ⟨d, hd, textOf_inj (ho d hd).2 hk.2 h⟩
  · rintro ⟨d, hd, h⟩; exact ⟨d, hd, congrArg textOf h⟩
theorem put_refs {L : List D} {k : List Int} {s : ByteArray} (hk : k.length = 32 ∧ ∀ x ∈ k, 0 ≤ x ∧ x < 256) (ho : keysOk L) : refs (putE L k s) = putX (refs L) (textOf k) s := by
  rw [putE, putX, has_refs hk ho]
  cases hh : hasE L k with
  | true => simp
  | false =>
    simp only [Bool.false_eq_true, if_false]
    have hno : ∀ d ∈ L, keyE d ≠ k := fun d hd he => by
      have := (has_iff hk.1 ho).2 ⟨d, hd, he⟩
      rw [hh] at this; cases this
    have hp : ∀ d ∈ L, before k d = (aheadX (textOf k) ∘ refRow) d := by
      intro d hd
      have hl : (keyE d).length = k.length := by rw [(ho d hd).1, hk.1]
      have e : (aheadX (textOf k) ∘ refRow) d = !(decide (cmpL k (keyE d) < 0)) := by
        show (!(Op.bytesLess (textOf k).toList (textOf (keyE d)).toList)) = _
        rw [less_text (by rw [textOf_size, hl]) hk.2, bytesOf_textOf (ho d hd).2]
      rw [e, before]
      have h1 := cmp_anti hl
      have h2 : cmpL (keyE d) k ≠ 0 := fun h => hno d hd ((cmp_eq hl).1 h)
      by_cases h3 : cmpL (keyE d) k < 0
      · simp [h3]; omega
      · simp [h3]; omega
    have hc := tw_congr hp
    have e1 : (refs L).takeWhile (aheadX (textOf k)) = refs (L.takeWhile (before k)) := by
      rw [refs, List.takeWhile_map, hc.1]; rfl
    have e2 : (refs L).dropWhile (aheadX (textOf k)) = refs (L.dropWhile (before k)) := by
      rw [refs, List.dropWhile_map, hc.2]; rfl
    rw [e1, e2, normX_ref, normX_ref]
    simp only [refs, List.map_append, List.map_cons]
    rfl
theorem put_text {L : List D} {k : List Int} {s : ByteArray} {n : Nat} (hs : s.size ≤ n) (ho : ∀ d ∈ L, (textE d).size ≤ n) : ∀ d ∈ putE L k s, (textE d).size ≤ n := by
  unfold putE
  split
  · exact ho
  · intro d hd
    rcases List.mem_append.1 hd with hd | hd
    · exact ho d (List.takeWhile_sublist _ |>.subset hd)
    · rcases List.mem_cons.1 hd with rfl | hd
      · exact hs
      · exact ho d (List.dropWhile_sublist _ |>.subset hd)
theorem growE_snoc : ∀ (ds : List D) (L : List D) (d : D), growE L (ds ++ [d]) = putE (growE L ds) (itemKey d) (itemText d)
  | [], _, _ => rfl
  | x :: ds, L, d => growE_snoc ds _ d
theorem cut_eq {s r : ByteArray} {n : Int} (hn : 0 ≤ n) (h : Cut.sig.post [.S s, .I n, .S r]) : r = s.extract 0 n.toNat ∧ r.size ≤ n.toNat := by
  have h : r = if (s.size : Int) > n then s.extract 0 n.toNat else s := h
  have e : r = s.extract 0 n.toNat := by
    rw [h]
    split
    · rfl
    · apply text_inj
      rw [bytesOf_extract, List.drop_zero, List.take_of_length_le (by rw [bytesOf_length']; omega)]
  exact ⟨e, by rw [e, ByteArray.size_extract]; omega⟩
theorem Grow.pure : Grow.Pure := by
  intro v0 l1 h1 h2 v2 v3 n4 v5
  refine ⟨⟨by omega, by omega, by omega, rfl, rfl, fun i j _ hj => by simp at hj, by simp, by simp⟩, ?_⟩
  intro v6 l7 i8 v9 l10 h3 h4 h5 h6
  obtain ⟨a1, a2, a3, a4, a5, a6, a7, a8⟩ : 0 ≤ i8 ∧ i8 ≤ 12 ∧ i8 ≤ l1.length ∧ l10 = growE [] (l1.take i8.toNat) ∧ l7 = refs l10 ∧ rising l10 ∧ l10.length ≤ i8 ∧ ∀ d ∈ l10, (textE d).size ≤ 60 := h6
  have ho := keysOk_of h5
  have done : (i8 = 12 ∨ i8 = l1.length) → Grow.sig.post [(D.V v0), (D.L l1), (D.N n4), (D.V v9), (D.V v6), (D.L l10), (D.L l7)] := by
    intro hc
    have : l1.take i8.toNat = l1.take 12 := by
      rcases hc with h | h
      · rw [h]; rfl
      · rw [List.take_of_length_le (by omega), List.take_of_length_le (by omega)]
    exact ⟨by rw [a4, this], a5, a6, by omega, a8⟩
  refine ⟨?_, fun h => done (.inr (by omega))⟩
  intro h7
  refine ⟨?_, fun h => done (.inl (by omega))⟩
  intro h8
  refine ⟨a1, fun _ => ⟨by show (0 : Int) ≤ 20; omega, ?_⟩⟩
  intro s11 h9 _
  have c1 := cut_eq (by omega) h9
  refine ⟨by show s11.size ≤ 1000000; have := c1.2; omega, ?_⟩
  intro z12 h10 h11 h12 n13
  have h10 : z12 = shaL (bytesOf s11) := h10
  have hz : z12.length = 32 ∧ ∀ x ∈ z12, 0 ≤ x ∧ x < 256 := ⟨h11, fun x hx => has_in.1 (h12 x hx)⟩
  refine ⟨by show (0 : Int) ≤ 60; omega, ?_⟩
  intro s14 h13 _
  have c2 := cut_eq (by omega) h13
  refine ⟨⟨a6, by omega⟩, ?_⟩
  intro v15 l16 b17 h14 h15
  obtain ⟨h14, h14', h14''⟩ : l16 = putE l10 z12 s14 ∧ b17 = !hasE l10 z12 ∧ rising l16 := h14
  refine ⟨by show l7.length ≤ 900000; rw [a5, refs_len]; omega, ?_⟩
  intro v18 b19 l20 h16 h17
  obtain ⟨h16, _⟩ : l20 = putX l7 (textOf z12) s14 ∧ b19 = !hasX l7 (textOf z12) := h16
  rw [i64w (by omega) (by omega)]
  have ek : z12 = itemKey (entAt l1 i8.toNat) := by rw [h10, c1.1]; rfl
  have et : s14 = itemText (entAt l1 i8.toNat) := c2.1
  refine ⟨⟨by omega, by omega, by omega, ?_, ?_, h14'', ?_, ?_⟩, ?_⟩
  · rw [show (i8 + 1).toNat = i8.toNat + 1 from by omega, take_succ_ent (by omega), growE_snoc, ← a4, h14, ek, et]
  · rw [h16, h14, a5, put_refs hz ho]
  · have := (put_len l10 z12 s14).1
    rw [h14]; omega
  · rw [h14]
    exact put_text c2.2 a8
  · show (12 - (i8 + 1)).toNat < (12 - i8).toNat
    omega
end Go.Vc
namespace Go.Vc
theorem flatMap_cg {α β : Type} {f g : α → List β} : ∀ {l : List α}, (∀ d ∈ l, f d = g d) → l.flatMap f = l.flatMap g
  | [], _ => rfl
  | x :: l, h => by rw [List.flatMap_cons, List.flatMap_cons, h x (by simp), flatMap_cg fun d hd => h d (by simp [hd])]
theorem rowX_snoc {l : List D} {i : Nat} (hi : i < l.length) : (l.take (i + 1)).flatMap rowX = (l.take i).flatMap rowX ++ rowX (entAt l i) := by
  rw [take_succ_ent hi, List.flatMap_append]; simp
theorem rowX_part (l : List D) (i : Nat) : ((l.take i).flatMap rowX).length ≤ (l.flatMap rowX).length := by
  have : l.flatMap rowX = (l.take i).flatMap rowX ++ (l.drop i).flatMap rowX := by rw [← List.flatMap_append, List.take_append_drop]
  rw [this, List.length_append]; omega
theorem tblX_has {X : List D} : ∀ x ∈ tblX X, 0 ≤ x ∧ x < 256 := by
  intro x hx
  rcases List.mem_append.1 hx with hx | hx
  · rcases List.mem_append.1 hx with hx | hx
    · have : x = 79 ∨ x = 82 ∨ x = 68 ∨ x = 69 ∨ x = 65 ∨ x = 76 ∨ x = 84 ∨ x = 49 := by simpa using hx
      omega
    · exact numB_has (by omega) x hx
  · obtain ⟨d, _, hd⟩ := List.mem_flatMap.1 hx
    rcases List.mem_append.1 hd with hd | hd
    · exact bytesOf_has _ x hd
    · rcases List.mem_append.1 hd with hd | hd
      · exact numB_has (by omega) x hd
      · exact bytesOf_has _ x hd
theorem tblX_refs {L : List D} (ho : keysOk L) : tblX (refs L) = tblB L := by
  rw [tblX, tblB, refs_len]
  congr 1
  rw [refs, List.flatMap_map]
  refine flatMap_cg fun d hd => ?_
  show bytesOf (textOf (keyE d)) ++ textB (textE d) = keyE d ++ textB (textE d)
  rw [bytesOf_textOf (ho d hd).2]

theorem rBytes22.pure : rBytes22.Pure := by
  intro v0 z1 v2 z3 v4 l5 h1 h2 h3 h4 n6
  obtain ⟨rfl, rfl, q1, q2⟩ : z1 = shaStart ∧ z3 = shaRounds ∧ l5.length ≤ 900000 ∧ (tblX l5).length ≤ 900000 := h4
  have hu : IntKind.wrap .u64 ((l5.length : Nat) : Int) = l5.length := u64w (by omega) (by omega)
  rw [hu]
  refine ⟨trivial, ?_⟩
  intro s7 h5 h6
  have h5 : s7 = textOf (numB l5.length) := h5
  have hm : (⟨#[79, 82, 68, 69, 65, 76, 84, 49]⟩ : ByteArray) = textOf [79, 82, 68, 69, 65, 76, 84, 49] := by decide
  rw [hm, h5, textOf_append]
  have ql : 8 + (numB l5.length).length + (l5.flatMap rowX).length ≤ 900000 := by
    rw [tblX, List.length_append, List.length_append] at q2
    exact q2
  refine ⟨by rw [textOf_size, List.length_append]; simp only [List.length_cons, List.length_nil]; omega, fun _ => ⟨⟨by omega, by omega, by simp⟩, ?_⟩⟩
  intro s8 i9 h7 h8 h9
  obtain ⟨a1, a2, a3⟩ : 0 ≤ i9 ∧ i9 ≤ l5.length ∧ s8 = textOf ([79, 82, 68, 69, 65, 76, 84, 49] ++ numB l5.length ++ (l5.take i9.toNat).flatMap rowX) := h9
  have hz : s8.size ≤ 900000 := by
    have := rowX_part l5 i9.toNat
    rw [a3, textOf_size, List.length_append, List.length_append]
    show 8 + _ + _ ≤ _
    omega
  refine ⟨?_, ?_⟩
  · intro h10
    refine ⟨a1, fun _ n10 => ?_⟩
    have es := rowX_snoc (l := l5) (i := i9.toNat) (by omega)
    have el := rowX_part l5 (i9.toNat + 1)
    rw [es, List.length_append, rowX, List.length_append, textB, List.length_append, bytesOf_length', bytesOf_length'] at el
    have ek : ((l5.getD i9.toNat default).toL.getD (0 : Int).toNat default).toS = ((entAt l5 i9.toNat).toL.getD 0 default).toS := rfl
    have et : ((l5.getD i9.toNat default).toL.getD (1 : Int).toNat default).toS = ((entAt l5 i9.toNat).toL.getD 1 default).toS := rfl
    rw [ek, et]
    refine ⟨by show _ ≤ 1000000000; omega, ?_⟩
    intro s11 h11 h12
    have h11 : s11 = textOf (textB ((entAt l5 i9.toNat).toL.getD 1 default).toS) := h11
    have hs : s11.size = (numB ((entAt l5 i9.toNat).toL.getD 1 default).toS.size).length + ((entAt l5 i9.toNat).toL.getD 1 default).toS.size := by
      rw [h11, textOf_size, textB, List.length_append, bytesOf_length']
    refine ⟨by rw [ByteArray.size_append, hs]; omega, fun _ => ⟨by rw [ByteArray.size_append, ByteArray.size_append, hs]; omega, fun _ => ?_⟩⟩
    rw [i64w (by omega) (by omega)]
    refine ⟨⟨by omega, by omega, ?_⟩, ?_⟩
    · rw [show (i9 + 1).toNat = i9.toNat + 1 from by omega, es, rowX, ← List.append_assoc, ← textOf_append _ (bytesOf _ ++ _), ← textOf_append (bytesOf _), textOf_bytesOf, a3, h11]
    · show ((l5.length : Int) - (i9 + 1)).toNat < ((l5.length : Int) - i9).toNat
      omega
  · intro h10
    have e8 : s8 = textOf (tblX l5) := by
      rw [a3, List.take_of_length_le (by omega)]; rfl
    refine ⟨⟨rfl, rfl, by omega⟩, ?_⟩
    intro s10 h11 h12
    have h11 : s10 = textOf (shaL (bytesOf s8)) := h11
    rw [e8, bytesOf_textOf tblX_has] at h11
    have hsz : s10.size ≤ 9223372036854775807 := by omega
    have hlen : s10.size = 32 := by
      rw [h11, textOf_size, shaL_full (by omega)]
      have h8 : (eatL shaStart (fullB (tblX l5))).1.length = 8 := eatL_len _ _ _ (Nat.le_refl _) rfl
      rw [outB]
      have : ∀ (st : List Int), (st.flatMap fun v => [IntKind.wrap .u8 (shrI .u32 v 24), IntKind.wrap .u8 (shrI .u32 v 16), IntKind.wrap .u8 (shrI .u32 v 8), IntKind.wrap .u8 v]).length = 4 * st.length := by
        intro st
        induction st with
        | nil => rfl
        | cons x st ih => simp only [List.flatMap_cons, List.length_append, ih, List.length_cons, List.length_nil]; omega
      rw [this, h8]
    refine ⟨by rw [ByteArray.size_append, hlen]; omega, fun _ => ?_⟩
    show s8 ++ s10 = textOf (sealB (tblX l5))
    rw [e8, h11, textOf_append]; rfl

theorem shaL_len {l : List Int} (h : l.length ≤ 1000000) : (shaL l).length = 32 ∧ ∀ x ∈ shaL l, 0 ≤ x ∧ x < 256 := by
  rw [shaL_full h]
  have h8 : (eatL shaStart (fullB l)).1.length = 8 := eatL_len _ _ _ (Nat.le_refl _) rfl
  rw [outB]
  have : ∀ (st : List Int), (st.flatMap fun v => [IntKind.wrap .u8 (shrI .u32 v 24), IntKind.wrap .u8 (shrI .u32 v 16), IntKind.wrap .u8 (shrI .u32 v 8), IntKind.wrap .u8 v]).length = 4 * st.length := by
    intro st
    induction st with
    | nil => rfl
    | cons x st ih => simp only [List.flatMap_cons, List.length_append, ih, List.length_cons, List.length_nil]; omega
  refine ⟨by rw [this, h8], ?_⟩
  intro x hx
  obtain ⟨v, _, hv⟩ := List.mem_flatMap.1 hx
  have hw : ∀ y : Int, 0 ≤ IntKind.wrap .u8 y ∧ IntKind.wrap .u8 y < 256 := fun y => (u8_has _).1 (wrap_has .u8 y)
  simp only [List.mem_cons, List.not_mem_nil, or_false] at hv
  rcases hv with rfl | rfl | rfl | rfl <;> exact hw _
/-- An entry of its two words. -/
def normE (d : D) : D := rowE (keyE d) (textE d)
theorem tblB_norm (L : List D) : tblB (L.map normE) = tblB L := by
  rw [tblB, tblB, List.length_map, List.flatMap_map]
  rfl
theorem refs_norm (L : List D) : refs (L.map normE) = refs L := by
  rw [refs, refs, List.map_map]
  exact List.map_congr_left fun d _ => rfl
theorem key32_text {k : List Int} (hk : k.length = 32 ∧ ∀ x ∈ k, 0 ≤ x ∧ x < 256) : key32 (textOf k) = k := by
  rw [key32, bytesOf_textOf hk.2, hk.1]
  rw [List.take_of_length_le (by rw [hk.1]; decide)]
  simp
theorem go_back {S : ByteArray} : ∀ (ds A : List D) {a : Int}, 0 ≤ a ∧ a ≤ S.size → (bytesOf S).drop a.toNat = ds.flatMap entB → keysOk ds → keysOk A → (A ++ ds).Pairwise RE → (∀ d ∈ ds, (textE d).size ≤ 4194304) →
    tblGo S ds.length (a, 0, A) = ((S.size : Int), (0 : Int), A ++ ds.map normE)
  | [], A, a, ha, h, _, _, _, _ => by
    have : a = S.size := by
      have e := congrArg List.length h
      rw [List.length_drop, bytesOf_length'] at e
      simp only [List.flatMap_nil, List.length_nil] at e
      omega
    rw [this]; simp [tblGo]
  | d :: ds, A, a, ha, h, hk, hA, hp, ht => by
    have hkd := hk d (by simp)
    rw [List.flatMap_cons, entB, List.append_assoc] at h
    have hb : bytesOf (textOf (keyE d)) = keyE d := bytesOf_textOf hkd.2
    have e1 := back_raw (t := textOf (keyE d)) ha (by rw [hb]; exact h)
    rw [textOf_size, hkd.1, hb, hkd.1] at e1
    have hl := at_len ha h
    rw [hkd.1] at hl
    have ha2 : 0 ≤ a + 32 ∧ a + 32 ≤ S.size := by omega
    have h2 : (bytesOf S).drop (a + 32).toNat = textB (textE d) ++ ds.flatMap entB := by
      rw [show (a + 32).toNat = a.toNat + 32 from by omega, ← List.drop_drop, h, List.drop_left' hkd.1]
    have e2 := back_text (m := 4194304) (by have := ht d (by simp); omega) (by decide) ha2 h2
    have hl2 := at_len ha2 h2
    have ha3 : 0 ≤ a + 32 + (textB (textE d)).length ∧ a + 32 + (textB (textE d)).length ≤ S.size := by omega
    have h3 : (bytesOf S).drop (a + 32 + (textB (textE d)).length).toNat = ds.flatMap entB := by
      rw [show (a + 32 + (textB (textE d)).length).toNat = (a + 32).toNat + (textB (textE d)).length from by omega, ← List.drop_drop, h2, List.drop_left]
    have hst : tblStep S (a, 0, A) = (a + 32 + (textB (textE d)).length, 0, A ++ [normE d]) := by
      unfold tblStep
      simp only
      rw [show ((32 : Nat) : Int) = 32 from rfl] at e1
      rw [e1]
      simp only
      rw [e2]
      simp only
      rw [key32_text hkd, if_neg]
      · rfl
      · rintro ⟨_, h0, hc⟩
        have hm : entAt A (A.length - 1) ∈ A := entAt_mem (by omega)
        have := (List.pairwise_append.1 hp).2.2 _ hm d (by simp)
        have : cmpL (keyE (entAt A (A.length - 1))) (keyE d) < 0 := this
        omega
    rw [List.length_cons, tblGo, if_pos rfl, hst]
    have hn : keyE (normE d) = keyE d := rfl
    have hA2 : keysOk (A ++ [normE d]) := by
      intro x hx
      rcases List.mem_append.1 hx with hx | hx
      · exact hA x hx
      · rw [List.mem_singleton] at hx; subst hx; exact hkd
    have hp2 : ((A ++ [normE d]) ++ ds).Pairwise RE := by
      rw [List.pairwise_append, List.pairwise_cons] at hp
      rw [List.append_assoc, List.pairwise_append]
      exact ⟨hp.1, List.pairwise_cons.2 ⟨hp.2.1.1, hp.2.1.2⟩, fun x hx y hy => by
        rcases List.mem_cons.1 hy with rfl | hy
        · exact hp.2.2 x hx d (by simp)
        · exact hp.2.2 x hx y (List.mem_cons_of_mem _ hy)⟩
    rw [go_back ds (A ++ [normE d]) ha3 h3 (fun x hx => hk x (by simp [hx])) hA2 hp2 (fun x hx => ht x (by simp [hx]))]
    simp
theorem ents_len : ∀ {L : List D}, keysOk L → L.length ≤ (L.flatMap entB).length
  | [], _ => by simp
  | d :: L, ho => by
    have := ents_len (L := L) (fun x hx => ho x (by simp [hx]))
    rw [List.flatMap_cons, List.length_append, entB, List.length_append, (ho d (by simp)).1, List.length_cons]
    omega
/-- What a table's bytes are read as. -/
theorem tbl_back {L : List D} (ho : keysOk L) (hr : rising L) (hl : (tblB L).length ≤ 400000) (ht : ∀ d ∈ L, (textE d).size ≤ 4194304) : tblRd (textOf (tblB L)) = (0, L.map normE) := by
  have hX : tblB L = tblX (refs L) := (tblX_refs ho).symm
  have hb : bytesOf (textOf (tblB L)) = tblB L := by rw [hX, bytesOf_textOf tblX_has]
  obtain ⟨S, hS⟩ : ∃ S, S = textOf (tblB L) := ⟨_, rfl⟩
  rw [← hS] at hb ⊢
  have hsz : S.size = (tblB L).length := by rw [← hb, bytesOf_length']
  have h0 : (bytesOf S).drop (0 : Int).toNat = bytesOf tblMagic ++ (numB L.length ++ L.flatMap entB) := by
    rw [hb, magicB, tblB, List.append_assoc]; rfl
  have z : (0 : Int) ≤ 0 ∧ (0 : Int) ≤ S.size := ⟨by omega, by omega⟩
  have e1 := back_raw z h0
  have hm8 : (bytesOf tblMagic).length = 8 := by rw [magicB]; rfl
  have hms : tblMagic.size = 8 := by rw [← bytesOf_length', hm8]
  rw [hms, hm8] at e1
  have hl8 := at_len z h0
  rw [hm8] at hl8
  have z8 : (0 : Int) ≤ 8 ∧ (8 : Int) ≤ S.size := by omega
  have h8 : (bytesOf S).drop (8 : Int).toNat = numB L.length ++ L.flatMap entB := by
    have := congrArg (List.drop 8) h0
    rw [List.drop_drop, List.drop_left' hm8] at this
    simpa using this
  have hLn : (L.length : Int) < 18446744073709551616 := by
    have := ents_len ho
    rw [tblB, List.length_append, List.length_append] at hl
    omega
  have e2 := back_num (by omega) z8 h8
  have hn : tblNum S = ((8 : Int) + (numB L.length).length, (0 : Int), (L.length : Int)) := by
    unfold tblNum
    simp only
    rw [show ((8 : Nat) : Int) = 8 from rfl, show (0 : Int) + 8 = 8 from rfl] at e1
    rw [e1]
    simp only
    rw [if_neg (fun h => h.2 rfl), e2]
  have hl9 := at_len z8 h8
  have h9 : (bytesOf S).drop (8 + (numB L.length).length : Int).toNat = L.flatMap entB := by
    rw [show (8 + (numB L.length).length : Int).toNat = (8 : Int).toNat + (numB L.length).length from by omega, ← List.drop_drop, h8, List.drop_left]
  have hg := go_back L [] (by omega) h9 ho (by intro d hd; cases hd) (rising_iff.1 hr) ht
  have ha : tblAll S = ((S.size : Int), (0 : Int), L.map normE) := by
    unfold tblAll
    rw [hn]
    simp only
    rw [show ((L.length : Int)).toNat = L.length from by omega, hg]
    simp
  unfold tblRd
  rw [ha]
  simp [rdDone]
theorem ps_seal {l : List Int} (hl : l.length ≤ 400000) (h8 : 8 ≤ l.length) (hb : ∀ x ∈ l, 0 ≤ x ∧ x < 256) : tblPs (textOf (sealB l)) = tblRd (textOf l) := by
  have hs := shaL_len (l := l) (by omega)
  have e : textOf (sealB l) = textOf l ++ textOf (shaL l) := by rw [textOf_append]; rfl
  have hz : (textOf l).size = l.length := textOf_size l
  have hz2 : (textOf (shaL l)).size = 32 := by rw [textOf_size, hs.1]
  have hz3 : (textOf l ++ textOf (shaL l)).size = l.length + 32 := by rw [ByteArray.size_append, hz, hz2]
  have x1 : (textOf l ++ textOf (shaL l)).extract 0 l.length = textOf l := by rw [← hz]; exact extract_left
  have x2 : (textOf l ++ textOf (shaL l)).extract l.length (l.length + 32) = textOf (shaL l) := by
    apply text_inj
    rw [bytesOf_extract, bytesOf_append, bytesOf_textOf hb, bytesOf_textOf hs.2, List.take_of_length_le (by rw [List.length_append, hs.1]; omega), List.drop_left]
  rw [e, tblPs, hz3, if_neg (by omega), Nat.add_sub_cancel, x1, x2, bytesOf_textOf hb, if_neg (by simp)]

theorem tbl_small {L : List D} (hn : L.length ≤ 13) (ht : ∀ d ∈ L, (textE d).size ≤ 60) (ho : keysOk L) : (tblB L).length ≤ 10000 ∧ 8 ≤ (tblB L).length := by
  have e : ∀ {M : List D}, (∀ d ∈ M, (textE d).size ≤ 60) → keysOk M → (M.flatMap entB).length ≤ M.length * 101 := by
    intro M
    induction M with
    | nil => intros; simp
    | cons d M ih =>
      intro h1 h2
      have := ih (fun x hx => h1 x (by simp [hx])) (fun x hx => h2 x (by simp [hx]))
      have h3 := h1 d (by simp)
      have h4 := (numB_len ((textE d).size : Int)).1
      rw [List.flatMap_cons, List.length_append, entB, List.length_append, (h2 d (by simp)).1, textB, List.length_append, bytesOf_length', List.length_cons]
      omega
  have h1 := e ht ho
  have h2 := (numB_len (L.length : Int)).1
  rw [tblB, List.length_append, List.length_append]
  simp only [List.length_cons, List.length_nil]
  omega
theorem wIn_refs {L M : List D} (hL : keysOk L) (hM : keysOk M) (hr : rising M) : wIn L M ↔ ∀ t, t < (refs L).length → ∃ j, firstAt (refs M) (keyT (refs L) t) j ∧ textT (refs M) j = textT (refs L) t := by
  have kt : ∀ {X : List D} {t : Nat}, t < X.length → keyT (refs X) t = textOf (keyE (entAt X t)) ∧ textT (refs X) t = textE (entAt X t) := fun h => by
    rw [keyT, textT, refs_at h]; exact ⟨rfl, rfl⟩
  rw [refs_len]
  constructor
  · intro h t ht
    obtain ⟨q, q1, q2, q3⟩ := h _ (entAt_mem ht)
    obtain ⟨j, hj, rfl⟩ := List.getElem_of_mem q1
    have ej : entAt M j = M[j] := by simp [entAt, List.getD, List.getElem?_eq_getElem hj]
    rw [← ej] at q2 q3
    refine ⟨j, ⟨by rw [refs_len]; exact hj, by rw [(kt hj).1, (kt ht).1, q2], fun u hu he => ?_⟩, by rw [(kt hj).2, (kt ht).2, q3]⟩
    rw [(kt (by omega)).1, (kt ht).1] at he
    have := textOf_inj (hM _ (entAt_mem (by omega))).2 (hL _ (entAt_mem ht)).2 he
    have hlt := hr u j hu hj
    rw [this, ← q2, (cmp_eq rfl).2 rfl] at hlt
    omega
  · intro h d hd
    obtain ⟨t, ht, rfl⟩ := List.getElem_of_mem hd
    have et : entAt L t = L[t] := by simp [entAt, List.getD, List.getElem?_eq_getElem ht]
    obtain ⟨j, ⟨j1, j2, _⟩, j4⟩ := h t ht
    rw [refs_len] at j1
    rw [(kt j1).1, (kt ht).1] at j2
    rw [(kt j1).2, (kt ht).2] at j4
    rw [← et]
    exact ⟨_, entAt_mem j1, textOf_inj (hM _ (entAt_mem j1)).2 (hL _ (entAt_mem ht)).2 j2, j4⟩
/-- What is found in both lists. -/
theorem find_both {L : List D} {k : List Int} {s : ByteArray} {b : Bool} {i : Int} (hk : k.length = 32 ∧ ∀ x ∈ k, 0 ≤ x ∧ x < 256) (ho : keysOk L) (hr : rising L)
    (h : ∃ j, placeOf L k j b ∧ s = if b then textE (entAt L j.toNat) else ByteArray.empty)
    (hi : (i < 0 → ∀ t, t < (refs L).length → keyT (refs L) t ≠ textOf k) ∧ (0 ≤ i → firstAt (refs L) (textOf k) i.toNat)) :
    b = decide (0 ≤ i) ∧ (b = true → i < (refs L).length ∧ s = textT (refs L) i.toNat) ∧ (b = false → s = ByteArray.empty) := by
  obtain ⟨j, hp, hs⟩ := h
  obtain ⟨h1, h2⟩ := place_has hk.1 ho hr hp
  have kt : ∀ {X : List D} {t : Nat}, t < X.length → keyT (refs X) t = textOf (keyE (entAt X t)) ∧ textT (refs X) t = textE (entAt X t) := fun h => by
    rw [keyT, textT, refs_at h]; exact ⟨rfl, rfl⟩
  cases b with
  | false =>
    have hn : i < 0 := by
      by_cases hh : 0 ≤ i
      · obtain ⟨f1, f2, _⟩ := hi.2 hh
        rw [refs_len] at f1
        rw [(kt f1).1] at f2
        have := (has_iff hk.1 ho).2 ⟨_, entAt_mem f1, textOf_inj (ho _ (entAt_mem f1)).2 hk.2 f2⟩
        rw [← h1] at this; cases this
      · omega
    exact ⟨by simp; omega, fun h => (by cases h), fun _ => hs⟩
  | true =>
    have hjl : j.toNat < L.length := by
      have := hp.2.2.2.2.symm
      simp only [Bool.and_eq_true, decide_eq_true_eq] at this
      have := hp.1; omega
    have hge : 0 ≤ i := by
      by_cases hh : 0 ≤ i
      · exact hh
      · exact absurd (by rw [(kt hjl).1, h2 rfl]) (hi.1 (by omega) j.toNat (by rw [refs_len]; exact hjl))
    obtain ⟨f1, f2, f3⟩ := hi.2 hge
    rw [refs_len] at f1
    have same : i.toNat = j.toNat := by
      rw [(kt f1).1] at f2
      have e := textOf_inj (ho _ (entAt_mem f1)).2 hk.2 f2
      have e2 := h2 rfl
      rcases Nat.lt_trichotomy i.toNat j.toNat with h | h | h
      · have := hr _ _ h hjl
        rw [e, e2, (cmp_eq rfl).2 rfl] at this; omega
      · exact h
      · have := hr _ _ h f1
        rw [e, e2, (cmp_eq rfl).2 rfl] at this; omega
    refine ⟨by simp; omega, fun _ => ⟨by rw [refs_len]; omega, ?_⟩, fun h => by cases h⟩
    rw [hs, same, (kt hjl).2]; rfl

theorem LTablePlays.pure : LTablePlays.Pure := by
  intro v0 l1 v2 l3 s4 z5 h1 h2 h3 h4 h5 h6 n6
  have kz5 : z5.length = 32 ∧ ∀ x ∈ z5, 0 ≤ x ∧ x < 256 := ⟨h2, fun x hx => has_in.1 (h3 x hx)⟩
  refine ⟨trivial, ?_⟩
  intro n7 v8 v9 l10 l11 g1 k1 k1'
  obtain ⟨_, g2, g3, g4, g5⟩ : l10 = growE [] (l1.take 12) ∧ l11 = refs l10 ∧ rising l10 ∧ l10.length ≤ 12 ∧ ∀ d ∈ l10, (textE d).size ≤ 60 := g1
  have ho := keysOk_of k1
  refine ⟨trivial, ?_⟩
  intro n12 v13 v14 l15 l16 g6 k2 k2'
  obtain ⟨_, g7, g8, g9, g10⟩ : l15 = growE [] (l3.take 12) ∧ l16 = refs l15 ∧ rising l15 ∧ l15.length ≤ 12 ∧ ∀ d ∈ l15, (textE d).size ≤ 60 := g6
  have ho2 := keysOk_of k2
  refine ⟨trivial, fun b17 h => ?_⟩
  have hb : b17 = true := of_yes (l := []) h
  refine ⟨(fun h => by rw [hb] at h; cases h), fun _ => ?_⟩
  refine ⟨by show l10.length ≤ 1000000; omega, fun i18 h _ => ?_⟩
  have h18 : i18 = 0 := h g2
  refine ⟨fun h => absurd h18 h, fun _ => ?_⟩
  refine ⟨by show l15.length ≤ 1000000; omega, fun i19 h _ => ?_⟩
  have h19 : i19 = 0 := h g7
  refine ⟨fun h => absurd h19 h, fun _ => ?_⟩
  refine ⟨⟨by omega, g8, by omega⟩, fun b20 h20 => ?_⟩
  have h20 : b20 = true ↔ wIn l10 l15 := h20
  refine ⟨⟨by rw [g2, refs_len]; omega, by rw [g7, refs_len]; omega⟩, fun b21 h21 => ?_⟩
  have h21 : b21 = true ↔ ∀ t, t < l11.length → ∃ j, firstAt l16 (keyT l11 t) j ∧ textT l16 j = textT l11 t := h21
  rw [g2, g7, ← wIn_refs ho ho2 g8] at h21
  have hbb : b20 = b21 := by rw [Bool.eq_iff_iff, h20, h21]
  refine ⟨fun h => absurd hbb h, fun _ => ?_⟩
  refine ⟨by show l10.length ≤ 1000000; omega, fun n22 v23 l24 h24 _ => ?_⟩
  have h24 : l24 = l10 := h24
  refine ⟨by show l24.length ≤ 1000000; rw [h24]; omega, fun i25 h _ => ?_⟩
  have h25 : i25 = 0 := h (by rw [h24]; exact g2)
  refine ⟨fun h => absurd h25 h, fun _ => ?_⟩
  refine ⟨by show (0 : Int) ≤ 20; omega, fun s26 h26 _ => ?_⟩
  have c := cut_eq (by omega) h26
  refine ⟨by show s26.size ≤ 1000000; have := c.2; omega, fun z27 _ e1 e2 v28 => ?_⟩
  have kz27 : z27.length = 32 ∧ ∀ x ∈ z27, 0 ≤ x ∧ x < 256 := ⟨e1, fun x hx => has_in.1 (e2 x hx)⟩
  refine ⟨⟨by omega, by omega⟩, fun i29 _ h29 => ?_⟩
  obtain ⟨a1, a2⟩ : 0 ≤ i29 ∧ i29 ≤ 2 := h29
  have hl2 : (((D.Z z27) :: ((D.Z z5) :: ([] : List D))).length : Int) = 2 := rfl
  refine ⟨?_, ?_⟩
  · intro h
    rw [hl2] at h
    have kz : ∀ z, z = (((D.Z z27) :: ((D.Z z5) :: ([] : List D))).getD i29.toNat default).toLi → z.length = 32 ∧ ∀ x ∈ z, 0 ≤ x ∧ x < 256 := by
      intro z hz
      have : i29 = 0 ∨ i29 = 1 := by omega
      rcases this with rfl | rfl
      · rw [hz]; exact kz27
      · rw [hz]; exact kz5
    refine ⟨a1, fun _ n30 => ?_⟩
    generalize hz : (((D.Z z27) :: ((D.Z z5) :: ([] : List D))).getD i29.toNat default).toLi = z
    have kz := kz z hz.symm
    refine ⟨⟨g3, by omega⟩, fun s31 b32 h31 _ => ?_⟩
    refine ⟨by show l11.length ≤ 1000000; rw [g2, refs_len]; omega, fun i33 h33 _ => ?_⟩
    have h31 : ∃ j, placeOf l10 z j b32 ∧ s31 = if b32 then textE (entAt l10 j.toNat) else ByteArray.empty := h31
    have h33 : (i33 < 0 → ∀ t, t < l11.length → keyT l11 t ≠ textOf z) ∧ (0 ≤ i33 → firstAt l11 (textOf z) i33.toNat) := h33
    rw [g2] at h33
    obtain ⟨f1, f2, f3⟩ := find_both kz ho g3 h31 h33
    have nxt : LTablePlays.I0 [(D.V v0), (D.L l1), (D.V v2), (D.L l3), (D.S s4), (D.Z z5), (D.I (IntKind.wrap .i64 (i29 + (1 : Int))))] ∧ LTablePlays.I0M [(D.V v0), (D.L l1), (D.V v2), (D.L l3), (D.S s4), (D.Z z5), (D.I (IntKind.wrap .i64 (i29 + (1 : Int))))] < LTablePlays.I0M [(D.V v0), (D.L l1), (D.V v2), (D.L l3), (D.S s4), (D.Z z5), (D.I i29)] := by
      rw [i64w (by omega) (by omega)]
      refine ⟨⟨by omega, by omega⟩, ?_⟩
      show (2 - (i29 + 1)).toNat < (2 - i29).toNat
      omega
    refine ⟨fun h => absurd f1 h, fun _ => ⟨fun ht => ?_, fun hf => ?_⟩⟩
    · obtain ⟨q1, q2⟩ := f2 ht
      have hge : 0 ≤ i33 := by rw [ht] at f1; simpa using f1.symm
      refine ⟨hge, fun _ => ⟨by rw [g2]; exact q1, fun _ => ⟨fun h => absurd ?_ h, fun _ => ⟨fun h => ?_, fun _ => nxt⟩⟩⟩⟩
      · rw [g2]; exact q2
      · rw [ht] at h; cases h
    · have := f3 hf
      refine ⟨fun _ => ⟨fun h => absurd this h, fun _ => nxt⟩, fun h => ?_⟩
      rw [hf] at h; cases h
  · intro _
    have sm := tbl_small (by omega) g5 ho
    refine ⟨⟨by omega, by omega⟩, fun s30 h30 _ => ?_⟩
    have h30 : s30 = textOf (sealB (tblB l10)) := h30
    refine ⟨trivial, fun v31 z32 v33 z34 h34 _ _ => ?_⟩
    refine ⟨⟨h34.1, h34.2, by rw [g2, refs_len]; omega, by rw [g2, tblX_refs ho]; omega⟩, fun s35 h35 _ => ?_⟩
    have h35 : s35 = textOf (sealB (tblX l11)) := h35
    refine yesB (l := [_, _, _, _, _, _]) ?_
    rw [h30, h35, g2, tblX_refs ho]
    simp
theorem LTableBack.pure : LTableBack.Pure := by
  intro v0 l1 i2 i3 h1 h2 h3 h4
  refine ⟨trivial, ?_⟩
  intro n4 v5 v6 l7 l8 g1 k1 k1'
  obtain ⟨_, g2, g3, g4, g5⟩ : l7 = growE [] (l1.take 12) ∧ l8 = refs l7 ∧ rising l7 ∧ l7.length ≤ 12 ∧ ∀ d ∈ l7, (textE d).size ≤ 60 := g1
  have ho := keysOk_of k1
  have sm := tbl_small (by omega) g5 ho
  refine ⟨⟨by omega, by omega⟩, fun s9 h9 _ => ?_⟩
  have h9 : s9 = textOf (sealB (tblB l7)) := h9
  have hX : tblB l7 = tblX (refs l7) := (tblX_refs ho).symm
  have hbt : ∀ x ∈ tblB l7, 0 ≤ x ∧ x < 256 := by rw [hX]; exact tblX_has
  have hs := shaL_len (l := tblB l7) (by omega)
  have hsb : ∀ x ∈ sealB (tblB l7), 0 ≤ x ∧ x < 256 := fun x hx => by
    rcases List.mem_append.1 hx with hx | hx
    · exact hbt x hx
    · exact hs.2 x hx
  have hb9 : bytesOf s9 = sealB (tblB l7) := by rw [h9, bytesOf_textOf hsb]
  have h9s : s9.size = (tblB l7).length + 32 := by rw [h9, textOf_size, sealB, List.length_append, hs.1]
  have hps : tblPs s9 = (0, l7.map normE) := by
    rw [h9, ps_seal (by omega) sm.2 hbt, tbl_back ho g3 (by omega) (fun d hd => by have := g5 d hd; omega)]
  refine ⟨⟨by show s9.size ≤ 500000; omega, ?_⟩, ⟨by show s9.size ≤ 500000; omega, ?_⟩⟩
  · intro i10 h10 _
    obtain ⟨q1, q2⟩ : i10 ≠ 0 ∧ i10 = (tblPs s9).1 := h10
    rw [hps] at q2
    exact absurd q2 q1
  · intro n10 v11 l12 h12 k12
    obtain ⟨_, q2⟩ : (tblPs s9).1 = 0 ∧ l12 = (tblPs s9).2 := h12
    rw [hps] at q2
    have q2 : l12 = l7.map normE := q2
    refine ⟨fun h => absurd rfl h, fun _ => ⟨by show l12.length ≤ 1000000; rw [q2, List.length_map]; omega, fun i13 h13 _ => ?_⟩⟩
    have h13 : i13 = 0 := h13 (by rw [q2, refs_norm]; exact g2)
    refine ⟨fun h => absurd h13 h, fun _ => ?_⟩
    refine ⟨⟨by rw [q2, List.length_map]; omega, by rw [q2, tblB_norm]; omega⟩, fun s14 h14 _ => ?_⟩
    have h14 : s14 = textOf (sealB (tblB l12)) := h14
    rw [q2, tblB_norm, ← h9] at h14
    have aw : Awake22.sig.pre [] ∧ ∀ b15 : Bool, Awake22.sig.post [(D.B b15)] → LTableBack.sig.post [(D.V v0), (D.L l1), (D.I i2), (D.I i3), (D.B b15)] :=
      ⟨trivial, fun b15 h => yesB (l := [_, _, _, _]) (of_yes (l := []) h)⟩
    rw [i64w (by omega) (by omega)]
    refine ⟨fun h => absurd h14 h, fun _ => ⟨fun _ => aw, fun h15 => ⟨fun _ => aw, fun h16 => ⟨fun _ => aw, fun h17 v15 => ?_⟩⟩⟩⟩
    refine ⟨by omega, fun _ => ⟨by rw [bytesOf_length']; exact h16, fun _ => ?_⟩⟩
    -- the bent bytes
    generalize hc : Go.bits .xor .u8 ((bytesOf s9).getD i2.toNat 0) i3 = c
    have hold : 0 ≤ (bytesOf s9).getD i2.toNat 0 ∧ (bytesOf s9).getD i2.toNat 0 < 256 := by
      have hlt : i2.toNat < (bytesOf s9).length := by rw [bytesOf_length']; omega
      rw [List.getD, List.getElem?_eq_getElem hlt]
      exact bytesOf_has s9 _ (List.getElem_mem hlt)
    have hcr : 0 ≤ c ∧ c < 256 := by rw [← hc]; exact (u8_has _).1 (bits_has .xor .u8 _ _)
    have hcne : c ≠ (bytesOf s9).getD i2.toNat 0 := by
      intro he
      apply h17
      refine eq_of_bt (w := 8) h2.1 h2.2 (by omega) (by omega) fun i hi => ?_
      have hx := bt_xor .u8 ((bytesOf s9).getD i2.toNat 0) i3 (i := i) hi
      rw [hc, he] at hx
      rw [bt_zero]
      cases hb : bt ((bytesOf s9).getD i2.toNat 0) i <;> cases hb3 : bt i3 i <;> rw [hb, hb3] at hx <;> simp at hx ⊢
    obtain ⟨p, hp⟩ : ∃ p, i2.toNat = (tblB l7).length + p := ⟨i2.toNat - (tblB l7).length, by omega⟩
    have hset : (bytesOf s9).set i2.toNat c = tblB l7 ++ (shaL (tblB l7)).set p c := by
      rw [hb9, sealB, hp, List.set_append_right _ _ (by omega), Nat.add_sub_cancel_left]
    have hgd : (bytesOf s9).getD i2.toNat 0 = (shaL (tblB l7)).getD p 0 := by
      rw [hb9, sealB, hp, List.getD, List.getElem?_append_right (by omega), Nat.add_sub_cancel_left]; rfl
    have hpl : p < 32 := by omega
    have hne : (shaL (tblB l7)).set p c ≠ shaL (tblB l7) := by
      intro he
      have := congrArg (fun l => l.getD p 0) he
      simp only [List.getD, List.getElem?_set] at this
      rw [if_pos trivial, if_pos (by rw [hs.1]; exact hpl)] at this
      apply hcne
      rw [hgd]
      simpa [List.getD] using this
    have hbad : tblPs (textOf ((bytesOf s9).set i2.toNat c)) = (4, []) := by
      have hs2 : ∀ x ∈ (shaL (tblB l7)).set p c, 0 ≤ x ∧ x < 256 := fun x hx => by
        rcases List.mem_or_eq_of_mem_set hx with h | h
        · exact hs.2 x h
        · rw [h]; exact hcr
      have hz : (textOf (tblB l7)).size = (tblB l7).length := textOf_size _
      have hz2 : (textOf ((shaL (tblB l7)).set p c)).size = 32 := by rw [textOf_size, List.length_set, hs.1]
      have hz3 : (textOf (tblB l7) ++ textOf ((shaL (tblB l7)).set p c)).size = (tblB l7).length + 32 := by rw [ByteArray.size_append, hz, hz2]
      have x1 : (textOf (tblB l7) ++ textOf ((shaL (tblB l7)).set p c)).extract 0 (tblB l7).length = textOf (tblB l7) := by rw [← hz]; exact extract_left
      have x2 : (textOf (tblB l7) ++ textOf ((shaL (tblB l7)).set p c)).extract (tblB l7).length ((tblB l7).length + 32) = textOf ((shaL (tblB l7)).set p c) := by
        apply text_inj
        rw [bytesOf_extract, bytesOf_append, bytesOf_textOf hbt, bytesOf_textOf hs2, List.take_of_length_le (by rw [List.length_append, List.length_set, hs.1]; omega), List.drop_left]
      rw [hset, ← textOf_append, tblPs, hz3, if_neg (by omega), Nat.add_sub_cancel, x1, x2, bytesOf_textOf hbt, if_pos]
      intro he
      exact hne (textOf_inj hs.2 hs2 he).symm
    have hsz : (textOf ((bytesOf s9).set i2.toNat c)).size ≤ 500000 := by rw [textOf_size, List.length_set, bytesOf_length']; omega
    refine ⟨⟨hsz, ?_⟩, ⟨hsz, ?_⟩⟩
    · intro i16 h18 _
      obtain ⟨r1, r2⟩ : i16 ≠ 0 ∧ i16 = (tblPs (textOf ((bytesOf s9).set i2.toNat c))).1 := h18
      rw [hbad] at r2
      refine ⟨trivial, fun b17 h => ?_⟩
      have hb : b17 = true := of_yes (l := []) h
      exact ⟨fun _ => ⟨fun _ => yesB (l := [_, _, _, _]) rfl, fun h => absurd r2 h⟩, fun h => by rw [hb] at h; cases h⟩
    · intro n16 v17 l18 h18 _
      obtain ⟨r1, _⟩ : (tblPs (textOf ((bytesOf s9).set i2.toNat c))).1 = 0 ∧ l18 = (tblPs (textOf ((bytesOf s9).set i2.toNat c))).2 := h18
      rw [hbad] at r1
      cases r1
end Go.Vc
namespace Go.Vc
def itemRow (d : D) : D := rowE (itemKey d) (itemText d)
theorem itemKey_ok (d : D) : (itemKey d).length = 32 ∧ ∀ x ∈ itemKey d, 0 ≤ x ∧ x < 256 := by
  refine shaL_len ?_
  rw [bytesOf_length', ByteArray.size_extract]; omega
theorem key_row (k : List Int) (s : ByteArray) : keyE (rowE k s) = k := rfl
theorem key_item : keyE ∘ itemRow = itemKey := by
  funext d
  unfold itemRow Function.comp
  rw [key_row]
theorem put_perm {L : List D} {k : List Int} {s : ByteArray} (h : hasE L k = false) : (putE L k s).Perm (rowE k s :: L) := by
  rw [putE, if_neg (by rw [h]; simp)]
  refine List.perm_middle.trans ?_
  rw [List.takeWhile_append_dropWhile]
theorem grow_len : ∀ (ds L : List D), (growE L ds).length ≤ L.length + ds.length
  | [], L => Nat.le_refl _
  | d :: ds, L => by
    have h1 := grow_len ds (putE L (itemKey d) (itemText d))
    have h2 := (put_len L (itemKey d) (itemText d)).1
    rw [growE, List.length_cons]; omega
theorem grow_perm : ∀ (ds L : List D), (growE L ds).length = L.length + ds.length → (growE L ds).Perm (L ++ ds.map itemRow)
  | [], L, _ => by simp [growE]
  | d :: ds, L, h => by
    rw [growE] at h ⊢
    have h1 := grow_len ds (putE L (itemKey d) (itemText d))
    have h2 := (put_len L (itemKey d) (itemText d)).1
    rw [List.length_cons] at h
    have hno : hasE L (itemKey d) = false := by
      cases hh : hasE L (itemKey d) with
      | false => rfl
      | true =>
        have : putE L (itemKey d) (itemText d) = L := by rw [putE, if_pos hh]
        rw [this] at h1
        rw [this] at h
        omega
    have hp := put_perm (s := itemText d) hno
    refine (grow_perm ds _ (by omega)).trans ?_
    refine (hp.append_right _).trans ?_
    rw [List.map_cons]
    show ((itemRow d :: L) ++ ds.map itemRow).Perm (L ++ itemRow d :: ds.map itemRow)
    exact List.perm_middle.symm
theorem grow_full : ∀ (ds L : List D), keysOk L → (L.map keyE ++ ds.map itemKey).Nodup → (growE L ds).length = L.length + ds.length
  | [], _, _, _ => rfl
  | d :: ds, L, ho, hn => by
    rw [growE]
    have hk := itemKey_ok d
    have hno : hasE L (itemKey d) = false := by
      cases hh : hasE L (itemKey d) with
      | false => rfl
      | true =>
        obtain ⟨x, hx, he⟩ := (has_iff hk.1 ho).1 hh
        exact absurd he ((List.nodup_append.1 hn).2.2 _ (List.mem_map_of_mem hx) (itemKey d) (List.mem_map_of_mem (List.mem_cons_self ..)))
    have hp := put_perm (s := itemText d) hno
    have h2 : (putE L (itemKey d) (itemText d)).length = L.length + 1 := by rw [hp.length_eq]; rfl
    rw [grow_full ds _ (put_keys hk ho) ?_, h2, List.length_cons]
    · omega
    · have : ((putE L (itemKey d) (itemText d)).map keyE ++ ds.map itemKey).Perm (L.map keyE ++ (d :: ds).map itemKey) := by
        refine ((hp.map keyE).append_right _).trans ?_
        rw [List.map_cons, List.map_cons, key_row]
        generalize itemKey d = k
        exact List.perm_middle.symm
      exact this.nodup_iff.2 hn
theorem rising_nodup {L : List D} (h : rising L) : (L.map keyE).Nodup := by
  rw [List.Nodup, List.pairwise_map]
  refine (rising_iff.1 h).imp ?_
  intro a b hab he
  have hab : cmpL (keyE a) (keyE b) < 0 := hab
  rw [he, (cmp_eq rfl).2 rfl] at hab
  omega
theorem sorted_same : ∀ {A B : List D}, A.Pairwise RE → B.Pairwise RE → keysOk A → keysOk B → A.Perm B → A = B
  | [], B, _, _, _, _, hp => by rw [List.nil_perm] at hp; exact hp.symm
  | a :: A, [], _, _, _, _, hp => by rw [List.perm_nil] at hp; cases hp
  | a :: A, b :: B, ha, hb, oa, ob, hp => by
    rw [List.pairwise_cons] at ha hb
    have len : ∀ {x y : D}, x ∈ a :: A → y ∈ b :: B → (keyE x).length = (keyE y).length := fun hx hy => by rw [(oa _ hx).1, (ob _ hy).1]
    have hab : a = b := by
      have h1 : a ∈ b :: B := hp.subset (by simp)
      have h2 : b ∈ a :: A := hp.symm.subset (by simp)
      rcases List.mem_cons.1 h1 with h1 | h1
      · exact h1
      · rcases List.mem_cons.1 h2 with h2 | h2
        · exact h2.symm
        · have c1 : cmpL (keyE b) (keyE a) < 0 := hb.1 a h1
          have c2 : cmpL (keyE a) (keyE b) < 0 := ha.1 b h2
          have := cmp_anti (len (x := a) (y := b) (by simp) (by simp))
          omega
    subst hab
    rw [sorted_same ha.2 hb.2 (fun x hx => oa x (by simp [hx])) (fun x hx => ob x (by simp [hx])) (List.Perm.cons_inv hp)]

theorem turns_perm : ∀ d : Nat, d < 12 → ∀ n : Nat, n < 13 → ((List.range 13).filterMap (fun i => if (i * (1 + d)) % 13 < n then some ((i * (1 + d)) % 13) else none)).Perm (List.range n) := by decide +kernel
theorem range_ents {items : List D} {n : Nat} (h : n ≤ items.length) : (List.range n).map (entAt items) = items.take n := by
  apply List.ext_getElem?
  intro i
  by_cases hi : i < n
  · rw [List.getElem?_map, List.getElem?_range hi, List.getElem?_take, if_pos hi, ent_eq (by omega)]; rfl
  · rw [List.getElem?_eq_none (by simp; omega), List.getElem?_eq_none (by simp; omega)]
theorem turned_perm {step : Int} {items : List D} : (turned step items 13).Perm (items.take 12) := by
  have h := turns_perm (step % 12).toNat (by omega) (min items.length 12) (by omega)
  have h2 := h.map (entAt items)
  rw [range_ents (by omega)] at h2
  rw [show items.take (min items.length 12) = items.take 12 from by
    by_cases hc : items.length ≤ 12
    · rw [show min items.length 12 = items.length from by omega, List.take_length, List.take_of_length_le hc]
    · rw [show min items.length 12 = 12 from by omega]] at h2
  exact h2
theorem turned_succ {step : Int} {items : List D} {m : Nat} : turned step items (m + 1) = turned step items m ++ (match turnAt step (min items.length 12) m with | some j => [entAt items j] | none => []) := by
  rw [turned, List.range_succ, List.filterMap_append, List.map_append]
  congr 1
  simp only [List.filterMap_cons, List.filterMap_nil]
  cases turnAt step (min items.length 12) m <;> rfl

theorem LTableOrder.pure : LTableOrder.Pure := by
  intro v0 l1 i2 h1 h2 h3
  refine ⟨trivial, ?_⟩
  intro n3 v4 v5 l6 l7 g1 k1 k1'
  obtain ⟨g0, g2, g3, g4, g5⟩ : l6 = growE [] (l1.take 12) ∧ l7 = refs l6 ∧ rising l6 ∧ l6.length ≤ 12 ∧ ∀ d ∈ l6, (textE d).size ≤ 60 := g1
  have ho := keysOk_of k1
  have aw : Awake22.sig.pre [] ∧ ∀ b : Bool, Awake22.sig.post [(D.B b)] → LTableOrder.sig.post [(D.V v0), (D.L l1), (D.I i2), (D.B b)] :=
    ⟨trivial, fun b h => yesB (l := [_, _, _]) (of_yes (l := []) h)⟩
  have hm : minI ((l1.length : Nat) : Int) (12 : Int) = ((min l1.length 12 : Nat) : Int) := by unfold minI; split <;> omega
  rw [hm]
  refine ⟨fun _ => aw, fun h4 => ⟨fun _ => aw, fun h5 => ⟨fun _ => aw, fun h6 v8 n9 => ?_⟩⟩⟩
  rw [g2, refs_len] at h4
  have hlen : l6.length = (l1.take 12).length := by rw [List.length_take]; omega
  have hperm : l6.Perm ((l1.take 12).map itemRow) := by
    have := grow_perm (l1.take 12) [] (by rw [← g0, hlen]; simp)
    rw [← g0] at this; simpa using this
  have hnd : ((l1.take 12).map itemKey).Nodup := by
    have := (hperm.map keyE).nodup_iff.1 (rising_nodup g3)
    rw [List.map_map, key_item] at this; exact this
  refine ⟨⟨by omega, by omega, rfl, fun i j _ hj => by simp at hj, by simp, by simp⟩, ?_⟩
  intro i10 v11 l12 h7 k2 h8
  obtain ⟨a1, a2, a3, a4, a5, a6⟩ : 0 ≤ i10 ∧ i10 ≤ 13 ∧ l12 = growE [] (turned i2 l1 i10.toNat) ∧ rising l12 ∧ l12.length ≤ i10 ∧ ∀ d ∈ l12, (textE d).size ≤ 60 := h8
  have ho2 := keysOk_of k2
  refine ⟨?_, ?_⟩
  · intro h9
    -- the number of the turn
    have e1 : Int.tmod i2 12 = i2 % 12 := Int.tmod_eq_emod_of_nonneg (by omega)
    have ht : Int.tmod (IntKind.wrap .i64 (i10 * (IntKind.wrap .i64 ((1 : Int) + (Int.tmod i2 (12 : Int)))))) (13 : Int) = (((i10.toNat * (1 + (i2 % 12).toNat)) % 13 : Nat) : Int) := by
      have hr : 0 ≤ i2 % 12 ∧ i2 % 12 < 12 := by omega
      rw [e1, i64w (x := 1 + i2 % 12) (by omega) (by omega)]
      have hb : 0 ≤ i10 * (1 + i2 % 12) ∧ i10 * (1 + i2 % 12) ≤ 13 * 12 := by
        constructor
        · exact Int.mul_nonneg a1 (by omega)
        · exact Int.mul_le_mul a2 (by omega) (by omega) (by omega)
      rw [i64w (by omega) (by omega), Int.tmod_eq_emod_of_nonneg hb.1]
      rw [Int.natCast_emod, Int.natCast_mul, Int.natCast_add]
      rw [show ((i10.toNat : Nat) : Int) = i10 from by omega, show (((i2 % 12).toNat : Nat) : Int) = i2 % 12 from by omega]
      rfl
    rw [ht]
    generalize hk : (i10.toNat * (1 + (i2 % 12).toNat)) % 13 = k
    have nxt : ∀ {U : List D}, U = growE [] (turned i2 l1 (i10.toNat + 1)) → rising U → U.length ≤ i10 + 1 → (∀ d ∈ U, (textE d).size ≤ 60) →
        LTableOrder.I0 [(D.V v0), (D.L l1), (D.I i2), (D.I (IntKind.wrap .i64 (i10 + (1 : Int)))), (D.L U)] ∧ LTableOrder.I0M [(D.V v0), (D.L l1), (D.I i2), (D.I (IntKind.wrap .i64 (i10 + (1 : Int)))), (D.L U)] < LTableOrder.I0M [(D.V v0), (D.L l1), (D.I i2), (D.I i10), (D.L l12)] := by
      intro U u1 u2 u3 u4
      rw [i64w (by omega) (by omega)]
      refine ⟨⟨by omega, by omega, by rw [show (i10 + 1).toNat = i10.toNat + 1 from by omega]; exact u1, u2, u3, u4⟩, ?_⟩
      show (13 - (i10 + 1)).toNat < (13 - i10).toNat
      omega
    refine ⟨?_, ?_⟩
    · intro h10
      have hkn : k < min l1.length 12 := by omega
      have hta : turnAt i2 (min l1.length 12) i10.toNat = some k := by rw [turnAt, hk, if_pos hkn]
      refine ⟨by omega, fun _ => ⟨by omega, fun _ => ⟨by show (0 : Int) ≤ 20; omega, fun s13 h13 _ => ?_⟩⟩⟩
      have c1 := cut_eq (by omega) h13
      refine ⟨by show s13.size ≤ 1000000; have := c1.2; omega, fun z14 h14 e2 e3 => ?_⟩
      have h14 : z14 = shaL (bytesOf s13) := h14
      refine ⟨by show (0 : Int) ≤ 60; omega, fun s15 h15 _ => ?_⟩
      have c2 := cut_eq (by omega) h15
      refine ⟨⟨a4, by omega⟩, fun v16 l17 b18 h17 _ => ?_⟩
      obtain ⟨h17, _, h18⟩ : l17 = putE l12 z14 s15 ∧ b18 = !hasE l12 z14 ∧ rising l17 := h17
      have ek : z14 = itemKey (entAt l1 k) := by rw [h14, c1.1]; rfl
      have et : s15 = itemText (entAt l1 k) := c2.1
      refine nxt ?_ h18 ?_ ?_
      · rw [turned_succ, hta]
        show l17 = growE [] (turned i2 l1 i10.toNat ++ [entAt l1 k])
        rw [growE_snoc, ← a3, h17, ek, et]
      · have := (put_len l12 z14 s15).1
        rw [h17]; omega
      · rw [h17]; exact put_text c2.2 a6
    · intro h10
      have hta : turnAt i2 (min l1.length 12) i10.toNat = none := by rw [turnAt, hk, if_neg (by omega)]
      refine nxt ?_ a4 (by omega) a6
      rw [turned_succ, hta, List.append_nil]; exact a3
  · intro h9
    have e13 : i10.toNat = 13 := by omega
    rw [e13] at a3
    have hp2 := turned_perm (step := i2) (items := l1)
    have hfull := grow_full (turned i2 l1 13) [] (by intro d hd; cases hd) (by
      rw [List.map_nil, List.nil_append]
      exact (hp2.map itemKey).nodup_iff.2 hnd)
    have hp3 := grow_perm (turned i2 l1 13) [] hfull
    rw [← a3] at hp3
    have heq : l12 = l6 := by
      refine sorted_same (rising_iff.1 a4) (rising_iff.1 g3) ho2 ho ?_
      refine hp3.trans ?_
      rw [List.nil_append]
      exact (hp2.map itemRow).trans hperm.symm
    subst heq
    have sm := tbl_small (by omega) g5 ho
    refine ⟨trivial, fun b13 h => ?_⟩
    have hb : b13 = true := of_yes (l := []) h
    have hw : wIn l12 l12 := fun d hd => ⟨d, hd, rfl, rfl⟩
    refine ⟨fun _ => ⟨⟨by omega, by omega⟩, fun s14 h14 _ => ⟨⟨by omega, by omega⟩, fun s15 h15 _ => ?_⟩⟩, fun h => by rw [hb] at h; cases h⟩
    have h14 : s14 = textOf (sealB (tblB l12)) := h14
    have h15 : s15 = textOf (sealB (tblB l12)) := h15
    refine ⟨fun _ => ⟨⟨by omega, g3, by omega⟩, fun b16 h16 => ?_⟩, fun h => absurd (h14.trans h15.symm) h⟩
    have h16 : b16 = true ↔ wIn l12 l12 := h16
    have hb16 := h16.2 hw
    refine ⟨fun _ => ⟨⟨by omega, g3, by omega⟩, fun b17 h17 => ?_⟩, fun h => by rw [hb16] at h; cases h⟩
    have h17 : b17 = true ↔ wIn l12 l12 := h17
    exact yesB (l := [_, _, _]) (h17.2 hw)
end Go.Vc
