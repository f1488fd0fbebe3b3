/-
  Contracts of sums as texts, and of their order.
  Printed by wip/vct.py: the conditions of functions, by their contracts.
  Sums of 256 bits: texts and order, the plain part.
-/
import Derived.Test.YtnnjpgenekgciaaDoorSha
import Derived.Lib.Bytealg
import Derived.KernelRfl
set_option linter.unusedVariables false
set_option linter.unusedSimpArgs false
namespace Go.Vc

def IxB.post : List D → Prop
  | [.S s, .I c, .I r] => r = Lib.indexByte s.data.toList c.toNat.toUInt8
  | _ => False
def IxB.sig : Sig := sigF [.s, .i .u8] [.i .i64] tru IxB.post

theorem indexByte_lt : ∀ (l : List UInt8) (c : UInt8), -1 ≤ Lib.indexByte l c ∧ Lib.indexByte l c ≤ l.length
  | [], _ => by simp [Lib.indexByte]
  | b :: l, c => by
    have h := indexByte_lt l c
    unfold Lib.indexByte
    simp only [List.length_cons]
    split
    · omega
    · split <;> omega

/-- The library's function, by its law. -/
theorem kept_ix {P : Program} {G : List Glob} {f : FuncId} {fn : Func} (hf : P.funcs[f]? = some fn) (hn : (fn.name == "runtime.NumGoroutine") = false) (hb : fn.body.isSome = true)
    (h : ∀ (s : ByteArray) (c : Int) (w : World), Calls P f #[.string s, .int .u8 c] w fun e w' => e = .returned (.int .i64 (Lib.indexByte s.data.toList c.toNat.toUInt8)) ∧ w' = w) : Kept P G f IxB.sig := by
  obtain ⟨b, hb⟩ := Option.isSome_iff_exists.1 hb
  refine ⟨?_, fn, b, hf, hn, hb⟩
  intro w args ρ hs hp ha hh hg
  have hs : srtsOk [.S, .I] ρ := hs
  match ρ, hs with
  | [d0, d1], hs =>
    obtain ⟨⟨s, rfl⟩, ⟨c, rfl⟩, _⟩ := hs
    obtain ⟨v0, r0, e0, h0, v1, r1, e1, h1, e2⟩ := ha
    have h0 : v0 = .string s ∧ (s.size : Int) ≤ int64max := h0
    have h1 : v1 = .int .u8 c ∧ IntKind.u8.has c := h1
    have e2 : r1 = [] := e2
    subst e2
    obtain ⟨ev0, hsz⟩ := h0
    obtain ⟨ev1, hch⟩ := h1
    subst ev0 ev1 e1
    have ea : args = #[.string s, .int .u8 c] := Array.toList_inj.1 e0
    subst ea
    refine (h s c w).mono ?_
    rintro e w' ⟨rfl, rfl⟩
    have hb := indexByte_lt s.data.toList c.toNat.toUInt8
    have hl : s.data.toList.length = s.size := by simp
    have hsz : (s.size : Int) ≤ 9223372036854775807 := hsz
    refine ⟨_, rfl, .inl ⟨[.I (Lib.indexByte s.data.toList c.toNat.toUInt8)], ⟨⟨_, rfl⟩, trivial⟩, rfl, ⟨rfl, ?_⟩, (noHeap : HeapOk _ [] _), ?_, ?_, ⟨rfl, rfl, rfl, Nat.le_refl _, fun _ _ _ => rfl⟩⟩⟩
    · show IntKind.i64.has (Lib.indexByte s.data.toList c.toNat.toUInt8)
      rw [i64_has]
      omega
    · intro b hb
      have hb : b ∈ ([] : List Nat) := hb
      cases hb
    · intro b hb
      have hb : b ∈ ([] : List Nat) := hb
      cases hb

def pst (l : List Int) (i : Nat) : List Int := (List.range 32).map fun j => if 2 * j + 2 ≤ i then l.getD j 0 else if 2 * j + 1 = i then l.getD j 0 / 16 else 0
def HParse.post : List D → Prop
  | [.S s, .Z h, .B ok] => ∀ l : List Int, l.length = 32 → (∀ x ∈ l, 0 ≤ x ∧ x < 256) → s = textOf (hexL l) → ok = true ∧ h = l
  | _ => False
def HParse.sig : Sig := { sigF [.s] [] tru HParse.post with res := .tup [.agg [.ints .u8 32 (.at 1)], .lf (.bool (.at 2))], news := [.Z, .B] }
def HParse.I0 : List D → Prop
  | [.S s, .I i, .Z h] => 0 ≤ i ∧ i ≤ 64 ∧ ∀ l : List Int, l.length = 32 → (∀ x ∈ l, 0 ≤ x ∧ x < 256) → s = textOf (hexL l) → h = pst l i.toNat
  | _ => False
def HParse.I0M : List D → Nat
  | [.S _, .I i, .Z _] => (64 - i).toNat
  | _ => 0
def cmpL : List Int → List Int → Int
  | x :: xs, y :: ys => if x < y then -1 else if x > y then 1 else cmpL xs ys
  | _, _ => 0
def HCmp.post : List D → Prop
  | [.Z a, .Z b, .I r] => r = cmpL a b
  | _ => False
def HCmp.sig : Sig := sigF [.a .u8 32, .a .u8 32] [.i .i64] tru HCmp.post
def HCmp.I0 : List D → Prop
  | [.Z a, .Z b, .I i] => 0 ≤ i ∧ i ≤ 32 ∧ cmpL a b = cmpL (a.drop i.toNat) (b.drop i.toNat)
  | _ => False
def HCmp.I0M : List D → Nat
  | [.Z _, .Z _, .I i] => (32 - i).toNat
  | _ => 0
def LShaBack.sig : Sig := sigF [.a .u8 32, .a .u8 32] [.b] tru yes

end Go.Vc

namespace Go.Vc
set_option linter.unusedVariables false
def HParse.vc : VC :=
 (.all .S
 (.know (.ssz (.at 0))
 (.post 0 [(.at 0)]
 (.all .N
 (.all .N
 (.and
  (.imp (.o1 .not (.o2 .eq (.o1 .slen (.at 0)) (.int 64))) true
  (.ret [(.at 0), (.o2 .lirep (.int 32) (.int 0)), (.bool false)]))
  (.imp (.o1 .not (.o2 .eq (.o1 .slen (.at 0)) (.int 64))) false
  (.inv 0 [(.at 0), (.int 0), (.o2 .lirep (.int 32) (.int 0))]
  (.all .I
  (.all .Z
  (.know (.has .i64 (.at 3))
  (.know (.len (.at 4) 32)
  (.know (.allHas .u8 (.at 4))
  (.asm 0 [(.at 0), (.at 3), (.at 4)]
  (.and
   (.imp (.o2 .lt (.at 3) (.o1 .slen (.at 0))) true
   (.obl (.o2 .le (.int 0) (.at 3))
   (.pre 1 [(.str ⟨#[48, 49, 50, 51, 52, 53, 54, 55, 56, 57, 97, 98, 99, 100, 101, 102]⟩), (.o2 .byte (.at 0) (.at 3))]
   (.all .I
   (.post 1 [(.str ⟨#[48, 49, 50, 51, 52, 53, 54, 55, 56, 57, 97, 98, 99, 100, 101, 102]⟩), (.o2 .byte (.at 0) (.at 3)), (.at 5)]
   (.know (.has .i64 (.at 5))
   (.and
    (.imp (.o2 .lt (.at 5) (.int 0)) true
    (.ret [(.at 0), (.o2 .lirep (.int 32) (.int 0)), (.bool false)]))
    (.imp (.o2 .lt (.at 5) (.int 0)) false
    (.obl (.o2 .le (.int 0) (.o2 (.quo .i64) (.at 3) (.int 2)))
    (.obl (.o2 .lt (.o2 (.quo .i64) (.at 3) (.int 2)) (.int 32))
    (.back 0 [(.at 0), (.at 3), (.at 4)] [(.at 0), (.o2 (.add .i64) (.at 3) (.int 1)), (.o3 .liset (.at 4) (.o2 (.quo .i64) (.at 3) (.int 2)) (.o2 (.bits .or .u8) (.o2 (.shl .u8) (.o2 .liget (.at 4) (.o2 (.quo .i64) (.at 3) (.int 2))) (.int 4)) (.o1 (.wrap .u8) (.at 5))))])))))))))))
   (.imp (.o2 .lt (.at 3) (.o1 .slen (.at 0))) false
   (.ret [(.at 0), (.at 4), (.bool true)])))))))))))))))))
def HParse.Pure : Prop :=
 ∀ (s0 : ByteArray),
 ((s0.size : Int) ≤ 9223372036854775807) →
 HParse.sig.pre [(D.S s0)] →
 ∀ (n1 : Nat),
 ∀ (n2 : Nat),
 ((
  (((s0.size : Nat) : Int) ≠ (64 : Int)) →
  HParse.sig.post [(D.S s0), (D.Z (List.replicate (32 : Int).toNat (0 : Int))), (D.B false)]) ∧ (
  (((s0.size : Nat) : Int) = (64 : Int)) →
  HParse.I0 [(D.S s0), (D.I (0 : Int)), (D.Z (List.replicate (32 : Int).toNat (0 : Int)))] ∧ (
  ∀ (i3 : Int),
  ∀ (z4 : List Int),
  (-9223372036854775808 ≤ i3 ∧ i3 < 9223372036854775808) →
  (z4.length = 32) →
  (∀ x ∈ z4, IntKind.has .u8 x) →
  HParse.I0 [(D.S s0), (D.I i3), (D.Z z4)] →
  ((
   (i3 < ((s0.size : Nat) : Int)) →
   ((0 : Int) ≤ i3) ∧ (((0 : Int) ≤ i3) →
   IxB.sig.pre [(D.S (⟨#[48, 49, 50, 51, 52, 53, 54, 55, 56, 57, 97, 98, 99, 100, 101, 102]⟩ : ByteArray)), (D.I (byteAt s0 i3))] ∧ (
   ∀ (i5 : Int),
   IxB.sig.post [(D.S (⟨#[48, 49, 50, 51, 52, 53, 54, 55, 56, 57, 97, 98, 99, 100, 101, 102]⟩ : ByteArray)), (D.I (byteAt s0 i3)), (D.I i5)] →
   (-9223372036854775808 ≤ i5 ∧ i5 < 9223372036854775808) →
   ((
    (i5 < (0 : Int)) →
    HParse.sig.post [(D.S s0), (D.Z (List.replicate (32 : Int).toNat (0 : Int))), (D.B false)]) ∧ (
    ((0 : Int) ≤ i5) →
    ((0 : Int) ≤ (IntKind.wrap .i64 (Int.tdiv i3 (2 : Int)))) ∧ (((0 : Int) ≤ (IntKind.wrap .i64 (Int.tdiv i3 (2 : Int)))) →
    ((IntKind.wrap .i64 (Int.tdiv i3 (2 : Int))) < (32 : Int)) ∧ (((IntKind.wrap .i64 (Int.tdiv i3 (2 : Int))) < (32 : Int)) →
    HParse.I0 [(D.S s0), (D.I (IntKind.wrap .i64 (i3 + (1 : Int)))), (D.Z (z4.set (IntKind.wrap .i64 (Int.tdiv i3 (2 : Int))).toNat (Go.bits .or .u8 (shlI .u8 (z4.getD (IntKind.wrap .i64 (Int.tdiv i3 (2 : Int))).toNat 0) (4 : Int)) (IntKind.wrap .u8 i5))))] ∧ HParse.I0M [(D.S s0), (D.I (IntKind.wrap .i64 (i3 + (1 : Int)))), (D.Z (z4.set (IntKind.wrap .i64 (Int.tdiv i3 (2 : Int))).toNat (Go.bits .or .u8 (shlI .u8 (z4.getD (IntKind.wrap .i64 (Int.tdiv i3 (2 : Int))).toNat 0) (4 : Int)) (IntKind.wrap .u8 i5))))] < HParse.I0M [(D.S s0), (D.I i3), (D.Z z4)]))))))) ∧ (
   (((s0.size : Nat) : Int) ≤ i3) →
   HParse.sig.post [(D.S s0), (D.Z z4), (D.B true)])))))
theorem HParse.den : HParse.vc.den2 (mkEnv HParse.sig [IxB.sig] [(HParse.I0, HParse.I0M)]) [] = HParse.Pure := by kernel_rfl
def HCmp.vc : VC :=
 (.all .Z
 (.all .Z
 (.know (.len (.at 0) 32)
 (.know (.allHas .u8 (.at 0))
 (.know (.len (.at 1) 32)
 (.know (.allHas .u8 (.at 1))
 (.post 0 [(.at 0), (.at 1)]
 (.all .N
 (.all .N
 (.inv 0 [(.at 0), (.at 1), (.int 0)]
 (.all .I
 (.know (.has .i64 (.at 4))
 (.asm 0 [(.at 0), (.at 1), (.at 4)]
 (.and
  (.imp (.o2 .lt (.at 4) (.int 32)) true
  (.obl (.o2 .le (.int 0) (.at 4))
  (.and
   (.imp (.o2 .lt (.o2 .liget (.at 0) (.at 4)) (.o2 .liget (.at 1) (.at 4))) true
   (.ret [(.at 0), (.at 1), (.int (-1))]))
   (.imp (.o2 .lt (.o2 .liget (.at 0) (.at 4)) (.o2 .liget (.at 1) (.at 4))) false
   (.and
    (.imp (.o2 .lt (.o2 .liget (.at 1) (.at 4)) (.o2 .liget (.at 0) (.at 4))) true
    (.ret [(.at 0), (.at 1), (.int 1)]))
    (.imp (.o2 .lt (.o2 .liget (.at 1) (.at 4)) (.o2 .liget (.at 0) (.at 4))) false
    (.back 0 [(.at 0), (.at 1), (.at 4)] [(.at 0), (.at 1), (.o2 (.add .i64) (.at 4) (.int 1))])))))))
  (.imp (.o2 .lt (.at 4) (.int 32)) false
  (.ret [(.at 0), (.at 1), (.int 0)]))))))))))))))))
def HCmp.Pure : Prop :=
 ∀ (z0 : List Int),
 ∀ (z1 : List Int),
 (z0.length = 32) →
 (∀ x ∈ z0, IntKind.has .u8 x) →
 (z1.length = 32) →
 (∀ x ∈ z1, IntKind.has .u8 x) →
 HCmp.sig.pre [(D.Z z0), (D.Z z1)] →
 ∀ (n2 : Nat),
 ∀ (n3 : Nat),
 HCmp.I0 [(D.Z z0), (D.Z z1), (D.I (0 : Int))] ∧ (
 ∀ (i4 : Int),
 (-9223372036854775808 ≤ i4 ∧ i4 < 9223372036854775808) →
 HCmp.I0 [(D.Z z0), (D.Z z1), (D.I i4)] →
 ((
  (i4 < (32 : Int)) →
  ((0 : Int) ≤ i4) ∧ (((0 : Int) ≤ i4) →
  ((
   ((z0.getD i4.toNat 0) < (z1.getD i4.toNat 0)) →
   HCmp.sig.post [(D.Z z0), (D.Z z1), (D.I (-1 : Int))]) ∧ (
   ((z1.getD i4.toNat 0) ≤ (z0.getD i4.toNat 0)) →
   ((
    ((z1.getD i4.toNat 0) < (z0.getD i4.toNat 0)) →
    HCmp.sig.post [(D.Z z0), (D.Z z1), (D.I (1 : Int))]) ∧ (
    ((z0.getD i4.toNat 0) ≤ (z1.getD i4.toNat 0)) →
    HCmp.I0 [(D.Z z0), (D.Z z1), (D.I (IntKind.wrap .i64 (i4 + (1 : Int))))] ∧ HCmp.I0M [(D.Z z0), (D.Z z1), (D.I (IntKind.wrap .i64 (i4 + (1 : Int))))] < HCmp.I0M [(D.Z z0), (D.Z z1), (D.I i4)])))))) ∧ (
  ((32 : Int) ≤ i4) →
  HCmp.sig.post [(D.Z z0), (D.Z z1), (D.I (0 : Int))])))
theorem HCmp.den : HCmp.vc.den2 (mkEnv HCmp.sig [] [(HCmp.I0, HCmp.I0M)]) [] = HCmp.Pure := by kernel_rfl
def LShaBack.vc : VC :=
 (.all .Z
 (.all .Z
 (.know (.len (.at 0) 32)
 (.know (.allHas .u8 (.at 0))
 (.know (.len (.at 1) 32)
 (.know (.allHas .u8 (.at 1))
 (.post 0 [(.at 0), (.at 1)]
 (.all .N
 (.all .N
 (.pre 1 [(.at 0)]
 (.all .S
 (.post 1 [(.at 0), (.at 4)]
 (.know (.ssz (.at 4))
 (.pre 2 [(.at 4)]
 (.all .Z
 (.all .B
 (.post 2 [(.at 4), (.at 5), (.at 6)]
 (.know (.len (.at 5) 32)
 (.know (.allHas .u8 (.at 5))
 (.all .N
 (.pre 1 [(.at 1)]
 (.all .S
 (.post 1 [(.at 1), (.at 8)]
 (.know (.ssz (.at 8))
 (.pre 2 [(.at 8)]
 (.all .Z
 (.all .B
 (.post 2 [(.at 8), (.at 9), (.at 10)]
 (.know (.len (.at 9) 32)
 (.know (.allHas .u8 (.at 9))
 (.all .N
 (.and
  (.and
   (.pre 1 [(.at 0)]
   (.all .S
   (.post 1 [(.at 0), (.at 12)]
   (.know (.ssz (.at 12))
   (.pre 1 [(.at 1)]
   (.all .S
   (.post 1 [(.at 1), (.at 13)]
   (.know (.ssz (.at 13))
   (.pre 4 []
   (.all .B
   (.post 4 [(.at 14)]
   (.and
    (.imp (.at 14) true
    (.and
     (.imp (.at 6) true
     (.and
      (.imp (.at 10) true
      (.and
       (.imp (.o2 .eqli (.at 5) (.at 0)) true
       (.and
        (.imp (.o2 .eqli (.at 9) (.at 1)) true
        (.pre 3 [(.at 0), (.at 1)]
        (.all .I
        (.post 3 [(.at 0), (.at 1), (.at 15)]
        (.know (.has .i64 (.at 15))
        (.and
         (.imp (.o2 .eqb (.o2 .lts (.at 12) (.at 13)) (.o2 .lt (.at 15) (.int 0))) true
         (.pre 3 [(.at 0), (.at 1)]
         (.all .I
         (.post 3 [(.at 0), (.at 1), (.at 16)]
         (.know (.has .i64 (.at 16))
         (.pre 3 [(.at 1), (.at 0)]
         (.all .I
         (.post 3 [(.at 1), (.at 0), (.at 17)]
         (.know (.has .i64 (.at 17))
         (.ret [(.at 0), (.at 1), (.o2 .eq (.at 16) (.o2 (.sub .i64) (.int 0) (.at 17)))]))))))))))
         (.imp (.o2 .eqb (.o2 .lts (.at 12) (.at 13)) (.o2 .lt (.at 15) (.int 0))) false
         (.ret [(.at 0), (.at 1), (.bool false)]))))))))
        (.imp (.o2 .eqli (.at 9) (.at 1)) false
        (.ret [(.at 0), (.at 1), (.bool false)]))))
       (.imp (.o2 .eqli (.at 5) (.at 0)) false
       (.ret [(.at 0), (.at 1), (.bool false)]))))
      (.imp (.at 10) false
      (.ret [(.at 0), (.at 1), (.bool false)]))))
     (.imp (.at 6) false
     (.ret [(.at 0), (.at 1), (.bool false)]))))
    (.imp (.at 14) false
    (.ret [(.at 0), (.at 1), (.bool false)]))))))))))))))
   (.pre 1 [(.at 0)]
   (.all .S
   (.post 1 [(.at 0), (.at 12)]
   (.know (.ssz (.at 12))
   (.pre 1 [(.at 1)]
   (.all .S
   (.post 1 [(.at 1), (.at 13)]
   (.know (.ssz (.at 13))
   (.pre 4 []
   (.all .B
   (.post 4 [(.at 14)]
   (.and
    (.imp (.at 14) true
    (.and
     (.imp (.at 6) true
     (.and
      (.imp (.at 10) true
      (.and
       (.imp (.o2 .eqli (.at 5) (.at 0)) true
       (.and
        (.imp (.o2 .eqli (.at 9) (.at 1)) true
        (.pre 3 [(.at 0), (.at 1)]
        (.all .I
        (.post 3 [(.at 0), (.at 1), (.at 15)]
        (.know (.has .i64 (.at 15))
        (.and
         (.imp (.o2 .eqb (.o2 .lts (.at 12) (.at 13)) (.o2 .lt (.at 15) (.int 0))) true
         (.pre 3 [(.at 0), (.at 1)]
         (.all .I
         (.post 3 [(.at 0), (.at 1), (.at 16)]
         (.know (.has .i64 (.at 16))
         (.pre 3 [(.at 1), (.at 0)]
         (.all .I
         (.post 3 [(.at 1), (.at 0), (.at 17)]
         (.know (.has .i64 (.at 17))
         (.ret [(.at 0), (.at 1), (.o2 .eq (.at 16) (.o2 (.sub .i64) (.int 0) (.at 17)))]))))))))))
         (.imp (.o2 .eqb (.o2 .lts (.at 12) (.at 13)) (.o2 .lt (.at 15) (.int 0))) false
         (.ret [(.at 0), (.at 1), (.bool false)]))))))))
        (.imp (.o2 .eqli (.at 9) (.at 1)) false
        (.ret [(.at 0), (.at 1), (.bool false)]))))
       (.imp (.o2 .eqli (.at 5) (.at 0)) false
       (.ret [(.at 0), (.at 1), (.bool false)]))))
      (.imp (.at 10) false
      (.ret [(.at 0), (.at 1), (.bool false)]))))
     (.imp (.at 6) false
     (.ret [(.at 0), (.at 1), (.bool false)]))))
    (.imp (.at 14) false
    (.ret [(.at 0), (.at 1), (.bool false)])))))))))))))))
  (.pre 1 [(.at 0)]
  (.all .S
  (.post 1 [(.at 0), (.at 12)]
  (.know (.ssz (.at 12))
  (.pre 1 [(.at 1)]
  (.all .S
  (.post 1 [(.at 1), (.at 13)]
  (.know (.ssz (.at 13))
  (.pre 4 []
  (.all .B
  (.post 4 [(.at 14)]
  (.and
   (.imp (.at 14) true
   (.and
    (.imp (.at 6) true
    (.and
     (.imp (.at 10) true
     (.and
      (.imp (.o2 .eqli (.at 5) (.at 0)) true
      (.and
       (.imp (.o2 .eqli (.at 9) (.at 1)) true
       (.pre 3 [(.at 0), (.at 1)]
       (.all .I
       (.post 3 [(.at 0), (.at 1), (.at 15)]
       (.know (.has .i64 (.at 15))
       (.and
        (.imp (.o2 .eqb (.o2 .lts (.at 12) (.at 13)) (.o2 .lt (.at 15) (.int 0))) true
        (.pre 3 [(.at 0), (.at 1)]
        (.all .I
        (.post 3 [(.at 0), (.at 1), (.at 16)]
        (.know (.has .i64 (.at 16))
        (.pre 3 [(.at 1), (.at 0)]
        (.all .I
        (.post 3 [(.at 1), (.at 0), (.at 17)]
        (.know (.has .i64 (.at 17))
        (.ret [(.at 0), (.at 1), (.o2 .eq (.at 16) (.o2 (.sub .i64) (.int 0) (.at 17)))]))))))))))
        (.imp (.o2 .eqb (.o2 .lts (.at 12) (.at 13)) (.o2 .lt (.at 15) (.int 0))) false
        (.ret [(.at 0), (.at 1), (.bool false)]))))))))
       (.imp (.o2 .eqli (.at 9) (.at 1)) false
       (.ret [(.at 0), (.at 1), (.bool false)]))))
      (.imp (.o2 .eqli (.at 5) (.at 0)) false
      (.ret [(.at 0), (.at 1), (.bool false)]))))
     (.imp (.at 10) false
     (.ret [(.at 0), (.at 1), (.bool false)]))))
    (.imp (.at 6) false
    (.ret [(.at 0), (.at 1), (.bool false)]))))
   (.imp (.at 14) false
   (.ret [(.at 0), (.at 1), (.bool false)]))))))))))))))))))))))))))))))))))))))))))))))
def LShaBack.Pure : Prop :=
 ∀ (z0 : List Int),
 ∀ (z1 : List Int),
 (z0.length = 32) →
 (∀ x ∈ z0, IntKind.has .u8 x) →
 (z1.length = 32) →
 (∀ x ∈ z1, IntKind.has .u8 x) →
 LShaBack.sig.pre [(D.Z z0), (D.Z z1)] →
 ∀ (n2 : Nat),
 ∀ (n3 : Nat),
 HText.sig.pre [(D.Z z0)] ∧ (
 ∀ (s4 : ByteArray),
 HText.sig.post [(D.Z z0), (D.S s4)] →
 ((s4.size : Int) ≤ 9223372036854775807) →
 HParse.sig.pre [(D.S s4)] ∧ (
 ∀ (z5 : List Int),
 ∀ (b6 : Bool),
 HParse.sig.post [(D.S s4), (D.Z z5), (D.B b6)] →
 (z5.length = 32) →
 (∀ x ∈ z5, IntKind.has .u8 x) →
 ∀ (n7 : Nat),
 HText.sig.pre [(D.Z z1)] ∧ (
 ∀ (s8 : ByteArray),
 HText.sig.post [(D.Z z1), (D.S s8)] →
 ((s8.size : Int) ≤ 9223372036854775807) →
 HParse.sig.pre [(D.S s8)] ∧ (
 ∀ (z9 : List Int),
 ∀ (b10 : Bool),
 HParse.sig.post [(D.S s8), (D.Z z9), (D.B b10)] →
 (z9.length = 32) →
 (∀ x ∈ z9, IntKind.has .u8 x) →
 ∀ (n11 : Nat),
 ((
  ((
   HText.sig.pre [(D.Z z0)] ∧ (
   ∀ (s12 : ByteArray),
   HText.sig.post [(D.Z z0), (D.S s12)] →
   ((s12.size : Int) ≤ 9223372036854775807) →
   HText.sig.pre [(D.Z z1)] ∧ (
   ∀ (s13 : ByteArray),
   HText.sig.post [(D.Z z1), (D.S s13)] →
   ((s13.size : Int) ≤ 9223372036854775807) →
   Awake03.sig.pre [] ∧ (
   ∀ (b14 : Bool),
   Awake03.sig.post [(D.B b14)] →
   ((
    (b14 = true) →
    ((
     (b6 = true) →
     ((
      (b10 = true) →
      ((
       ((z5 == z0) = true) →
       ((
        ((z9 == z1) = true) →
        HCmp.sig.pre [(D.Z z0), (D.Z z1)] ∧ (
        ∀ (i15 : Int),
        HCmp.sig.post [(D.Z z0), (D.Z z1), (D.I i15)] →
        (-9223372036854775808 ≤ i15 ∧ i15 < 9223372036854775808) →
        ((
         ((Op.bytesLess s12.toList s13.toList) = (decide (i15 < (0 : Int)))) →
         HCmp.sig.pre [(D.Z z0), (D.Z z1)] ∧ (
         ∀ (i16 : Int),
         HCmp.sig.post [(D.Z z0), (D.Z z1), (D.I i16)] →
         (-9223372036854775808 ≤ i16 ∧ i16 < 9223372036854775808) →
         HCmp.sig.pre [(D.Z z1), (D.Z z0)] ∧ (
         ∀ (i17 : Int),
         HCmp.sig.post [(D.Z z1), (D.Z z0), (D.I i17)] →
         (-9223372036854775808 ≤ i17 ∧ i17 < 9223372036854775808) →
         LShaBack.sig.post [(D.Z z0), (D.Z z1), (D.B (i16 == (IntKind.wrap .i64 ((0 : Int) - i17))))]))) ∧ (
         ((Op.bytesLess s12.toList s13.toList) ≠ (decide (i15 < (0 : Int)))) →
         LShaBack.sig.post [(D.Z z0), (D.Z z1), (D.B false)])))) ∧ (
        ((z9 == z1) = false) →
        LShaBack.sig.post [(D.Z z0), (D.Z z1), (D.B false)]))) ∧ (
       ((z5 == z0) = false) →
       LShaBack.sig.post [(D.Z z0), (D.Z z1), (D.B false)]))) ∧ (
      (b10 = false) →
      LShaBack.sig.post [(D.Z z0), (D.Z z1), (D.B false)]))) ∧ (
     (b6 = false) →
     LShaBack.sig.post [(D.Z z0), (D.Z z1), (D.B false)]))) ∧ (
    (b14 = false) →
    LShaBack.sig.post [(D.Z z0), (D.Z z1), (D.B false)])))))) ∧ (
   HText.sig.pre [(D.Z z0)] ∧ (
   ∀ (s12 : ByteArray),
   HText.sig.post [(D.Z z0), (D.S s12)] →
   ((s12.size : Int) ≤ 9223372036854775807) →
   HText.sig.pre [(D.Z z1)] ∧ (
   ∀ (s13 : ByteArray),
   HText.sig.post [(D.Z z1), (D.S s13)] →
   ((s13.size : Int) ≤ 9223372036854775807) →
   Awake03.sig.pre [] ∧ (
   ∀ (b14 : Bool),
   Awake03.sig.post [(D.B b14)] →
   ((
    (b14 = true) →
    ((
     (b6 = true) →
     ((
      (b10 = true) →
      ((
       ((z5 == z0) = true) →
       ((
        ((z9 == z1) = true) →
        HCmp.sig.pre [(D.Z z0), (D.Z z1)] ∧ (
        ∀ (i15 : Int),
        HCmp.sig.post [(D.Z z0), (D.Z z1), (D.I i15)] →
        (-9223372036854775808 ≤ i15 ∧ i15 < 9223372036854775808) →
        ((
         ((Op.bytesLess s12.toList s13.toList) = (decide (i15 < (0 : Int)))) →
         HCmp.sig.pre [(D.Z z0), (D.Z z1)] ∧ (
         ∀ (i16 : Int),
         HCmp.sig.post [(D.Z z0), (D.Z z1), (D.I i16)] →
         (-9223372036854775808 ≤ i16 ∧ i16 < 9223372036854775808) →
         HCmp.sig.pre [(D.Z z1), (D.Z z0)] ∧ (
         ∀ (i17 : Int),
         HCmp.sig.post [(D.Z z1), (D.Z z0), (D.I i17)] →
         (-9223372036854775808 ≤ i17 ∧ i17 < 9223372036854775808) →
         LShaBack.sig.post [(D.Z z0), (D.Z z1), (D.B (i16 == (IntKind.wrap .i64 ((0 : Int) - i17))))]))) ∧ (
         ((Op.bytesLess s12.toList s13.toList) ≠ (decide (i15 < (0 : Int)))) →
         LShaBack.sig.post [(D.Z z0), (D.Z z1), (D.B false)])))) ∧ (
        ((z9 == z1) = false) →
        LShaBack.sig.post [(D.Z z0), (D.Z z1), (D.B false)]))) ∧ (
       ((z5 == z0) = false) →
       LShaBack.sig.post [(D.Z z0), (D.Z z1), (D.B false)]))) ∧ (
      (b10 = false) →
      LShaBack.sig.post [(D.Z z0), (D.Z z1), (D.B false)]))) ∧ (
     (b6 = false) →
     LShaBack.sig.post [(D.Z z0), (D.Z z1), (D.B false)]))) ∧ (
    (b14 = false) →
    LShaBack.sig.post [(D.Z z0), (D.Z z1), (D.B false)])))))))) ∧ (
  HText.sig.pre [(D.Z z0)] ∧ (
  ∀ (s12 : ByteArray),
  HText.sig.post [(D.Z z0), (D.S s12)] →
  ((s12.size : Int) ≤ 9223372036854775807) →
  HText.sig.pre [(D.Z z1)] ∧ (
  ∀ (s13 : ByteArray),
  HText.sig.post [(D.Z z1), (D.S s13)] →
  ((s13.size : Int) ≤ 9223372036854775807) →
  Awake03.sig.pre [] ∧ (
  ∀ (b14 : Bool),
  Awake03.sig.post [(D.B b14)] →
  ((
   (b14 = true) →
   ((
    (b6 = true) →
    ((
     (b10 = true) →
     ((
      ((z5 == z0) = true) →
      ((
       ((z9 == z1) = true) →
       HCmp.sig.pre [(D.Z z0), (D.Z z1)] ∧ (
       ∀ (i15 : Int),
       HCmp.sig.post [(D.Z z0), (D.Z z1), (D.I i15)] →
       (-9223372036854775808 ≤ i15 ∧ i15 < 9223372036854775808) →
       ((
        ((Op.bytesLess s12.toList s13.toList) = (decide (i15 < (0 : Int)))) →
        HCmp.sig.pre [(D.Z z0), (D.Z z1)] ∧ (
        ∀ (i16 : Int),
        HCmp.sig.post [(D.Z z0), (D.Z z1), (D.I i16)] →
        (-9223372036854775808 ≤ i16 ∧ i16 < 9223372036854775808) →
        HCmp.sig.pre [(D.Z z1), (D.Z z0)] ∧ (
        ∀ (i17 : Int),
        HCmp.sig.post [(D.Z z1), (D.Z z0), (D.I i17)] →
        (-9223372036854775808 ≤ i17 ∧ i17 < 9223372036854775808) →
        LShaBack.sig.post [(D.Z z0), (D.Z z1), (D.B (i16 == (IntKind.wrap .i64 ((0 : Int) - i17))))]))) ∧ (
        ((Op.bytesLess s12.toList s13.toList) ≠ (decide (i15 < (0 : Int)))) →
        LShaBack.sig.post [(D.Z z0), (D.Z z1), (D.B false)])))) ∧ (
       ((z9 == z1) = false) →
       LShaBack.sig.post [(D.Z z0), (D.Z z1), (D.B false)]))) ∧ (
      ((z5 == z0) = false) →
      LShaBack.sig.post [(D.Z z0), (D.Z z1), (D.B false)]))) ∧ (
     (b10 = false) →
     LShaBack.sig.post [(D.Z z0), (D.Z z1), (D.B false)]))) ∧ (
    (b6 = false) →
    LShaBack.sig.post [(D.Z z0), (D.Z z1), (D.B false)]))) ∧ (
   (b14 = false) →
   LShaBack.sig.post [(D.Z z0), (D.Z z1), (D.B false)])))))))))))
theorem LShaBack.den : LShaBack.vc.den2 (mkEnv LShaBack.sig [HText.sig, HParse.sig, HCmp.sig, Awake03.sig] []) [] = LShaBack.Pure := by kernel_rfl
end Go.Vc

namespace Go.Vc

theorem hexD_has {d : Int} (h : 0 ≤ d ∧ d < 16) : 48 ≤ hexD d ∧ hexD d < 103 := by unfold hexD; split <;> omega
theorem hexD_lt {d e : Int} (_hd : 0 ≤ d ∧ d < 16) (_he : 0 ≤ e ∧ e < 16) : hexD d < hexD e ↔ d < e := by unfold hexD; split <;> split <;> omega

theorem hexL_has : ∀ {l : List Int}, (∀ x ∈ l, 0 ≤ x ∧ x < 256) → ∀ x ∈ hexL l, 0 ≤ x ∧ x < 256
  | [], _, x, hx => by simp [hexL] at hx
  | c :: l, h, x, hx => by
    have hc := h c (by simp)
    have h1 := hexD_has (d := c / 16) (by omega)
    have h2 := hexD_has (d := c % 16) (by omega)
    simp only [hexL, List.flatMap_cons, List.mem_append, List.mem_cons, List.not_mem_nil, or_false] at hx
    rcases hx with (rfl | rfl) | hx
    · omega
    · omega
    · exact hexL_has (fun y hy => h y (by simp [hy])) x hx

theorem hexL_get : ∀ (l : List Int) (i : Nat), i < 2 * l.length → (hexL l).getD i 0 = hexD (if i % 2 = 0 then l.getD (i / 2) 0 / 16 else l.getD (i / 2) 0 % 16)
  | [], i, h => by simp at h
  | c :: l, 0, _ => by simp [hexL]
  | c :: l, 1, _ => by simp [hexL]
  | c :: l, i + 2, h => by
    have := hexL_get l i (by simp only [List.length_cons] at h; omega)
    have e1 : (i + 2) % 2 = i % 2 := by omega
    have e2 : (i + 2) / 2 = i / 2 + 1 := by omega
    rw [e1, e2, List.getD_cons_succ, ← this]
    simp [hexL]

theorem ix_all : ∀ n : Fin 16, Lib.indexByte (⟨#[48, 49, 50, 51, 52, 53, 54, 55, 56, 57, 97, 98, 99, 100, 101, 102]⟩ : ByteArray).data.toList (hexD ((n.val : Nat) : Int)).toNat.toUInt8 = ((n.val : Nat) : Int) := by decide +kernel
theorem ix_is {d : Int} (h : 0 ≤ d ∧ d < 16) : Lib.indexByte (⟨#[48, 49, 50, 51, 52, 53, 54, 55, 56, 57, 97, 98, 99, 100, 101, 102]⟩ : ByteArray).data.toList (hexD d).toNat.toUInt8 = d := by
  have := ix_all ⟨d.toNat, by omega⟩
  simp only [show ((d.toNat : Nat) : Int) = d from by omega] at this
  exact this
theorem nib_all : ∀ q v : Fin 16, Go.bits .or .u8 (shlI .u8 ((q.val : Nat) : Int) 4) (IntKind.wrap .u8 ((v.val : Nat) : Int)) = ((q.val : Nat) : Int) * 16 + ((v.val : Nat) : Int) := by decide +kernel
theorem nib_is {q v : Int} (hq : 0 ≤ q ∧ q < 16) (hv : 0 ≤ v ∧ v < 16) : Go.bits .or .u8 (shlI .u8 q 4) (IntKind.wrap .u8 v) = q * 16 + v := by
  have := nib_all ⟨q.toNat, by omega⟩ ⟨v.toNat, by omega⟩
  simp only [show ((q.toNat : Nat) : Int) = q from by omega, show ((v.toNat : Nat) : Int) = v from by omega] at this
  exact this

theorem pst_len (l : List Int) (i : Nat) : (pst l i).length = 32 := by simp [pst]
theorem pst_get {l : List Int} {i j : Nat} (h : j < 32) : (pst l i).getD j 0 = if 2 * j + 2 ≤ i then l.getD j 0 else if 2 * j + 1 = i then l.getD j 0 / 16 else 0 := by
  simp [pst, List.getD, h]
theorem ext_getD {a b : List Int} (hl : a.length = b.length) (h : ∀ j, j < a.length → a.getD j 0 = b.getD j 0) : a = b := by
  apply List.ext_getElem hl
  intro j h1 h2
  have := h j h1
  simpa [List.getD, h1, h2] using this
theorem getD_put (l : List Int) (i j : Nat) (v : Int) (h : i < l.length) : (l.set i v).getD j 0 = if j = i then v else l.getD j 0 := by
  simp only [List.getD, List.getElem?_set]
  by_cases c : i = j
  · subst c; simp [h]
  · have : ¬ j = i := fun e => c e.symm
    simp [c, this]
theorem pst_zero (l : List Int) : pst l 0 = List.replicate 32 0 := by
  refine ext_getD (by simp [pst]) fun j hj => ?_
  rw [pst_len] at hj
  rw [pst_get hj, if_neg (by omega), if_neg (by omega), List.getD, List.getElem?_replicate, if_pos hj]
  rfl
theorem pst_full {l : List Int} (h : l.length = 32) : pst l 64 = l := by
  refine ext_getD (by rw [pst_len, h]) fun j hj => ?_
  rw [pst_len] at hj
  rw [pst_get hj, if_pos (by omega)]
theorem pst_next {l : List Int} {i : Nat} {v : Int} (hi : i < 64) (hl : ∀ j, j < 32 → 0 ≤ l.getD j 0 ∧ l.getD j 0 < 256) (hv : v = if i % 2 = 0 then l.getD (i / 2) 0 / 16 else l.getD (i / 2) 0 % 16) :
    (pst l i).set (i / 2) (Go.bits .or .u8 (shlI .u8 ((pst l i).getD (i / 2) 0) 4) (IntKind.wrap .u8 v)) = pst l (i + 1) := by
  have hb := hl (i / 2) (by omega)
  refine ext_getD (by simp [pst]) fun j hj => ?_
  have hj : j < 32 := by simpa [pst] using hj
  rw [getD_put _ _ _ _ (by rw [pst_len]; omega), pst_get hj]
  split
  · rename_i e
    subst e
    rw [pst_get hj]
    by_cases c : i % 2 = 0
    · rw [if_pos c] at hv
      rw [if_neg (by omega), if_neg (by omega), nib_is (by omega) (by omega), pst_get hj, if_neg (by omega), if_pos (by omega), hv]
      omega
    · rw [if_neg c] at hv
      rw [if_neg (by omega), if_pos (by omega), nib_is (by omega) (by omega), pst_get hj, if_pos (by omega), hv]
      omega
  · rename_i e
    rw [pst_get hj]
    by_cases c : 2 * j + 2 ≤ i
    · rw [if_pos c, if_pos (by omega)]
    · rw [if_neg c, if_neg (by omega : ¬ 2 * j + 1 = i), if_neg (by omega), if_neg (by omega)]

theorem HParse.pure : HParse.Pure := by
  intro s0 h1 h2 n1 n2
  have szl : ∀ l : List Int, l.length = 32 → s0 = textOf (hexL l) → s0.size = 64 := by
    intro l hl he
    rw [he, size_textOf, hexL_len, hl]
  refine ⟨fun h3 => ?_, fun h3 => ⟨⟨by decide, by decide, fun l hl _ _ => (pst_zero l).symm⟩, ?_⟩⟩
  · intro l hl hh he
    have := szl l hl he
    exact absurd (by omega) h3
  intro i3 z4 h4 h5 h6 h7
  obtain ⟨a1, a2, a3⟩ : 0 ≤ i3 ∧ i3 ≤ 64 ∧ ∀ l : List Int, l.length = 32 → (∀ x ∈ l, 0 ≤ x ∧ x < 256) → s0 = textOf (hexL l) → z4 = pst l i3.toNat := h7
  refine ⟨fun h8 => ⟨a1, fun h9 => ⟨trivial, ?_⟩⟩, fun h8 => ?_⟩
  · intro i5 h10 h11
    have h10 : i5 = Lib.indexByte (⟨#[48, 49, 50, 51, 52, 53, 54, 55, 56, 57, 97, 98, 99, 100, 101, 102]⟩ : ByteArray).data.toList (byteAt s0 i3).toNat.toUInt8 := h10
    have key : ∀ l : List Int, l.length = 32 → (∀ x ∈ l, 0 ≤ x ∧ x < 256) → s0 = textOf (hexL l) → (∀ j, j < 32 → 0 ≤ l.getD j 0 ∧ l.getD j 0 < 256) ∧ i5 = if i3.toNat % 2 = 0 then l.getD (i3.toNat / 2) 0 / 16 else l.getD (i3.toNat / 2) 0 % 16 := by
      intro l hl hh he
      have hg : ∀ j, j < 32 → 0 ≤ l.getD j 0 ∧ l.getD j 0 < 256 := by
        intro j hj
        rw [List.getD, List.getElem?_eq_getElem (by omega)]
        exact hh _ (List.getElem_mem _)
      refine ⟨hg, ?_⟩
      have hb := hg (i3.toNat / 2) (by omega)
      rw [h10, byteAt_eq, he, bytesOf_textOf (hexL_has hh), hexL_get _ _ (by omega), ix_is (by split <;> omega)]
    refine ⟨fun h12 => ?_, fun h12 => ?_⟩
    · intro l hl hh he
      obtain ⟨hg, e⟩ := key l hl hh he
      have hb := hg (i3.toNat / 2) (by omega)
      split at e <;> omega
    · have ed : IntKind.wrap .i64 (Int.tdiv i3 2) = i3 / 2 := by
        rw [Int.tdiv_eq_ediv_of_nonneg a1]; exact i64w (by omega) (by omega)
      have ei : IntKind.wrap .i64 (i3 + 1) = i3 + 1 := i64w (by omega) (by omega)
      rw [ed, ei]
      refine ⟨by omega, fun _ => ⟨by omega, fun _ => ⟨⟨by omega, by omega, fun l hl hh he => ?_⟩, ?_⟩⟩⟩
      · obtain ⟨hg, e⟩ := key l hl hh he
        rw [a3 l hl hh he, show (i3 / 2).toNat = i3.toNat / 2 from by omega, show (i3 + 1).toNat = i3.toNat + 1 from by omega]
        exact pst_next (by omega) hg e
      · show (64 - (i3 + 1)).toNat < (64 - i3).toNat
        omega
  · intro l hl hh he
    refine ⟨rfl, ?_⟩
    rw [a3 l hl hh he, show i3.toNat = 64 from by omega, pst_full hl]

theorem cmp_at {a b : List Int} {i : Nat} (ha : i < a.length) (hb : i < b.length) : cmpL (a.drop i) (b.drop i) = if a.getD i 0 < b.getD i 0 then -1 else if a.getD i 0 > b.getD i 0 then 1 else cmpL (a.drop (i + 1)) (b.drop (i + 1)) := by
  rw [List.drop_eq_getElem_cons ha, List.drop_eq_getElem_cons hb]
  simp [cmpL, List.getD, ha, hb]

theorem HCmp.pure : HCmp.Pure := by
  intro z0 z1 h1 h2 h3 h4 h5 n2 n3
  refine ⟨⟨by decide, by decide, rfl⟩, ?_⟩
  intro i4 h6 h7
  obtain ⟨a1, a2, a3⟩ : 0 ≤ i4 ∧ i4 ≤ 32 ∧ cmpL z0 z1 = cmpL (z0.drop i4.toNat) (z1.drop i4.toNat) := h7
  refine ⟨fun h8 => ⟨a1, fun h9 => ⟨fun h10 => ?_, fun h10 => ⟨fun h11 => ?_, fun h11 => ?_⟩⟩⟩, fun h8 => ?_⟩
  · show (-1 : Int) = cmpL z0 z1
    rw [a3, cmp_at (by omega) (by omega), if_pos h10]
  · show (1 : Int) = cmpL z0 z1
    rw [a3, cmp_at (by omega) (by omega), if_neg (by omega), if_pos h11]
  · have ei : IntKind.wrap .i64 (i4 + 1) = i4 + 1 := i64w (by omega) (by omega)
    rw [ei]
    refine ⟨⟨by omega, by omega, ?_⟩, ?_⟩
    · rw [a3, cmp_at (by omega) (by omega), if_neg (by omega), if_neg (by omega), show (i4 + 1).toNat = i4.toNat + 1 from by omega]
    · show (32 - (i4 + 1)).toNat < (32 - i4).toNat
      omega
  · show (0 : Int) = cmpL z0 z1
    rw [a3, List.drop_eq_nil_of_le (by omega)]
    rfl

/-! ### texts are ordered as sums -/
def u8 (x : Int) : UInt8 := UInt8.ofNat x.toNat
theorem u8_toNat {x : Int} (h : 0 ≤ x ∧ x < 256) : (u8 x).toNat = x.toNat := by
  have : (UInt8.ofNat x.toNat).toNat = x.toNat % 256 := by simp
  rw [u8, this]; omega
theorem u8_lt {x y : Int} (hx : 0 ≤ x ∧ x < 256) (hy : 0 ≤ y ∧ y < 256) : u8 x < u8 y ↔ x < y := by
  rw [UInt8.lt_iff_toNat_lt, u8_toNat hx, u8_toNat hy]; omega
theorem u8_eq {x y : Int} (hx : 0 ≤ x ∧ x < 256) (hy : 0 ≤ y ∧ y < 256) : u8 x = u8 y ↔ x = y := by
  rw [← UInt8.toNat_inj, u8_toNat hx, u8_toNat hy]; omega

theorem less_step {x y : Int} (hx : 0 ≤ x ∧ x < 256) (hy : 0 ≤ y ∧ y < 256) (a b : List UInt8) :
    Op.bytesLess (u8 x :: a) (u8 y :: b) = if x < y then true else if x = y then Op.bytesLess a b else false := by
  rw [Op.bytesLess]
  by_cases c : x < y
  · simp [c, (u8_lt hx hy).2 c]
  · by_cases e : x = y
    · subst e; simp
    · have h1 : ¬ u8 x < u8 y := fun h => c ((u8_lt hx hy).1 h)
      have h2 : ¬ u8 x = u8 y := fun h => e ((u8_eq hx hy).1 h)
      simp [c, e, h1, h2]

theorem less_hex : ∀ {a b : List Int}, a.length = b.length → (∀ x ∈ a, 0 ≤ x ∧ x < 256) → (∀ x ∈ b, 0 ≤ x ∧ x < 256) → Op.bytesLess ((hexL a).map u8) ((hexL b).map u8) = decide (cmpL a b < 0)
  | [], [], _, _, _ => by simp [hexL, Op.bytesLess, cmpL]
  | [], _ :: _, h, _, _ => by simp at h
  | _ :: _, [], h, _, _ => by simp at h
  | x :: a, y :: b, h, ha, hb => by
    have ih := less_hex (a := a) (b := b) (by simpa using h) (fun z hz => ha z (by simp [hz])) (fun z hz => hb z (by simp [hz]))
    have hx := ha x (by simp)
    have hy := hb y (by simp)
    have e1 : (hexL (x :: a)).map u8 = u8 (hexD (x / 16)) :: u8 (hexD (x % 16)) :: (hexL a).map u8 := by simp [hexL]
    have e2 : (hexL (y :: b)).map u8 = u8 (hexD (y / 16)) :: u8 (hexD (y % 16)) :: (hexL b).map u8 := by simp [hexL]
    have d1 := hexD_has (d := x / 16) (by omega)
    have d2 := hexD_has (d := x % 16) (by omega)
    have d3 := hexD_has (d := y / 16) (by omega)
    have d4 := hexD_has (d := y % 16) (by omega)
    have l1 := hexD_lt (d := x / 16) (e := y / 16) (by omega) (by omega)
    have l2 := hexD_lt (d := y / 16) (e := x / 16) (by omega) (by omega)
    have l3 := hexD_lt (d := x % 16) (e := y % 16) (by omega) (by omega)
    have l4 := hexD_lt (d := y % 16) (e := x % 16) (by omega) (by omega)
    rw [e1, e2, less_step (by omega) (by omega), less_step (by omega) (by omega), ih, cmpL]
    generalize hexD (x / 16) = p at *
    generalize hexD (x % 16) = q at *
    generalize hexD (y / 16) = r at *
    generalize hexD (y % 16) = t at *
    by_cases c : x < y
    · rw [if_pos c]
      by_cases c1 : p < r
      · rw [if_pos c1]; rfl
      · rw [if_neg c1, if_pos (by omega), if_pos (by omega)]; rfl
    · rw [if_neg c]
      by_cases c2 : x > y
      · rw [if_pos c2, if_neg (by omega)]
        by_cases c3 : p = r
        · rw [if_pos c3, if_neg (by omega), if_neg (by omega)]; rfl
        · rw [if_neg c3]; rfl
      · rw [if_neg c2, if_neg (by omega), if_pos (by omega), if_neg (by omega), if_pos (by omega)]

theorem cmp_swap : ∀ (a b : List Int), cmpL a b = -cmpL b a
  | [], [] => rfl
  | [], _ :: _ => rfl
  | _ :: _, [] => rfl
  | x :: a, y :: b => by
    have ih := cmp_swap a b
    simp only [cmpL]
    split <;> split <;> (try split) <;> (try split) <;> omega
theorem cmp_range : ∀ (a b : List Int), -1 ≤ cmpL a b ∧ cmpL a b ≤ 1
  | [], [] => by simp [cmpL]
  | [], _ :: _ => by simp [cmpL]
  | _ :: _, [] => by simp [cmpL]
  | x :: a, y :: b => by
    have ih := cmp_range a b
    simp only [cmpL]
    split
    · omega
    · split <;> omega

theorem toList_textOf (l : List Int) : (textOf l).toList = l.map u8 := by
  rw [ByteArray.toList_eq]; simp [textOf, u8]

theorem LShaBack.pure : LShaBack.Pure := by
  intro z0 z1 h1 h2 h3 h4 h5 n2 n3
  have ha : ∀ x ∈ z0, 0 ≤ x ∧ x < 256 := fun x hx => has_in.1 (h2 x hx)
  have hb : ∀ x ∈ z1, 0 ≤ x ∧ x < 256 := fun x hx => has_in.1 (h4 x hx)
  refine ⟨trivial, ?_⟩
  intro s4 h6 h7
  have h6 : s4 = textOf (hexL z0) := h6
  refine ⟨trivial, ?_⟩
  intro z5 b6 h8 h9 h10 n7
  obtain ⟨p1, p2⟩ : b6 = true ∧ z5 = z0 := h8 z0 h1 ha h6
  refine ⟨trivial, ?_⟩
  intro s8 h11 h12
  have h11 : s8 = textOf (hexL z1) := h11
  refine ⟨trivial, ?_⟩
  intro z9 b10 h13 h14 h15 n11
  obtain ⟨p3, p4⟩ : b10 = true ∧ z9 = z1 := h13 z1 h3 hb h11
  subst p1 p2 p3 p4
  have tail : ∀ s12 s13 : ByteArray, HText.sig.post [(D.Z z5), (D.S s12)] → HText.sig.post [(D.Z z9), (D.S s13)] → ∀ i15 : Int, HCmp.sig.post [(D.Z z5), (D.Z z9), (D.I i15)] → Op.bytesLess s12.toList s13.toList = decide (i15 < (0 : Int)) := by
    intro s12 s13 e1 e2 i15 e3
    have e1 : s12 = textOf (hexL z5) := e1
    have e2 : s13 = textOf (hexL z9) := e2
    have e3 : i15 = cmpL z5 z9 := e3
    rw [e1, e2, e3, toList_textOf, toList_textOf]
    exact less_hex (by omega) ha hb
  have last : ∀ i16 i17 : Int, HCmp.sig.post [(D.Z z5), (D.Z z9), (D.I i16)] → HCmp.sig.post [(D.Z z9), (D.Z z5), (D.I i17)] → LShaBack.sig.post [(D.Z z5), (D.Z z9), (D.B (i16 == (IntKind.wrap .i64 ((0 : Int) - i17))))] := by
    intro i16 i17 e1 e2
    have e1 : i16 = cmpL z5 z9 := e1
    have e2 : i17 = cmpL z9 z5 := e2
    have r := cmp_range z9 z5
    refine yesB (l := [_, _]) ?_
    rw [e1, e2, i64w (by omega) (by omega), cmp_swap z5 z9]
    simp
  repeat' first
    | exact trivial
    | exact last _ _ (by assumption) (by assumption)
    | exact absurd (tail _ _ (by assumption) (by assumption) _ (by assumption)) (by assumption)
    | exact absurd (beq_self_eq_true _) (by rename_i h; rw [h]; decide)
    | contradiction
    | (rename_i hb14 hf; exact absurd (awake03 hb14) (by rw [hf]; decide))
    | refine ⟨?_, ?_⟩
    | intro _

end Go.Vc
