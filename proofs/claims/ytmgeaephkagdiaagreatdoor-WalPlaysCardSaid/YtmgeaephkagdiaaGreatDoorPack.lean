/-
 Contracts of the numbers and texts as bytes (pack, and the document's): writing.
 Printed by wip/vct.py: the conditions of functions, by their contracts.
 Numbers and texts as bytes: the plain part.
 Numbers and texts as bytes: more of the plain part.
 Numbers and texts as bytes: the laws on writing.
 Contracts of the numbers and texts as bytes: reading.
 Printed by wip/vct.py: the conditions of functions, by their contracts.
 Numbers and texts as bytes: reading, the plain part.
-/
import Derived.Test.YtmgeaephkagdiaaGreatDoorWord
import Derived.Test.YtmgeaephkagdiaaGreatDoorTab
import Derived.KernelRfl
set_option linter.unusedVariables false
set_option linter.unusedSimpArgs false
namespace Go.Vc
def beB (v : Int) (n : Nat) : List Int := (bytesLE v n).reverse
def fixB (v n : Int) : List Int := beB v (clamp 1 8 n).toNat
def roomy (z : List Int) : Prop := z.length ≤ 4000000000
def wrSig (as : List AK) (pre post : List D → Prop) : Sig :=
 { args := .one (.lf (.ptr (.at 0) 0)) :: svsOf 3 as, heap := .box (.at 0) [.lf (.sl (.at 1))] :: .osl (.at 1) [.int .u8] (.at 2) :: chsOf false 3 as, srts := .N :: .V :: .Z :: srtsOf as,
   res := .tup [], heap' := [.box (.at 0) [.lf (.sl (.at (3 + (srtsOf as).length)))], .osl (.at (3 + (srtsOf as).length)) [.int .u8] (.at (4 + (srtsOf as).length))], news := [.V, .Z], pre := pre, post := post }
def WFixed.pre : List D → Prop
 | [.N _, .V _, .Z z, .I _, .I _] => roomy z
 | _ => False
def WFixed.post : List D → Prop
 | [.N _, .V _, .Z z, .I v, .I n, .V _, .Z z'] => z' = z ++ fixB v n
 | _ => False
def WFixed.sig : Sig := wrSig [.i .u64, .i .i64] WFixed.pre WFixed.post
def WFixed.I0 : List D → Prop
 | [.N _, .V _, .Z z, .I v, .I n0, .I i, .Z z'] => -1 ≤ i ∧ i < clamp 1 8 n0 ∧ z' = z ++ (fixB v n0).take (clamp 1 8 n0 - 1 - i).toNat
 | _ => False
def WFixed.I0M : List D → Nat
 | [.N _, .V _, .Z _, .I _, .I _, .I i, .Z _] => (i + 1).toNat
 | _ => 0
def WText.pre : List D → Prop
 | [.N _, .V _, .Z z, .S s] => z.length ≤ 1000000000 ∧ s.size ≤ 1000000000
 | _ => False
def WRaw.post : List D → Prop
 | [.N _, .V _, .Z z, .S s, .V _, .Z z'] => z' = z ++ bytesOf s
 | _ => False
def WRaw.sig : Sig := wrSig [.s] WText.pre WRaw.post
def WBytes.post : List D → Prop
 | [.N _, .V _, .Z z, .S r] => r = textOf z
 | _ => False
def WBytes.sig : Sig :=
 { args := [.one (.lf (.ptr (.at 0) 0))], heap := [.box (.at 0) [.lf (.sl (.at 1))], .osl (.at 1) [.int .u8] (.at 2)], srts := [.N, .V, .Z],
   res := .one (.lf (.str (.at 3))), heap' := [.box (.at 0) [.lf (.sl (.at 1))], .osl (.at 1) [.int .u8] (.at 2)], news := [.S], pre := tru, post := WBytes.post }
def rdRaw (S : ByteArray) (at_ err n : Int) : Int × Int × ByteArray :=
 if err ≠ 0 then (at_, err, ByteArray.empty) else if n < 0 ∨ (S.size : Int) - at_ < n then (at_, 2, ByteArray.empty) else (at_ + n, err, S.extract at_.toNat (at_ + n).toNat)
def beNum (l : List Int) : Int := l.foldl (fun v c => 256 * v + c) 0
def rdFixed (S : ByteArray) (at_ err n : Int) : Int × Int × Int :=
 let r := rdRaw S at_ err (clamp 1 8 n)
 (r.1, r.2.1, beNum (bytesOf r.2.2))
def rdSig (as rs : List AK) (pre post : List D → Prop) : Sig :=
 let n := 4 + (srtsOf as).length
 { args := .one (.lf (.ptr (.at 0) 0)) :: svsOf 4 as, heap := [.box (.at 0) [.lf (.str (.at 1)), .lf (.int .i64 (.at 2)), .lf (.int .i64 (.at 3))]], srts := .N :: .S :: .I :: .I :: srtsOf as,
   res := resOf (svsOf (n + 2) rs), heap' := [.box (.at 0) [.lf (.str (.at 1)), .lf (.int .i64 (.at n)), .lf (.int .i64 (.at (n + 1)))]], news := .I :: .I :: srtsOf rs, pre := pre, post := post }
def PRead.sig : Sig :=
 { args := [.one (.lf (.str (.at 0)))], heap := [], srts := [.S], res := .one (.lf (.ptr (.at 1) 0)), heap' := [.box (.at 1) [.lf (.str (.at 0)), .lf (.int .i64 (.int 0)), .lf (.int .i64 (.int 0))]], news := [.N], pre := tru, post := tru }
def PErr.sig : Sig :=
 { args := [.one (.lf (.ptr (.at 0) 0))], heap := [.box (.at 0) [.lf (.str (.at 1)), .lf (.int .i64 (.at 2)), .lf (.int .i64 (.at 3))]], srts := [.N, .S, .I, .I],
   res := .one (.lf (.int .i64 (.at 3))), heap' := [.box (.at 0) [.lf (.str (.at 1)), .lf (.int .i64 (.at 2)), .lf (.int .i64 (.at 3))]], news := [], pre := tru, post := tru }
def PAt.sig : Sig := { PErr.sig with res := .one (.lf (.int .i64 (.at 2))) }
def PRaw.pre : List D → Prop
 | .N _ :: .S s :: .I a :: .I _ :: _ => 0 ≤ a ∧ a ≤ s.size
 | _ => False
def PRaw.post : List D → Prop
 | [.N _, .S s, .I a, .I e, .I n, .I a', .I e', .S r] => (a', e', r) = rdRaw s a e n
 | _ => False
def PRaw.sig : Sig := rdSig [.i .i64] [.s] PRaw.pre PRaw.post
def PFixed.post : List D → Prop
 | [.N _, .S s, .I a, .I e, .I n, .I a', .I e', .I r] => (a', e', r) = rdFixed s a e n
 | _ => False
def PFixed.sig : Sig := rdSig [.i .i64] [.i .u64] PRaw.pre PFixed.post
def PFixed.I0 : List D → Prop
 | [.N _, .S s, .I a, .I e, .I n, .I v, .I i] => 0 ≤ i ∧ i ≤ (bytesOf (rdRaw s a e (clamp 1 8 n)).2.2).length ∧ v = beNum ((bytesOf (rdRaw s a e (clamp 1 8 n)).2.2).take i.toNat)
 | _ => False
def PFixed.I0M : List D → Nat
 | [.N _, .S s, .I a, .I e, .I n, .I _, .I i] => (((bytesOf (rdRaw s a e (clamp 1 8 n)).2.2).length : Int) - i).toNat
 | _ => 0
def cutF (s : ByteArray) (n : Nat) : ByteArray := if (s.size : Int) > n then s.extract 0 n else s
end Go.Vc
namespace Go.Vc
set_option linter.unusedVariables false
def WFixed.Pure : Prop :=
 ∀ n0 : Nat,
 ∀ v1 : Value,
 ∀ z2 : List Int,
 ∀ i3 i4 : Int,
 U64 i3 →
 R64 i4 →
 (∀ x ∈ z2, IntKind.has .u8 x) →
 WFixed.sig.pre [.N n0, .V v1, .Z z2, .I i3, .I i4] →
 WFixed.I0 [.N n0, .V v1, .Z z2, .I i3, .I i4, .I (IntKind.wrap .i64 ((minI (maxI i4 1) 8) - 1)), .Z z2] ∧ (
 ∀ i5 : Int,
 ∀ v6 : Value,
 ∀ z7 : List Int,
 R64 i5 →
 (∀ x ∈ z7, IntKind.has .u8 x) →
 WFixed.I0 [.N n0, .V v1, .Z z2, .I i3, .I i4, .I i5, .Z z7] →
 ((
 (0 ≤ i5) →
 ((
  Field.sig.pre [.I i3, .I (IntKind.wrap .i64 (8 * i5)), .I 8] ∧ (
 ∀ i8 : Int,
  Field.sig.post [.I i3, .I (IntKind.wrap .i64 (8 * i5)), .I 8, .I i8] →
 U64 i8 →
 ∀ v9 : Value,
 ((((z7 ++ ((IntKind.wrap .u8 i8) :: ([] : List Int))).length : Nat) : Int) ≤ (140737488355328 : Int)) ∧ (((((z7 ++ ((IntKind.wrap .u8 i8) :: ([] : List Int))).length : Nat) : Int) ≤ (140737488355328 : Int)) →
 ∀ v10 : Value,
  Bk WFixed.I0 WFixed.I0M [.N n0, .V v1, .Z z2, .I i3, .I i4, .I (IntKind.wrap .i64 (i5 - 1)), .Z (z7 ++ ((IntKind.wrap .u8 i8) :: ([] : List Int)))] [.N n0, .V v1, .Z z2, .I i3, .I i4, .I i5, .Z z7]))) ∧ (
  Field.sig.pre [.I i3, .I (IntKind.wrap .i64 (8 * i5)), .I 8] ∧ (
 ∀ i8 : Int,
  Field.sig.post [.I i3, .I (IntKind.wrap .i64 (8 * i5)), .I 8, .I i8] →
 U64 i8 →
 ((
 ∀ v9 : Value,
 ((((z7 ++ ((IntKind.wrap .u8 i8) :: ([] : List Int))).length : Nat) : Int) ≤ (140737488355328 : Int)) ∧ (((((z7 ++ ((IntKind.wrap .u8 i8) :: ([] : List Int))).length : Nat) : Int) ≤ (140737488355328 : Int)) →
 ∀ v10 : Value,
  Bk WFixed.I0 WFixed.I0M [.N n0, .V v1, .Z z2, .I i3, .I i4, .I (IntKind.wrap .i64 (i5 - 1)), .Z (z7 ++ ((IntKind.wrap .u8 i8) :: ([] : List Int)))] [.N n0, .V v1, .Z z2, .I i3, .I i4, .I i5, .Z z7])) ∧ (
 ∀ v9 : Value,
 ((((z7 ++ ((IntKind.wrap .u8 i8) :: ([] : List Int))).length : Nat) : Int) ≤ (140737488355328 : Int)) ∧ (((((z7 ++ ((IntKind.wrap .u8 i8) :: ([] : List Int))).length : Nat) : Int) ≤ (140737488355328 : Int)) →
 ∀ v10 : Value,
  Bk WFixed.I0 WFixed.I0M [.N n0, .V v1, .Z z2, .I i3, .I i4, .I (IntKind.wrap .i64 (i5 - 1)), .Z (z7 ++ ((IntKind.wrap .u8 i8) :: ([] : List Int)))] [.N n0, .V v1, .Z z2, .I i3, .I i4, .I i5, .Z z7]))))))) ∧ (
 (i5 < 0) →
  WFixed.sig.post [.N n0, .V v1, .Z z2, .I i3, .I i4, .V v6, .Z z7])))
def WRaw.Pure : Prop :=
 ∀ n0 : Nat,
 ∀ v1 : Value,
 ∀ z2 : List Int,
 ∀ s3 : ByteArray,
 ((s3.size : Int) ≤ 9223372036854775807) →
 (∀ x ∈ z2, IntKind.has .u8 x) →
 WRaw.sig.pre [.N n0, .V v1, .Z z2, .S s3] →
 ((((z2 ++ (bytesOf s3)).length : Nat) : Int) ≤ (140737488355328 : Int)) ∧ (((((z2 ++ (bytesOf s3)).length : Nat) : Int) ≤ (140737488355328 : Int)) →
 ∀ v4 : Value,
 WRaw.sig.post [.N n0, .V v1, .Z z2, .S s3, .V v4, .Z (z2 ++ (bytesOf s3))])
def WBytes.Pure : Prop :=
 ∀ n0 : Nat,
 ∀ v1 : Value,
 ∀ z2 : List Int,
 (∀ x ∈ z2, IntKind.has .u8 x) →
 WBytes.sig.pre [.N n0, .V v1, .Z z2] →
 WBytes.sig.post [.N n0, .V v1, .Z z2, .S (textOf z2)]
def PRead.Pure : Prop :=
 ∀ s0 : ByteArray,
 ((s0.size : Int) ≤ 9223372036854775807) →
 PRead.sig.pre [.S s0] →
 ∀ n1 : Nat,
 PRead.sig.post [.S s0, .N n1]
def PErr.Pure : Prop :=
 ∀ n0 : Nat,
 ∀ s1 : ByteArray,
 ∀ i2 i3 : Int,
 ((s1.size : Int) ≤ 9223372036854775807) →
 R64 i2 →
 R64 i3 →
 PErr.sig.pre [.N n0, .S s1, .I i2, .I i3] →
 PErr.sig.post [.N n0, .S s1, .I i2, .I i3]
def PAt.Pure : Prop :=
 ∀ n0 : Nat,
 ∀ s1 : ByteArray,
 ∀ i2 i3 : Int,
 ((s1.size : Int) ≤ 9223372036854775807) →
 R64 i2 →
 R64 i3 →
 PAt.sig.pre [.N n0, .S s1, .I i2, .I i3] →
 PAt.sig.post [.N n0, .S s1, .I i2, .I i3]
def PRaw.Pure : Prop :=
 ∀ n0 : Nat,
 ∀ s1 : ByteArray,
 ∀ i2 i3 i4 : Int,
 R64 i4 →
 ((s1.size : Int) ≤ 9223372036854775807) →
 R64 i2 →
 R64 i3 →
 PRaw.sig.pre [.N n0, .S s1, .I i2, .I i3, .I i4] →
 ((
 (i3 ≠ 0) →
  PRaw.sig.post [.N n0, .S s1, .I i2, .I i3, .I i4, .I i2, .I i3, .S (⟨#[]⟩ : ByteArray)]) ∧ (
 (i3 = 0) →
 ((
 (i4 < 0) →
  PRaw.sig.post [.N n0, .S s1, .I i2, .I i3, .I i4, .I i2, .I 2, .S (⟨#[]⟩ : ByteArray)]) ∧ (
 (0 ≤ i4) →
 ((
 ((IntKind.wrap .i64 (((s1.size : Nat) : Int) - i2)) < i4) →
  PRaw.sig.post [.N n0, .S s1, .I i2, .I i3, .I i4, .I i2, .I 2, .S (⟨#[]⟩ : ByteArray)]) ∧ (
 (i4 ≤ (IntKind.wrap .i64 (((s1.size : Nat) : Int) - i2))) →
 ((IntKind.wrap .i64 ((IntKind.wrap .i64 (i2 + i4)) - i4)) ≤ (IntKind.wrap .i64 (i2 + i4))) ∧ (((IntKind.wrap .i64 ((IntKind.wrap .i64 (i2 + i4)) - i4)) ≤ (IntKind.wrap .i64 (i2 + i4))) →
 (0 ≤ (IntKind.wrap .i64 ((IntKind.wrap .i64 (i2 + i4)) - i4))) ∧ ((0 ≤ (IntKind.wrap .i64 ((IntKind.wrap .i64 (i2 + i4)) - i4))) →
 ((IntKind.wrap .i64 (i2 + i4)) ≤ ((s1.size : Nat) : Int)) ∧ (((IntKind.wrap .i64 (i2 + i4)) ≤ ((s1.size : Nat) : Int)) →
  PRaw.sig.post [.N n0, .S s1, .I i2, .I i3, .I i4, .I (IntKind.wrap .i64 (i2 + i4)), .I i3, .S (s1.extract (IntKind.wrap .i64 ((IntKind.wrap .i64 (i2 + i4)) - i4)).toNat (IntKind.wrap .i64 (i2 + i4)).toNat)])))))))))
def PFixed.Pure : Prop :=
 ∀ n0 : Nat,
 ∀ s1 : ByteArray,
 ∀ i2 i3 i4 : Int,
 R64 i4 →
 ((s1.size : Int) ≤ 9223372036854775807) →
 R64 i2 →
 R64 i3 →
 PFixed.sig.pre [.N n0, .S s1, .I i2, .I i3, .I i4] →
 PRaw.sig.pre [.N n0, .S s1, .I i2, .I i3, .I (minI (maxI i4 1) 8)] ∧ (
 ∀ i5 i6 : Int,
 ∀ s7 : ByteArray,
 PRaw.sig.post [.N n0, .S s1, .I i2, .I i3, .I (minI (maxI i4 1) 8), .I i5, .I i6, .S s7] →
 ((s7.size : Int) ≤ 9223372036854775807) →
 R64 i5 →
 R64 i6 →
 ∀ v8 : Value,
 PFixed.I0 [.N n0, .S s1, .I i2, .I i3, .I i4, .I 0, .I 0] ∧ (
 ∀ i9 i10 : Int,
 U64 i9 →
 R64 i10 →
 PFixed.I0 [.N n0, .S s1, .I i2, .I i3, .I i4, .I i9, .I i10] →
 ((
 (i10 < (((bytesOf s7).length : Nat) : Int)) →
 (0 ≤ i10) ∧ ((0 ≤ i10) →
  Bk PFixed.I0 PFixed.I0M [.N n0, .S s1, .I i2, .I i3, .I i4, .I (Go.bits .or .u64 (shlI .u64 i9 8) (IntKind.wrap .u64 ((bytesOf s7).getD i10.toNat 0))), .I (IntKind.wrap .i64 (i10 + 1))] [.N n0, .S s1, .I i2, .I i3, .I i4, .I i9, .I i10])) ∧ (
 ((((bytesOf s7).length : Nat) : Int) ≤ i10) →
  PFixed.sig.post [.N n0, .S s1, .I i2, .I i3, .I i4, .I i5, .I i6, .I i9]))))
end Go.Vc
namespace Go.Vc
theorem field_byte {v a r : Int} {n : Nat} (hn : n < 8) (ha : a = 8 * (n : Int)) (h : Field.sig.post [.I v, .I a, .I 8, .I r]) : IntKind.wrap .u8 r = v / 256 ^ n % 256 := by
 subst ha
 have h : ∀ i, i < 64 → bt r i = (decide (0 ≤ 8 * (n : Int)) && decide (8 * (n : Int) < 64) && decide ((i : Int) < 8) && bt v (i + (8 * (n : Int)).toNat)) := h
 rw [IntKind.wrap_u8]
 apply eq_of_bt (w := 8) (by omega) (by show _ < 256; omega) (by omega) (by show _ < 256; omega)
 intro i hi
 rw [bt_byte _ _ _ hi, show (256 : Int) = 2 ^ 8 from rfl, bt_emod _ hi, h i (by omega), show (8 * (n : Int)).toNat = 8 * n from by omega]
 have e1 : 0 ≤ 8 * (n : Int) := by omega
 have e2 : 8 * (n : Int) < 64 := by omega
 have e3 : (i : Int) < 8 := by omega
 simp [e1, e2, e3]
theorem beB_len (v : Int) (n : Nat) : (beB v n).length = n := by rw [beB, List.length_reverse, bytesLE_len]
theorem beB_has (v : Int) (n : Nat) : ∀ x ∈ beB v n, 0 ≤ x ∧ x < 256 := fun x hx => bytesLE_has v n x (List.mem_reverse.1 hx)
theorem beB_get (v : Int) {n k : Nat} (h : k < n) : (beB v n).getD k 0 = v / 256 ^ (n - 1 - k) % 256 := by
 have e : (beB v n).getD k 0 = (bytesLE v n).getD (n - 1 - k) 0 := by
  simp only [List.getD, beB]
  rw [List.getElem?_reverse (by rw [bytesLE_len]; exact h), bytesLE_len]
 rw [e, bytesLE_get _ _ (by omega)]
theorem take_snoc' {l : List Int} {i : Nat} (h : i < l.length) : l.take (i + 1) = l.take i ++ [l.getD i 0] := by
 rw [List.take_add_one]
 congr 1
 simp [List.getD, h]
theorem clamp18 (n : Int) : 1 ≤ clamp 1 8 n ∧ clamp 1 8 n ≤ 8 := by unfold clamp; split <;> (try split) <;> omega
theorem clamp18_eq (n : Int) : minI (maxI n 1) 8 = clamp 1 8 n := by rw [minI_eq, maxI_eq]; unfold clamp; split <;> (try split) <;> omega
theorem fixB_len (v n : Int) : (fixB v n).length = (clamp 1 8 n).toNat := beB_len _ _
theorem WFixed.pure : WFixed.Pure := by
 intro n0 v1 z2 i3 i4 h1 h2 h3 h4
 have h4 : z2.length ≤ 4000000000 := h4
 have hc := clamp18 i4
 rw [clamp18_eq, i64w (x := clamp 1 8 i4 - 1) (by omega) (by omega)]
 refine ⟨?_, ?_⟩
 ·refine ⟨by omega, by omega, ?_⟩
  rw [show (clamp 1 8 i4 - 1 - (clamp 1 8 i4 - 1)).toNat = 0 from by omega]; simp
 intro i5 v6 z7 h5 h6 h7
 have h7 : -1 ≤ i5 ∧ i5 < clamp 1 8 i4 ∧ z7 = z2 ++ (fixB i3 i4).take (clamp 1 8 i4 - 1 - i5).toNat := h7
 obtain ⟨a, b, c⟩ := h7
 refine ⟨?_, ?_⟩
 ·intro h8
  rw [i64w (x := 8 * i5) (by omega) (by omega), i64w (x := i5 - 1) (by omega) (by omega)]
  have hl7 : z7.length ≤ 4000000008 := by
   rw [c, List.length_append, List.length_take, fixB_len]; omega
  have fin : ∀ i8 : Int, Field.sig.post [(D.I i3), (D.I (8 * i5)), (D.I 8), (D.I i8)] → (((z7 ++ [IntKind.wrap .u8 i8]).length : Nat) : Int) ≤ 140737488355328 ∧
    (WFixed.I0 [(D.N n0), (D.V v1), (D.Z z2), (D.I i3), (D.I i4), (D.I (i5 - 1)), (D.Z (z7 ++ [IntKind.wrap .u8 i8]))] ∧
    WFixed.I0M [(D.N n0), (D.V v1), (D.Z z2), (D.I i3), (D.I i4), (D.I (i5 - 1)), (D.Z (z7 ++ [IntKind.wrap .u8 i8]))] < WFixed.I0M [(D.N n0), (D.V v1), (D.Z z2), (D.I i3), (D.I i4), (D.I i5), (D.Z z7)]) := by
   intro i8 h9
   refine ⟨by rw [List.length_append]; simp only [List.length_cons, List.length_nil]; omega, ⟨by omega, by omega, ?_⟩, ?_⟩
   ·rw [field_byte (n := i5.toNat) (by omega) (by omega) h9, c, List.append_assoc]
    congr 1
    rw [show (clamp 1 8 i4 - 1 - (i5 - 1)).toNat = (clamp 1 8 i4 - 1 - i5).toNat + 1 from by omega, take_snoc' (by rw [fixB_len]; omega)]
    congr 1
    rw [fixB, beB_get _ (by omega), show (clamp 1 8 i4).toNat - 1 - (clamp 1 8 i4 - 1 - i5).toNat = i5.toNat from by omega]
   ·show (i5 - 1 + 1).toNat < (i5 + 1).toNat
    omega
  refine ⟨?_, ?_⟩
  ·refine ⟨trivial, ?_⟩
   intro i8 h9 h10 v9
   exact ⟨(fin i8 h9).1, fun _ v10 => (fin i8 h9).2⟩
  ·refine ⟨trivial, ?_⟩
   intro i8 h9 h10
   exact ⟨fun v9 => ⟨(fin i8 h9).1, fun _ v10 => (fin i8 h9).2⟩, fun v9 => ⟨(fin i8 h9).1, fun _ v10 => (fin i8 h9).2⟩⟩
 ·intro h8
  show z7 = z2 ++ fixB i3 i4
  rw [c, List.take_of_length_le (by rw [fixB_len]; omega)]
theorem pow256_pos (n : Nat) : (0 : Int) < 256 ^ n := by rw [pow_256]; exact pow_pos' _
end Go.Vc
namespace Go.Vc
theorem WRaw.pure : WRaw.Pure := by
 intro n0 v1 z2 s3 h1 h2 h3
 have h3 : z2.length ≤ 1000000000 ∧ s3.size ≤ 1000000000 := h3
 refine ⟨?_, fun h4 => ?_⟩
 ·rw [List.length_append, bytesOf_length']; omega
 intro v4
 rfl
theorem WBytes.pure : WBytes.Pure := by
 intro n0 v1 z2 h1 h2
 rfl
theorem PRead.pure : PRead.Pure := by
 intro s0 h1 h2 n1
 trivial
theorem PErr.pure : PErr.Pure := by
 intro n0 s1 i2 i3 h1 h2 h3 h4
 trivial
theorem PAt.pure : PAt.Pure := by
 intro n0 s1 i2 i3 h1 h2 h3 h4
 trivial
theorem PRaw.pure : PRaw.Pure := by
 intro n0 s1 i2 i3 i4 h1 h2 h3 h4 h5
 have h5 : 0 ≤ i2 ∧ i2 ≤ s1.size := h5
 rw [i64w (x := ((s1.size : Nat) : Int) - i2) (by omega) (by omega)]
 refine ⟨?_, ?_⟩
 ·intro h6
  show (i2, i3, ByteArray.empty) = rdRaw s1 i2 i3 i4
  rw [rdRaw, if_pos h6]
 ·intro h6
  refine ⟨?_, ?_⟩
  ·intro h7
   show (i2, (2 : Int), ByteArray.empty) = rdRaw s1 i2 i3 i4
   rw [rdRaw, if_neg (by omega), if_pos (.inl h7)]
  ·intro h7
   refine ⟨?_, ?_⟩
   ·intro h8
    show (i2, (2 : Int), ByteArray.empty) = rdRaw s1 i2 i3 i4
    rw [rdRaw, if_neg (by omega), if_pos (.inr h8)]
   ·intro h8
    rw [i64w (x := i2 + i4) (by omega) (by omega), i64w (x := i2 + i4 - i4) (by omega) (by omega), show i2 + i4 - i4 = i2 from by omega]
    refine ⟨by omega, fun h9 => ⟨by omega, fun h10 => ⟨by omega, fun h11 => ?_⟩⟩⟩
    show (i2 + i4, i3, s1.extract i2.toNat (i2 + i4).toNat) = rdRaw s1 i2 i3 i4
    rw [rdRaw, if_neg (by omega), if_neg (by omega)]
theorem rdRaw_size (S : ByteArray) (a e n : Int) (hn : 0 ≤ n) (ha : 0 ≤ a ∧ a ≤ S.size) : ((rdRaw S a e n).2.2.size : Int) ≤ n ∧ 0 ≤ (rdRaw S a e n).1 ∧ (rdRaw S a e n).1 ≤ S.size := by
 unfold rdRaw
 split
 ·exact ⟨by show ((0 : Nat) : Int) ≤ n; omega, ha.1, ha.2⟩
 ·split
  ·exact ⟨by show ((0 : Nat) : Int) ≤ n; omega, ha.1, ha.2⟩
  ·rename_i h
   refine ⟨?_, by show 0 ≤ a + n; omega, by show a + n ≤ S.size; omega⟩
   show ((S.extract a.toNat (a + n).toNat).size : Int) ≤ n
   rw [ByteArray.size_extract]; omega
theorem beNum_snoc (l : List Int) (c : Int) : beNum (l ++ [c]) = 256 * beNum l + c := by simp [beNum]
theorem beNum_range {l : List Int} (h : ∀ x ∈ l, 0 ≤ x ∧ x < 256) : ∀ k, k ≤ l.length → 0 ≤ beNum (l.take k) ∧ beNum (l.take k) < 256 ^ k
 | 0, _ => by simp [beNum]
 | k + 1, hk => by
  have ih := beNum_range h k (by omega)
  have hx : 0 ≤ l.getD k 0 ∧ l.getD k 0 < 256 := by
   simp only [List.getD, List.getElem?_eq_getElem (show k < l.length by omega), Option.getD_some]
   exact h _ (List.getElem_mem _)
  rw [take_snoc' (by omega), beNum_snoc, Int.pow_succ]
  omega
theorem or_low {v c : Int} (h0 : 0 ≤ v) (h1 : v < 72057594037927936) (c0 : 0 ≤ c) (c1 : c < 256) : Go.bits .or .u64 (shlI .u64 v 8) c = 256 * v + c := by
 have e : shlI .u64 v 8 = v * 256 := by
  show IntKind.u64.wrap (v * 2 ^ 8) = v * 256
  rw [show (2 : Int) ^ 8 = 256 from rfl, u64w (by omega) (by omega)]
 have j := bits_join .u64 64 (by decide) (fun n h0 h1 => wrap_u64_eq h0 h1) 8 (v * 256) c (by omega) (by show v * 256 % 256 = 0; omega) (by show v * 256 < 18446744073709551616; omega) c0 (by show c < 256; exact c1) (by show c < 18446744073709551616; omega)
 rw [e, j]; omega
theorem PFixed.pure : PFixed.Pure := by
 intro n0 s1 i2 i3 i4 h1 h2 h3 h4 h5
 have h5 : 0 ≤ i2 ∧ i2 ≤ s1.size := h5
 have hc := clamp18 i4
 rw [clamp18_eq]
 refine ⟨h5, ?_⟩
 intro i5 i6 s7 h6 h7 h8 h9 v8
 have h6 : (i5, i6, s7) = rdRaw s1 i2 i3 (clamp 1 8 i4) := h6
 have hs7 : s7.size ≤ 8 := by
  have := (rdRaw_size s1 i2 i3 (clamp 1 8 i4) (by omega) h5).1
  rw [← h6] at this
  have this : (s7.size : Int) ≤ clamp 1 8 i4 := this
  omega
 have hlen := bytesOf_length' s7
 have hby := bytesOf_has s7
 refine ⟨?_, ?_⟩
 ·refine ⟨by decide, ?_, rfl⟩
  omega
 intro i9 i10 h10 h11 h12
 have es : (rdRaw s1 i2 i3 (clamp 1 8 i4)).2.2 = s7 := by rw [← h6]
 have h12 : 0 ≤ i10 ∧ i10 ≤ (bytesOf (rdRaw s1 i2 i3 (clamp 1 8 i4)).2.2).length ∧ i9 = beNum ((bytesOf (rdRaw s1 i2 i3 (clamp 1 8 i4)).2.2).take i10.toNat) := h12
 rw [es] at h12
 obtain ⟨a, b, d⟩ := h12
 refine ⟨?_, ?_⟩
 ·intro h13
  refine ⟨?_, fun h14 => ?_⟩
  ·omega -- (0 : Int) ≤ i10
  have hx : 0 ≤ (bytesOf s7).getD i10.toNat 0 ∧ (bytesOf s7).getD i10.toNat 0 < 256 := by
   simp only [List.getD, List.getElem?_eq_getElem (show i10.toNat < (bytesOf s7).length by omega), Option.getD_some]
   exact hby _ (List.getElem_mem _)
  have hr := beNum_range hby i10.toNat (by omega)
  have hp : (256 : Int) ^ i10.toNat ≤ 256 ^ 7 := by
   have h2 : 256 ^ i10.toNat ≤ 256 ^ 7 := Nat.pow_le_pow_right (by decide : 0 < 256) (by omega)
   have h3 : ((256 ^ i10.toNat : Nat) : Int) ≤ ((256 ^ 7 : Nat) : Int) := by omega
   rwa [Int.natCast_pow, Int.natCast_pow] at h3
  have hp7 : (256 : Int) ^ 7 = 72057594037927936 := rfl
  rw [u64w (by omega) (by omega), or_low (by omega) (by omega) hx.1 hx.2, i64w (by omega) (by omega)]
  refine ⟨?_, ?_⟩
  ·show 0 ≤ i10 + 1 ∧ i10 + 1 ≤ (bytesOf (rdRaw s1 i2 i3 (clamp 1 8 i4)).2.2).length ∧ 256 * i9 + (bytesOf s7).getD i10.toNat 0 = beNum ((bytesOf (rdRaw s1 i2 i3 (clamp 1 8 i4)).2.2).take (i10 + 1).toNat)
   rw [es]
   refine ⟨by omega, by omega, ?_⟩
   rw [show (i10 + 1).toNat = i10.toNat + 1 from by omega, take_snoc' (by omega), beNum_snoc, d]
  ·show (((bytesOf (rdRaw s1 i2 i3 (clamp 1 8 i4)).2.2).length : Int) - (i10 + 1)).toNat < (((bytesOf (rdRaw s1 i2 i3 (clamp 1 8 i4)).2.2).length : Int) - i10).toNat
   rw [es]
   omega
 ·intro h13
  show (i5, i6, i9) = rdFixed s1 i2 i3 i4
  rw [rdFixed, ← h6, d, List.take_of_length_le (by omega)]
end Go.Vc
namespace Go.Vc
theorem beNum_acc : ∀ (l : List Int) (a : Int), l.foldl (fun v c => 256 * v + c) a = a * 256 ^ l.length + beNum l
 | [], a => by simp [beNum]
 | c :: l, a => by
  simp only [List.foldl_cons, beNum, List.length_cons]
  rw [beNum_acc l (256 * a + c), beNum_acc l (256 * 0 + c), Int.pow_succ, Int.add_mul, Int.add_mul]
  have e1 : 256 * a * 256 ^ l.length = a * (256 ^ l.length * 256) := by rw [Int.mul_comm 256 a, Int.mul_assoc, Int.mul_comm 256]
  omega
theorem beNum_beB (v : Int) : ∀ n : Nat, beNum (beB v n) = v % 256 ^ n
 | 0 => by simp [beB, bytesLE, beNum, Int.emod_one]
 | n + 1 => by
  have e : beB v (n + 1) = (v / 256 ^ n % 256) :: beB v n := by rw [beB, bytesLE_succ, List.reverse_append]; rfl
  rw [e]
  show (beB v n).foldl (fun v c => 256 * v + c) (256 * 0 + v / 256 ^ n % 256) = _
  rw [beNum_acc, beNum_beB v n, beB_len]
  have hp := pow256_pos n
  have h1 := Int.mul_ediv_add_emod v (256 ^ n)
  have h2 := Int.emod_emod_of_dvd v (show (256 : Int) ^ n ∣ 256 ^ (n + 1) from ⟨256, Int.pow_succ ..⟩)
  have h3 := Int.mul_ediv_add_emod v (256 ^ (n + 1))
  have h4 : v / 256 ^ (n + 1) = v / 256 ^ n / 256 := div_pow_succ v n
  rw [Int.pow_succ] at h3 ⊢
  have h5 := Int.mul_ediv_add_emod (v / 256 ^ n) 256
  rw [Int.pow_succ] at h4
  rw [h4] at h3
  generalize v / 256 ^ n = q at *
  generalize v % 256 ^ n = r at *
  generalize (256 : Int) ^ n = P at *
  have e6 : P * 256 * (q / 256) = P * (256 * (q / 256)) := Int.mul_assoc ..
  have e7 : P * q = P * (256 * (q / 256)) + P * (q % 256) := by rw [← Int.mul_add, h5]
  have e8 : (256 * 0 + q % 256) * P = P * (q % 256) := by rw [Int.mul_zero, Int.zero_add, Int.mul_comm]
  omega
end Go.Vc
namespace Go.Vc
def cur (n : Nat) : S0 := .agg [.lf (.str (.at n)), .lf (.int .i64 (.at (n + 1))), .lf (.int .i64 (.at (n + 2)))]
end Go.Vc
namespace Go.Vc
set_option linter.unusedVariables false
end Go.Vc
namespace Go.Vc
end Go.Vc