/-
 Contracts of the document's frames.
 Printed by wip/vct.py: the conditions of functions, by their contracts.
 The document's frames: the plain part.
-/
import Derived.Test.YtmgeaephkagdiaaGreatDoorFrameb
import Derived.KernelRfl
set_option linter.unusedVariables false
set_option linter.unusedSimpArgs false
namespace Go.Vc
def SameL.post : List D → Prop
 | [.V _, .L a, .V _, .L b, .I r] => a = b → r = 0
 | _ => False
def SameL.pre : List D → Prop
 | [.V _, .L _, .V _, .L b] => b.length ≤ 1000000
 | _ => False
def SameL.sig : Sig := sigF [.l [.str], .l [.str]] [.i .i64] SameL.pre SameL.post
def SameL.I0 : List D → Prop
 | [.V _, .L _, .V _, .L b, .I i] => 0 ≤ i ∧ i ≤ b.length
 | _ => False
def SameL.I0M : List D → Nat
 | [.V _, .L _, .V _, .L b, .I i] => ((b.length : Int) - i).toNat
 | _ => 0
end Go.Vc
namespace Go.Vc
set_option linter.unusedVariables false
def SameL.Pure : Prop :=
 ∀ v0 : Value,
 ∀ l1 : List D,
 ∀ v2 : Value,
 ∀ l3 : List D,
 (EK.ok [.str] (D.L l1)) →
 (EK.ok [.str] (D.L l3)) →
 SameL.sig.pre [.V v0, .L l1, .V v2, .L l3] →
 ((
 (((l1.length : Nat) : Int) ≠ ((l3.length : Nat) : Int)) →
  SameL.sig.post [.V v0, .L l1, .V v2, .L l3, .I (-1 : Int)]) ∧ (
 (((l1.length : Nat) : Int) = ((l3.length : Nat) : Int)) →
  SameL.I0 [.V v0, .L l1, .V v2, .L l3, .I 0] ∧ (
 ∀ i4 : Int,
 R64 i4 →
  SameL.I0 [.V v0, .L l1, .V v2, .L l3, .I i4] →
 ((
 (i4 < ((l3.length : Nat) : Int)) →
 (0 ≤ i4) ∧ ((0 ≤ i4) →
 (i4 < ((l1.length : Nat) : Int)) ∧ ((i4 < ((l1.length : Nat) : Int)) →
 ((
 (((l1.getD i4.toNat default)).toS ≠ ((l3.getD i4.toNat default)).toS) →
    SameL.sig.post [.V v0, .L l1, .V v2, .L l3, .I (-1 : Int)]) ∧ (
 (((l1.getD i4.toNat default)).toS = ((l3.getD i4.toNat default)).toS) →
    Bk SameL.I0 SameL.I0M [.V v0, .L l1, .V v2, .L l3, .I (IntKind.wrap .i64 (i4 + 1))] [.V v0, .L l1, .V v2, .L l3, .I i4]))))) ∧ (
 (((l3.length : Nat) : Int) ≤ i4) →
   SameL.sig.post [.V v0, .L l1, .V v2, .L l3, .I 0])))))
end Go.Vc
namespace Go.Vc
theorem SameL.pure : SameL.Pure := by
 intro v0 l1 v2 l3 h1 h2 h3
 have h3 : l3.length ≤ 1000000 := h3
 refine ⟨?_, ?_⟩
 ·intro h4 e
  exact absurd (by rw [e]) h4
 ·intro h4
  refine ⟨⟨by decide, by omega⟩, ?_⟩
  intro i4 h5 h6
  obtain ⟨a, b⟩ : 0 ≤ i4 ∧ i4 ≤ l3.length := h6
  refine ⟨?_, ?_⟩
  ·intro h7
   refine ⟨a, fun h8 => ⟨by omega, fun h9 => ?_⟩⟩
   refine ⟨?_, ?_⟩
   ·intro h10 e
    exact absurd (by rw [e]) h10
   ·intro h10
    have hb : IntKind.wrap .i64 (i4 + 1) = i4 + 1 := i64w (by omega) (by omega)
    rw [hb]
    refine ⟨⟨by omega, by omega⟩, ?_⟩
    show ((l3.length : Int) - (i4 + 1)).toNat < ((l3.length : Int) - i4).toNat
    omega
  ·intro h7 _
   rfl
end Go.Vc