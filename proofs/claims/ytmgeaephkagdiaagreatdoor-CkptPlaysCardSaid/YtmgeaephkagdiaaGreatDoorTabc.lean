/-
 Contracts of tables: copies, the document's lists, any bytes as a table.
 Printed by wip/vct.py: the conditions of functions, by their contracts.
 Tables: any bytes as a table, the plain part.
-/
import Derived.Test.YtmgeaephkagdiaaGreatDoorTabb
import Derived.Test.YtmgeaephkagdiaaGreatDoorShad
import Derived.KernelRfl
set_option linter.unusedVariables false
set_option linter.unusedSimpArgs false
namespace Go.Vc
def refK : EK := [.str, .str]
def refRow (d : D) : D := .L [.S (textOf (keyE d)), .S (textE d)]
def refs (L : List D) : List D := L.map refRow
def TClone.post : List D → Prop
 | [.V _, .L L, .V _, .L L'] => L' = L
 | _ => False
def TClone.pre : List D → Prop
 | [.V _, .L L] => L.length ≤ 1000000
 | _ => False
def TClone.sig : Sig := { args := [.one (.lf (.sl (.at 0)))], heap := [.rsl (.at 0) entK (.at 1)], srts := [.V, .L], res := .one (.lf (.sl (.at 2))), heap' := [.osl (.at 2) entK (.at 3)], news := [.V, .L], pre := TClone.pre, post := TClone.post }
def TAll.pre : List D → Prop
 | [.N _, .V _, .L L] => L.length ≤ 1000000
 | _ => False
def TAll.post : List D → Prop
 | [.N _, .V _, .L L, .V _, .L L'] => L' = L
 | _ => False
def TAll.sig : Sig := { args := [.one (.lf (.ptr (.at 0) 0))], heap := tbl 1, srts := [.N, .V, .L], res := .one (.lf (.sl (.at 3))), heap' := tbl 1 ++ [.osl (.at 3) entK (.at 4)], news := [.V, .L], pre := TAll.pre, post := TAll.post }
def TSame.pre : List D → Prop
 | .N _ :: .V _ :: .L L :: _ => L.length ≤ 1000000
 | _ => False
def TSame.post : List D → Prop
 | [.N _, .V _, .L L, .V _, .L X, .I r] => X = refs L → r = 0
 | _ => False
def TSame.sig : Sig := { args := [.one (.lf (.ptr (.at 0) 0)), .one (.lf (.sl (.at 3)))], heap := tbl 1 ++ [.rsl (.at 3) refK (.at 4)], srts := [.N, .V, .L, .V, .L], res := aI .i64 5, heap' := tbl 1, news := [.I], pre := TSame.pre, post := TSame.post }
def TSame.I0 : List D → Prop
 | [.N _, .V _, .L L, .V _, .L X, .I i] => 0 ≤ i ∧ i ≤ L.length ∧ L.length = X.length
 | _ => False
def TSame.I0M : List D → Nat
 | [.N _, .V _, .L L, .V _, .L _, .I i] => (L.length - i).toNat
 | _ => 0
end Go.Vc
namespace Go.Vc
set_option linter.unusedVariables false
def TClone.Pure : Prop :=
 ∀ v0 : Value,
 ∀ l1 : List D,
 (EK.ok [.ints .u8 32, .str] (D.L l1)) →
 TClone.sig.pre [.V v0, .L l1] →
 ∀ v2 : Value,
 ((
 (((l1.length : Nat) : Int) = (0 : Int)) →
 ∀ v3 : Value,
  TClone.sig.post [.V v0, .L l1, .V v3, .L ([] : List D)]) ∧ (
 ∀ v3 : Value,
 ((((([] : List D) ++ l1).length : Nat) : Int) ≤ (2932031007402 : Int)) ∧ (((((([] : List D) ++ l1).length : Nat) : Int) ≤ (2932031007402 : Int)) →
 ∀ v4 : Value,
  TClone.sig.post [.V v0, .L l1, .V v4, .L (([] : List D) ++ l1)])))
def TAll.Pure : Prop :=
 ∀ n0 : Nat,
 ∀ v1 : Value,
 ∀ l2 : List D,
 (EK.ok [.ints .u8 32, .str] (D.L l2)) →
 TAll.sig.pre [.N n0, .V v1, .L l2] →
 ∀ v3 : Value,
 TClone.sig.pre [.V v1, .L l2] ∧ (
 ∀ v4 : Value,
 ∀ l5 : List D,
 TClone.sig.post [.V v1, .L l2, .V v4, .L l5] →
 (EK.ok [.ints .u8 32, .str] (D.L l5)) →
 TAll.sig.post [.N n0, .V v1, .L l2, .V v4, .L l5])
def TSame.Pure : Prop :=
 ∀ n0 : Nat,
 ∀ v1 : Value,
 ∀ l2 : List D,
 ∀ v3 : Value,
 ∀ l4 : List D,
 (EK.ok [.ints .u8 32, .str] (D.L l2)) →
 (EK.ok [.str, .str] (D.L l4)) →
 TSame.sig.pre [.N n0, .V v1, .L l2, .V v3, .L l4] →
 TAll.sig.pre [.N n0, .V v1, .L l2] ∧ (
 ∀ v5 : Value,
 ∀ l6 : List D,
 TAll.sig.post [.N n0, .V v1, .L l2, .V v5, .L l6] →
 (EK.ok [.ints .u8 32, .str] (D.L l6)) →
 ((
 (((l6.length : Nat) : Int) ≠ ((l4.length : Nat) : Int)) →
  TSame.sig.post [.N n0, .V v1, .L l2, .V v3, .L l4, .I (-1 : Int)]) ∧ (
 (((l6.length : Nat) : Int) = ((l4.length : Nat) : Int)) →
  TLen.sig.pre [.N n0, .V v1, .L l2] ∧ (
 ∀ i7 : Int,
  TLen.sig.post [.N n0, .V v1, .L l2, .I i7] →
 R64 i7 →
 ((
 (i7 ≠ ((l4.length : Nat) : Int)) →
  TSame.sig.post [.N n0, .V v1, .L l2, .V v3, .L l4, .I (-1 : Int)]) ∧ (
 (i7 = ((l4.length : Nat) : Int)) →
  TSame.I0 [.N n0, .V v1, .L l2, .V v3, .L l4, .I 0] ∧ (
 ∀ i8 : Int,
 R64 i8 →
  TSame.I0 [.N n0, .V v1, .L l2, .V v3, .L l4, .I i8] →
 ((
 (i8 < ((l6.length : Nat) : Int)) →
 (0 ≤ i8) ∧ ((0 ≤ i8) →
 ∀ n9 : Nat,
 (i8 < ((l4.length : Nat) : Int)) ∧ ((i8 < ((l4.length : Nat) : Int)) →
 ((
 ((
 ((
 ((textOf ((((l6.getD i8.toNat default)).toL.getD (0 : Int).toNat default)).toLi) ≠ ((((l4.getD i8.toNat default)).toL.getD (0 : Int).toNat default)).toS) →
    TSame.sig.post [.N n0, .V v1, .L l2, .V v3, .L l4, .I (-1 : Int)]) ∧ (
 ((textOf ((((l6.getD i8.toNat default)).toL.getD (0 : Int).toNat default)).toLi) = ((((l4.getD i8.toNat default)).toL.getD (0 : Int).toNat default)).toS) →
 ((
 (((((l6.getD i8.toNat default)).toL.getD (1 : Int).toNat default)).toS ≠ ((((l4.getD i8.toNat default)).toL.getD (1 : Int).toNat default)).toS) →
    TSame.sig.post [.N n0, .V v1, .L l2, .V v3, .L l4, .I (-1 : Int)]) ∧ (
 (((((l6.getD i8.toNat default)).toL.getD (1 : Int).toNat default)).toS = ((((l4.getD i8.toNat default)).toL.getD (1 : Int).toNat default)).toS) →
    Bk TSame.I0 TSame.I0M [.N n0, .V v1, .L l2, .V v3, .L l4, .I (IntKind.wrap .i64 (i8 + 1))] [.N n0, .V v1, .L l2, .V v3, .L l4, .I i8]))))) ∧ (
 ((
 ((textOf ((((l6.getD i8.toNat default)).toL.getD (0 : Int).toNat default)).toLi) ≠ ((((l4.getD i8.toNat default)).toL.getD (0 : Int).toNat default)).toS) →
    TSame.sig.post [.N n0, .V v1, .L l2, .V v3, .L l4, .I (-1 : Int)]) ∧ (
 ((textOf ((((l6.getD i8.toNat default)).toL.getD (0 : Int).toNat default)).toLi) = ((((l4.getD i8.toNat default)).toL.getD (0 : Int).toNat default)).toS) →
 ((
 (((((l6.getD i8.toNat default)).toL.getD (1 : Int).toNat default)).toS ≠ ((((l4.getD i8.toNat default)).toL.getD (1 : Int).toNat default)).toS) →
    TSame.sig.post [.N n0, .V v1, .L l2, .V v3, .L l4, .I (-1 : Int)]) ∧ (
 (((((l6.getD i8.toNat default)).toL.getD (1 : Int).toNat default)).toS = ((((l4.getD i8.toNat default)).toL.getD (1 : Int).toNat default)).toS) →
    Bk TSame.I0 TSame.I0M [.N n0, .V v1, .L l2, .V v3, .L l4, .I (IntKind.wrap .i64 (i8 + 1))] [.N n0, .V v1, .L l2, .V v3, .L l4, .I i8]))))))) ∧ (
 ((
 ((textOf ((((l6.getD i8.toNat default)).toL.getD (0 : Int).toNat default)).toLi) ≠ ((((l4.getD i8.toNat default)).toL.getD (0 : Int).toNat default)).toS) →
   TSame.sig.post [.N n0, .V v1, .L l2, .V v3, .L l4, .I (-1 : Int)]) ∧ (
 ((textOf ((((l6.getD i8.toNat default)).toL.getD (0 : Int).toNat default)).toLi) = ((((l4.getD i8.toNat default)).toL.getD (0 : Int).toNat default)).toS) →
 ((
 (((((l6.getD i8.toNat default)).toL.getD (1 : Int).toNat default)).toS ≠ ((((l4.getD i8.toNat default)).toL.getD (1 : Int).toNat default)).toS) →
    TSame.sig.post [.N n0, .V v1, .L l2, .V v3, .L l4, .I (-1 : Int)]) ∧ (
 (((((l6.getD i8.toNat default)).toL.getD (1 : Int).toNat default)).toS = ((((l4.getD i8.toNat default)).toL.getD (1 : Int).toNat default)).toS) →
    Bk TSame.I0 TSame.I0M [.N n0, .V v1, .L l2, .V v3, .L l4, .I (IntKind.wrap .i64 (i8 + 1))] [.N n0, .V v1, .L l2, .V v3, .L l4, .I i8]))))))))) ∧ (
 (((l6.length : Nat) : Int) ≤ i8) →
    TSame.sig.post [.N n0, .V v1, .L l2, .V v3, .L l4, .I 0])))))))))
end Go.Vc
namespace Go.Vc
theorem TClone.pure : TClone.Pure := by
 intro v0 l1 h1 h2 v2
 have h2 : l1.length ≤ 1000000 := h2
 refine ⟨fun h3 v3 => ?_, fun v3 => ⟨by rw [List.nil_append]; omega, fun _ v4 => List.nil_append _⟩⟩
 have : l1 = [] := List.length_eq_zero_iff.1 (by omega)
 subst this; rfl
theorem TAll.pure : TAll.Pure := by
 intro n0 v1 l2 h1 h2 v3
 exact ⟨h2, fun v4 l5 h3 h4 => h3⟩
theorem refs_at {L : List D} {i : Nat} (hi : i < L.length) : (refs L).getD i default = refRow (entAt L i) := by
 simp [refs, List.getD, hi, entAt]
theorem refs_len (L : List D) : (refs L).length = L.length := by simp [refs]
theorem TSame.pure : TSame.Pure := by
 intro n0 v1 l2 v3 l4 h1 h2 h3
 have h3 : l2.length ≤ 1000000 := h3
 refine ⟨h3, ?_⟩
 intro v5 l6 h4 h5
 have h4 : l6 = l2 := h4
 subst h4
 have neg : ∀ r : Int, l4 ≠ refs l6 → TSame.sig.post [(D.N n0), (D.V v1), (D.L l6), (D.V v3), (D.L l4), (D.I r)] := fun r h h' => absurd h' h
 refine ⟨fun h6 => neg _ (fun e => by rw [e, refs_len] at h6; exact h6 rfl), fun h6 => ⟨trivial, ?_⟩⟩
 intro i7 h7 h8
 have h7 : i7 = l6.length := h7
 refine ⟨fun h9 => by rw [h7] at h9; exact absurd h6 h9, fun h9 => ⟨⟨by omega, by omega, by omega⟩, ?_⟩⟩
 intro i8 h10 h11
 obtain ⟨a1, a2, a3⟩ : 0 ≤ i8 ∧ i8 ≤ l6.length ∧ l6.length = l4.length := h11
 refine ⟨fun h12 => ⟨a1, fun _ n9 => ⟨by omega, fun _ => ?_⟩⟩, fun h12 => fun _ => rfl⟩
 have go : TSame.I0 [(D.N n0), (D.V v1), (D.L l6), (D.V v3), (D.L l4), (D.I (IntKind.wrap .i64 (i8 + (1 : Int))))] ∧ TSame.I0M [(D.N n0), (D.V v1), (D.L l6), (D.V v3), (D.L l4), (D.I (IntKind.wrap .i64 (i8 + (1 : Int))))] < TSame.I0M [(D.N n0), (D.V v1), (D.L l6), (D.V v3), (D.L l4), (D.I i8)] := by
  rw [i64w (by omega) (by omega)]
  refine ⟨⟨by omega, by omega, a3⟩, ?_⟩
  show ((l6.length : Int) - (i8 + 1)).toNat < ((l6.length : Int) - i8).toNat
  omega
 have n1 : ∀ k : Int, textOf (((l6.getD i8.toNat default).toL.getD k.toNat default)).toLi ≠ (((l4.getD i8.toNat default).toL.getD k.toNat default)).toS → k = 0 → l4 ≠ refs l6 := by
  intro k h hk e
  subst hk
  rw [e, refs_at (by omega)] at h
  exact h rfl
 have n2 : ∀ k : Int, (((l6.getD i8.toNat default).toL.getD k.toNat default)).toS ≠ (((l4.getD i8.toNat default).toL.getD k.toNat default)).toS → k = 1 → l4 ≠ refs l6 := by
  intro k h hk e
  subst hk
  rw [e, refs_at (by omega)] at h
  exact h rfl
 have leaf := And.intro (fun h => neg (-1) (n1 0 h rfl)) (fun (_ : textOf (((l6.getD i8.toNat default).toL.getD (0 : Int).toNat default)).toLi = (((l4.getD i8.toNat default).toL.getD (0 : Int).toNat default)).toS) => And.intro (fun h => neg (-1) (n2 1 h rfl)) (fun (_ : (((l6.getD i8.toNat default).toL.getD (1 : Int).toNat default)).toS = (((l4.getD i8.toNat default).toL.getD (1 : Int).toNat default)).toS) => go))
 exact ⟨⟨leaf, leaf⟩, leaf⟩
theorem less_cmp : ∀ {a b : List Int}, a.length = b.length → (∀ x ∈ a, 0 ≤ x ∧ x < 256) → (∀ x ∈ b, 0 ≤ x ∧ x < 256) → Op.bytesLess (a.map u8) (b.map u8) = decide (cmpL a b < 0)
 | [], [], _, _, _ => by simp [Op.bytesLess, cmpL]
 | [], _ :: _, h, _, _ => by simp at h
 | _ :: _, [], h, _, _ => by simp at h
 | x :: a, y :: b, h, ha, hb => by
  have ih := less_cmp (a := a) (b := b) (by simpa using h) (fun z hz => ha z (by simp [hz])) (fun z hz => hb z (by simp [hz]))
  have hx := ha x (by simp)
  have hy := hb y (by simp)
  rw [List.map_cons, List.map_cons, less_step hx hy, ih, cmpL]
  by_cases c : x < y
  ·rw [if_pos c, if_pos c]; rfl
  ·rw [if_neg c, if_neg c]
   by_cases c2 : x > y
   ·rw [if_pos c2, if_neg (by omega)]; rfl
   ·rw [if_neg c2, if_pos (by omega)]
theorem less_text {k : List Int} {s : ByteArray} (hl : k.length = s.size) (hk : ∀ x ∈ k, 0 ≤ x ∧ x < 256) : Op.bytesLess (textOf k).toList s.toList = decide (cmpL k (bytesOf s) < 0) := by
 have e : s.toList = (bytesOf s).map u8 := by rw [← toList_textOf, textOf_bytesOf]
 rw [toList_textOf, e]
 exact less_cmp (by rw [hl, bytesOf_length']) hk (bytesOf_has s)
end Go.Vc