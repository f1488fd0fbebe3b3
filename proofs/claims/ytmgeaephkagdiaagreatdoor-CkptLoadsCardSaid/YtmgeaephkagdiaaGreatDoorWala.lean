/-
 The log: what its files' names say, and what its calls do, over the document's disk.
 The log: contracts.
 Printed by wip/vct.py: the conditions of functions, by their contracts.
 The log: plain conditions of names.
 The log: plain conditions of its files.
 The log: plain conditions of Sync, turn, Append.
-/
import Derived.Test.YtmgeaephkagdiaaGreatDoorDskf
import Derived.Test.YtmgeaephkagdiaaGreatDoorFrame
import Derived.Test.YtmgeaephkagdiaaGreatDoorDske
import Derived.Test.YtmgeaephkagdiaaGreatDoorUsrt
import Derived.KernelRfl
import Derived.Test.YtmgeaephkagdiaaGreatDoorDska
set_option linter.unusedVariables false
set_option linter.unusedSimpArgs false
open _root_.Go.IntKind (wrap)
namespace Go.Vc
namespace Wl
open Dk (Ds)
def hexD (v : Nat) : UInt8 := if v < 10 then UInt8.ofNat (48 + v) else UInt8.ofNat (87 + v)
def hexV (c : UInt8) : Option Nat := if 48 ≤ c ∧ c ≤ 57 then some (c.toNat - 48) else if 97 ≤ c ∧ c ≤ 102 then some (c.toNat - 87) else none
def dig : Nat → Nat → Tx
 | 0, _ => []
 | k + 1, n => hexD (n / 16 ^ k % 16) :: dig k n
def pre : Tx := [119, 97, 108, 45]
def name (n : Nat) : Tx := pre ++ dig 16 n
def val : Tx → Nat → Option Nat
 | [], a => some a
 | c :: r, a => match hexV c with
  | some v => val r (16 * a + v)
  | none => none
def first (s : Tx) : Option Nat := if s.take 4 = pre ∧ s.length = 20 then val (s.drop 4) 0 else none
structure Lg where
 limit : Int
 next : Nat
 name : Tx
 size : Int
 loose : Bool
 found : List Tx
def frT (q : Nat) (r : Tx) : Tx := tx (textOf (dE4 q (bx r)))
def files (x : Ds) : List Nat := x.names.filterMap fun p => first p.1
def cR1 : Ds → List Tx → Ds × List Tx × Int
 | x, [] => (x, [], 0)
 | x, f :: r => if (Dk.sync x f).2 ≠ 0 then ((Dk.sync x f).1, f :: r, (Dk.sync x f).2) else cR1 (Dk.sync x f).1 r
def dU0 (x : Ds) (g : Lg) : Ds × Lg × Int :=
 if g.loose = false then (x, g, 0) else if (Dk.sync x g.name).2 ≠ 0 then ((Dk.sync x g.name).1, g, (Dk.sync x g.name).2) else ((Dk.sync x g.name).1, { g with loose := false }, 0)
def dT9 (g : Lg) (s : Ds × List Tx × Int) : Ds × Lg × Int :=
 if s.2.2 ≠ 0 then (s.1, { g with found := s.2.1 }, s.2.2) else dU0 s.1 { g with found := s.2.1 }
def sync (x : Ds) (g : Lg) : Ds × Lg × Int := dT9 g (cR1 x g.found)
def dW2 (x : Ds) (g : Lg) : Ds × Lg × Int :=
 if (Dk.fD x).2 ≠ 0 then ((Dk.fD x).1, g, (Dk.fD x).2) else ((Dk.fD x).1, { g with name := Wl.name g.next, size := 0 }, 0)
def cS8 (x : Ds) (g : Lg) : Ds × Lg × Int :=
 if (Dk.create x (Wl.name g.next)).2 ≠ 0 then ((Dk.create x (Wl.name g.next)).1, g, (Dk.create x (Wl.name g.next)).2) else dW2 (Dk.create x (Wl.name g.next)).1 g
def dW1 (x : Ds) (g : Lg) : Ds × Lg × Int :=
 if x.names.any (fun p => p.1 == Wl.name g.next) then
  if (Dk.remove x (Wl.name g.next)).2 ≠ 0 then ((Dk.remove x (Wl.name g.next)).1, g, (Dk.remove x (Wl.name g.next)).2) else cS8 (Dk.remove x (Wl.name g.next)).1 g
 else cS8 x g
def dW0 (s : Ds × Lg × Int) : Ds × Lg × Int := if s.2.2 ≠ 0 then s else if s.1.dead then (s.1, s.2.1, 9) else dW1 s.1 s.2.1
def turn (x : Ds) (g : Lg) : Ds × Lg × Int := dW0 (sync x g)
def app2 (s : Tx) (x : Ds) (g : Lg) : Ds × Lg × Int :=
 if (Dk.append x g.name s).2 ≠ 0 then ((Dk.append x g.name s).1, g, (Dk.append x g.name s).2) else ((Dk.append x g.name s).1, { g with size := g.size + s.length, loose := true, next := (g.next + 1) % 18446744073709551616 }, 0)
def app1 (s : Tx) (r : Ds × Lg × Int) : Ds × Lg × Int := if r.2.2 ≠ 0 then r else app2 s r.1 r.2.1
def append (x : Ds) (g : Lg) (r : Tx) : Ds × Lg × Int :=
 if r.length > 4194304 then (x, g, 12) else if g.name = [] ∨ (g.size > 0 ∧ g.size > g.limit - (frT g.next r).length) then app1 (frT g.next r) (turn x g) else app2 (frT g.next r) x g
end Wl
end Go.Vc
namespace Go.Vc
open Dk (Ds)
def kP.sig : Sig := gQ [.l [.str], .s] [.i .i64] (fun l => (arg l 1).toL.length ≤ 1000000000) fun l => 0 ≤ (arg l 3).toI ↔ ∃ d ∈ (arg l 1).toL, d.toS = (arg l 2).toS
def kP.I0 : LD → Prop := fun l => 0 ≤ (arg l 3).toI ∧ (arg l 3).toI ≤ (arg l 1).toL.length ∧ ∀ i : Nat, (i : Int) < (arg l 3).toI → ((arg l 1).toL.getD i default).toS ≠ (arg l 2).toS
def kP.I0M : LD → Nat := fun l => ((arg l 1).toL.length - (arg l 3).toI).toNat
def uQ.sig : Sig := gQ [.l [.str], .s] [.b] (fun l => (arg l 1).toL.length ≤ 1000000000) fun l => (arg l 3).toB = true ↔ ∃ d ∈ (arg l 1).toL, d.toS = (arg l 2).toS
def Mid (x : Ds) : Prop := Lim 50000 100000000 x
end Go.Vc
namespace Go.Vc
set_option linter.unusedVariables false
set_option maxRecDepth 100000
def kP.Pure : Prop :=
 ∀ v0 : Value,
 ∀ l1 : LD,
 ∀ s2 : BA,
 ((s2.size : Int) ≤ 9223372036854775807) →
 (EK.ok [.str] (D.L l1)) →
 kP.sig.pre [.V v0, .L l1, .S s2] →
 kP.I0 [.V v0, .L l1, .S s2, .I 0] ∧ (
 ∀ i3 : Int,
 R64 i3 →
 kP.I0 [.V v0, .L l1, .S s2, .I i3] →
 ((
 (i3 < (l1.length : Int)) →
 Im (0 ≤ i3) (
 ((
 (s2 = (l1.getD i3.toNat default).toS) →
  kP.sig.post [.V v0, .L l1, .S s2, .I i3]) ∧ (
 (s2 ≠ (l1.getD i3.toNat default).toS) →
  Bk kP.I0 kP.I0M [.V v0, .L l1, .S s2, .I (wrap .i64 (i3 + 1))] [.V v0, .L l1, .S s2, .I i3])))) ∧ (
 ((l1.length : Int) ≤ i3) →
  kP.sig.post [.V v0, .L l1, .S s2, .I (-1 : Int)])))
def uQ.Pure : Prop :=
 ∀ v0 : Value,
 ∀ l1 : LD,
 ∀ s2 : BA,
 ((s2.size : Int) ≤ 9223372036854775807) →
 (EK.ok [.str] (D.L l1)) →
 uQ.sig.pre [.V v0, .L l1, .S s2] →
 kP.sig.pre [.V v0, .L l1, .S s2] ∧ (
 ∀ i3 : Int,
 kP.sig.post [.V v0, .L l1, .S s2, .I i3] →
 R64 i3 →
 uQ.sig.post [.V v0, .L l1, .S s2, .B (decide (0 ≤ i3))])
end Go.Vc
namespace Go.Vc
open Dk (Ds)
theorem toList_eq {a b : BA} : (a.toList == b.toList) = decide (tx a = tx b) := by
 rw [Bool.eq_iff_iff, bytes_eq, decide_eq_true_iff]
 exact ⟨fun h => by rw [h], aY7⟩
theorem kP.pure : kP.Pure := by
 intro v0 l1 s2 _ _ hp
 have hp : l1.length ≤ 1000000000 := hp
 refine ⟨⟨Int.le_refl _, (by omega : (0 : Int) ≤ l1.length), fun i hi => ?_⟩, ?_⟩
 ·have hi : (i : Int) < 0 := hi
  omega
 intro i3 _ ⟨g1, g2, g3⟩
 have g1 : 0 ≤ i3 := g1
 have g2 : i3 ≤ (l1.length : Int) := g2
 have g3 : ∀ i : Nat, (i : Int) < i3 → (l1.getD i default).toS ≠ s2 := g3
 refine ⟨fun h => ⟨g1, fun _ => ⟨fun he => ?_, fun hne => ⟨⟨?_, ?_, ?_⟩, ?_⟩⟩⟩, fun h => ?_⟩
 ·show 0 ≤ i3 ↔ ∃ d ∈ l1, d.toS = s2
  refine ⟨fun _ => ⟨l1.getD i3.toNat default, ?_, he.symm⟩, fun _ => g1⟩
  rw [List.getD, List.getElem?_eq_getElem (by omega)]
  exact List.getElem_mem _
 ·show 0 ≤ IntKind.i64.wrap (i3 + 1)
  rw [wrap64 (by omega) (by omega)]; omega
 ·show IntKind.i64.wrap (i3 + 1) ≤ (l1.length : Int)
  rw [wrap64 (by omega) (by omega)]; omega
 ·show ∀ i : Nat, (i : Int) < IntKind.i64.wrap (i3 + 1) → (l1.getD i default).toS ≠ s2
  rw [wrap64 (by omega) (by omega)]
  intro i hi
  by_cases hlt : (i : Int) < i3
  ·exact g3 i hlt
  ·have : i = i3.toNat := by omega
   subst this
   exact fun he => hne he.symm
 ·show ((l1.length : Int) - IntKind.i64.wrap (i3 + 1)).toNat < ((l1.length : Int) - i3).toNat
  rw [wrap64 (by omega) (by omega)]; omega
 ·show (0 : Int) ≤ -1 ↔ ∃ d ∈ l1, d.toS = s2
  refine ⟨fun h => by omega, fun ⟨d, hd, he⟩ => ?_⟩
  obtain ⟨i, hi, rfl⟩ := List.mem_iff_getElem.1 hd
  have := g3 i (by omega)
  rw [List.getD, List.getElem?_eq_getElem hi] at this
  exact absurd he this
theorem uQ.pure : uQ.Pure := by
 intro v0 l1 s2 _ _ hp
 refine ⟨hp, fun i3 (h : 0 ≤ i3 ↔ ∃ d ∈ l1, d.toS = s2) _ => ?_⟩
 show decide (0 ≤ i3) = true ↔ ∃ d ∈ l1, d.toS = s2
 rw [decide_eq_true_iff]; exact h
end Go.Vc
namespace Go.Vc
open Dk (Ds)
end Go.Vc
namespace Go.Vc
open Dk (Ds)
theorem Mid.small {x : Ds} (h : Mid x) : Small x := Lim.small h (by omega) (by omega)
end Go.Vc