/-
 The document's disk, as a model in Lean.
 The disk: contracts, first part: rows.
 Printed by wip/vct.py: the conditions of functions, by their contracts.
 The disk: plain conditions, first part.
-/
import Derived.Test.YtfhmokjjjnjhjaaGreatDoorVcd
import Derived.OpenShut
import Derived.FnData
import Derived.ChangeArms
import GoSem.ClaimJoined
import Derived.Deep.Slices
import Derived.WideShapes
import Derived.Test.YtfhmokjjjnjhjaaGreatDoorVcc
import Derived.Lib.SlKeysI
import Derived.Lib.SlMapFilter
import Derived.Maps.Own
import Derived.Sort.Walk0
import Derived.KernelRfl
set_option linter.unusedVariables false
set_option linter.unusedSimpArgs false
open _root_.Go.IntKind (wrap)
namespace Go.Vc
abbrev Tx := List UInt8
def tx (s : BA) : Tx := s.data.toList
def bx (l : Tx) : BA := ⟨l.toArray⟩
@[simp] theorem tx_bx (l : Tx) : tx (bx l) = l := rfl
@[simp] theorem bx_tx (s : BA) : bx (tx s) = s := by cases s; simp [bx, tx]
theorem sZ {a b : BA} (h : tx a = tx b) : a = b := by rw [← bx_tx a, h, bx_tx]
theorem bA5 {a b : Tx} (h : bx a = bx b) : a = b := by rw [← tx_bx a, h, tx_bx]
theorem sV (s : BA) : s.toList = tx s := ByteArray.toList_eq s
theorem cJ6 (s : BA) : (tx s).length = s.size := rfl
theorem yH (s : BA) (a b : Nat) : tx (s.extract a b) = ((tx s).take b).drop a := by
 simp [tx, ByteArray.data_extract]
 rw [List.drop_take]
namespace Dk
structure Fi where
 data : Tx
 safe : Nat
 deriving DecidableEq
structure Cg where
 gone : Tx
 name : Tx
 file : Nat
 deriving DecidableEq
structure Ds where
 files : List Fi
 names : List (Tx × Nat)
 safe : List (Tx × Nat)
 pend : List Cg
 room : Int
 crash : Int
 fail : Int
 dead : Bool
 calls : Int
 deriving DecidableEq
def new (room : Int) : Ds := ⟨[], [], [], [], max room 0, -1, -1, false, 0⟩
def find : List (Tx × Nat) → Tx → Option Nat
 | [], _ => none
 | p :: l, n => if p.1 = n then some p.2 else find l n
def ins (p : Tx × Nat) : List (Tx × Nat) → List (Tx × Nat)
 | [] => [p]
 | q :: l => if p.1 < q.1 then p :: q :: l else q :: ins p l
def apply (l : List (Tx × Nat)) (c : Cg) : List (Tx × Nat) :=
 let l' := l.filter fun p => p.1 ≠ c.gone ∧ p.1 ≠ c.name
 if c.name = [] then l' else ins (c.name, c.file) l'
def held (d : Ds) (i : Nat) : Bool := d.names.any (fun p => p.2 == i) || d.safe.any (fun p => p.2 == i) || d.pend.any fun c => decide (c.name ≠ []) && c.file == i
def bP7 (d : Ds) : Nat → List Fi → Nat
 | _, [] => 0
 | i, f :: fs => (if held d i then f.data.length else 0) + bP7 d (i + 1) fs
def used (d : Ds) : Nat := bP7 d 0 d.files
def free (d : Ds) : Int := max (d.room - used d) 0
def begin (d : Ds) : Ds × Bool × Int :=
 if d.dead then (d, false, 9)
 else if d.fail = 0 then ({ d with fail := -1 }, false, 8)
 else
  let d := if d.fail > 0 then { d with fail := d.fail - 1 } else d
  if d.crash = 0 then ({ d with crash := -1, dead := true }, true, 9)
  else
   let d := if d.crash > 0 then { d with crash := d.crash - 1 } else d
   ({ d with calls := d.calls + 1 }, false, 0)
def set (d : Ds) (i : Nat) (f : Fi) : Ds := { d with files := d.files.set i f }
def fileAt (d : Ds) (i : Nat) : Fi := d.files.getD i ⟨[], 0⟩
def append (d : Ds) (name s : Tx) : Ds × Int :=
 if d.dead then (d, 9) else match find d.names name with
 | none => (d, 5)
 | some i => if (s.length : Int) > free d then (d, 7) else
  match begin d with
  | (d, stops, e) => if e ≠ 0 ∧ stops = false then (d, e) else (set d i ⟨(fileAt d i).data ++ s, (fileAt d i).safe⟩, e)
def read (d : Ds) (name : Tx) : Tx × Int :=
 if d.dead then ([], 9) else match find d.names name with
 | none => ([], 5)
 | some i => ((fileAt d i).data, 0)
def pick (l : LI) (i : Nat) (n : Nat) : Nat := if i < l.length then (l.getD i 0 % (n : Int)).toNat else 0
def cut (d : Ds) (choice : LI) : Nat → Nat → List Fi → List Fi
 | _, _, [] => []
 | i, k, f :: fs =>
  if held d i ∧ f.safe < f.data.length then
   let n := f.safe + pick choice k (f.data.length - f.safe + 1)
   ⟨f.data.take n, n⟩ :: cut d choice (i + 1) (k + 1) fs
  else f :: cut d choice (i + 1) k fs
def Sorted (l : List (Tx × Nat)) : Prop := l.Pairwise fun a b => a.1 < b.1
structure Inv (d : Ds) : Prop where
 sn : Sorted d.names
 ss : Sorted d.safe
 ne : ∀ p ∈ d.safe, p.1 ≠ []
 ins : ∀ p ∈ d.safe, p.2 < d.files.length
 inp : ∀ c ∈ d.pend, c.name ≠ [] → c.file < d.files.length
 names : d.names = d.pend.foldl apply d.safe
 fs : ∀ f ∈ d.files, f.safe ≤ f.data.length
theorem lt_irrefl (a : Tx) : ¬ a < a := List.lt_irrefl a
theorem lt_trans {a b c : Tx} (h : a < b) (k : b < c) : a < c := List.lt_trans h k
theorem aD3 (d : Ds) : (begin d).1.files = d.files ∧ (begin d).1.names = d.names ∧ (begin d).1.safe = d.safe ∧ (begin d).1.pend = d.pend ∧ (begin d).1.room = d.room := by
 unfold begin
 split
 ·exact ⟨rfl, rfl, rfl, rfl, rfl⟩
 ·split
  ·exact ⟨rfl, rfl, rfl, rfl, rfl⟩
  ·dsimp only
   split <;> split <;> first | exact ⟨rfl, rfl, rfl, rfl, rfl⟩ | (split <;> exact ⟨rfl, rfl, rfl, rfl, rfl⟩)
theorem Inv.same {d d' : Ds} (h : Inv d) (e1 : d'.files = d.files) (e2 : d'.names = d.names) (e3 : d'.safe = d.safe) (e4 : d'.pend = d.pend) : Inv d' := by
 obtain ⟨a, b, c, e, f, g, i⟩ := h
 exact ⟨by rw [e2]; exact a, by rw [e3]; exact b, by rw [e3]; exact c, by rw [e3, e1]; exact e, by rw [e4, e1]; exact f, by rw [e2, e3, e4]; exact g, by rw [e1]; exact i⟩
theorem Inv.begin {d : Ds} (h : Inv d) : Inv (Dk.begin d).1 := h.same (aD3 d).1 (aD3 d).2.1 (aD3 d).2.2.1 (aD3 d).2.2.2.1
theorem Inv.more {d : Ds} (h : Inv d) : Inv { d with files := d.files ++ [⟨[], 0⟩] } := by
 obtain ⟨a, b, e, f, g, i, j⟩ := h
 refine ⟨a, b, e, fun p hp => ?_, fun c hc hn => ?_, i, fun x hx => ?_⟩
 ·have := f p hp; simp only [List.length_append, List.length_cons, List.length_nil]; omega
 ·have := g c hc hn; simp only [List.length_append, List.length_cons, List.length_nil]; omega
 ·rcases List.mem_append.1 hx with hx | hx
  ·exact j x hx
  ·rw [List.mem_singleton] at hx; subst hx; exact Nat.le_refl _
theorem Inv.set {d : Ds} (h : Inv d) {i : Nat} {f : Fi} (hf : f.safe ≤ f.data.length) : Inv (Dk.set d i f) := by
 obtain ⟨a, b, e, g, k, l, j⟩ := h
 refine ⟨a, b, e, fun p hp => by rw [Dk.set, List.length_set]; exact g p hp, fun c hc hn => by rw [Dk.set, List.length_set]; exact k c hc hn, l, fun x hx => ?_⟩
 rcases List.mem_or_eq_of_mem_set hx with hx | rfl
 ·exact j x hx
 ·exact hf
end Dk
end Go.Vc
namespace Go.Vc
def sizeOf (r : D) : Nat := (r.toL.getD 2 default).toS.size
end Go.Vc
namespace Go.Vc
set_option linter.unusedVariables false
end Go.Vc
namespace Go.Vc
theorem wrap64 {n : Int} (h : -9223372036854775808 ≤ n) (k : n < 9223372036854775808) : IntKind.i64.wrap n = n := by
 refine aY9 ?_
 show IntKind.i64.min ≤ n ∧ n ≤ IntKind.i64.max
 have : IntKind.i64.min = -9223372036854775808 := by decide
 have : IntKind.i64.max = 9223372036854775807 := by decide
 omega
end Go.Vc