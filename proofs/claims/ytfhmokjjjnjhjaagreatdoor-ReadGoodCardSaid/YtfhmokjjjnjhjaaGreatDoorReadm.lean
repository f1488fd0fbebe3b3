/-
 Litmus tests, and how they are read from lines of tokens: a model in Lean.
-/
import Derived.Test.YtfhmokjjjnjhjaaGreatDoorLexm
import Derived.Sort.Defs
import Derived.Lib.BitFns
set_option linter.unusedVariables false
set_option linter.unusedSimpArgs false
set_option linter.unnecessarySimpa false
open _root_.Go.IntKind (wrap)
namespace Go.Vc
namespace Lt
open Lx (Tok)
structure Ins where
 op : Int
 rd : Int
 loc : Int
 areg : Bool
 an : Nat
 breg : Bool
 bn : Nat
 acq : Bool
 rel : Bool
 dep : Int
 pred : Int
 succ : Int
 skip : Int
 deriving DecidableEq, Repr
def Ins.zero : Ins := ⟨0, 0, 0, false, 0, false, 0, false, false, 0, 0, 0, 0⟩
structure Test where
 locs : List (Tx × Nat)
 threads : List (List Ins)
 asks : List (Int × Int × Nat)
 deriving DecidableEq, Repr
def Test.zero : Test := ⟨[], [], []⟩
def reads (op : Int) : Bool := op == 9 || op == 11 || op == 12 || op == 13
def writes (op : Int) : Bool := op == 10 || op == 11 || op == 12 || op == 14
def lV (op : Int) : Bool := reads op || writes op
def sets (op : Int) : Bool := decide (1 ≤ op) && decide (op ≤ 14) && op != 10
def aF5 (r : Bool) (n : Nat) : Bool := !r || decide (n < 8)
def zM : Tx → Bool
 | [] => true
 | c :: r => Lx.small c && r.all Lx.bP
def sG : Tx → Bool
 | [114, c] => decide (c.toNat ≤ 57)
 | _ => false
def jW (s : Tx) : Bool := zM s && !sG s && decide (s ≠ []) && decide (s.length ≤ 16)
def rM (op : Int) : Prop := op = 1 ∨ writes op = true ∨ (2 ≤ op ∧ op ≤ 8) ∨ op = 16 ∨ op = 17
def hasB (op : Int) : Prop := (2 ≤ op ∧ op ≤ 8) ∨ op = 16 ∨ op = 17
instance (op : Int) : Decidable (rM op) := by unfold rM; infer_instance
instance (op : Int) : Decidable (hasB op) := by unfold hasB; infer_instance
def bk1 (x : Ins) : Ins := { Ins.zero with op := x.op, rd := if sets x.op then x.rd else 0 }
def bk2 (x : Ins) : Ins := { bk1 x with loc := if lV x.op then x.loc else 0, dep := if lV x.op then x.dep else 0, acq := if lV x.op then x.acq else false, rel := if lV x.op then x.rel else false }
def bk3 (x : Ins) : Ins := { bk2 x with areg := if rM x.op then x.areg else false, an := if rM x.op then x.an else 0, breg := if hasB x.op then x.breg else false, bn := if hasB x.op then x.bn else 0 }
def bk4 (x : Ins) : Ins := { bk3 x with pred := if x.op = 15 then x.pred else 0, succ := if x.op = 15 then x.succ else 0 }
def qK (x : Ins) : Ins := { bk4 x with skip := if x.op = 16 ∨ x.op = 17 then x.skip else 0 }
def ck6 (x : Ins) (left : Int) : Int := if x.skip < 0 ∨ x.skip > left then 13 else 0
def ck5 (x : Ins) (left : Int) : Int := if (x.acq = true ∧ reads x.op = false) ∨ (x.rel = true ∧ writes x.op = false) then 3 else ck6 x left
def ck4 (x : Ins) (left : Int) : Int := if x.op = 15 ∧ (x.pred < 1 ∨ x.pred > 3 ∨ x.succ < 1 ∨ x.succ > 3) then 3 else ck5 x left
def ck3 (x : Ins) (left : Int) : Int := if x.op = 1 ∧ x.areg = true then 3 else ck4 x left
def oN (nlocs : Nat) (x : Ins) (left : Int) : Int :=
 if x.op < 1 ∨ x.op > 17 ∨ qK x ≠ x then 3
 else if x.rd < 0 ∨ x.rd ≥ 8 ∨ aF5 x.areg x.an = false ∨ aF5 x.breg x.bn = false ∨ x.dep < 0 ∨ x.dep > 8 then 11
 else if lV x.op = true ∧ (x.loc < 0 ∨ x.loc ≥ nlocs) then 11
 else ck3 x left
def evI (x : Ins) : Int := (if reads x.op then 1 else 0) + (if writes x.op then 1 else 0)
def evL (l : List Ins) : Int := (l.map evI).sum
def oU (l : List (List Ins)) : Int := (l.map evL).sum
def events (t : Test) : Int := oU t.threads
def vN (t : Test) (r : List (List Ins)) : Int := if r.any (fun l => decide (8 < l.length)) then 12 else if 8 < events t then 12 else 0
def sizes (t : Test) : Int :=
 if t.threads = [] then 15
 else if 4 < t.threads.length ∨ 8 < t.locs.length ∨ 40 < t.asks.length then 12
 else vN t t.threads
def nY (a b : Tx) : Bool := Op.bytesLess a b
def kH : Option Tx → List (Tx × Nat) → Int
 | _, [] => 0
 | p, x :: r => if jW x.1 = false then 11 else match p with
  | some q => if nY x.1 q || x.1 == q then 16 else kH (some x.1) r
  | none => kH (some x.1) r
def wB (n : Nat) : List Ins → Int
 | [] => 0
 | x :: r => if oN n x r.length ≠ 0 then oN n x r.length else wB n r
def yS (n : Nat) : List (List Ins) → Int
 | [] => 0
 | l :: r => if wB n l ≠ 0 then wB n l else yS n r
def before (a b : Int × Int × Nat) : Bool := if a.1 ≠ b.1 then decide (b.1 < 0) || (decide (0 ≤ a.1) && decide (a.1 < b.1)) else decide (a.2.1 < b.2.1)
def qL (t : Test) (a : Int × Int × Nat) : Int :=
 if a.1 < -1 ∨ a.1 ≥ t.threads.length ∨ a.2.1 < 0 ∨ a.2.1 ≥ (if 0 ≤ a.1 then 8 else (t.locs.length : Int)) then 11 else 0
def mF (t : Test) : Option (Int × Int × Nat) → List (Int × Int × Nat) → Int
 | _, [] => 0
 | p, a :: r => if qL t a ≠ 0 then qL t a else match p with
  | some q => if before q a then mF t (some a) r else 16
  | none => mF t (some a) r
def yR (t : Test) (r : List (List Ins)) : Int := if yS t.locs.length r ≠ 0 then yS t.locs.length r else mF t none t.asks
def aD8 (t : Test) (x : List Ins) (r : List (List Ins)) : Int := if wB t.locs.length x ≠ 0 then wB t.locs.length x else yR t r
def vZ (t : Test) (p : Option Tx) (r : List (Tx × Nat)) : Int := if kH p r ≠ 0 then kH p r else yR t t.threads
def check (t : Test) : Int := if sizes t ≠ 0 then sizes t else vZ t none t.locs
def idxBy {α : Type} (p : α → Bool) (q : List α) : Int := match q.findIdx? p with | some i => i | none => -1
structure Rd where
 t : List Tok
 err : Int
 deriving DecidableEq, Repr
def Rd.fail (r : Rd) (e : Int) : Rd := if r.err = 0 then { r with err := e } else r
def Rd.next (r : Rd) : Tok × Rd := match r.t with
 | [] => (⟨0, [], 0⟩, r.fail 10)
 | t :: ts => if r.err ≠ 0 then (⟨0, [], 0⟩, r.fail 10) else (t, { r with t := ts })
def Rd.word (r : Rd) : Tx × Rd := (r.next.1.text, if r.next.1.kind ≠ 1 then r.next.2.fail 10 else r.next.2)
def Rd.accept (r : Rd) (s : Tx) : Bool × Rd := match r.t with
 | [] => (false, r)
 | t :: ts => if r.err ≠ 0 ∨ t.kind ≠ 1 ∨ t.text ≠ s then (false, r) else (true, { r with t := ts })
def Rd.sign (r : Rd) (s : Tx) : Rd := if r.next.1.kind ≠ 3 ∨ r.next.1.text ≠ s then r.next.2.fail 10 else r.next.2
def Rd.number (r : Rd) : Nat × Rd := (r.next.1.n, if r.next.1.kind ≠ 2 then r.next.2.fail 10 else r.next.2)
def mV (s : Tx) : Bool := match s with | [114, c] => decide (48 ≤ c.toNat) && decide (c.toNat ≤ 57) | _ => false
def Rd.reg (r : Rd) : Int × Rd :=
 if r.word.2.err ≠ 0 then (0, r.word.2) else if mV r.word.1 = false then (0, r.word.2.fail 10) else if 55 < (r.word.1.getD 1 0).toNat then (0, r.word.2.fail 11) else (((r.word.1.getD 1 0).toNat : Int) - 48, r.word.2)
def Rd.loc (r : Rd) : Tx × Rd := (r.word.1, if r.word.2.err = 0 ∧ jW r.word.1 = false then r.word.2.fail 11 else r.word.2)
def Rd.isNum (r : Rd) : Bool := match r.t with | t :: _ => t.kind == 2 | [] => false
def Rd.arg (r : Rd) : (Bool × Nat) × Rd := if r.isNum then ((false, r.number.1), r.number.2) else ((true, r.reg.1.toNat), r.reg.2)
def Rd.side (r : Rd) : Int × Rd :=
 if r.word.1 = [114] then (1, r.word.2) else if r.word.1 = [119] then (2, r.word.2) else if r.word.1 = [114, 119] then (3, r.word.2) else (0, r.word.2.fail 10)
def names : List Tx := [[], [108, 105], [97, 100, 100], [115, 117, 98], [120, 111, 114], [97, 110, 100], [111, 114], [115, 104, 108], [115, 104, 114], [108, 111, 97, 100], [115, 116, 111, 114, 101], [115, 119, 97, 112], [97, 109, 111], [108, 114], [115, 99], [102, 101, 110, 99, 101], [98, 101, 113], [98, 110, 101]]
def opOf (s : Tx) : Int := max (idxBy (· == s) names) 0
def Rd.acq (r : Rd) (op : Int) : Bool × Rd := if reads op then r.accept [97, 99, 113] else (false, r)
def Rd.rel (r : Rd) (op : Int) : Bool × Rd := if writes op then r.accept [114, 101, 108] else (false, r)
def Rd.tail (r : Rd) (x : Ins) : Ins × Rd :=
 let a := r.acq x.op
 let l := a.2.rel x.op
 let d := l.2.accept [100, 101, 112]
 if d.1 then ({ x with acq := a.1, rel := l.1, dep := d.2.reg.1 + 1 }, d.2.reg.2) else ({ x with acq := a.1, rel := l.1 }, d.2)
structure Rg where
 x : Ins
 l : Tx
 r : Rd
def Rg.rd (g : Rg) : Rg := if sets g.x.op then { g with x := { g.x with rd := g.r.reg.1 }, r := g.r.reg.2 } else g
def Rg.loc (g : Rg) : Rg := if lV g.x.op then { g with l := g.r.loc.1, r := g.r.loc.2 } else g
def Rg.a (g : Rg) : Rg := { g with x := { g.x with areg := g.r.arg.1.1, an := g.r.arg.1.2 }, r := g.r.arg.2 }
def Rg.b (g : Rg) : Rg := { g with x := { g.x with breg := g.r.arg.1.1, bn := g.r.arg.1.2 }, r := g.r.arg.2 }
def Rg.ps (g : Rg) : Rg := { g with x := { g.x with pred := g.r.side.1, succ := g.r.side.2.side.1 }, r := g.r.side.2.side.2 }
def Rg.args (g : Rg) : Rg :=
 if g.x.op = 1 then { g with x := { g.x with an := g.r.number.1 }, r := g.r.number.2 }
 else if writes g.x.op then g.a
 else if g.x.op < 9 ∨ g.x.op > 15 then g.a.b
 else if g.x.op = 15 then g.ps
 else g
def Rg.tail (g : Rg) : Rg := if lV g.x.op then { g with x := (g.r.tail g.x).1, r := (g.r.tail g.x).2 } else g
def Rg.skip (g : Rg) : Rg := if g.x.op > 15 then { g with x := { g.x with skip := min g.r.number.1 9 }, r := g.r.number.2 } else g
def Rd.op (r : Rd) : Rg := ⟨{ Ins.zero with op := opOf r.word.1 }, [], r.word.2⟩
def Rd.instr (r : Rd) : Rg := if r.op.x.op = 0 then { r.op with r := r.op.r.fail 10 } else r.op.rd.loc.args.tail.skip
structure Ask where
 th : Int
 at_ : Int
 v : Nat
 loc : Tx
 deriving DecidableEq, Repr
structure bI where
 inits : List (Tx × Nat)
 threads : List (List (Ins × Tx))
 asks : List Ask
 deriving DecidableEq, Repr
def bI.zero : bI := ⟨[], [], []⟩
def jZ : Nat → List (Tx × Nat) → Rd → List (Tx × Nat) × Rd
 | 0, d, r => (d, r)
 | f + 1, d, r => if r.t = [] ∨ r.err ≠ 0 then (d, r) else
  let n := r.loc
  let v := (n.2.sign [61]).number
  jZ f (d ++ [(n.1, v.1)]) (if d.any (fun i => i.1 == n.1) then v.2.fail 14 else v.2)
def dD (r : Rd) (t : Tok) : Ask × Rd :=
 if t.kind = 2 then let n := r.number; let a := (n.2.sign [58]).reg; (⟨min n.1 4, a.1, 0, []⟩, a.2) else let l := r.loc; (⟨-1, 0, 0, l.1⟩, l.2)
def iC (q o : Ask) : Bool := o.loc == q.loc && o.th == q.th && o.at_ == q.at_
def iU : Nat → List Ask → Rd → List Ask × Rd
 | 0, d, r => (d, r)
 | f + 1, d, r => match r.t with
  | [] => (d, r)
  | t :: _ => if r.err ≠ 0 then (d, r) else
   let q := dD r t
   let v := (q.2.sign [61]).number
   iU f (d ++ [{ q.1 with v := v.1 }]) (if d.any (iC q.1) then v.2.fail 14 else v.2)
def uO (l : List (List (Ins × Tx))) (x : Ins × Tx) : List (List (Ins × Tx)) := l.dropLast ++ [l.getLastD [] ++ [x]]
def fin (d : bI) (r : Rd) : bI × Int := if r.err = 0 ∧ r.t ≠ [] then (d, 10) else (d, r.err)
def take (d : bI) (t : List Tok) : bI × Int :=
 let r : Rd := ⟨t, 0⟩
 let i := r.accept [105, 110, 105, 116]
 if i.1 then (if d.threads ≠ [] then (d, 16) else fin { d with inits := (jZ (i.2.t.length + 1) d.inits i.2).1 } (jZ (i.2.t.length + 1) d.inits i.2).2) else
 let h := i.2.accept [116, 104, 114, 101, 97, 100]
 if h.1 then (if d.asks ≠ [] then (d, 16) else fin { d with threads := d.threads ++ [[]] } h.2) else
 let q := h.2.accept [97, 115, 107]
 if q.1 then (if d.threads = [] then (d, 16) else fin { d with asks := (iU (q.2.t.length + 1) d.asks q.2).1 } (iU (q.2.t.length + 1) d.asks q.2).2) else
 let l := q.2.instr
 if l.r.err = 0 ∧ (d.threads = [] ∨ d.asks ≠ []) then (d, 16)
 else if l.r.err = 0 then fin { d with threads := uO d.threads (l.x, l.l) } l.r else fin d l.r
def iT (l : List (Tx × Nat)) (n : Tx) : List (Tx × Nat) := if n = [] ∨ l.any (fun i => i.1 == n) = true then l else l ++ [(n, 0)]
def aG0 {α : Type} [Inhabited α] (lt : α → α → Bool) (b : Nat) : Nat → Nat → Array α → Array α
 | 0, _, d => d
 | f + 1, i, d => if i < b then aG0 lt b f (i + 1) (Sort.insInner lt 0 i d) else d
def jA {α : Type} [Inhabited α] (lt : α → α → Bool) (l : List α) : List α :=
 if l.length ≤ 12 then (aG0 lt l.length l.length 1 l.toArray).toList else (Sort.pdq lt l.toArray 0 l.length (Lib.bitLen l.length) true true).toList
def oO (s : Tx) : Tx := if s.length ≤ 9223372036854775807 then s else []
def bQ (i : Int) : Int := max (-1) (min i 1000000000)
def ltL (a b : Tx × Nat) : Bool := nY (oO a.1) (oO b.1)
def ltA (a b : Int × Int × Nat) : Bool := before (bQ a.1, bQ a.2.1, 0) (bQ b.1, bQ b.2.1, 0)
def locs (d : bI) : List (Tx × Nat) :=
 jA ltL ((d.asks.map (·.loc)).foldl iT ((d.threads.flatMap fun l => l.map (·.2)).foldl iT d.inits))
def oL (L : List (Tx × Nat)) (n : Tx) : Int := max (idxBy (fun i => i.1 == n) L) 0
def test (d : bI) : Test :=
 let L := locs d
 ⟨L, d.threads.map fun l => l.map fun x => if x.2 ≠ [] then { x.1 with loc := oL L x.2 } else x.1,
  jA ltA (d.asks.map fun q => (q.th, if q.loc ≠ [] then oL L q.loc else q.at_, q.v))⟩
def jQ : bI → List (Nat × List Tok) → Except (Nat × Int) bI
 | d, [] => .ok d
 | d, l :: r => match take d l.2 with
  | (d, e) => if e ≠ 0 then .error (l.1, e) else jQ d r
def parse (s : Tx) : Test × Int × Int :=
 match Lx.lines s with
 | (L, n, e) => if e ≠ 0 then (Test.zero, n, e) else match jQ bI.zero L with
  | .error (n, e) => (Test.zero, n, e)
  | .ok d => if check (test d) ≠ 0 then (Test.zero, 0, check (test d)) else (test d, 0, 0)
end Lt
end Go.Vc