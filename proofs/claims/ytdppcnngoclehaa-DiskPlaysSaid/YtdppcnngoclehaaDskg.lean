/-
 The document's disk: contracts of its functions.
 Printed by wip/vct.py: the conditions of functions, by their contracts.
 The document's disk: plain lemmas.
 The document's disk: plain conditions.
 The document's disk: plain conditions of its calls.
 The document's disk: plain conditions: held, free, apply, Restart.
 The document's disk: plain conditions: apply, Restart.
-/
import Derived.Test.YtdppcnngoclehaaDskf
import Derived.KernelRfl
set_option linter.unusedVariables false
set_option linter.unusedSimpArgs false
open _root_.Go.IntKind (wrap)
namespace Go.Vc
open Dk (Ds Fi Cg)
def nmR (p : Tx × Nat) : D := .L [.S (bx p.1), .I p.2]
def fiR (f : Fi) : D := .L [.S (bx f.data), .I f.safe]
def cgR (c : Cg) : D := .L [.S (bx c.gone), .S (bx c.name), .I c.file]
def zP (k : Nat) : List Pt := [.lf (.sl (.at k)), .lf (.sl (.at (k + 2))), .lf (.sl (.at (k + 4))), .lf (.sl (.at (k + 6))), lI (k + 8), lI (k + 9), lI (k + 10), .lf (.bool (.at (k + 11))), lI (k + 12)]
def zH (k : Nat) : List Ch := [.rsl (.at k) fiK (.at (k + 1)), .rsl (.at (k + 2)) fiK (.at (k + 3)), .rsl (.at (k + 4)) fiK (.at (k + 5)), .rsl (.at (k + 6)) cgK (.at (k + 7))]
def zS : List Srt := [.V, .L, .V, .L, .V, .L, .V, .L, .I, .I, .I, .B, .I]
structure bY (l : LD) (k : Nat) (x : Ds) : Prop where
 files : (arg l (k + 1)).toL = x.files.map fiR
 names : (arg l (k + 3)).toL = x.names.map nmR
 safe : (arg l (k + 5)).toL = x.safe.map nmR
 pend : (arg l (k + 7)).toL = x.pend.map cgR
 room : (arg l (k + 8)).toI = x.room
 crash : (arg l (k + 9)).toI = x.crash
 fail : (arg l (k + 10)).toI = x.fail
 dead : (arg l (k + 11)).toB = x.dead
 calls : (arg l (k + 12)).toI = x.calls
structure Rf (a b c d : LD) (r cr f : Int) (de : Bool) (ca : Int) (x : Ds) : Prop where
 files : a = x.files.map fiR
 names : b = x.names.map nmR
 safe : c = x.safe.map nmR
 pend : d = x.pend.map cgR
 room : r = x.room
 crash : cr = x.crash
 fail : f = x.fail
 dead : de = x.dead
 calls : ca = x.calls
def wM (l : LD) : Prop := ∃ x, bY l 0 x ∧ Small x
def fdI : Option Nat → Int | none => -1 | some i => i
def isZ (l : LD) (k : Nat) (op : Ds → Ds × Int) : Prop := ∀ x, bY l 0 x → Small x → bY l k (op x).1 ∧ (arg l (k + 13)).toI = (op x).2
def wO (asr : List Srt) (args : List SV) (hp : List Ch) (post : LD → Prop) : Sig :=
 { args := .one (.agg (zP 0)) :: args, heap := zH 0 ++ hp, aA := zS ++ asr, res := .tup [.agg (zP (13 + asr.length)), .lf (.int .i64 (.at (26 + asr.length)))], heap' := zH (13 + asr.length), news := zS ++ [.I], pre := wM, post := post }
def mM.sig : Sig := { args := [gI 0], heap := [], aA := [.I], res := .one (.agg (zP 1)), heap' := zH 1, news := zS, pre := fun _ => True, post := fun l => bY l 1 (Dk.new (arg l 0).toI) }
def cO.sig : Sig := qM [.l fiK, .s] [.i .i64] (fun l => (arg l 1).toL.length ≤ 100000000) fun l => ∀ L : List (Tx × Nat), (arg l 1).toL = L.map nmR → (arg l 3).toI = fdI (Dk.find L (tx (arg l 2).toS))
def cO.I0 : LD → Prop := fun l => 0 ≤ (arg l 3).toI ∧ (arg l 3).toI ≤ (arg l 1).toL.length ∧ ∀ L : List (Tx × Nat), (arg l 1).toL = L.map nmR → ∀ p ∈ L.take (arg l 3).toI.toNat, p.1 ≠ tx (arg l 2).toS
def cO.I0M : LD → Nat := fun l => ((arg l 1).toL.length - (arg l 3).toI).toNat
def aZ.sig : Sig := { args := [.one (.agg (zP 0)), gI 13], heap := zH 0, aA := zS ++ [.I], res := .one (.lf (.bool (.at 14))), heap' := [], news := [.B], pre := fun l => (∃ x, bY l 0 x) ∧ 0 ≤ (arg l 13).toI ∧ (arg l 3).toL.length ≤ 20000000 ∧ (arg l 5).toL.length ≤ 20000000 ∧ (arg l 7).toL.length ≤ 20000000, post := fun l => ∀ x, bY l 0 x → (arg l 14).toB = Dk.held x (arg l 13).toI.toNat }
def dZ.sig : Sig := { args := [.one (.agg (zP 0))], heap := zH 0, aA := zS, res := gI 13, heap' := [], news := [.I], pre := wM, post := fun l => ∀ x, bY l 0 x → Small x → (arg l 13).toI = Dk.free x }
def dJ.sig : Sig := { args := [.one (.lf (.sl (.at 0))), .one (.agg [.lf (.str (.at 2)), .lf (.str (.at 3)), lI 4])], heap := [.rsl (.at 0) fiK (.at 1)], aA := [.V, .L, .S, .S, .I], res := .one (.lf (.sl (.at 5))), heap' := [.osl (.at 5) fiK (.at 6)], news := [.V, .L], pre := fun l => (arg l 1).toL.length ≤ 100000000, post := fun l => ∀ (L : List (Tx × Nat)) (c : Cg), (arg l 1).toL = L.map nmR → c.gone = tx (arg l 2).toS → c.name = tx (arg l 3).toS → (c.file : Int) = (arg l 4).toI → (arg l 6).toL = (Dk.apply L c).map nmR }
def cZ.sig : Sig := { args := [.one (.agg (zP 0))], heap := zH 0, aA := zS, res := .tup [.agg [.lf (.sl (.at 0)), .lf (.sl (.at 2)), .lf (.sl (.at 4)), .lf (.sl (.at 6)), lI 8, lI 13, lI 14, .lf (.bool (.at 15)), lI 16], .lf (.bool (.at 17)), .lf (.int .i64 (.at 18))], heap' := [], news := [.I, .I, .B, .I, .B, .I], pre := wM, post := fun l => ∀ x, bY l 0 x → Small x → (⟨(arg l 13).toI, (arg l 14).toI, (arg l 15).toB, (arg l 16).toI, (arg l 17).toB, (arg l 18).toI⟩ : Int × Int × Bool × Int × Bool × Int) = ((Dk.begin x).1.crash, (Dk.begin x).1.fail, (Dk.begin x).1.dead, (Dk.begin x).1.calls, (Dk.begin x).2.1, (Dk.begin x).2.2) }
def gW.sig : Sig := { args := [.one (.agg (zP 0)), gI 13, .one (.agg [.lf (.str (.at 14)), lI 15])], heap := zH 0, aA := zS ++ [.I, .S, .I], res := .one (.agg [.lf (.sl (.at 16)), .lf (.sl (.at 2)), .lf (.sl (.at 4)), .lf (.sl (.at 6)), lI 8, lI 9, lI 10, .lf (.bool (.at 11)), lI 12]), heap' := [.osl (.at 16) fiK (.at 17)], news := [.V, .L], pre := fun l => 0 ≤ (arg l 13).toI ∧ (arg l 13).toI < (arg l 1).toL.length ∧ (arg l 1).toL.length ≤ 100000000, post := fun l => (arg l 17).toL = (arg l 1).toL.set (arg l 13).toI.toNat (.L [.S (arg l 14).toS, .I (arg l 15).toI]) }
def bF.sig : Sig := { args := [.one (.agg (zP 0)), .one (.agg [.lf (.str (.at 13)), .lf (.str (.at 14)), lI 15])], heap := zH 0, aA := zS ++ [.S, .S, .I], res := .one (.agg [.lf (.sl (.at 0)), .lf (.sl (.at 16)), .lf (.sl (.at 4)), .lf (.sl (.at 18)), lI 8, lI 9, lI 10, .lf (.bool (.at 11)), lI 12]), heap' := [.osl (.at 16) fiK (.at 17), .osl (.at 18) cgK (.at 19)], news := [.V, .L, .V, .L], pre := fun l => (arg l 3).toL.length ≤ 100000000 ∧ (arg l 7).toL.length ≤ 100000000, post := fun l => (∀ (L : List (Tx × Nat)) (c : Cg), (arg l 3).toL = L.map nmR → c.gone = tx (arg l 13).toS → c.name = tx (arg l 14).toS → (c.file : Int) = (arg l 15).toI → (arg l 17).toL = (Dk.apply L c).map nmR) ∧ (arg l 19).toL = (arg l 7).toL ++ [.L [.S (arg l 13).toS, .S (arg l 14).toS, .I (arg l 15).toI]] }
def jP.sig : Sig := wO [.S] [aS' 13] [] fun l => isZ l 14 fun x => Dk.create x (tx (arg l 13).toS)
def jO.sig : Sig := { wO [.S, .S] [aS' 13, aS' 14] [] fun l => isZ l 15 fun x => Dk.append x (tx (arg l 13).toS) (tx (arg l 14).toS) with pre := fun l => wM l ∧ (arg l 14).toS.size ≤ 1000000 }
def kN.sig : Sig := { args := [.one (.agg (zP 0)), aS' 13], heap := zH 0, aA := zS ++ [.S], res := .tup [.lf (.str (.at 14)), .lf (.int .i64 (.at 15))], heap' := [], news := [.S, .I], pre := wM, post := fun l => ∀ x, bY l 0 x → Small x → (tx (arg l 14).toS, (arg l 15).toI) = Dk.read x (tx (arg l 13).toS) }
def kP.sig : Sig := wO [.S] [aS' 13] [] fun l => isZ l 14 fun x => Dk.sync x (tx (arg l 13).toS)
def mO.sig : Sig := wO [] [] [] fun l => isZ l 13 fun x => Dk.fM x
def jC.sig : Sig := wO [.S, .S] [aS' 13, aS' 14] [] fun l => isZ l 15 fun x => Dk.rename x (tx (arg l 13).toS) (tx (arg l 14).toS)
def kD.sig : Sig := wO [.S] [aS' 13] [] fun l => isZ l 14 fun x => Dk.remove x (tx (arg l 13).toS)
def kM.sig : Sig := qM [.z .i64, .i .i64, .i .i64] [.i .i64] (fun l => 0 ≤ (arg l 2).toI ∧ 0 < (arg l 3).toI ∧ (arg l 3).toI ≤ 1000000000000) fun l => (arg l 4).toI = Dk.pick (arg l 1).aC (arg l 2).toI.toNat (arg l 3).toI.toNat
def dK.sig : Sig := { args := [.one (.agg (zP 0)), .one (.lf (.sl (.at 13)))], heap := zH 0 ++ [.rsl (.at 13) [.int .i64] (.at 14)], aA := zS ++ [.V, .Z], res := .one (.agg (zP 15)), heap' := zH 15, news := zS, pre := wM, post := fun l => ∀ x, bY l 0 x → Small x → bY l 15 (Dk.restart x (arg l 14).aC) }
def aZ.I0 : LD → Prop := fun l => 0 ≤ (arg l 14).toI ∧ (arg l 14).toI ≤ (arg l 3).toL.length ∧ ∀ x, bY l 0 x → ((x.names.take (arg l 14).toI.toNat).any fun p => p.2 == (arg l 13).toI.toNat) = false
def aZ.I0M : LD → Nat := fun l => ((arg l 3).toL.length - (arg l 14).toI).toNat
def aZ.I1 : LD → Prop := fun l => 0 ≤ (arg l 14).toI ∧ (arg l 14).toI ≤ (arg l 5).toL.length ∧ ∀ x, bY l 0 x → ((x.safe.take (arg l 14).toI.toNat).any fun p => p.2 == (arg l 13).toI.toNat) = false
def aZ.I1M : LD → Nat := fun l => ((arg l 5).toL.length - (arg l 14).toI).toNat
def aZ.I2 : LD → Prop := fun l => 0 ≤ (arg l 14).toI ∧ (arg l 14).toI ≤ (arg l 7).toL.length ∧ ∀ x, bY l 0 x → ((x.pend.take (arg l 14).toI.toNat).any fun c => decide (c.name ≠ []) && c.file == (arg l 13).toI.toNat) = false
def aZ.I2M : LD → Nat := fun l => ((arg l 7).toL.length - (arg l 14).toI).toNat
def dZ.I0 : LD → Prop := fun l => 0 ≤ (arg l 14).toI ∧ (arg l 14).toI ≤ (arg l 1).toL.length ∧ ∀ x, bY l 0 x → Small x → (arg l 13).toI = x.room - ((Dk.used x : Int) - Dk.jM x (arg l 14).toI.toNat (x.files.drop (arg l 14).toI.toNat))
def dZ.I0M : LD → Nat := fun l => ((arg l 1).toL.length - (arg l 14).toI).toNat
def apS (c : Cg) (s : List (Tx × Nat) × Bool) (p : Tx × Nat) : List (Tx × Nat) × Bool :=
 if p.1 = c.gone ∨ p.1 = c.name then s else if s.2 = false ∧ c.name < p.1 then (s.1 ++ [(c.name, c.file), p], true) else (s.1 ++ [p], s.2)
def apN (c : Cg) (L : List (Tx × Nat)) : List (Tx × Nat) × Bool := L.foldl (apS c) ([], decide (c.name = []))
def dJ.I0 : LD → Prop := fun l => 0 ≤ (arg l 7).toI ∧ (arg l 7).toI ≤ (arg l 1).toL.length ∧ (arg l 5).toL.length ≤ 2 * (arg l 7).toI ∧
 ∀ (L : List (Tx × Nat)) (c : Cg), (arg l 1).toL = L.map nmR → c.gone = tx (arg l 2).toS → c.name = tx (arg l 3).toS → (c.file : Int) = (arg l 4).toI → (arg l 5).toL = (apN c (L.take (arg l 7).toI.toNat)).1.map nmR ∧ (arg l 6).toB = (apN c (L.take (arg l 7).toI.toNat)).2
def dJ.I0M : LD → Nat := fun l => ((arg l 1).toL.length - (arg l 7).toI).toNat
def dK.I0 : LD → Prop := fun l => 0 ≤ (arg l 15).toI ∧ (arg l 15).toI ≤ Dk.pick (arg l 14).aC 0 ((arg l 7).toL.length + 1) ∧ ∀ x, bY l 0 x → Small x → (arg l 16).toL = ((x.pend.take (arg l 15).toI.toNat).foldl Dk.apply x.safe).map nmR
def dK.I0M : LD → Nat := fun l => ((arg l 7).toL.length - (arg l 15).toI).toNat
def kC (x : Ds) (ch : LI) : Ds := { x with safe := (x.pend.take (Dk.pick ch 0 (x.pend.length + 1))).foldl Dk.apply x.safe, names := (x.pend.take (Dk.pick ch 0 (x.pend.length + 1))).foldl Dk.apply x.safe, pend := [], dead := false, crash := -1, fail := -1 }
def dK.I1 : LD → Prop := fun l => 0 ≤ (arg l 16).toI ∧ 1 ≤ (arg l 15).toI ∧ (arg l 15).toI ≤ (arg l 16).toI + 1 ∧ ∀ x, bY l 0 x → Small x → ∃ pre, pre.length = (arg l 16).toI.toNat ∧
 Dk.cut (kC x (arg l 14).aC) (arg l 14).aC 0 1 x.files = pre ++ Dk.cut (kC x (arg l 14).aC) (arg l 14).aC (arg l 16).toI.toNat (arg l 15).toI.toNat (x.files.drop (arg l 16).toI.toNat) ∧ (arg l 17).toL = (pre ++ x.files.drop (arg l 16).toI.toNat).map fiR
def dK.I1M : LD → Nat := fun l => ((arg l 1).toL.length - (arg l 16).toI).toNat
end Go.Vc
namespace Go.Vc
set_option linter.unusedVariables false
set_option maxRecDepth 100000
def mM.Pure : Prop :=
 ∀ i0 : Int,
 R64 i0 →
 mM.sig.pre [.I i0] →
 ∀ v1 v2 v3 v4 : Value,
 ∀ n5 : Nat,
 ∀ v6 v7 v8 v9 : Value,
 mM.sig.post [.I i0, .V v6, .L ([] : LD), .V v7, .L ([] : LD), .V v8, .L ([] : LD), .V v9, .L ([] : LD), .I (eY i0 0), .I (-1 : Int), .I (-1 : Int), .B false, .I 0]
def cO.Pure : Prop :=
 ∀ v0 : Value,
 ∀ l1 : LD,
 ∀ s2 : BA,
 ((s2.size : Int) ≤ 9223372036854775807) →
 (EK.ok [.str, .int .i64] (D.L l1)) →
 cO.sig.pre [.V v0, .L l1, .S s2] →
 cO.I0 [.V v0, .L l1, .S s2, .I 0] ∧ (
 ∀ i3 : Int,
 R64 i3 →
 cO.I0 [.V v0, .L l1, .S s2, .I i3] →
 ((
 (i3 < (l1.length : Int)) →
 Im (0 ≤ i3) (
 ∀ n4 : Nat,
 ((
 (((l1.getD i3.toNat default).toL.getD (0 : Int).toNat default).toS = s2) →
   cO.sig.post [.V v0, .L l1, .S s2, (D.I ((l1.getD i3.toNat default).toL.getD (1 : Int).toNat default).toI)]) ∧ (
 (((l1.getD i3.toNat default).toL.getD (0 : Int).toNat default).toS ≠ s2) →
   Bk cO.I0 cO.I0M [.V v0, .L l1, .S s2, .I (wrap .i64 (i3 + 1))] [.V v0, .L l1, .S s2, .I i3])))) ∧ (
 ((l1.length : Int) ≤ i3) →
  cO.sig.post [.V v0, .L l1, .S s2, .I (-1 : Int)])))
def aZ.Pure : Prop :=
 ∀ v0 : Value,
 ∀ l1 : LD,
 ∀ v2 : Value,
 ∀ l3 : LD,
 ∀ v4 : Value,
 ∀ l5 : LD,
 ∀ v6 : Value,
 ∀ l7 : LD,
 ∀ i8 i9 i10 : Int,
 ∀ b11 : Bool,
 ∀ i12 i13 : Int,
 R64 i8 →
 R64 i9 →
 R64 i10 →
 R64 i12 →
 R64 i13 →
 (EK.ok [.str, .int .i64] (D.L l1)) →
 (EK.ok [.str, .int .i64] (D.L l3)) →
 (EK.ok [.str, .int .i64] (D.L l5)) →
 (EK.ok [.str, .str, .int .i64] (D.L l7)) →
 aZ.sig.pre [.V v0, .L l1, .V v2, .L l3, .V v4, .L l5, .V v6, .L l7, .I i8, .I i9, .I i10, .B b11, .I i12, .I i13] →
 ∀ n14 : Nat,
 aZ.I0 [.V v0, .L l1, .V v2, .L l3, .V v4, .L l5, .V v6, .L l7, .I i8, .I i9, .I i10, .B b11, .I i12, .I i13, .I 0] ∧ (
 ∀ i15 : Int,
 R64 i15 →
 aZ.I0 [.V v0, .L l1, .V v2, .L l3, .V v4, .L l5, .V v6, .L l7, .I i8, .I i9, .I i10, .B b11, .I i12, .I i13, .I i15] →
 ((
 (i15 < (l3.length : Int)) →
 Im (0 ≤ i15) (
 ∀ n16 : Nat,
 ((
 (((l3.getD i15.toNat default).toL.getD (1 : Int).toNat default).toI = i13) →
   aZ.sig.post [.V v0, .L l1, .V v2, .L l3, .V v4, .L l5, .V v6, .L l7, .I i8, .I i9, .I i10, .B b11, .I i12, .I i13, .B true]) ∧ (
 (((l3.getD i15.toNat default).toL.getD (1 : Int).toNat default).toI ≠ i13) →
   Bk aZ.I0 aZ.I0M [.V v0, .L l1, .V v2, .L l3, .V v4, .L l5, .V v6, .L l7, .I i8, .I i9, .I i10, .B b11, .I i12, .I i13, .I (wrap .i64 (i15 + 1))] [.V v0, .L l1, .V v2, .L l3, .V v4, .L l5, .V v6, .L l7, .I i8, .I i9, .I i10, .B b11, .I i12, .I i13, .I i15])))) ∧ (
 ((l3.length : Int) ≤ i15) →
  aZ.I1 [.V v0, .L l1, .V v2, .L l3, .V v4, .L l5, .V v6, .L l7, .I i8, .I i9, .I i10, .B b11, .I i12, .I i13, .I 0] ∧ (
 ∀ i16 : Int,
 R64 i16 →
  aZ.I1 [.V v0, .L l1, .V v2, .L l3, .V v4, .L l5, .V v6, .L l7, .I i8, .I i9, .I i10, .B b11, .I i12, .I i13, .I i16] →
 ((
 (i16 < (l5.length : Int)) →
 Im (0 ≤ i16) (
 ∀ n17 : Nat,
 ((
 (((l5.getD i16.toNat default).toL.getD (1 : Int).toNat default).toI = i13) →
    aZ.sig.post [.V v0, .L l1, .V v2, .L l3, .V v4, .L l5, .V v6, .L l7, .I i8, .I i9, .I i10, .B b11, .I i12, .I i13, .B true]) ∧ (
 (((l5.getD i16.toNat default).toL.getD (1 : Int).toNat default).toI ≠ i13) →
    Bk aZ.I1 aZ.I1M [.V v0, .L l1, .V v2, .L l3, .V v4, .L l5, .V v6, .L l7, .I i8, .I i9, .I i10, .B b11, .I i12, .I i13, .I (wrap .i64 (i16 + 1))] [.V v0, .L l1, .V v2, .L l3, .V v4, .L l5, .V v6, .L l7, .I i8, .I i9, .I i10, .B b11, .I i12, .I i13, .I i16])))) ∧ (
 ((l5.length : Int) ≤ i16) →
   aZ.I2 [.V v0, .L l1, .V v2, .L l3, .V v4, .L l5, .V v6, .L l7, .I i8, .I i9, .I i10, .B b11, .I i12, .I i13, .I 0] ∧ (
 ∀ i17 : Int,
 R64 i17 →
  aZ.I2 [.V v0, .L l1, .V v2, .L l3, .V v4, .L l5, .V v6, .L l7, .I i8, .I i9, .I i10, .B b11, .I i12, .I i13, .I i17] →
 ((
 (i17 < (l7.length : Int)) →
 Im (0 ≤ i17) (
 ∀ n18 : Nat,
 ((
 (((l7.getD i17.toNat default).toL.getD (1 : Int).toNat default).toS ≠ (⟨#[]⟩ : BA)) →
 ((
 (((l7.getD i17.toNat default).toL.getD (2 : Int).toNat default).toI = i13) →
   aZ.sig.post [.V v0, .L l1, .V v2, .L l3, .V v4, .L l5, .V v6, .L l7, .I i8, .I i9, .I i10, .B b11, .I i12, .I i13, .B true]) ∧ (
 (((l7.getD i17.toNat default).toL.getD (2 : Int).toNat default).toI ≠ i13) →
   Bk aZ.I2 aZ.I2M [.V v0, .L l1, .V v2, .L l3, .V v4, .L l5, .V v6, .L l7, .I i8, .I i9, .I i10, .B b11, .I i12, .I i13, .I (wrap .i64 (i17 + 1))] [.V v0, .L l1, .V v2, .L l3, .V v4, .L l5, .V v6, .L l7, .I i8, .I i9, .I i10, .B b11, .I i12, .I i13, .I i17]))) ∧ (
 (((l7.getD i17.toNat default).toL.getD (1 : Int).toNat default).toS = (⟨#[]⟩ : BA)) →
   Bk aZ.I2 aZ.I2M [.V v0, .L l1, .V v2, .L l3, .V v4, .L l5, .V v6, .L l7, .I i8, .I i9, .I i10, .B b11, .I i12, .I i13, .I (wrap .i64 (i17 + 1))] [.V v0, .L l1, .V v2, .L l3, .V v4, .L l5, .V v6, .L l7, .I i8, .I i9, .I i10, .B b11, .I i12, .I i13, .I i17])))) ∧ (
 ((l7.length : Int) ≤ i17) →
  aZ.sig.post [.V v0, .L l1, .V v2, .L l3, .V v4, .L l5, .V v6, .L l7, .I i8, .I i9, .I i10, .B b11, .I i12, .I i13, .B false])))))))))
def dZ.Pure : Prop :=
 ∀ v0 : Value,
 ∀ l1 : LD,
 ∀ v2 : Value,
 ∀ l3 : LD,
 ∀ v4 : Value,
 ∀ l5 : LD,
 ∀ v6 : Value,
 ∀ l7 : LD,
 ∀ i8 i9 i10 : Int,
 ∀ b11 : Bool,
 ∀ i12 : Int,
 R64 i8 →
 R64 i9 →
 R64 i10 →
 R64 i12 →
 (EK.ok [.str, .int .i64] (D.L l1)) →
 (EK.ok [.str, .int .i64] (D.L l3)) →
 (EK.ok [.str, .int .i64] (D.L l5)) →
 (EK.ok [.str, .str, .int .i64] (D.L l7)) →
 dZ.sig.pre [.V v0, .L l1, .V v2, .L l3, .V v4, .L l5, .V v6, .L l7, .I i8, .I i9, .I i10, .B b11, .I i12] →
 ∀ n13 : Nat,
 dZ.I0 [.V v0, .L l1, .V v2, .L l3, .V v4, .L l5, .V v6, .L l7, .I i8, .I i9, .I i10, .B b11, .I i12, .I i8, .I 0] ∧ (
 ∀ i14 i15 : Int,
 R64 i14 →
 R64 i15 →
 dZ.I0 [.V v0, .L l1, .V v2, .L l3, .V v4, .L l5, .V v6, .L l7, .I i8, .I i9, .I i10, .B b11, .I i12, .I i14, .I i15] →
 ((
 (i15 < (l1.length : Int)) →
 Im (0 ≤ i15) (
 ∀ n16 : Nat,
  aZ.sig.pre [.V v0, .L l1, .V v2, .L l3, .V v4, .L l5, .V v6, .L l7, .I i8, .I i9, .I i10, .B b11, .I i12, .I i15] ∧ (
 ∀ b17 : Bool,
  aZ.sig.post [.V v0, .L l1, .V v2, .L l3, .V v4, .L l5, .V v6, .L l7, .I i8, .I i9, .I i10, .B b11, .I i12, .I i15, .B b17] →
 ((
 (b17 = true) →
  Bk dZ.I0 dZ.I0M [.V v0, .L l1, .V v2, .L l3, .V v4, .L l5, .V v6, .L l7, .I i8, .I i9, .I i10, .B b11, .I i12, .I (wrap .i64 (i14 - (((l1.getD i15.toNat default).toL.getD (0 : Int).toNat default).toS.size : Int))), .I (wrap .i64 (i15 + 1))] [.V v0, .L l1, .V v2, .L l3, .V v4, .L l5, .V v6, .L l7, .I i8, .I i9, .I i10, .B b11, .I i12, .I i14, .I i15]) ∧ (
 (b17 = false) →
  Bk dZ.I0 dZ.I0M [.V v0, .L l1, .V v2, .L l3, .V v4, .L l5, .V v6, .L l7, .I i8, .I i9, .I i10, .B b11, .I i12, .I i14, .I (wrap .i64 (i15 + 1))] [.V v0, .L l1, .V v2, .L l3, .V v4, .L l5, .V v6, .L l7, .I i8, .I i9, .I i10, .B b11, .I i12, .I i14, .I i15]))))) ∧ (
 ((l1.length : Int) ≤ i15) →
  dZ.sig.post [.V v0, .L l1, .V v2, .L l3, .V v4, .L l5, .V v6, .L l7, .I i8, .I i9, .I i10, .B b11, .I i12, .I (eY i14 0)])))
def dJ.Pure : Prop :=
 ∀ v0 : Value,
 ∀ l1 : LD,
 ∀ s2 s3 : BA,
 ∀ i4 : Int,
 ((s2.size : Int) ≤ 9223372036854775807) →
 ((s3.size : Int) ≤ 9223372036854775807) →
 R64 i4 →
 (EK.ok [.str, .int .i64] (D.L l1)) →
 dJ.sig.pre [.V v0, .L l1, .S s2, .S s3, .I i4] →
 ∀ n5 : Nat,
 ∀ v6 v7 : Value,
 dJ.I0 [.V v0, .L l1, .S s2, .S s3, .I i4, .L ([] : LD), .B (s3.toList == (⟨#[]⟩ : BA).toList), .I 0] ∧ (
 ∀ v8 : Value,
 ∀ l9 : LD,
 ∀ b10 : Bool,
 ∀ i11 : Int,
 R64 i11 →
 (EK.ok [.str, .int .i64] (D.L l9)) →
 dJ.I0 [.V v0, .L l1, .S s2, .S s3, .I i4, .L l9, .B b10, .I i11] →
 ((
 (i11 < (l1.length : Int)) →
 Im (0 ≤ i11) (
 ∀ n12 : Nat,
 ((
 (((l1.getD i11.toNat default).toL.getD (0 : Int).toNat default).toS = s2) →
   Bk dJ.I0 dJ.I0M [.V v0, .L l1, .S s2, .S s3, .I i4, .L l9, .B b10, .I (wrap .i64 (i11 + 1))] [.V v0, .L l1, .S s2, .S s3, .I i4, .L l9, .B b10, .I i11]) ∧ (
 (((l1.getD i11.toNat default).toL.getD (0 : Int).toNat default).toS ≠ s2) →
 ((
 (((l1.getD i11.toNat default).toL.getD (0 : Int).toNat default).toS = s3) →
    Bk dJ.I0 dJ.I0M [.V v0, .L l1, .S s2, .S s3, .I i4, .L l9, .B b10, .I (wrap .i64 (i11 + 1))] [.V v0, .L l1, .S s2, .S s3, .I i4, .L l9, .B b10, .I i11]) ∧ (
 (((l1.getD i11.toNat default).toL.getD (0 : Int).toNat default).toS ≠ s3) →
 ((
 (b10 = false) →
 ((
 (((Op.bytesLess ((l1.getD i11.toNat default).toL.getD (0 : Int).toNat default).toS.toList s3.toList) = false) ∧ (((l1.getD i11.toNat default).toL.getD (0 : Int).toNat default).toS ≠ s3)) →
 ∀ v13 : Value,
 Im (((l9 ++ ((D.L ((D.S s3) :: ((D.I i4) :: ([] : LD)))) :: ([] : LD))).length : Int) ≤ (5864062014805 : Int)) (
 ∀ v14 v15 : Value,
 Im ((((l9 ++ ((D.L ((D.S s3) :: ((D.I i4) :: ([] : LD)))) :: ([] : LD))) ++ ((D.L ((D.S ((l1.getD i11.toNat default).toL.getD (0 : Int).toNat default).toS) :: ((D.I ((l1.getD i11.toNat default).toL.getD (1 : Int).toNat default).toI) :: ([] : LD)))) :: ([] : LD))).length : Int) ≤ (5864062014805 : Int)) (
 ∀ v16 : Value,
   Bk dJ.I0 dJ.I0M [.V v0, .L l1, .S s2, .S s3, .I i4, .L ((l9 ++ ((D.L ((D.S s3) :: ((D.I i4) :: ([] : LD)))) :: ([] : LD))) ++ ((D.L ((D.S ((l1.getD i11.toNat default).toL.getD (0 : Int).toNat default).toS) :: ((D.I ((l1.getD i11.toNat default).toL.getD (1 : Int).toNat default).toI) :: ([] : LD)))) :: ([] : LD))), .B true, .I (wrap .i64 (i11 + 1))] [.V v0, .L l1, .S s2, .S s3, .I i4, .L l9, .B b10, .I i11]))) ∧ (
 (((Op.bytesLess ((l1.getD i11.toNat default).toL.getD (0 : Int).toNat default).toS.toList s3.toList) = true) ∨ (((l1.getD i11.toNat default).toL.getD (0 : Int).toNat default).toS = s3)) →
 ∀ v13 : Value,
 Im (((l9 ++ ((D.L ((D.S ((l1.getD i11.toNat default).toL.getD (0 : Int).toNat default).toS) :: ((D.I ((l1.getD i11.toNat default).toL.getD (1 : Int).toNat default).toI) :: ([] : LD)))) :: ([] : LD))).length : Int) ≤ (5864062014805 : Int)) (
 ∀ v14 : Value,
   Bk dJ.I0 dJ.I0M [.V v0, .L l1, .S s2, .S s3, .I i4, .L (l9 ++ ((D.L ((D.S ((l1.getD i11.toNat default).toL.getD (0 : Int).toNat default).toS) :: ((D.I ((l1.getD i11.toNat default).toL.getD (1 : Int).toNat default).toI) :: ([] : LD)))) :: ([] : LD))), .B b10, .I (wrap .i64 (i11 + 1))] [.V v0, .L l1, .S s2, .S s3, .I i4, .L l9, .B b10, .I i11])))) ∧ (
 (b10 = true) →
 ∀ v13 : Value,
 Im (((l9 ++ ((D.L ((D.S ((l1.getD i11.toNat default).toL.getD (0 : Int).toNat default).toS) :: ((D.I ((l1.getD i11.toNat default).toL.getD (1 : Int).toNat default).toI) :: ([] : LD)))) :: ([] : LD))).length : Int) ≤ (5864062014805 : Int)) (
 ∀ v14 : Value,
   Bk dJ.I0 dJ.I0M [.V v0, .L l1, .S s2, .S s3, .I i4, .L (l9 ++ ((D.L ((D.S ((l1.getD i11.toNat default).toL.getD (0 : Int).toNat default).toS) :: ((D.I ((l1.getD i11.toNat default).toL.getD (1 : Int).toNat default).toI) :: ([] : LD)))) :: ([] : LD))), .B b10, .I (wrap .i64 (i11 + 1))] [.V v0, .L l1, .S s2, .S s3, .I i4, .L l9, .B b10, .I i11]))))))))) ∧ (
 ((l1.length : Int) ≤ i11) →
 ((
 (b10 = false) →
 ∀ v12 : Value,
 Im (((l9 ++ ((D.L ((D.S s3) :: ((D.I i4) :: ([] : LD)))) :: ([] : LD))).length : Int) ≤ (5864062014805 : Int)) (
 ∀ v13 : Value,
  dJ.sig.post [.V v0, .L l1, .S s2, .S s3, .I i4, .V v13, .L (l9 ++ ((D.L ((D.S s3) :: ((D.I i4) :: ([] : LD)))) :: ([] : LD)))])) ∧ (
 (b10 = true) →
  dJ.sig.post [.V v0, .L l1, .S s2, .S s3, .I i4, .V v8, .L l9])))))
def cZ.Pure : Prop :=
 ∀ v0 : Value,
 ∀ l1 : LD,
 ∀ v2 : Value,
 ∀ l3 : LD,
 ∀ v4 : Value,
 ∀ l5 : LD,
 ∀ v6 : Value,
 ∀ l7 : LD,
 ∀ i8 i9 i10 : Int,
 ∀ b11 : Bool,
 ∀ i12 : Int,
 R64 i8 →
 R64 i9 →
 R64 i10 →
 R64 i12 →
 (EK.ok [.str, .int .i64] (D.L l1)) →
 (EK.ok [.str, .int .i64] (D.L l3)) →
 (EK.ok [.str, .int .i64] (D.L l5)) →
 (EK.ok [.str, .str, .int .i64] (D.L l7)) →
 cZ.sig.pre [.V v0, .L l1, .V v2, .L l3, .V v4, .L l5, .V v6, .L l7, .I i8, .I i9, .I i10, .B b11, .I i12] →
 ∀ n13 : Nat,
 ∀ v14 v15 v16 v17 : Value,
 ∀ n18 : Nat,
 ((
 (b11 = true) →
  cZ.sig.post [.V v0, .L l1, .V v2, .L l3, .V v4, .L l5, .V v6, .L l7, .I i8, .I i9, .I i10, .B b11, .I i12, .I i9, .I i10, .B b11, .I i12, .B false, .I 9]) ∧ (
 (b11 = false) →
 ((
 (i10 = 0) →
  cZ.sig.post [.V v0, .L l1, .V v2, .L l3, .V v4, .L l5, .V v6, .L l7, .I i8, .I i9, .I i10, .B b11, .I i12, .I i9, .I (-1 : Int), .B b11, .I i12, .B false, .I 8]) ∧ (
 (i10 ≠ 0) →
 ((
 (0 < i10) →
 ((
 (i9 = 0) →
   cZ.sig.post [.V v0, .L l1, .V v2, .L l3, .V v4, .L l5, .V v6, .L l7, .I i8, .I i9, .I i10, .B b11, .I i12, .I (-1 : Int), .I (wrap .i64 (i10 - 1)), .B true, .I i12, .B true, .I 9]) ∧ (
 (i9 ≠ 0) →
 ((
 (0 < i9) →
   cZ.sig.post [.V v0, .L l1, .V v2, .L l3, .V v4, .L l5, .V v6, .L l7, .I i8, .I i9, .I i10, .B b11, .I i12, .I (wrap .i64 (i9 - 1)), .I (wrap .i64 (i10 - 1)), .B b11, .I (wrap .i64 (i12 + 1)), .B false, .I 0]) ∧ (
 (i9 ≤ 0) →
   cZ.sig.post [.V v0, .L l1, .V v2, .L l3, .V v4, .L l5, .V v6, .L l7, .I i8, .I i9, .I i10, .B b11, .I i12, .I i9, .I (wrap .i64 (i10 - 1)), .B b11, .I (wrap .i64 (i12 + 1)), .B false, .I 0]))))) ∧ (
 (i10 ≤ 0) →
 ((
 (i9 = 0) →
   cZ.sig.post [.V v0, .L l1, .V v2, .L l3, .V v4, .L l5, .V v6, .L l7, .I i8, .I i9, .I i10, .B b11, .I i12, .I (-1 : Int), .I i10, .B true, .I i12, .B true, .I 9]) ∧ (
 (i9 ≠ 0) →
 ((
 (0 < i9) →
   cZ.sig.post [.V v0, .L l1, .V v2, .L l3, .V v4, .L l5, .V v6, .L l7, .I i8, .I i9, .I i10, .B b11, .I i12, .I (wrap .i64 (i9 - 1)), .I i10, .B b11, .I (wrap .i64 (i12 + 1)), .B false, .I 0]) ∧ (
 (i9 ≤ 0) →
   cZ.sig.post [.V v0, .L l1, .V v2, .L l3, .V v4, .L l5, .V v6, .L l7, .I i8, .I i9, .I i10, .B b11, .I i12, .I i9, .I i10, .B b11, .I (wrap .i64 (i12 + 1)), .B false, .I 0]))))))))))
def gW.Pure : Prop :=
 ∀ v0 : Value,
 ∀ l1 : LD,
 ∀ v2 : Value,
 ∀ l3 : LD,
 ∀ v4 : Value,
 ∀ l5 : LD,
 ∀ v6 : Value,
 ∀ l7 : LD,
 ∀ i8 i9 i10 : Int,
 ∀ b11 : Bool,
 ∀ i12 i13 : Int,
 ∀ s14 : BA,
 ∀ i15 : Int,
 R64 i8 →
 R64 i9 →
 R64 i10 →
 R64 i12 →
 R64 i13 →
 ((s14.size : Int) ≤ 9223372036854775807) →
 R64 i15 →
 (EK.ok [.str, .int .i64] (D.L l1)) →
 (EK.ok [.str, .int .i64] (D.L l3)) →
 (EK.ok [.str, .int .i64] (D.L l5)) →
 (EK.ok [.str, .str, .int .i64] (D.L l7)) →
 gW.sig.pre [.V v0, .L l1, .V v2, .L l3, .V v4, .L l5, .V v6, .L l7, .I i8, .I i9, .I i10, .B b11, .I i12, .I i13, .S s14, .I i15] →
 ∀ n16 n17 : Nat,
 ∀ v18 v19 v20 v21 : Value,
 ∀ n22 : Nat,
 ∀ v23 : Value,
 Im (((([] : LD) ++ l1).length : Int) ≤ (5864062014805 : Int)) (
 ∀ v24 : Value,
 Im (0 ≤ i13) (
 Im (i13 < ((([] : LD) ++ l1).length : Int)) (
 gW.sig.post [.V v0, .L l1, .V v2, .L l3, .V v4, .L l5, .V v6, .L l7, .I i8, .I i9, .I i10, .B b11, .I i12, .I i13, .S s14, .I i15, .V v24, .L ((([] : LD) ++ l1).set i13.toNat (D.L ((D.S s14) :: ((D.I i15) :: ([] : LD)))))])))
def bF.Pure : Prop :=
 ∀ v0 : Value,
 ∀ l1 : LD,
 ∀ v2 : Value,
 ∀ l3 : LD,
 ∀ v4 : Value,
 ∀ l5 : LD,
 ∀ v6 : Value,
 ∀ l7 : LD,
 ∀ i8 i9 i10 : Int,
 ∀ b11 : Bool,
 ∀ i12 : Int,
 ∀ s13 s14 : BA,
 ∀ i15 : Int,
 R64 i8 →
 R64 i9 →
 R64 i10 →
 R64 i12 →
 ((s13.size : Int) ≤ 9223372036854775807) →
 ((s14.size : Int) ≤ 9223372036854775807) →
 R64 i15 →
 (EK.ok [.str, .int .i64] (D.L l1)) →
 (EK.ok [.str, .int .i64] (D.L l3)) →
 (EK.ok [.str, .int .i64] (D.L l5)) →
 (EK.ok [.str, .str, .int .i64] (D.L l7)) →
 bF.sig.pre [.V v0, .L l1, .V v2, .L l3, .V v4, .L l5, .V v6, .L l7, .I i8, .I i9, .I i10, .B b11, .I i12, .S s13, .S s14, .I i15] →
 ∀ n16 n17 : Nat,
 ∀ v18 v19 v20 v21 : Value,
 ∀ n22 : Nat,
 dJ.sig.pre [.V v2, .L l3, .S s13, .S s14, .I i15] ∧ (
 ∀ v23 : Value,
 ∀ l24 : LD,
 dJ.sig.post [.V v2, .L l3, .S s13, .S s14, .I i15, .V v23, .L l24] →
 (EK.ok [.str, .int .i64] (D.L l24)) →
 ((
 ∀ v25 : Value,
 ((
 ((
 Im (((([] : LD) ++ l7).length : Int) ≤ (3518437208883 : Int)) (
 ∀ v26 v27 : Value,
 Im ((((([] : LD) ++ l7) ++ ((D.L ((D.S s13) :: ((D.S s14) :: ((D.I i15) :: ([] : LD))))) :: ([] : LD))).length : Int) ≤ (3518437208883 : Int)) (
 ∀ v28 : Value,
  bF.sig.post [.V v0, .L l1, .V v2, .L l3, .V v4, .L l5, .V v6, .L l7, .I i8, .I i9, .I i10, .B b11, .I i12, .S s13, .S s14, .I i15, .V v23, .L l24, .V v28, .L ((([] : LD) ++ l7) ++ ((D.L ((D.S s13) :: ((D.S s14) :: ((D.I i15) :: ([] : LD))))) :: ([] : LD)))]))) ∧ (
 ((
 Im (((([] : LD) ++ l7).length : Int) ≤ (3518437208883 : Int)) (
 ∀ v26 v27 : Value,
 Im ((((([] : LD) ++ l7) ++ ((D.L ((D.S s13) :: ((D.S s14) :: ((D.I i15) :: ([] : LD))))) :: ([] : LD))).length : Int) ≤ (3518437208883 : Int)) (
 ∀ v28 : Value,
   bF.sig.post [.V v0, .L l1, .V v2, .L l3, .V v4, .L l5, .V v6, .L l7, .I i8, .I i9, .I i10, .B b11, .I i12, .S s13, .S s14, .I i15, .V v23, .L l24, .V v28, .L ((([] : LD) ++ l7) ++ ((D.L ((D.S s13) :: ((D.S s14) :: ((D.I i15) :: ([] : LD))))) :: ([] : LD)))]))) ∧ (
 ∀ v26 : Value,
 Im (((([] : LD) ++ l7).length : Int) ≤ (3518437208883 : Int)) (
 ∀ v27 : Value,
 Im ((((([] : LD) ++ l7) ++ ((D.L ((D.S s13) :: ((D.S s14) :: ((D.I i15) :: ([] : LD))))) :: ([] : LD))).length : Int) ≤ (3518437208883 : Int)) (
 ∀ v28 : Value,
   bF.sig.post [.V v0, .L l1, .V v2, .L l3, .V v4, .L l5, .V v6, .L l7, .I i8, .I i9, .I i10, .B b11, .I i12, .S s13, .S s14, .I i15, .V v23, .L l24, .V v28, .L ((([] : LD) ++ l7) ++ ((D.L ((D.S s13) :: ((D.S s14) :: ((D.I i15) :: ([] : LD))))) :: ([] : LD)))]))))))) ∧ (
 ((
 ((
 Im (((([] : LD) ++ l7).length : Int) ≤ (3518437208883 : Int)) (
 ∀ v26 v27 : Value,
 Im ((((([] : LD) ++ l7) ++ ((D.L ((D.S s13) :: ((D.S s14) :: ((D.I i15) :: ([] : LD))))) :: ([] : LD))).length : Int) ≤ (3518437208883 : Int)) (
 ∀ v28 : Value,
   bF.sig.post [.V v0, .L l1, .V v2, .L l3, .V v4, .L l5, .V v6, .L l7, .I i8, .I i9, .I i10, .B b11, .I i12, .S s13, .S s14, .I i15, .V v23, .L l24, .V v28, .L ((([] : LD) ++ l7) ++ ((D.L ((D.S s13) :: ((D.S s14) :: ((D.I i15) :: ([] : LD))))) :: ([] : LD)))]))) ∧ (
 ∀ v26 : Value,
 Im (((([] : LD) ++ l7).length : Int) ≤ (3518437208883 : Int)) (
 ∀ v27 : Value,
 Im ((((([] : LD) ++ l7) ++ ((D.L ((D.S s13) :: ((D.S s14) :: ((D.I i15) :: ([] : LD))))) :: ([] : LD))).length : Int) ≤ (3518437208883 : Int)) (
 ∀ v28 : Value,
   bF.sig.post [.V v0, .L l1, .V v2, .L l3, .V v4, .L l5, .V v6, .L l7, .I i8, .I i9, .I i10, .B b11, .I i12, .S s13, .S s14, .I i15, .V v23, .L l24, .V v28, .L ((([] : LD) ++ l7) ++ ((D.L ((D.S s13) :: ((D.S s14) :: ((D.I i15) :: ([] : LD))))) :: ([] : LD)))]))))) ∧ (
 ∀ v26 : Value,
 Im (((([] : LD) ++ l7).length : Int) ≤ (3518437208883 : Int)) (
 ∀ v27 : Value,
 Im ((((([] : LD) ++ l7) ++ ((D.L ((D.S s13) :: ((D.S s14) :: ((D.I i15) :: ([] : LD))))) :: ([] : LD))).length : Int) ≤ (3518437208883 : Int)) (
 ∀ v28 : Value,
  bF.sig.post [.V v0, .L l1, .V v2, .L l3, .V v4, .L l5, .V v6, .L l7, .I i8, .I i9, .I i10, .B b11, .I i12, .S s13, .S s14, .I i15, .V v23, .L l24, .V v28, .L ((([] : LD) ++ l7) ++ ((D.L ((D.S s13) :: ((D.S s14) :: ((D.I i15) :: ([] : LD))))) :: ([] : LD)))]))))))) ∧ (
 ((
 ((
 ∀ v25 : Value,
 ((
 Im (((([] : LD) ++ l7).length : Int) ≤ (3518437208883 : Int)) (
 ∀ v26 v27 : Value,
 Im ((((([] : LD) ++ l7) ++ ((D.L ((D.S s13) :: ((D.S s14) :: ((D.I i15) :: ([] : LD))))) :: ([] : LD))).length : Int) ≤ (3518437208883 : Int)) (
 ∀ v28 : Value,
   bF.sig.post [.V v0, .L l1, .V v2, .L l3, .V v4, .L l5, .V v6, .L l7, .I i8, .I i9, .I i10, .B b11, .I i12, .S s13, .S s14, .I i15, .V v23, .L l24, .V v28, .L ((([] : LD) ++ l7) ++ ((D.L ((D.S s13) :: ((D.S s14) :: ((D.I i15) :: ([] : LD))))) :: ([] : LD)))]))) ∧ (
 ((
 Im (((([] : LD) ++ l7).length : Int) ≤ (3518437208883 : Int)) (
 ∀ v26 v27 : Value,
 Im ((((([] : LD) ++ l7) ++ ((D.L ((D.S s13) :: ((D.S s14) :: ((D.I i15) :: ([] : LD))))) :: ([] : LD))).length : Int) ≤ (3518437208883 : Int)) (
 ∀ v28 : Value,
   bF.sig.post [.V v0, .L l1, .V v2, .L l3, .V v4, .L l5, .V v6, .L l7, .I i8, .I i9, .I i10, .B b11, .I i12, .S s13, .S s14, .I i15, .V v23, .L l24, .V v28, .L ((([] : LD) ++ l7) ++ ((D.L ((D.S s13) :: ((D.S s14) :: ((D.I i15) :: ([] : LD))))) :: ([] : LD)))]))) ∧ (
 ∀ v26 : Value,
 Im (((([] : LD) ++ l7).length : Int) ≤ (3518437208883 : Int)) (
 ∀ v27 : Value,
 Im ((((([] : LD) ++ l7) ++ ((D.L ((D.S s13) :: ((D.S s14) :: ((D.I i15) :: ([] : LD))))) :: ([] : LD))).length : Int) ≤ (3518437208883 : Int)) (
 ∀ v28 : Value,
   bF.sig.post [.V v0, .L l1, .V v2, .L l3, .V v4, .L l5, .V v6, .L l7, .I i8, .I i9, .I i10, .B b11, .I i12, .S s13, .S s14, .I i15, .V v23, .L l24, .V v28, .L ((([] : LD) ++ l7) ++ ((D.L ((D.S s13) :: ((D.S s14) :: ((D.I i15) :: ([] : LD))))) :: ([] : LD)))]))))))) ∧ (
 ((
 ∀ v25 : Value,
 ((
 Im (((([] : LD) ++ l7).length : Int) ≤ (3518437208883 : Int)) (
 ∀ v26 v27 : Value,
 Im ((((([] : LD) ++ l7) ++ ((D.L ((D.S s13) :: ((D.S s14) :: ((D.I i15) :: ([] : LD))))) :: ([] : LD))).length : Int) ≤ (3518437208883 : Int)) (
 ∀ v28 : Value,
   bF.sig.post [.V v0, .L l1, .V v2, .L l3, .V v4, .L l5, .V v6, .L l7, .I i8, .I i9, .I i10, .B b11, .I i12, .S s13, .S s14, .I i15, .V v23, .L l24, .V v28, .L ((([] : LD) ++ l7) ++ ((D.L ((D.S s13) :: ((D.S s14) :: ((D.I i15) :: ([] : LD))))) :: ([] : LD)))]))) ∧ (
 ∀ v26 : Value,
 Im (((([] : LD) ++ l7).length : Int) ≤ (3518437208883 : Int)) (
 ∀ v27 : Value,
 Im ((((([] : LD) ++ l7) ++ ((D.L ((D.S s13) :: ((D.S s14) :: ((D.I i15) :: ([] : LD))))) :: ([] : LD))).length : Int) ≤ (3518437208883 : Int)) (
 ∀ v28 : Value,
   bF.sig.post [.V v0, .L l1, .V v2, .L l3, .V v4, .L l5, .V v6, .L l7, .I i8, .I i9, .I i10, .B b11, .I i12, .S s13, .S s14, .I i15, .V v23, .L l24, .V v28, .L ((([] : LD) ++ l7) ++ ((D.L ((D.S s13) :: ((D.S s14) :: ((D.I i15) :: ([] : LD))))) :: ([] : LD)))]))))) ∧ (
 ∀ v25 v26 : Value,
 Im (((([] : LD) ++ l7).length : Int) ≤ (3518437208883 : Int)) (
 ∀ v27 : Value,
 Im ((((([] : LD) ++ l7) ++ ((D.L ((D.S s13) :: ((D.S s14) :: ((D.I i15) :: ([] : LD))))) :: ([] : LD))).length : Int) ≤ (3518437208883 : Int)) (
 ∀ v28 : Value,
   bF.sig.post [.V v0, .L l1, .V v2, .L l3, .V v4, .L l5, .V v6, .L l7, .I i8, .I i9, .I i10, .B b11, .I i12, .S s13, .S s14, .I i15, .V v23, .L l24, .V v28, .L ((([] : LD) ++ l7) ++ ((D.L ((D.S s13) :: ((D.S s14) :: ((D.I i15) :: ([] : LD))))) :: ([] : LD)))]))))))) ∧ (
 ((
 ∀ v25 : Value,
 ((
 ((
 Im (((([] : LD) ++ l7).length : Int) ≤ (3518437208883 : Int)) (
 ∀ v26 v27 : Value,
 Im ((((([] : LD) ++ l7) ++ ((D.L ((D.S s13) :: ((D.S s14) :: ((D.I i15) :: ([] : LD))))) :: ([] : LD))).length : Int) ≤ (3518437208883 : Int)) (
 ∀ v28 : Value,
   bF.sig.post [.V v0, .L l1, .V v2, .L l3, .V v4, .L l5, .V v6, .L l7, .I i8, .I i9, .I i10, .B b11, .I i12, .S s13, .S s14, .I i15, .V v23, .L l24, .V v28, .L ((([] : LD) ++ l7) ++ ((D.L ((D.S s13) :: ((D.S s14) :: ((D.I i15) :: ([] : LD))))) :: ([] : LD)))]))) ∧ (
 ∀ v26 : Value,
 Im (((([] : LD) ++ l7).length : Int) ≤ (3518437208883 : Int)) (
 ∀ v27 : Value,
 Im ((((([] : LD) ++ l7) ++ ((D.L ((D.S s13) :: ((D.S s14) :: ((D.I i15) :: ([] : LD))))) :: ([] : LD))).length : Int) ≤ (3518437208883 : Int)) (
 ∀ v28 : Value,
   bF.sig.post [.V v0, .L l1, .V v2, .L l3, .V v4, .L l5, .V v6, .L l7, .I i8, .I i9, .I i10, .B b11, .I i12, .S s13, .S s14, .I i15, .V v23, .L l24, .V v28, .L ((([] : LD) ++ l7) ++ ((D.L ((D.S s13) :: ((D.S s14) :: ((D.I i15) :: ([] : LD))))) :: ([] : LD)))]))))) ∧ (
 ∀ v26 : Value,
 Im (((([] : LD) ++ l7).length : Int) ≤ (3518437208883 : Int)) (
 ∀ v27 : Value,
 Im ((((([] : LD) ++ l7) ++ ((D.L ((D.S s13) :: ((D.S s14) :: ((D.I i15) :: ([] : LD))))) :: ([] : LD))).length : Int) ≤ (3518437208883 : Int)) (
 ∀ v28 : Value,
   bF.sig.post [.V v0, .L l1, .V v2, .L l3, .V v4, .L l5, .V v6, .L l7, .I i8, .I i9, .I i10, .B b11, .I i12, .S s13, .S s14, .I i15, .V v23, .L l24, .V v28, .L ((([] : LD) ++ l7) ++ ((D.L ((D.S s13) :: ((D.S s14) :: ((D.I i15) :: ([] : LD))))) :: ([] : LD)))]))))) ∧ (
 ((
 ((
 ∀ v25 : Value,
 ((
 Im (((([] : LD) ++ l7).length : Int) ≤ (3518437208883 : Int)) (
 ∀ v26 v27 : Value,
 Im ((((([] : LD) ++ l7) ++ ((D.L ((D.S s13) :: ((D.S s14) :: ((D.I i15) :: ([] : LD))))) :: ([] : LD))).length : Int) ≤ (3518437208883 : Int)) (
 ∀ v28 : Value,
    bF.sig.post [.V v0, .L l1, .V v2, .L l3, .V v4, .L l5, .V v6, .L l7, .I i8, .I i9, .I i10, .B b11, .I i12, .S s13, .S s14, .I i15, .V v23, .L l24, .V v28, .L ((([] : LD) ++ l7) ++ ((D.L ((D.S s13) :: ((D.S s14) :: ((D.I i15) :: ([] : LD))))) :: ([] : LD)))]))) ∧ (
 ∀ v26 : Value,
 Im (((([] : LD) ++ l7).length : Int) ≤ (3518437208883 : Int)) (
 ∀ v27 : Value,
 Im ((((([] : LD) ++ l7) ++ ((D.L ((D.S s13) :: ((D.S s14) :: ((D.I i15) :: ([] : LD))))) :: ([] : LD))).length : Int) ≤ (3518437208883 : Int)) (
 ∀ v28 : Value,
    bF.sig.post [.V v0, .L l1, .V v2, .L l3, .V v4, .L l5, .V v6, .L l7, .I i8, .I i9, .I i10, .B b11, .I i12, .S s13, .S s14, .I i15, .V v23, .L l24, .V v28, .L ((([] : LD) ++ l7) ++ ((D.L ((D.S s13) :: ((D.S s14) :: ((D.I i15) :: ([] : LD))))) :: ([] : LD)))]))))) ∧ (
 ∀ v25 v26 : Value,
 Im (((([] : LD) ++ l7).length : Int) ≤ (3518437208883 : Int)) (
 ∀ v27 : Value,
 Im ((((([] : LD) ++ l7) ++ ((D.L ((D.S s13) :: ((D.S s14) :: ((D.I i15) :: ([] : LD))))) :: ([] : LD))).length : Int) ≤ (3518437208883 : Int)) (
 ∀ v28 : Value,
   bF.sig.post [.V v0, .L l1, .V v2, .L l3, .V v4, .L l5, .V v6, .L l7, .I i8, .I i9, .I i10, .B b11, .I i12, .S s13, .S s14, .I i15, .V v23, .L l24, .V v28, .L ((([] : LD) ++ l7) ++ ((D.L ((D.S s13) :: ((D.S s14) :: ((D.I i15) :: ([] : LD))))) :: ([] : LD)))]))))) ∧ (
 ∀ v25 : Value,
 ((
 ∀ v26 : Value,
 Im (((([] : LD) ++ l7).length : Int) ≤ (3518437208883 : Int)) (
 ∀ v27 : Value,
 Im ((((([] : LD) ++ l7) ++ ((D.L ((D.S s13) :: ((D.S s14) :: ((D.I i15) :: ([] : LD))))) :: ([] : LD))).length : Int) ≤ (3518437208883 : Int)) (
 ∀ v28 : Value,
   bF.sig.post [.V v0, .L l1, .V v2, .L l3, .V v4, .L l5, .V v6, .L l7, .I i8, .I i9, .I i10, .B b11, .I i12, .S s13, .S s14, .I i15, .V v23, .L l24, .V v28, .L ((([] : LD) ++ l7) ++ ((D.L ((D.S s13) :: ((D.S s14) :: ((D.I i15) :: ([] : LD))))) :: ([] : LD)))]))) ∧ (
 ∀ v26 : Value,
 Im (((([] : LD) ++ l7).length : Int) ≤ (3518437208883 : Int)) (
 ∀ v27 : Value,
 Im ((((([] : LD) ++ l7) ++ ((D.L ((D.S s13) :: ((D.S s14) :: ((D.I i15) :: ([] : LD))))) :: ([] : LD))).length : Int) ≤ (3518437208883 : Int)) (
 ∀ v28 : Value,
   bF.sig.post [.V v0, .L l1, .V v2, .L l3, .V v4, .L l5, .V v6, .L l7, .I i8, .I i9, .I i10, .B b11, .I i12, .S s13, .S s14, .I i15, .V v23, .L l24, .V v28, .L ((([] : LD) ++ l7) ++ ((D.L ((D.S s13) :: ((D.S s14) :: ((D.I i15) :: ([] : LD))))) :: ([] : LD)))])))))))))))))
def jP.Pure : Prop :=
 ∀ v0 : Value,
 ∀ l1 : LD,
 ∀ v2 : Value,
 ∀ l3 : LD,
 ∀ v4 : Value,
 ∀ l5 : LD,
 ∀ v6 : Value,
 ∀ l7 : LD,
 ∀ i8 i9 i10 : Int,
 ∀ b11 : Bool,
 ∀ i12 : Int,
 ∀ s13 : BA,
 R64 i8 →
 R64 i9 →
 R64 i10 →
 R64 i12 →
 ((s13.size : Int) ≤ 9223372036854775807) →
 (EK.ok [.str, .int .i64] (D.L l1)) →
 (EK.ok [.str, .int .i64] (D.L l3)) →
 (EK.ok [.str, .int .i64] (D.L l5)) →
 (EK.ok [.str, .str, .int .i64] (D.L l7)) →
 jP.sig.pre [.V v0, .L l1, .V v2, .L l3, .V v4, .L l5, .V v6, .L l7, .I i8, .I i9, .I i10, .B b11, .I i12, .S s13] →
 ∀ n14 : Nat,
 ∀ v15 v16 v17 v18 : Value,
 ∀ n19 : Nat,
 ((
 (b11 = true) →
  jP.sig.post [.V v0, .L l1, .V v2, .L l3, .V v4, .L l5, .V v6, .L l7, .I i8, .I i9, .I i10, .B b11, .I i12, .S s13, .V v0, .L l1, .V v2, .L l3, .V v4, .L l5, .V v6, .L l7, .I i8, .I i9, .I i10, .B b11, .I i12, .I 9]) ∧ (
 (b11 = false) →
 ((
 (s13 = (⟨#[]⟩ : BA)) →
  jP.sig.post [.V v0, .L l1, .V v2, .L l3, .V v4, .L l5, .V v6, .L l7, .I i8, .I i9, .I i10, .B b11, .I i12, .S s13, .V v0, .L l1, .V v2, .L l3, .V v4, .L l5, .V v6, .L l7, .I i8, .I i9, .I i10, .B b11, .I i12, .I 1]) ∧ (
 (s13 ≠ (⟨#[]⟩ : BA)) →
  cO.sig.pre [.V v2, .L l3, .S s13] ∧ (
 ∀ i20 : Int,
  cO.sig.post [.V v2, .L l3, .S s13, .I i20] →
 R64 i20 →
 ((
 (0 ≤ i20) →
  jP.sig.post [.V v0, .L l1, .V v2, .L l3, .V v4, .L l5, .V v6, .L l7, .I i8, .I i9, .I i10, .B b11, .I i12, .S s13, .V v0, .L l1, .V v2, .L l3, .V v4, .L l5, .V v6, .L l7, .I i8, .I i9, .I i10, .B b11, .I i12, .I 6]) ∧ (
 (i20 < 0) →
  cZ.sig.pre [.V v0, .L l1, .V v2, .L l3, .V v4, .L l5, .V v6, .L l7, .I i8, .I i9, .I i10, .B b11, .I i12] ∧ (
 ∀ i21 i22 : Int,
 ∀ b23 : Bool,
 ∀ i24 : Int,
 ∀ b25 : Bool,
 ∀ i26 : Int,
  cZ.sig.post [.V v0, .L l1, .V v2, .L l3, .V v4, .L l5, .V v6, .L l7, .I i8, .I i9, .I i10, .B b11, .I i12, .I i21, .I i22, .B b23, .I i24, .B b25, .I i26] →
 R64 i21 →
 R64 i22 →
 R64 i24 →
 R64 i26 →
 ((
 (i26 ≠ 0) →
 ((
 (b25 = false) →
   jP.sig.post [.V v0, .L l1, .V v2, .L l3, .V v4, .L l5, .V v6, .L l7, .I i8, .I i9, .I i10, .B b11, .I i12, .S s13, .V v0, .L l1, .V v2, .L l3, .V v4, .L l5, .V v6, .L l7, .I i8, .I i21, .I i22, .B b23, .I i24, .I i26]) ∧ (
 (b25 = true) →
 ∀ v27 : Value,
 Im (((([] : LD) ++ l1).length : Int) ≤ (5864062014805 : Int)) (
 ∀ v28 v29 : Value,
 Im ((((([] : LD) ++ l1) ++ ((D.L ((D.S (⟨#[]⟩ : BA)) :: ((D.I (0 : Int)) :: ([] : LD)))) :: ([] : LD))).length : Int) ≤ (5864062014805 : Int)) (
 ∀ v30 : Value,
   bF.sig.pre [.V v30, .L ((([] : LD) ++ l1) ++ ((D.L ((D.S (⟨#[]⟩ : BA)) :: ((D.I (0 : Int)) :: ([] : LD)))) :: ([] : LD))), .V v2, .L l3, .V v4, .L l5, .V v6, .L l7, .I i8, .I i21, .I i22, .B b23, .I i24, .S (⟨#[]⟩ : BA), .S s13, .I (wrap .i64 ((((([] : LD) ++ l1) ++ ((D.L ((D.S (⟨#[]⟩ : BA)) :: ((D.I (0 : Int)) :: ([] : LD)))) :: ([] : LD))).length : Int) - (1 : Int)))] ∧ (
 ∀ v31 : Value,
 ∀ l32 : LD,
 ∀ v33 : Value,
 ∀ l34 : LD,
   bF.sig.post [.V v30, .L ((([] : LD) ++ l1) ++ ((D.L ((D.S (⟨#[]⟩ : BA)) :: ((D.I (0 : Int)) :: ([] : LD)))) :: ([] : LD))), .V v2, .L l3, .V v4, .L l5, .V v6, .L l7, .I i8, .I i21, .I i22, .B b23, .I i24, .S (⟨#[]⟩ : BA), .S s13, .I (wrap .i64 ((((([] : LD) ++ l1) ++ ((D.L ((D.S (⟨#[]⟩ : BA)) :: ((D.I (0 : Int)) :: ([] : LD)))) :: ([] : LD))).length : Int) - (1 : Int))), .V v31, .L l32, .V v33, .L l34] →
 (EK.ok [.str, .int .i64] (D.L l32)) →
 (EK.ok [.str, .str, .int .i64] (D.L l34)) →
   jP.sig.post [.V v0, .L l1, .V v2, .L l3, .V v4, .L l5, .V v6, .L l7, .I i8, .I i9, .I i10, .B b11, .I i12, .S s13, .V v30, .L ((([] : LD) ++ l1) ++ ((D.L ((D.S (⟨#[]⟩ : BA)) :: ((D.I 0) :: ([] : LD)))) :: ([] : LD))), .V v31, .L l32, .V v4, .L l5, .V v33, .L l34, .I i8, .I i21, .I i22, .B b23, .I i24, .I i26])))))) ∧ (
 (i26 = 0) →
 ∀ v27 : Value,
 Im (((([] : LD) ++ l1).length : Int) ≤ (5864062014805 : Int)) (
 ∀ v28 v29 : Value,
 Im ((((([] : LD) ++ l1) ++ ((D.L ((D.S (⟨#[]⟩ : BA)) :: ((D.I (0 : Int)) :: ([] : LD)))) :: ([] : LD))).length : Int) ≤ (5864062014805 : Int)) (
 ∀ v30 : Value,
   bF.sig.pre [.V v30, .L ((([] : LD) ++ l1) ++ ((D.L ((D.S (⟨#[]⟩ : BA)) :: ((D.I (0 : Int)) :: ([] : LD)))) :: ([] : LD))), .V v2, .L l3, .V v4, .L l5, .V v6, .L l7, .I i8, .I i21, .I i22, .B b23, .I i24, .S (⟨#[]⟩ : BA), .S s13, .I (wrap .i64 ((((([] : LD) ++ l1) ++ ((D.L ((D.S (⟨#[]⟩ : BA)) :: ((D.I (0 : Int)) :: ([] : LD)))) :: ([] : LD))).length : Int) - (1 : Int)))] ∧ (
 ∀ v31 : Value,
 ∀ l32 : LD,
 ∀ v33 : Value,
 ∀ l34 : LD,
   bF.sig.post [.V v30, .L ((([] : LD) ++ l1) ++ ((D.L ((D.S (⟨#[]⟩ : BA)) :: ((D.I (0 : Int)) :: ([] : LD)))) :: ([] : LD))), .V v2, .L l3, .V v4, .L l5, .V v6, .L l7, .I i8, .I i21, .I i22, .B b23, .I i24, .S (⟨#[]⟩ : BA), .S s13, .I (wrap .i64 ((((([] : LD) ++ l1) ++ ((D.L ((D.S (⟨#[]⟩ : BA)) :: ((D.I (0 : Int)) :: ([] : LD)))) :: ([] : LD))).length : Int) - (1 : Int))), .V v31, .L l32, .V v33, .L l34] →
 (EK.ok [.str, .int .i64] (D.L l32)) →
 (EK.ok [.str, .str, .int .i64] (D.L l34)) →
   jP.sig.post [.V v0, .L l1, .V v2, .L l3, .V v4, .L l5, .V v6, .L l7, .I i8, .I i9, .I i10, .B b11, .I i12, .S s13, .V v30, .L ((([] : LD) ++ l1) ++ ((D.L ((D.S (⟨#[]⟩ : BA)) :: ((D.I 0) :: ([] : LD)))) :: ([] : LD))), .V v31, .L l32, .V v4, .L l5, .V v33, .L l34, .I i8, .I i21, .I i22, .B b23, .I i24, .I i26])))))))))))))
def jO.Pure : Prop :=
 ∀ v0 : Value,
 ∀ l1 : LD,
 ∀ v2 : Value,
 ∀ l3 : LD,
 ∀ v4 : Value,
 ∀ l5 : LD,
 ∀ v6 : Value,
 ∀ l7 : LD,
 ∀ i8 i9 i10 : Int,
 ∀ b11 : Bool,
 ∀ i12 : Int,
 ∀ s13 s14 : BA,
 R64 i8 →
 R64 i9 →
 R64 i10 →
 R64 i12 →
 ((s13.size : Int) ≤ 9223372036854775807) →
 ((s14.size : Int) ≤ 9223372036854775807) →
 (EK.ok [.str, .int .i64] (D.L l1)) →
 (EK.ok [.str, .int .i64] (D.L l3)) →
 (EK.ok [.str, .int .i64] (D.L l5)) →
 (EK.ok [.str, .str, .int .i64] (D.L l7)) →
 jO.sig.pre [.V v0, .L l1, .V v2, .L l3, .V v4, .L l5, .V v6, .L l7, .I i8, .I i9, .I i10, .B b11, .I i12, .S s13, .S s14] →
 ∀ n15 : Nat,
 ∀ v16 v17 v18 v19 : Value,
 ∀ n20 : Nat,
 ((
 (b11 = true) →
  jO.sig.post [.V v0, .L l1, .V v2, .L l3, .V v4, .L l5, .V v6, .L l7, .I i8, .I i9, .I i10, .B b11, .I i12, .S s13, .S s14, .V v0, .L l1, .V v2, .L l3, .V v4, .L l5, .V v6, .L l7, .I i8, .I i9, .I i10, .B b11, .I i12, .I 9]) ∧ (
 (b11 = false) →
  cO.sig.pre [.V v2, .L l3, .S s13] ∧ (
 ∀ i21 : Int,
  cO.sig.post [.V v2, .L l3, .S s13, .I i21] →
 R64 i21 →
 ((
 (i21 < 0) →
  jO.sig.post [.V v0, .L l1, .V v2, .L l3, .V v4, .L l5, .V v6, .L l7, .I i8, .I i9, .I i10, .B b11, .I i12, .S s13, .S s14, .V v0, .L l1, .V v2, .L l3, .V v4, .L l5, .V v6, .L l7, .I i8, .I i9, .I i10, .B b11, .I i12, .I 5]) ∧ (
 (0 ≤ i21) →
  dZ.sig.pre [.V v0, .L l1, .V v2, .L l3, .V v4, .L l5, .V v6, .L l7, .I i8, .I i9, .I i10, .B b11, .I i12] ∧ (
 ∀ i22 : Int,
  dZ.sig.post [.V v0, .L l1, .V v2, .L l3, .V v4, .L l5, .V v6, .L l7, .I i8, .I i9, .I i10, .B b11, .I i12, .I i22] →
 R64 i22 →
 ((
 (i22 < (s14.size : Int)) →
  jO.sig.post [.V v0, .L l1, .V v2, .L l3, .V v4, .L l5, .V v6, .L l7, .I i8, .I i9, .I i10, .B b11, .I i12, .S s13, .S s14, .V v0, .L l1, .V v2, .L l3, .V v4, .L l5, .V v6, .L l7, .I i8, .I i9, .I i10, .B b11, .I i12, .I 7]) ∧ (
 ((s14.size : Int) ≤ i22) →
  cZ.sig.pre [.V v0, .L l1, .V v2, .L l3, .V v4, .L l5, .V v6, .L l7, .I i8, .I i9, .I i10, .B b11, .I i12] ∧ (
 ∀ i23 i24 : Int,
 ∀ b25 : Bool,
 ∀ i26 : Int,
 ∀ b27 : Bool,
 ∀ i28 : Int,
  cZ.sig.post [.V v0, .L l1, .V v2, .L l3, .V v4, .L l5, .V v6, .L l7, .I i8, .I i9, .I i10, .B b11, .I i12, .I i23, .I i24, .B b25, .I i26, .B b27, .I i28] →
 R64 i23 →
 R64 i24 →
 R64 i26 →
 R64 i28 →
 ((
 (i28 ≠ 0) →
 ((
 (b27 = false) →
   jO.sig.post [.V v0, .L l1, .V v2, .L l3, .V v4, .L l5, .V v6, .L l7, .I i8, .I i9, .I i10, .B b11, .I i12, .S s13, .S s14, .V v0, .L l1, .V v2, .L l3, .V v4, .L l5, .V v6, .L l7, .I i8, .I i23, .I i24, .B b25, .I i26, .I i28]) ∧ (
 (b27 = true) →
 Im (0 ≤ i21) (
 Im (i21 < (l1.length : Int)) (
 Im (((((l1.getD i21.toNat default).toL.getD (0 : Int).toNat default).toS ++ s14).size : Int) ≤ (9223372036854775807 : Int)) (
      gW.sig.pre [.V v0, .L l1, .V v2, .L l3, .V v4, .L l5, .V v6, .L l7, .I i8, .I i23, .I i24, .B b25, .I i26, .I i21, .S (((l1.getD i21.toNat default).toL.getD (0 : Int).toNat default).toS ++ s14), (D.I ((l1.getD i21.toNat default).toL.getD (1 : Int).toNat default).toI)] ∧ (
 ∀ v29 : Value,
 ∀ l30 : LD,
   gW.sig.post [.V v0, .L l1, .V v2, .L l3, .V v4, .L l5, .V v6, .L l7, .I i8, .I i23, .I i24, .B b25, .I i26, .I i21, .S (((l1.getD i21.toNat default).toL.getD (0 : Int).toNat default).toS ++ s14), (D.I ((l1.getD i21.toNat default).toL.getD (1 : Int).toNat default).toI), .V v29, .L l30] →
 (EK.ok [.str, .int .i64] (D.L l30)) →
   jO.sig.post [.V v0, .L l1, .V v2, .L l3, .V v4, .L l5, .V v6, .L l7, .I i8, .I i9, .I i10, .B b11, .I i12, .S s13, .S s14, .V v29, .L l30, .V v2, .L l3, .V v4, .L l5, .V v6, .L l7, .I i8, .I i23, .I i24, .B b25, .I i26, .I i28]))))))) ∧ (
 (i28 = 0) →
 Im (0 ≤ i21) (
 Im (i21 < (l1.length : Int)) (
 Im (((((l1.getD i21.toNat default).toL.getD (0 : Int).toNat default).toS ++ s14).size : Int) ≤ (9223372036854775807 : Int)) (
     gW.sig.pre [.V v0, .L l1, .V v2, .L l3, .V v4, .L l5, .V v6, .L l7, .I i8, .I i23, .I i24, .B b25, .I i26, .I i21, .S (((l1.getD i21.toNat default).toL.getD (0 : Int).toNat default).toS ++ s14), (D.I ((l1.getD i21.toNat default).toL.getD (1 : Int).toNat default).toI)] ∧ (
 ∀ v29 : Value,
 ∀ l30 : LD,
   gW.sig.post [.V v0, .L l1, .V v2, .L l3, .V v4, .L l5, .V v6, .L l7, .I i8, .I i23, .I i24, .B b25, .I i26, .I i21, .S (((l1.getD i21.toNat default).toL.getD (0 : Int).toNat default).toS ++ s14), (D.I ((l1.getD i21.toNat default).toL.getD (1 : Int).toNat default).toI), .V v29, .L l30] →
 (EK.ok [.str, .int .i64] (D.L l30)) →
   jO.sig.post [.V v0, .L l1, .V v2, .L l3, .V v4, .L l5, .V v6, .L l7, .I i8, .I i9, .I i10, .B b11, .I i12, .S s13, .S s14, .V v29, .L l30, .V v2, .L l3, .V v4, .L l5, .V v6, .L l7, .I i8, .I i23, .I i24, .B b25, .I i26, .I i28])))))))))))))))
def kN.Pure : Prop :=
 ∀ v0 : Value,
 ∀ l1 : LD,
 ∀ v2 : Value,
 ∀ l3 : LD,
 ∀ v4 : Value,
 ∀ l5 : LD,
 ∀ v6 : Value,
 ∀ l7 : LD,
 ∀ i8 i9 i10 : Int,
 ∀ b11 : Bool,
 ∀ i12 : Int,
 ∀ s13 : BA,
 R64 i8 →
 R64 i9 →
 R64 i10 →
 R64 i12 →
 ((s13.size : Int) ≤ 9223372036854775807) →
 (EK.ok [.str, .int .i64] (D.L l1)) →
 (EK.ok [.str, .int .i64] (D.L l3)) →
 (EK.ok [.str, .int .i64] (D.L l5)) →
 (EK.ok [.str, .str, .int .i64] (D.L l7)) →
 kN.sig.pre [.V v0, .L l1, .V v2, .L l3, .V v4, .L l5, .V v6, .L l7, .I i8, .I i9, .I i10, .B b11, .I i12, .S s13] →
 ∀ n14 : Nat,
 ((
 (b11 = true) →
  kN.sig.post [.V v0, .L l1, .V v2, .L l3, .V v4, .L l5, .V v6, .L l7, .I i8, .I i9, .I i10, .B b11, .I i12, .S s13, .S (⟨#[]⟩ : BA), .I 9]) ∧ (
 (b11 = false) →
  cO.sig.pre [.V v2, .L l3, .S s13] ∧ (
 ∀ i15 : Int,
  cO.sig.post [.V v2, .L l3, .S s13, .I i15] →
 R64 i15 →
 ((
 (i15 < 0) →
  kN.sig.post [.V v0, .L l1, .V v2, .L l3, .V v4, .L l5, .V v6, .L l7, .I i8, .I i9, .I i10, .B b11, .I i12, .S s13, .S (⟨#[]⟩ : BA), .I 5]) ∧ (
 (0 ≤ i15) →
 Im (0 ≤ i15) (
 Im (i15 < (l1.length : Int)) (
  kN.sig.post [.V v0, .L l1, .V v2, .L l3, .V v4, .L l5, .V v6, .L l7, .I i8, .I i9, .I i10, .B b11, .I i12, .S s13, (D.S ((l1.getD i15.toNat default).toL.getD (0 : Int).toNat default).toS), .I 0])))))))
def kP.Pure : Prop :=
 ∀ v0 : Value,
 ∀ l1 : LD,
 ∀ v2 : Value,
 ∀ l3 : LD,
 ∀ v4 : Value,
 ∀ l5 : LD,
 ∀ v6 : Value,
 ∀ l7 : LD,
 ∀ i8 i9 i10 : Int,
 ∀ b11 : Bool,
 ∀ i12 : Int,
 ∀ s13 : BA,
 R64 i8 →
 R64 i9 →
 R64 i10 →
 R64 i12 →
 ((s13.size : Int) ≤ 9223372036854775807) →
 (EK.ok [.str, .int .i64] (D.L l1)) →
 (EK.ok [.str, .int .i64] (D.L l3)) →
 (EK.ok [.str, .int .i64] (D.L l5)) →
 (EK.ok [.str, .str, .int .i64] (D.L l7)) →
 kP.sig.pre [.V v0, .L l1, .V v2, .L l3, .V v4, .L l5, .V v6, .L l7, .I i8, .I i9, .I i10, .B b11, .I i12, .S s13] →
 ∀ n14 : Nat,
 ∀ v15 v16 v17 v18 : Value,
 ∀ n19 : Nat,
 ((
 (b11 = true) →
  kP.sig.post [.V v0, .L l1, .V v2, .L l3, .V v4, .L l5, .V v6, .L l7, .I i8, .I i9, .I i10, .B b11, .I i12, .S s13, .V v0, .L l1, .V v2, .L l3, .V v4, .L l5, .V v6, .L l7, .I i8, .I i9, .I i10, .B b11, .I i12, .I 9]) ∧ (
 (b11 = false) →
  cO.sig.pre [.V v2, .L l3, .S s13] ∧ (
 ∀ i20 : Int,
  cO.sig.post [.V v2, .L l3, .S s13, .I i20] →
 R64 i20 →
 ((
 (i20 < 0) →
  kP.sig.post [.V v0, .L l1, .V v2, .L l3, .V v4, .L l5, .V v6, .L l7, .I i8, .I i9, .I i10, .B b11, .I i12, .S s13, .V v0, .L l1, .V v2, .L l3, .V v4, .L l5, .V v6, .L l7, .I i8, .I i9, .I i10, .B b11, .I i12, .I 5]) ∧ (
 (0 ≤ i20) →
  cZ.sig.pre [.V v0, .L l1, .V v2, .L l3, .V v4, .L l5, .V v6, .L l7, .I i8, .I i9, .I i10, .B b11, .I i12] ∧ (
 ∀ i21 i22 : Int,
 ∀ b23 : Bool,
 ∀ i24 : Int,
 ∀ b25 : Bool,
 ∀ i26 : Int,
  cZ.sig.post [.V v0, .L l1, .V v2, .L l3, .V v4, .L l5, .V v6, .L l7, .I i8, .I i9, .I i10, .B b11, .I i12, .I i21, .I i22, .B b23, .I i24, .B b25, .I i26] →
 R64 i21 →
 R64 i22 →
 R64 i24 →
 R64 i26 →
 ((
 (i26 ≠ 0) →
  kP.sig.post [.V v0, .L l1, .V v2, .L l3, .V v4, .L l5, .V v6, .L l7, .I i8, .I i9, .I i10, .B b11, .I i12, .S s13, .V v0, .L l1, .V v2, .L l3, .V v4, .L l5, .V v6, .L l7, .I i8, .I i21, .I i22, .B b23, .I i24, .I i26]) ∧ (
 (i26 = 0) →
 Im (0 ≤ i20) (
 Im (i20 < (l1.length : Int)) (
  gW.sig.pre [.V v0, .L l1, .V v2, .L l3, .V v4, .L l5, .V v6, .L l7, .I i8, .I i21, .I i22, .B b23, .I i24, .I i20, (D.S ((l1.getD i20.toNat default).toL.getD (0 : Int).toNat default).toS), .I (((l1.getD i20.toNat default).toL.getD (0 : Int).toNat default).toS.size : Int)] ∧ (
 ∀ v27 : Value,
 ∀ l28 : LD,
  gW.sig.post [.V v0, .L l1, .V v2, .L l3, .V v4, .L l5, .V v6, .L l7, .I i8, .I i21, .I i22, .B b23, .I i24, .I i20, (D.S ((l1.getD i20.toNat default).toL.getD (0 : Int).toNat default).toS), .I (((l1.getD i20.toNat default).toL.getD (0 : Int).toNat default).toS.size : Int), .V v27, .L l28] →
 (EK.ok [.str, .int .i64] (D.L l28)) →
  kP.sig.post [.V v0, .L l1, .V v2, .L l3, .V v4, .L l5, .V v6, .L l7, .I i8, .I i9, .I i10, .B b11, .I i12, .S s13, .V v27, .L l28, .V v2, .L l3, .V v4, .L l5, .V v6, .L l7, .I i8, .I i21, .I i22, .B b23, .I i24, .I 0])))))))))))
def mO.Pure : Prop :=
 ∀ v0 : Value,
 ∀ l1 : LD,
 ∀ v2 : Value,
 ∀ l3 : LD,
 ∀ v4 : Value,
 ∀ l5 : LD,
 ∀ v6 : Value,
 ∀ l7 : LD,
 ∀ i8 i9 i10 : Int,
 ∀ b11 : Bool,
 ∀ i12 : Int,
 R64 i8 →
 R64 i9 →
 R64 i10 →
 R64 i12 →
 (EK.ok [.str, .int .i64] (D.L l1)) →
 (EK.ok [.str, .int .i64] (D.L l3)) →
 (EK.ok [.str, .int .i64] (D.L l5)) →
 (EK.ok [.str, .str, .int .i64] (D.L l7)) →
 mO.sig.pre [.V v0, .L l1, .V v2, .L l3, .V v4, .L l5, .V v6, .L l7, .I i8, .I i9, .I i10, .B b11, .I i12] →
 ∀ n13 : Nat,
 ∀ v14 v15 v16 v17 : Value,
 ∀ n18 : Nat,
 cZ.sig.pre [.V v0, .L l1, .V v2, .L l3, .V v4, .L l5, .V v6, .L l7, .I i8, .I i9, .I i10, .B b11, .I i12] ∧ (
 ∀ i19 i20 : Int,
 ∀ b21 : Bool,
 ∀ i22 : Int,
 ∀ b23 : Bool,
 ∀ i24 : Int,
 cZ.sig.post [.V v0, .L l1, .V v2, .L l3, .V v4, .L l5, .V v6, .L l7, .I i8, .I i9, .I i10, .B b11, .I i12, .I i19, .I i20, .B b21, .I i22, .B b23, .I i24] →
 R64 i19 →
 R64 i20 →
 R64 i22 →
 R64 i24 →
 ((
 (i24 ≠ 0) →
  mO.sig.post [.V v0, .L l1, .V v2, .L l3, .V v4, .L l5, .V v6, .L l7, .I i8, .I i9, .I i10, .B b11, .I i12, .V v0, .L l1, .V v2, .L l3, .V v4, .L l5, .V v6, .L l7, .I i8, .I i19, .I i20, .B b21, .I i22, .I i24]) ∧ (
 (i24 = 0) →
 ∀ v25 : Value,
  mO.sig.post [.V v0, .L l1, .V v2, .L l3, .V v4, .L l5, .V v6, .L l7, .I i8, .I i9, .I i10, .B b11, .I i12, .V v0, .L l1, .V v2, .L l3, .V v2, .L l3, .V v25, .L ([] : LD), .I i8, .I i19, .I i20, .B b21, .I i22, .I 0])))
def jC.Pure : Prop :=
 ∀ v0 : Value,
 ∀ l1 : LD,
 ∀ v2 : Value,
 ∀ l3 : LD,
 ∀ v4 : Value,
 ∀ l5 : LD,
 ∀ v6 : Value,
 ∀ l7 : LD,
 ∀ i8 i9 i10 : Int,
 ∀ b11 : Bool,
 ∀ i12 : Int,
 ∀ s13 s14 : BA,
 R64 i8 →
 R64 i9 →
 R64 i10 →
 R64 i12 →
 ((s13.size : Int) ≤ 9223372036854775807) →
 ((s14.size : Int) ≤ 9223372036854775807) →
 (EK.ok [.str, .int .i64] (D.L l1)) →
 (EK.ok [.str, .int .i64] (D.L l3)) →
 (EK.ok [.str, .int .i64] (D.L l5)) →
 (EK.ok [.str, .str, .int .i64] (D.L l7)) →
 jC.sig.pre [.V v0, .L l1, .V v2, .L l3, .V v4, .L l5, .V v6, .L l7, .I i8, .I i9, .I i10, .B b11, .I i12, .S s13, .S s14] →
 ∀ n15 : Nat,
 ∀ v16 v17 v18 v19 : Value,
 ∀ n20 : Nat,
 ((
 (b11 = true) →
  jC.sig.post [.V v0, .L l1, .V v2, .L l3, .V v4, .L l5, .V v6, .L l7, .I i8, .I i9, .I i10, .B b11, .I i12, .S s13, .S s14, .V v0, .L l1, .V v2, .L l3, .V v4, .L l5, .V v6, .L l7, .I i8, .I i9, .I i10, .B b11, .I i12, .I 9]) ∧ (
 (b11 = false) →
  cO.sig.pre [.V v2, .L l3, .S s13] ∧ (
 ∀ i21 : Int,
  cO.sig.post [.V v2, .L l3, .S s13, .I i21] →
 R64 i21 →
 ((
 (i21 < 0) →
  jC.sig.post [.V v0, .L l1, .V v2, .L l3, .V v4, .L l5, .V v6, .L l7, .I i8, .I i9, .I i10, .B b11, .I i12, .S s13, .S s14, .V v0, .L l1, .V v2, .L l3, .V v4, .L l5, .V v6, .L l7, .I i8, .I i9, .I i10, .B b11, .I i12, .I 5]) ∧ (
 (0 ≤ i21) →
 ((
 (s14 = (⟨#[]⟩ : BA)) →
  jC.sig.post [.V v0, .L l1, .V v2, .L l3, .V v4, .L l5, .V v6, .L l7, .I i8, .I i9, .I i10, .B b11, .I i12, .S s13, .S s14, .V v0, .L l1, .V v2, .L l3, .V v4, .L l5, .V v6, .L l7, .I i8, .I i9, .I i10, .B b11, .I i12, .I 1]) ∧ (
 (s14 ≠ (⟨#[]⟩ : BA)) →
 ((
 (s14 = s13) →
   jC.sig.post [.V v0, .L l1, .V v2, .L l3, .V v4, .L l5, .V v6, .L l7, .I i8, .I i9, .I i10, .B b11, .I i12, .S s13, .S s14, .V v0, .L l1, .V v2, .L l3, .V v4, .L l5, .V v6, .L l7, .I i8, .I i9, .I i10, .B b11, .I i12, .I 1]) ∧ (
 (s14 ≠ s13) →
   cZ.sig.pre [.V v0, .L l1, .V v2, .L l3, .V v4, .L l5, .V v6, .L l7, .I i8, .I i9, .I i10, .B b11, .I i12] ∧ (
 ∀ i22 i23 : Int,
 ∀ b24 : Bool,
 ∀ i25 : Int,
 ∀ b26 : Bool,
 ∀ i27 : Int,
   cZ.sig.post [.V v0, .L l1, .V v2, .L l3, .V v4, .L l5, .V v6, .L l7, .I i8, .I i9, .I i10, .B b11, .I i12, .I i22, .I i23, .B b24, .I i25, .B b26, .I i27] →
 R64 i22 →
 R64 i23 →
 R64 i25 →
 R64 i27 →
 ((
 (i27 ≠ 0) →
 ((
 (b26 = false) →
    jC.sig.post [.V v0, .L l1, .V v2, .L l3, .V v4, .L l5, .V v6, .L l7, .I i8, .I i9, .I i10, .B b11, .I i12, .S s13, .S s14, .V v0, .L l1, .V v2, .L l3, .V v4, .L l5, .V v6, .L l7, .I i8, .I i22, .I i23, .B b24, .I i25, .I i27]) ∧ (
 (b26 = true) →
    bF.sig.pre [.V v0, .L l1, .V v2, .L l3, .V v4, .L l5, .V v6, .L l7, .I i8, .I i22, .I i23, .B b24, .I i25, .S s13, .S s14, .I i21] ∧ (
 ∀ v28 : Value,
 ∀ l29 : LD,
 ∀ v30 : Value,
 ∀ l31 : LD,
    bF.sig.post [.V v0, .L l1, .V v2, .L l3, .V v4, .L l5, .V v6, .L l7, .I i8, .I i22, .I i23, .B b24, .I i25, .S s13, .S s14, .I i21, .V v28, .L l29, .V v30, .L l31] →
 (EK.ok [.str, .int .i64] (D.L l29)) →
 (EK.ok [.str, .str, .int .i64] (D.L l31)) →
    jC.sig.post [.V v0, .L l1, .V v2, .L l3, .V v4, .L l5, .V v6, .L l7, .I i8, .I i9, .I i10, .B b11, .I i12, .S s13, .S s14, .V v0, .L l1, .V v28, .L l29, .V v4, .L l5, .V v30, .L l31, .I i8, .I i22, .I i23, .B b24, .I i25, .I i27])))) ∧ (
 (i27 = 0) →
   bF.sig.pre [.V v0, .L l1, .V v2, .L l3, .V v4, .L l5, .V v6, .L l7, .I i8, .I i22, .I i23, .B b24, .I i25, .S s13, .S s14, .I i21] ∧ (
 ∀ v28 : Value,
 ∀ l29 : LD,
 ∀ v30 : Value,
 ∀ l31 : LD,
   bF.sig.post [.V v0, .L l1, .V v2, .L l3, .V v4, .L l5, .V v6, .L l7, .I i8, .I i22, .I i23, .B b24, .I i25, .S s13, .S s14, .I i21, .V v28, .L l29, .V v30, .L l31] →
 (EK.ok [.str, .int .i64] (D.L l29)) →
 (EK.ok [.str, .str, .int .i64] (D.L l31)) →
   jC.sig.post [.V v0, .L l1, .V v2, .L l3, .V v4, .L l5, .V v6, .L l7, .I i8, .I i9, .I i10, .B b11, .I i12, .S s13, .S s14, .V v0, .L l1, .V v28, .L l29, .V v4, .L l5, .V v30, .L l31, .I i8, .I i22, .I i23, .B b24, .I i25, .I i27])))))))))))))
def kD.Pure : Prop :=
 ∀ v0 : Value,
 ∀ l1 : LD,
 ∀ v2 : Value,
 ∀ l3 : LD,
 ∀ v4 : Value,
 ∀ l5 : LD,
 ∀ v6 : Value,
 ∀ l7 : LD,
 ∀ i8 i9 i10 : Int,
 ∀ b11 : Bool,
 ∀ i12 : Int,
 ∀ s13 : BA,
 R64 i8 →
 R64 i9 →
 R64 i10 →
 R64 i12 →
 ((s13.size : Int) ≤ 9223372036854775807) →
 (EK.ok [.str, .int .i64] (D.L l1)) →
 (EK.ok [.str, .int .i64] (D.L l3)) →
 (EK.ok [.str, .int .i64] (D.L l5)) →
 (EK.ok [.str, .str, .int .i64] (D.L l7)) →
 kD.sig.pre [.V v0, .L l1, .V v2, .L l3, .V v4, .L l5, .V v6, .L l7, .I i8, .I i9, .I i10, .B b11, .I i12, .S s13] →
 ∀ n14 : Nat,
 ∀ v15 v16 v17 v18 : Value,
 ∀ n19 : Nat,
 ((
 (b11 = true) →
  kD.sig.post [.V v0, .L l1, .V v2, .L l3, .V v4, .L l5, .V v6, .L l7, .I i8, .I i9, .I i10, .B b11, .I i12, .S s13, .V v0, .L l1, .V v2, .L l3, .V v4, .L l5, .V v6, .L l7, .I i8, .I i9, .I i10, .B b11, .I i12, .I 9]) ∧ (
 (b11 = false) →
  cO.sig.pre [.V v2, .L l3, .S s13] ∧ (
 ∀ i20 : Int,
  cO.sig.post [.V v2, .L l3, .S s13, .I i20] →
 R64 i20 →
 ((
 (i20 < 0) →
  kD.sig.post [.V v0, .L l1, .V v2, .L l3, .V v4, .L l5, .V v6, .L l7, .I i8, .I i9, .I i10, .B b11, .I i12, .S s13, .V v0, .L l1, .V v2, .L l3, .V v4, .L l5, .V v6, .L l7, .I i8, .I i9, .I i10, .B b11, .I i12, .I 5]) ∧ (
 (0 ≤ i20) →
  cZ.sig.pre [.V v0, .L l1, .V v2, .L l3, .V v4, .L l5, .V v6, .L l7, .I i8, .I i9, .I i10, .B b11, .I i12] ∧ (
 ∀ i21 i22 : Int,
 ∀ b23 : Bool,
 ∀ i24 : Int,
 ∀ b25 : Bool,
 ∀ i26 : Int,
  cZ.sig.post [.V v0, .L l1, .V v2, .L l3, .V v4, .L l5, .V v6, .L l7, .I i8, .I i9, .I i10, .B b11, .I i12, .I i21, .I i22, .B b23, .I i24, .B b25, .I i26] →
 R64 i21 →
 R64 i22 →
 R64 i24 →
 R64 i26 →
 ((
 (i26 ≠ 0) →
 ((
 (b25 = false) →
   kD.sig.post [.V v0, .L l1, .V v2, .L l3, .V v4, .L l5, .V v6, .L l7, .I i8, .I i9, .I i10, .B b11, .I i12, .S s13, .V v0, .L l1, .V v2, .L l3, .V v4, .L l5, .V v6, .L l7, .I i8, .I i21, .I i22, .B b23, .I i24, .I i26]) ∧ (
 (b25 = true) →
   bF.sig.pre [.V v0, .L l1, .V v2, .L l3, .V v4, .L l5, .V v6, .L l7, .I i8, .I i21, .I i22, .B b23, .I i24, .S s13, .S (⟨#[]⟩ : BA), .I 0] ∧ (
 ∀ v27 : Value,
 ∀ l28 : LD,
 ∀ v29 : Value,
 ∀ l30 : LD,
   bF.sig.post [.V v0, .L l1, .V v2, .L l3, .V v4, .L l5, .V v6, .L l7, .I i8, .I i21, .I i22, .B b23, .I i24, .S s13, .S (⟨#[]⟩ : BA), .I 0, .V v27, .L l28, .V v29, .L l30] →
 (EK.ok [.str, .int .i64] (D.L l28)) →
 (EK.ok [.str, .str, .int .i64] (D.L l30)) →
   kD.sig.post [.V v0, .L l1, .V v2, .L l3, .V v4, .L l5, .V v6, .L l7, .I i8, .I i9, .I i10, .B b11, .I i12, .S s13, .V v0, .L l1, .V v27, .L l28, .V v4, .L l5, .V v29, .L l30, .I i8, .I i21, .I i22, .B b23, .I i24, .I i26])))) ∧ (
 (i26 = 0) →
  bF.sig.pre [.V v0, .L l1, .V v2, .L l3, .V v4, .L l5, .V v6, .L l7, .I i8, .I i21, .I i22, .B b23, .I i24, .S s13, .S (⟨#[]⟩ : BA), .I 0] ∧ (
 ∀ v27 : Value,
 ∀ l28 : LD,
 ∀ v29 : Value,
 ∀ l30 : LD,
  bF.sig.post [.V v0, .L l1, .V v2, .L l3, .V v4, .L l5, .V v6, .L l7, .I i8, .I i21, .I i22, .B b23, .I i24, .S s13, .S (⟨#[]⟩ : BA), .I 0, .V v27, .L l28, .V v29, .L l30] →
 (EK.ok [.str, .int .i64] (D.L l28)) →
 (EK.ok [.str, .str, .int .i64] (D.L l30)) →
  kD.sig.post [.V v0, .L l1, .V v2, .L l3, .V v4, .L l5, .V v6, .L l7, .I i8, .I i9, .I i10, .B b11, .I i12, .S s13, .V v0, .L l1, .V v27, .L l28, .V v4, .L l5, .V v29, .L l30, .I i8, .I i21, .I i22, .B b23, .I i24, .I i26])))))))))
def kM.Pure : Prop :=
 ∀ v0 : Value,
 ∀ z1 : LI,
 ∀ i2 i3 : Int,
 R64 i2 →
 R64 i3 →
 (∀ x ∈ z1, IntKind.has .i64 x) →
 kM.sig.pre [.V v0, .Z z1, .I i2, .I i3] →
 ((
 ((z1.length : Int) ≤ i2) →
  kM.sig.post [.V v0, .Z z1, .I i2, .I i3, .I 0]) ∧ (
 (i2 < (z1.length : Int)) →
 Im (0 ≤ i2) (
 Im (i2 < (z1.length : Int)) (
 Im (i3 ≠ 0) (
  kM.sig.post [.V v0, .Z z1, .I i2, .I i3, .I (Int.tmod (wrap .i64 ((Int.tmod (z1.getD i2.toNat 0) i3) + i3)) i3)])))))
def dK.Pure : Prop :=
 ∀ v0 : Value,
 ∀ l1 : LD,
 ∀ v2 : Value,
 ∀ l3 : LD,
 ∀ v4 : Value,
 ∀ l5 : LD,
 ∀ v6 : Value,
 ∀ l7 : LD,
 ∀ i8 i9 i10 : Int,
 ∀ b11 : Bool,
 ∀ i12 : Int,
 ∀ v13 : Value,
 ∀ z14 : LI,
 R64 i8 →
 R64 i9 →
 R64 i10 →
 R64 i12 →
 (EK.ok [.str, .int .i64] (D.L l1)) →
 (EK.ok [.str, .int .i64] (D.L l3)) →
 (EK.ok [.str, .int .i64] (D.L l5)) →
 (EK.ok [.str, .str, .int .i64] (D.L l7)) →
 (∀ x ∈ z14, IntKind.has .i64 x) →
 dK.sig.pre [.V v0, .L l1, .V v2, .L l3, .V v4, .L l5, .V v6, .L l7, .I i8, .I i9, .I i10, .B b11, .I i12, .V v13, .Z z14] →
 ∀ n15 : Nat,
 ∀ v16 v17 v18 v19 : Value,
 ∀ n20 : Nat,
 kM.sig.pre [.V v13, .Z z14, .I (0 : Int), .I (wrap .i64 ((l7.length : Int) + (1 : Int)))] ∧ (
 ∀ i21 : Int,
 kM.sig.post [.V v13, .Z z14, .I (0 : Int), .I (wrap .i64 ((l7.length : Int) + (1 : Int))), .I i21] →
 R64 i21 →
 dK.I0 [.V v0, .L l1, .V v2, .L l3, .V v4, .L l5, .V v6, .L l7, .I i8, .I i9, .I i10, .B b11, .I i12, .V v13, .Z z14, .I 0, .L l5] ∧ (
 ∀ i22 : Int,
 ∀ v23 : Value,
 ∀ l24 : LD,
 R64 i22 →
 (EK.ok [.str, .int .i64] (D.L l24)) →
 dK.I0 [.V v0, .L l1, .V v2, .L l3, .V v4, .L l5, .V v6, .L l7, .I i8, .I i9, .I i10, .B b11, .I i12, .V v13, .Z z14, .I i22, .L l24] →
 ((
 (i22 < i21) →
 Im (0 ≤ i22) (
 Im (i22 < (l7.length : Int)) (
  dJ.sig.pre [.V v23, .L l24, (D.S ((l7.getD i22.toNat default).toL.getD (0 : Int).toNat default).toS), (D.S ((l7.getD i22.toNat default).toL.getD (1 : Int).toNat default).toS), (D.I ((l7.getD i22.toNat default).toL.getD (2 : Int).toNat default).toI)] ∧ (
 ∀ v25 : Value,
 ∀ l26 : LD,
  dJ.sig.post [.V v23, .L l24, (D.S ((l7.getD i22.toNat default).toL.getD (0 : Int).toNat default).toS), (D.S ((l7.getD i22.toNat default).toL.getD (1 : Int).toNat default).toS), (D.I ((l7.getD i22.toNat default).toL.getD (2 : Int).toNat default).toI), .V v25, .L l26] →
 (EK.ok [.str, .int .i64] (D.L l26)) →
  Bk dK.I0 dK.I0M [.V v0, .L l1, .V v2, .L l3, .V v4, .L l5, .V v6, .L l7, .I i8, .I i9, .I i10, .B b11, .I i12, .V v13, .Z z14, .I (wrap .i64 (i22 + 1)), .L l26] [.V v0, .L l1, .V v2, .L l3, .V v4, .L l5, .V v6, .L l7, .I i8, .I i9, .I i10, .B b11, .I i12, .V v13, .Z z14, .I i22, .L l24])))) ∧ (
 (i21 ≤ i22) →
 ∀ v25 : Value,
  dK.I1 [.V v0, .L l1, .V v2, .L l3, .V v4, .L l5, .V v6, .L l7, .I i8, .I i9, .I i10, .B b11, .I i12, .V v13, .Z z14, .I 1, .I 0, .L l1] ∧ (
 ∀ i26 i27 : Int,
 ∀ v28 : Value,
 ∀ l29 : LD,
 R64 i26 →
 R64 i27 →
 (EK.ok [.str, .int .i64] (D.L l29)) →
  dK.I1 [.V v0, .L l1, .V v2, .L l3, .V v4, .L l5, .V v6, .L l7, .I i8, .I i9, .I i10, .B b11, .I i12, .V v13, .Z z14, .I i26, .I i27, .L l29] →
 ((
 (i27 < (l1.length : Int)) →
 Im (0 ≤ i27) (
 Im (i27 < (l29.length : Int)) (
 ∀ n30 : Nat,
  aZ.sig.pre [.V v28, .L l29, .V v23, .L l24, .V v23, .L l24, .V v25, .L ([] : LD), .I i8, .I i9, .I i10, .B b11, .I i12, .I i27] ∧ (
 ∀ b31 : Bool,
  aZ.sig.post [.V v28, .L l29, .V v23, .L l24, .V v23, .L l24, .V v25, .L ([] : LD), .I i8, .I i9, .I i10, .B b11, .I i12, .I i27, .B b31] →
 ((
 (b31 = true) →
 ((
 (0 < (wrap .i64 ((((l29.getD i27.toNat default).toL.getD (0 : Int).toNat default).toS.size : Int) - ((l29.getD i27.toNat default).toL.getD (1 : Int).toNat default).toI))) →
   kM.sig.pre [.V v13, .Z z14, .I i26, .I (wrap .i64 ((wrap .i64 ((((l29.getD i27.toNat default).toL.getD (0 : Int).toNat default).toS.size : Int) - ((l29.getD i27.toNat default).toL.getD (1 : Int).toNat default).toI)) + 1))] ∧ (
 ∀ i32 : Int,
   kM.sig.post [.V v13, .Z z14, .I i26, .I (wrap .i64 ((wrap .i64 ((((l29.getD i27.toNat default).toL.getD (0 : Int).toNat default).toS.size : Int) - ((l29.getD i27.toNat default).toL.getD (1 : Int).toNat default).toI)) + 1)), .I i32] →
 R64 i32 →
 Im (0 ≤ (wrap .i64 (((l29.getD i27.toNat default).toL.getD (1 : Int).toNat default).toI + i32))) (
 Im ((wrap .i64 (((l29.getD i27.toNat default).toL.getD (1 : Int).toNat default).toI + i32)) ≤ (((l29.getD i27.toNat default).toL.getD (0 : Int).toNat default).toS.size : Int)) (
     gW.sig.pre [.V v28, .L l29, .V v23, .L l24, .V v23, .L l24, .V v25, .L ([] : LD), .I i8, .I i9, .I i10, .B b11, .I i12, .I i27, .S (((l29.getD i27.toNat default).toL.getD (0 : Int).toNat default).toS.extract (0 : Int).toNat (wrap .i64 (((l29.getD i27.toNat default).toL.getD (1 : Int).toNat default).toI + i32)).toNat), .I (wrap .i64 (((l29.getD i27.toNat default).toL.getD (1 : Int).toNat default).toI + i32))] ∧ (
 ∀ v33 : Value,
 ∀ l34 : LD,
   gW.sig.post [.V v28, .L l29, .V v23, .L l24, .V v23, .L l24, .V v25, .L ([] : LD), .I i8, .I i9, .I i10, .B b11, .I i12, .I i27, .S (((l29.getD i27.toNat default).toL.getD (0 : Int).toNat default).toS.extract (0 : Int).toNat (wrap .i64 (((l29.getD i27.toNat default).toL.getD (1 : Int).toNat default).toI + i32)).toNat), .I (wrap .i64 (((l29.getD i27.toNat default).toL.getD (1 : Int).toNat default).toI + i32)), .V v33, .L l34] →
 (EK.ok [.str, .int .i64] (D.L l34)) →
   Bk dK.I1 dK.I1M [.V v0, .L l1, .V v2, .L l3, .V v4, .L l5, .V v6, .L l7, .I i8, .I i9, .I i10, .B b11, .I i12, .V v13, .Z z14, .I (wrap .i64 (i26 + 1)), .I (wrap .i64 (i27 + 1)), .L l34] [.V v0, .L l1, .V v2, .L l3, .V v4, .L l5, .V v6, .L l7, .I i8, .I i9, .I i10, .B b11, .I i12, .V v13, .Z z14, .I i26, .I i27, .L l29]))))) ∧ (
 ((wrap .i64 ((((l29.getD i27.toNat default).toL.getD (0 : Int).toNat default).toS.size : Int) - ((l29.getD i27.toNat default).toL.getD (1 : Int).toNat default).toI)) ≤ 0) →
   Bk dK.I1 dK.I1M [.V v0, .L l1, .V v2, .L l3, .V v4, .L l5, .V v6, .L l7, .I i8, .I i9, .I i10, .B b11, .I i12, .V v13, .Z z14, .I i26, .I (wrap .i64 (i27 + 1)), .L l29] [.V v0, .L l1, .V v2, .L l3, .V v4, .L l5, .V v6, .L l7, .I i8, .I i9, .I i10, .B b11, .I i12, .V v13, .Z z14, .I i26, .I i27, .L l29]))) ∧ (
 (b31 = false) →
  Bk dK.I1 dK.I1M [.V v0, .L l1, .V v2, .L l3, .V v4, .L l5, .V v6, .L l7, .I i8, .I i9, .I i10, .B b11, .I i12, .V v13, .Z z14, .I i26, .I (wrap .i64 (i27 + 1)), .L l29] [.V v0, .L l1, .V v2, .L l3, .V v4, .L l5, .V v6, .L l7, .I i8, .I i9, .I i10, .B b11, .I i12, .V v13, .Z z14, .I i26, .I i27, .L l29])))))) ∧ (
 ((l1.length : Int) ≤ i27) →
   dK.sig.post [.V v0, .L l1, .V v2, .L l3, .V v4, .L l5, .V v6, .L l7, .I i8, .I i9, .I i10, .B b11, .I i12, .V v13, .Z z14, .V v28, .L l29, .V v23, .L l24, .V v23, .L l24, .V v25, .L ([] : LD), .I i8, .I (-1 : Int), .I (-1 : Int), .B false, .I i12])))))))
end Go.Vc
namespace Go.Vc
open Dk (Ds Fi Cg)
theorem bS6 {n : Tx} {i : Nat} {p : Tx × Nat} : ∀ {L : List (Tx × Nat)} {k : Nat}, (∀ q ∈ L.take k, q.1 ≠ n) → L[k]? = some p → p.1 = n → Dk.find L n = some p.2
 | [], _, _, h, _ => by simp at h
 | q :: L, 0, _, h, e => by
  obtain rfl : q = p := by simpa using h
  rw [Dk.find, if_pos e]
 | q :: L, k + 1, hn, h, e => by
  rw [List.take_succ_cons] at hn
  rw [Dk.find, if_neg (hn q (by simp))]
  exact bS6 (k := k) (i := i) (fun r hr => hn r (by simp [hr])) (by simpa using h) e
def oH (c : Cg) (s : List (Tx × Nat) × Bool) : List (Tx × Nat) := if s.2 then s.1 else s.1 ++ [(c.name, c.file)]
theorem aA1 {c : Cg} : ∀ {L : List (Tx × Nat)} {o : List (Tx × Nat)}, L.foldl (apS c) (o, true) = (o ++ L.filter (fun p => p.1 ≠ c.gone ∧ p.1 ≠ c.name), true)
 | [], o => by simp
 | p :: L, o => by
  rw [List.foldl_cons]
  by_cases h : p.1 = c.gone ∨ p.1 = c.name
  ·rw [show apS c (o, true) p = (o, true) from if_pos h, aA1, List.filter_cons_of_neg (by simp only [decide_eq_true_eq]; intro h'; rcases h with h | h <;> simp [h] at h')]
  ·rw [show apS c (o, true) p = (o ++ [p], true) from by unfold apS; rw [if_neg h, if_neg (by simp)], aA1, List.filter_cons_of_pos (by simp only [decide_eq_true_eq]; exact ⟨fun e => h (.inl e), fun e => h (.inr e)⟩)]
   simp
theorem aK4 {c : Cg} : ∀ {L : List (Tx × Nat)} {o : List (Tx × Nat)}, oH c (L.foldl (apS c) (o, false)) = o ++ Dk.ins (c.name, c.file) (L.filter (fun p => p.1 ≠ c.gone ∧ p.1 ≠ c.name))
 | [], o => by simp [oH, Dk.ins]
 | p :: L, o => by
  rw [List.foldl_cons]
  by_cases h : p.1 = c.gone ∨ p.1 = c.name
  ·rw [show apS c (o, false) p = (o, false) from if_pos h, aK4, List.filter_cons_of_neg (by simp only [decide_eq_true_eq]; intro h'; rcases h with h | h <;> simp [h] at h')]
  ·rw [List.filter_cons_of_pos (by simp only [decide_eq_true_eq]; exact ⟨fun e => h (.inl e), fun e => h (.inr e)⟩), Dk.ins]
   by_cases h2 : c.name < p.1
   ·rw [show apS c (o, false) p = (o ++ [(c.name, c.file), p], true) from by unfold apS; rw [if_neg h, if_pos ⟨rfl, h2⟩], aA1, if_pos h2]
    simp [oH]
   ·rw [show apS c (o, false) p = (o ++ [p], false) from by unfold apS; rw [if_neg h, if_neg (fun hh => h2 hh.2)], aK4, if_neg h2]
    simp
theorem aY8 {c : Cg} {L : List (Tx × Nat)} : oH c (L.foldl (apS c) ([], decide (c.name = []))) = Dk.apply L c := by
 unfold Dk.apply
 by_cases h : c.name = []
 ·rw [if_pos h, decide_eq_true h, aA1]; simp [oH]
 ·rw [if_neg h, decide_eq_false h, aK4]; simp
end Go.Vc
namespace Go.Vc
open Dk (Ds Fi Cg)
theorem bJ7 {p q : Tx × Nat} (h : nmR p = nmR q) : p = q := by
 obtain ⟨a, b⟩ := p; obtain ⟨c, d⟩ := q
 simp only [nmR, D.L.injEq, List.cons.injEq, D.S.injEq, D.I.injEq] at h
 rw [jQ h.1, show b = d by omega]
theorem bX8 {p q : Fi} (h : fiR p = fiR q) : p = q := by
 obtain ⟨a, b⟩ := p; obtain ⟨c, d⟩ := q
 simp only [fiR, D.L.injEq, List.cons.injEq, D.S.injEq, D.I.injEq] at h
 rw [jQ h.1, show b = d by omega]
theorem bV4 {p q : Cg} (h : cgR p = cgR q) : p = q := by
 obtain ⟨a, b, e⟩ := p; obtain ⟨c, d, f⟩ := q
 simp only [cgR, D.L.injEq, List.cons.injEq, D.S.injEq, D.I.injEq] at h
 rw [jQ h.1, jQ h.2.1, show e = f by omega]
theorem yA {α β : Type} {f : α → β} (hf : ∀ {a b}, f a = f b → a = b) : ∀ {l m : List α}, l.map f = m.map f → l = m
 | [], [], _ => rfl
 | [], _ :: _, h => by cases h
 | _ :: _, [], h => by cases h
 | a :: l, b :: m, h => by
  simp only [List.map_cons, List.cons.injEq] at h
  rw [hf h.1, yA hf h.2]
theorem bY.inj {l : LD} {k : Nat} {x y : Ds} (h : bY l k x) (g : bY l k y) : y = x := by
 obtain ⟨a1, a2, a3, a4, a5, a6, a7, a8, a9⟩ := x
 obtain ⟨b1, b2, b3, b4, b5, b6, b7, b8, b9⟩ := y
 obtain ⟨h1, h2, h3, h4, h5, h6, h7, h8, h9⟩ := h
 obtain ⟨g1, g2, g3, g4, g5, g6, g7, g8, g9⟩ := g
 dsimp only at h1 h2 h3 h4 h5 h6 h7 h8 h9 g1 g2 g3 g4 g5 g6 g7 g8 g9
 rw [yA bX8 (h1.symm.trans g1), yA bJ7 (h2.symm.trans g2), yA bJ7 (h3.symm.trans g3), yA bV4 (h4.symm.trans g4), h5.symm.trans g5, h6.symm.trans g6, h7.symm.trans g7, h8.symm.trans g8, h9.symm.trans g9]
theorem oP {α : Type} {f : α → D} {l : LD} {L : List α} {i : Int} (h : l = L.map f) (h0 : 0 ≤ i) (h1 : i < (l.length : Nat)) : ∃ p, L[i.toNat]? = some p ∧ l.getD i.toNat default = f p := by
 have hi : i.toNat < L.length := by rw [h, List.length_map] at h1; omega
 refine ⟨L[i.toNat], List.getElem?_eq_getElem hi, ?_⟩
 rw [h, List.getD, List.getElem?_map, List.getElem?_eq_getElem hi]; rfl
theorem aJ9 {α : Type} {L : List α} {f : α → Bool} {i : Int} {p : α} (h : (L.take i.toNat).any f = false) (h0 : 0 ≤ i) (hp : L[i.toNat]? = some p) (hf : f p = false) : (L.take (i + 1).toNat).any f = false := by
 rw [show (i + 1).toNat = i.toNat + 1 by omega, List.take_add_one, List.any_append, h, hp]
 simp [hf]
theorem aJ8 {α : Type} {L : List α} {f : α → Bool} {i : Int} (h : (L.take i.toNat).any f = false) (hi : (L.length : Int) ≤ i) : L.any f = false := by
 rw [List.take_of_length_le (by omega)] at h; exact h
theorem Small.nl {x : Ds} (h : Small x) : x.names.length ≤ 20000000 := by
 have := Dk.xM x.pend x.safe
 rw [← h.inv.names] at this
 have := h.names
 omega
theorem mM.pure : mM.Pure := by
 unfold mM.Pure
 intros
 exact ⟨rfl, rfl, rfl, rfl, pW _ _, rfl, rfl, rfl, rfl⟩
theorem cO.pure : cO.Pure := by
 intro v0 l1 s2 _ _ hp
 have hp : l1.length ≤ 100000000 := hp
 refine ⟨⟨Int.le_refl _, Int.natCast_nonneg _, fun L _ p hp => (by cases hp)⟩, fun i4 _ h => ?_⟩
 obtain ⟨h0, h1, h2⟩ : 0 ≤ i4 ∧ i4 ≤ l1.length ∧ ∀ L : List (Tx × Nat), l1 = L.map nmR → ∀ p ∈ L.take i4.toNat, p.1 ≠ tx s2 := h
 refine ⟨fun hi => ⟨h0, fun _ n5 => ⟨fun he L hL => ?_, fun he => ?_⟩⟩, fun hi L hL => ?_⟩
 ·obtain ⟨p, e1, e2⟩ := oP (show l1 = _ from hL) h0 hi
  rw [e2] at he ⊢
  have he : bx p.1 = s2 := he
  show ((p.2 : Nat) : Int) = fdI (Dk.find L (tx s2))
  rw [bS6 (i := 0) (h2 L hL) e1 (by rw [← he]; rfl)]; rfl
 ·rw [wrap64 (by omega) (by omega)]
  refine ⟨⟨by show 0 ≤ i4 + 1; omega, by show i4 + 1 ≤ l1.length; omega, fun L hL q hq => ?_⟩, by show (l1.length - (i4 + 1)).toNat < (l1.length - i4).toNat; omega⟩
  obtain ⟨p, e1, e2⟩ := oP (show l1 = _ from hL) h0 hi
  have hq : q ∈ L.take (i4 + 1).toNat := hq
  rw [show (i4 + 1).toNat = i4.toNat + 1 by omega, List.take_add_one, e1, List.mem_append] at hq
  rcases hq with hq | hq
  ·exact h2 L hL q hq
  ·rw [e2] at he
   obtain rfl : q = p := by simpa using hq
   exact fun hh => he (gG hh)
 ·show (-1 : Int) = fdI (Dk.find L (tx s2))
  have hl : l1.length = L.length := by rw [show l1 = L.map nmR from hL, List.length_map]
  rw [Dk.aP1.2 fun p hp => h2 L hL p (by rw [List.take_of_length_le (by omega)]; exact hp)]; rfl
theorem cZ.pure : cZ.Pure := by
 intro v0 l1 v2 l3 v4 l5 v6 l7 i8 i9 i10 b11 i12 _ r9 r10 r12 _ _ _ _ hp _ _ _ _ _ _
 obtain ⟨x, hx, sx⟩ := hp
 have key : ∀ (a b : Int) (c : Bool) (d : Int) (e : Bool) (f : Int), (a, b, c, d, e, f) = ((Dk.begin x).1.crash, (Dk.begin x).1.fail, (Dk.begin x).1.dead, (Dk.begin x).1.calls, (Dk.begin x).2.1, (Dk.begin x).2.2) →
   cZ.sig.post [.V v0, .L l1, .V v2, .L l3, .V v4, .L l5, .V v6, .L l7, .I i8, .I i9, .I i10, .B b11, .I i12, .I a, .I b, .B c, .I d, .B e, .I f] := fun a b c d e f h y hy sy => by
  obtain rfl := hx.inj ⟨hy.1, hy.2, hy.3, hy.4, hy.5, hy.6, hy.7, hy.8, hy.9⟩; exact h
 have c1 := sx.calls
 obtain ⟨f, n, s, p, room, crash, fail, dead, calls⟩ := x
 obtain ⟨_, _, _, _, _, h6, h7, h8, h9⟩ := hx
 obtain rfl : i9 = crash := h6
 obtain rfl : i10 = fail := h7
 obtain rfl : b11 = dead := h8
 obtain rfl : i12 = calls := h9
 have w9 : 0 < i9 → wrap .i64 (i9 - 1) = i9 - 1 := fun h => wrap64 (by omega) (by omega)
 have w10 : 0 < i10 → wrap .i64 (i10 - 1) = i10 - 1 := fun h => wrap64 (by omega) (by omega)
 have w12 : wrap .i64 (i12 + 1) = i12 + 1 := wrap64 (by dsimp only at c1; omega) (by dsimp only at c1; omega)
 refine ⟨fun h => key _ _ _ _ _ _ ?_, fun h => ⟨fun h2 => key _ _ _ _ _ _ ?_, fun h2 => ⟨fun h3 => ⟨fun h4 => key _ _ _ _ _ _ ?_, fun h4 => ⟨fun h5 => key _ _ _ _ _ _ ?_, fun h5 => key _ _ _ _ _ _ ?_⟩⟩, fun h3 => ⟨fun h4 => key _ _ _ _ _ _ ?_, fun h4 => ⟨fun h5 => key _ _ _ _ _ _ ?_, fun h5 => key _ _ _ _ _ _ ?_⟩⟩⟩⟩⟩
 all_goals grind [Dk.begin]
theorem gW.pure : gW.Pure := by
 intro v0 l1 v2 l3 v4 l5 v6 l7 i8 i9 i10 b11 i12 i13 s14 i15 _ _ _ _ _ _ _ _ _ _ _ hp
 obtain ⟨h0, h1, h2⟩ : 0 ≤ i13 ∧ i13 < l1.length ∧ l1.length ≤ 100000000 := hp
 intros
 exact ⟨by rw [List.nil_append]; omega, fun _ _ => ⟨h0, fun _ => ⟨h1, fun _ => rfl⟩⟩⟩
theorem bF.pure : bF.Pure := by
 intro v0 l1 v2 l3 v4 l5 v6 l7 i8 i9 i10 b11 i12 s13 s14 i15 _ _ _ _ _ _ _ _ _ _ _ hp _ _ _ _ _ _ _
 obtain ⟨h0, h1⟩ : l3.length ≤ 100000000 ∧ l7.length ≤ 100000000 := hp
 refine ⟨h0, fun v23 l24 h24 _ => ?_⟩
 have b1 : (((([] : LD) ++ l7).length : Nat) : Int) ≤ 3518437208883 := by rw [List.nil_append]; omega
 have b2 : (((([] : LD) ++ l7) ++ [D.L [.S s13, .S s14, .I i15]]).length : Nat) ≤ (3518437208883 : Int) := by rw [List.nil_append, List.length_append]; simp only [List.length_cons, List.length_nil]; omega
 have q : ∀ v28, bF.sig.post [.V v0, .L l1, .V v2, .L l3, .V v4, .L l5, .V v6, .L l7, .I i8, .I i9, .I i10, .B b11, .I i12, .S s13, .S s14, .I i15, .V v23, .L l24, .V v28, .L (([] ++ l7) ++ (.L (.S s13 :: .S s14 :: .I i15 :: []) :: []))] :=
  fun v28 => ⟨fun L c e1 e2 e3 e4 => h24 L c e1 e2 e3 e4, rfl⟩
 repeat' first | exact b1 | exact b2 | exact q _ | refine ⟨?_, ?_⟩ | intro _
end Go.Vc
namespace Go.Vc
open Dk (Ds Fi Cg)
variable {v0 v2 v4 v6 u0 u2 u4 u6 : Value} {l1 l3 l5 l7 m1 m3 m5 m7 : LD} {i8 i9 i10 i12 j8 j9 j10 j12 e : Int} {b11 c11 : Bool} {tl : LD} {x y : Ds} {s t : BA}
theorem Rf.of (h : bY (.V v0 :: .L l1 :: .V v2 :: .L l3 :: .V v4 :: .L l5 :: .V v6 :: .L l7 :: .I i8 :: .I i9 :: .I i10 :: .B b11 :: .I i12 :: tl) 0 x) : Rf l1 l3 l5 l7 i8 i9 i10 b11 i12 x := ⟨h.1, h.2, h.3, h.4, h.5, h.6, h.7, h.8, h.9⟩
theorem Rf.at (h : Rf l1 l3 l5 l7 i8 i9 i10 b11 i12 x) : bY (.V v0 :: .L l1 :: .V v2 :: .L l3 :: .V v4 :: .L l5 :: .V v6 :: .L l7 :: .I i8 :: .I i9 :: .I i10 :: .B b11 :: .I i12 :: tl) 0 x := ⟨h.1, h.2, h.3, h.4, h.5, h.6, h.7, h.8, h.9⟩
theorem Rf.inj (h : Rf l1 l3 l5 l7 i8 i9 i10 b11 i12 x) (g : Rf l1 l3 l5 l7 i8 i9 i10 b11 i12 y) : y = x := bY.inj (l := [.V default, .L l1, .V default, .L l3, .V default, .L l5, .V default, .L l7, .I i8, .I i9, .I i10, .B b11, .I i12]) h.at g.at
theorem bR9 {op : Ds → Ds × Int} (h : Rf l1 l3 l5 l7 i8 i9 i10 b11 i12 x) (ho : op x = (y, e)) (g : Rf m1 m3 m5 m7 j8 j9 j10 c11 j12 y) :
  isZ [.V v0, .L l1, .V v2, .L l3, .V v4, .L l5, .V v6, .L l7, .I i8, .I i9, .I i10, .B b11, .I i12, .V u0, .L m1, .V u2, .L m3, .V u4, .L m5, .V u6, .L m7, .I j8, .I j9, .I j10, .B c11, .I j12, .I e] 13 op := by
 intro z hz _
 obtain rfl := h.inj (.of hz)
 rw [ho]
 exact ⟨⟨g.1, g.2, g.3, g.4, g.5, g.6, g.7, g.8, g.9⟩, rfl⟩
theorem kQ {op : Ds → Ds × Int} (h : Rf l1 l3 l5 l7 i8 i9 i10 b11 i12 x) (ho : op x = (y, e)) (g : Rf m1 m3 m5 m7 j8 j9 j10 c11 j12 y) :
  isZ [.V v0, .L l1, .V v2, .L l3, .V v4, .L l5, .V v6, .L l7, .I i8, .I i9, .I i10, .B b11, .I i12, .S s, .V u0, .L m1, .V u2, .L m3, .V u4, .L m5, .V u6, .L m7, .I j8, .I j9, .I j10, .B c11, .I j12, .I e] 14 op := by
 intro z hz _
 obtain rfl := h.inj (.of hz)
 rw [ho]
 exact ⟨⟨g.1, g.2, g.3, g.4, g.5, g.6, g.7, g.8, g.9⟩, rfl⟩
theorem mP {op : Ds → Ds × Int} (h : Rf l1 l3 l5 l7 i8 i9 i10 b11 i12 x) (ho : op x = (y, e)) (g : Rf m1 m3 m5 m7 j8 j9 j10 c11 j12 y) :
  isZ [.V v0, .L l1, .V v2, .L l3, .V v4, .L l5, .V v6, .L l7, .I i8, .I i9, .I i10, .B b11, .I i12, .S s, .S t, .V u0, .L m1, .V u2, .L m3, .V u4, .L m5, .V u6, .L m7, .I j8, .I j9, .I j10, .B c11, .I j12, .I e] 15 op := by
 intro z hz _
 obtain rfl := h.inj (.of hz)
 rw [ho]
 exact ⟨⟨g.1, g.2, g.3, g.4, g.5, g.6, g.7, g.8, g.9⟩, rfl⟩
theorem wP {st : Bool} (h : cZ.sig.post [.V v0, .L l1, .V v2, .L l3, .V v4, .L l5, .V v6, .L l7, .I i8, .I i9, .I i10, .B b11, .I i12, .I j9, .I j10, .B c11, .I j12, .B st, .I e]) (hx : Rf l1 l3 l5 l7 i8 i9 i10 b11 i12 x) (sx : Small x) :
  Rf l1 l3 l5 l7 i8 j9 j10 c11 j12 (Dk.begin x).1 ∧ st = (Dk.begin x).2.1 ∧ e = (Dk.begin x).2.2 := by
 have h := h x hx.at sx
 simp only [Prod.mk.injEq] at h
 have h : j9 = _ ∧ j10 = _ ∧ c11 = _ ∧ j12 = _ ∧ st = _ ∧ e = _ := h
 obtain ⟨h1, h2, h3, h4, h5, h6⟩ := h
 obtain ⟨s1, s2, s3, s4, s5⟩ := Dk.iR x
 exact ⟨⟨by rw [s1]; exact hx.1, by rw [s2]; exact hx.2, by rw [s3]; exact hx.3, by rw [s4]; exact hx.4, by rw [s5]; exact hx.5, h1, h2, h3, h4⟩, h5, h6⟩
theorem jD {n : Int} (h : cO.sig.post [.V v2, .L l3, .S s, .I n]) (hx : Rf l1 l3 l5 l7 i8 i9 i10 b11 i12 x) : (n < 0 → Dk.find x.names (tx s) = none) ∧ (0 ≤ n → Dk.find x.names (tx s) = some n.toNat) := by
 have h : n = fdI (Dk.find x.names (tx s)) := h x.names hx.names
 cases hf : Dk.find x.names (tx s) with
 | none => rw [hf] at h; exact ⟨fun _ => rfl, fun hn => (by rw [h] at hn; exact absurd hn (by decide))⟩
 | some k =>
  rw [hf] at h
  have h : n = (k : Int) := h
  exact ⟨fun hn => (by omega), fun _ => (by rw [h]; rfl)⟩
theorem Rf.lnF (h : Rf l1 l3 l5 l7 i8 i9 i10 b11 i12 x) (sx : Small x) : l1.length ≤ 10000000 := by rw [h.files, List.length_map]; exact sx.files
theorem Rf.lnN (h : Rf l1 l3 l5 l7 i8 i9 i10 b11 i12 x) (sx : Small x) : l3.length ≤ 20000000 := by rw [h.names, List.length_map]; exact sx.nl
theorem Rf.lnP (h : Rf l1 l3 l5 l7 i8 i9 i10 b11 i12 x) (sx : Small x) : l7.length ≤ 10000000 := by rw [h.pend, List.length_map]; have := sx.names; omega
theorem aY2 {l9 : LD} {v9 v10 : Value} {l10 : LD} {g n : BA} {k : Int} (h : bF.sig.post [.V v0, .L l1, .V v2, .L l3, .V v4, .L l5, .V v6, .L l7, .I i8, .I i9, .I i10, .B b11, .I i12, .S g, .S n, .I k, .V v9, .L l9, .V v10, .L l10]) (hx : Rf l1 l3 l5 l7 i8 i9 i10 b11 i12 x) (hk : 0 ≤ k) :
  Rf l1 l9 l5 l10 i8 i9 i10 b11 i12 (Dk.turn x ⟨tx g, tx n, k.toNat⟩) := by
 obtain ⟨h1, h2⟩ := h
 refine ⟨hx.1, h1 x.names ⟨tx g, tx n, k.toNat⟩ hx.names rfl rfl (Int.toNat_of_nonneg hk), hx.3, ?_, hx.5, hx.6, hx.7, hx.8, hx.9⟩
 have h2 : l10 = l7 ++ [.L [.S g, .S n, .I k]] := h2
 rw [h2, hx.pend]
 show _ = (x.pend ++ [_]).map cgR
 rw [List.map_append]
 simp only [List.map_cons, List.map_nil, cgR, bx_tx]
 rw [show ((k.toNat : Nat) : Int) = k from Int.toNat_of_nonneg hk]
theorem cN8 (hx : Rf l1 l3 l5 l7 i8 i9 i10 b11 i12 x) : Rf (([] ++ l1) ++ [.L [.S ⟨#[]⟩, .I 0]]) l3 l5 l7 i8 i9 i10 b11 i12 { x with files := x.files ++ [⟨[], 0⟩] } := by
 refine ⟨?_, hx.2, hx.3, hx.4, hx.5, hx.6, hx.7, hx.8, hx.9⟩
 rw [hx.files, List.nil_append]
 simp [fiR, bx]
theorem jP.pure : jP.Pure := by
 intro v0 l1 v2 l3 v4 l5 v6 l7 i8 i9 i10 b11 i12 s13 _ _ _ _ _ _ _ _ _ hp _ _ _ _ _ _
 obtain ⟨x, hx, sx⟩ := hp
 have hx := Rf.of hx
 have k1 := hx.lnF sx; have k3 := hx.lnN sx; have k7 := hx.lnP sx
 have b1 : (((([] : LD) ++ l1).length : Nat) : Int) ≤ 5864062014805 := by rw [List.nil_append]; omega
 have b2 : (((([] : LD) ++ l1) ++ [D.L [.S (⟨#[]⟩ : BA), .I 0]]).length : Nat) ≤ (5864062014805 : Int) := by rw [List.nil_append, List.length_append]; simp only [List.length_cons, List.length_nil]; omega
 have hl : (l1.length : Int) = x.files.length := by rw [hx.files, List.length_map]
 refine ⟨fun h => kQ (op := fun x => Dk.create x (tx s13)) hx ?_ hx, fun h => ⟨fun h2 => kQ (op := fun x => Dk.create x (tx s13)) hx ?_ hx, fun h2 => ⟨by show l3.length ≤ _; omega, fun n20 hf _ => ⟨fun h3 => kQ (op := fun x => Dk.create x (tx s13)) hx ?_ hx, fun h3 => ⟨⟨x, hx.at, sx⟩, fun i21 i22 b23 i24 b25 i26 hb _ _ _ _ => ?_⟩⟩⟩⟩⟩
 ·show Dk.create x (tx s13) = _; unfold Dk.create; rw [if_pos (by rw [← hx.dead]; exact h)]
 ·have n0 : tx s13 = ([] : Tx) := congrArg tx h2
  show Dk.create x (tx s13) = _; unfold Dk.create; rw [if_neg (by rw [← hx.dead, h]; simp), if_pos n0]
 ·show Dk.create x (tx s13) = _; unfold Dk.create; rw [if_neg (by rw [← hx.dead, h]; simp), if_neg (show ¬ tx s13 = [] from fun h' => h2 (gG h')), if_pos (by rw [(jD hf hx).2 h3]; rfl)]
 have n1 : tx s13 ≠ [] := fun h' => h2 (gG h')
 have n2 := (jD hf hx).1 h3
 obtain ⟨hb, e1, e2⟩ := wP hb hx sx
 have hc : ¬ (i26 ≠ 0 ∧ b25 = false) → Dk.create x (tx s13) = (Dk.turn { (Dk.begin x).1 with files := (Dk.begin x).1.files ++ [⟨[], 0⟩] } ⟨[], tx s13, (Dk.begin x).1.files.length⟩, i26) := by
  intro hc
  rw [e1, e2] at hc
  unfold Dk.create
  rw [if_neg (by rw [← hx.dead, h]; simp), if_neg n1, if_neg (by rw [n2]; simp)]
  dsimp only
  rw [if_neg hc, e2]
 have go : ¬ (i26 ≠ 0 ∧ b25 = false) → _ := fun hc' => hc hc'
 refine ⟨fun h4 => ⟨fun h5 => kQ (op := fun x => Dk.create x (tx s13)) hx ?_ hb, fun h5 => ?_⟩, fun h4 => ?_⟩
 ·show Dk.create x (tx s13) = _; unfold Dk.create; rw [if_neg (by rw [← hx.dead, h]; simp), if_neg n1, if_neg (by rw [n2]; simp)]
  dsimp only
  rw [← e1, ← e2, if_pos ⟨h4, h5⟩]
 all_goals
  intro v27
  refine ⟨b1, fun _ v28 v29 => ⟨b2, fun _ v30 => ⟨⟨by show l3.length ≤ _; omega, by show l7.length ≤ _; omega⟩, fun v31 l32 v33 l34 ht _ _ => kQ (op := fun x => Dk.create x (tx s13)) hx (go (by first | (rw [h5]; simp) | (rw [h4]; simp))) ?_⟩⟩⟩
  have hk : wrap .i64 (((((([] : LD) ++ l1) ++ [D.L [.S (⟨#[]⟩ : BA), .I 0]]).length : Nat) : Int) - 1) = ((Dk.begin x).1.files.length : Int) := by
   rw [(Dk.iR x).1, ← hl, List.nil_append, List.length_append]
   simp only [List.length_cons, List.length_nil]
   rw [wrap64 (by omega) (by omega)]; omega
  have := aY2 ht (cN8 hb) (by rw [hk]; exact Int.natCast_nonneg _)
  rw [hk] at this
  exact this
theorem aY1 {n : Int} (hx : Rf l1 l3 l5 l7 i8 i9 i10 b11 i12 x) (sx : Small x) (h0 : 0 ≤ n) (hf : Dk.find x.names (tx s) = some n.toNat) : n < (l1.length : Nat) ∧ l1.getD n.toNat default = fiR (Dk.fileAt x n.toNat) ∧ Dk.fileAt x n.toNat ∈ x.files := by
 have hi := sx.inv.inn _ (Dk.lV hf)
 have hi : n.toNat < x.files.length := hi
 have hl : l1.length = x.files.length := by rw [hx.files, List.length_map]
 refine ⟨by omega, ?_, Dk.uD hi⟩
 rw [hx.files, Dk.fileAt, List.getD, List.getD, List.getElem?_map, List.getElem?_eq_getElem hi]; rfl
theorem aX2 {f : Fi} (h : f ∈ x.files) : f.data.length ≤ tot x := by
 unfold tot
 generalize x.files = l at h
 induction l with
 | nil => cases h
 | cons a l ih =>
  rw [List.map_cons, List.sum_cons]
  rcases List.mem_cons.1 h with rfl | h
  ·omega
  ·have := ih h; omega
theorem bS0 {l9 : LD} {v9 : Value} {n : Int} {k : Int} (h : gW.sig.post [.V v0, .L l1, .V v2, .L l3, .V v4, .L l5, .V v6, .L l7, .I i8, .I i9, .I i10, .B b11, .I i12, .I n, .S s, .I k, .V v9, .L l9]) (hx : Rf l1 l3 l5 l7 i8 i9 i10 b11 i12 x) (hk : 0 ≤ k) :
  Rf l9 l3 l5 l7 i8 i9 i10 b11 i12 (Dk.set x n.toNat ⟨tx s, k.toNat⟩) := by
 have h : l9 = l1.set n.toNat (.L [.S s, .I k]) := h
 refine ⟨?_, hx.2, hx.3, hx.4, hx.5, hx.6, hx.7, hx.8, hx.9⟩
 rw [h, hx.files]
 show _ = (x.files.set n.toNat ⟨tx s, k.toNat⟩).map fiR
 rw [List.map_set]
 simp only [fiR, bx_tx]
 rw [Int.toNat_of_nonneg hk]
theorem bR8 {n : Int} (h : dZ.sig.post [.V v0, .L l1, .V v2, .L l3, .V v4, .L l5, .V v6, .L l7, .I i8, .I i9, .I i10, .B b11, .I i12, .I n]) (hx : Rf l1 l3 l5 l7 i8 i9 i10 b11 i12 x) (sx : Small x) : n = Dk.free x := h x hx.at sx
theorem rE (f : Fi) : ((fiR f).toL.getD (0 : Int).toNat default).toS = bx f.data := rfl
theorem aO2 (f : Fi) : ((fiR f).toL.getD (1 : Int).toNat default).toI = (f.safe : Int) := rfl
theorem bY7 (sx : Small x) : Dk.free x ≤ x.room := by unfold Dk.free; have := sx.room; omega
theorem jO.pure : jO.Pure := by
 intro v0 l1 v2 l3 v4 l5 v6 l7 i8 i9 i10 b11 i12 s13 s14 _ _ _ _ _ _ _ _ _ _ hp _ _ _ _ _ _
 obtain ⟨⟨x, hx, sx⟩, hsz⟩ := hp
 have hsz : s14.size ≤ 1000000 := hsz
 have hx := Rf.of hx
 have k1 := hx.lnF sx; have k3 := hx.lnN sx; have k7 := hx.lnP sx
 refine ⟨fun h => mP (op := fun x => Dk.append x (tx s13) (tx s14)) hx ?_ hx, fun h => ⟨by show l3.length ≤ _; omega, fun i21 hf _ => ⟨fun h2 => mP (op := fun x => Dk.append x (tx s13) (tx s14)) hx ?_ hx, fun h2 => ⟨⟨x, hx.at, sx⟩, fun i22 hr _ =>
  ⟨fun h3 => mP (op := fun x => Dk.append x (tx s13) (tx s14)) hx ?_ hx, fun h3 => ⟨⟨x, hx.at, sx⟩, fun i23 i24 b25 i26 b27 i28 hb _ _ _ _ => ?_⟩⟩⟩⟩⟩⟩
 ·show Dk.append x _ _ = _; unfold Dk.append; rw [if_pos (by rw [← hx.dead]; exact h)]
 ·show Dk.append x _ _ = _; unfold Dk.append; rw [if_neg (by rw [← hx.dead, h]; simp), (jD hf hx).1 h2]
 ·show Dk.append x _ _ = _; unfold Dk.append; rw [if_neg (by rw [← hx.dead, h]; simp), (jD hf hx).2 h2]
  have := bR8 hr hx sx
  dsimp only
  rw [if_pos (by rw [wL]; omega)]
 have n2 := (jD hf hx).2 h2
 have n3 := bR8 hr hx sx
 obtain ⟨hb, e1, e2⟩ := wP hb hx sx
 obtain ⟨g1, g2, g3⟩ := aY1 hx sx h2 n2
 have g4 := aX2 g3
 have g5 := sx.bytes
 have g6 := bY7 sx
 have hro := hx.room
 have hc : Dk.append x (tx s13) (tx s14) = if i28 ≠ 0 ∧ b27 = false then ((Dk.begin x).1, i28) else (Dk.set (Dk.begin x).1 i21.toNat ⟨(Dk.fileAt (Dk.begin x).1 i21.toNat).data ++ tx s14, (Dk.fileAt (Dk.begin x).1 i21.toNat).safe⟩, i28) := by
  unfold Dk.append
  rw [if_neg (by rw [← hx.dead, h]; simp), n2]
  dsimp only
  rw [if_neg (by rw [wL]; omega), e1, e2]
 have hfa : Dk.fileAt (Dk.begin x).1 i21.toNat = Dk.fileAt x i21.toNat := by unfold Dk.fileAt; rw [(Dk.iR x).1]
 rw [hfa] at hc
 refine ⟨fun h4 => ⟨fun h5 => mP (op := fun x => Dk.append x (tx s13) (tx s14)) hx ((show Dk.append x (tx s13) (tx s14) = _ from hc).trans (if_pos ⟨h4, h5⟩)) hb, fun h5 => ?_⟩, fun h4 => ?_⟩
 all_goals
  rw [g2, rE, aO2]
  refine ⟨h2, fun _ => ⟨g1, fun _ => ⟨?_, fun _ => ⟨⟨h2, g1, by show l1.length ≤ _; omega⟩, fun v29 l30 hs _ => mP (op := fun x => Dk.append x (tx s13) (tx s14)) hx ((show Dk.append x (tx s13) (tx s14) = _ from hc).trans (if_neg (by first | (rw [h5]; simp) | (rw [h4]; simp)))) ?_⟩⟩⟩⟩
  ·have : (bx (Dk.fileAt x i21.toNat).data ++ s14).size = (Dk.fileAt x i21.toNat).data.length + s14.size := by rw [ByteArray.size_append]; rfl
   rw [this]; omega
  ·have := bS0 hs hb (Int.natCast_nonneg _)
   rw [aX4, tx_bx] at this
   exact this
theorem kN.pure : kN.Pure := by
 intro v0 l1 v2 l3 v4 l5 v6 l7 i8 i9 i10 b11 i12 s13 _ _ _ _ _ _ _ _ _ hp _
 obtain ⟨x, hx, sx⟩ := hp
 have hx := Rf.of hx
 have k3 := hx.lnN sx
 have key : ∀ (a : BA) (e : Int), (tx a, e) = Dk.read x (tx s13) → kN.sig.post [.V v0, .L l1, .V v2, .L l3, .V v4, .L l5, .V v6, .L l7, .I i8, .I i9, .I i10, .B b11, .I i12, .S s13, .S a, .I e] := fun a e h y hy _ => by
  obtain rfl := hx.inj (.of hy); exact h
 refine ⟨fun h => key _ _ ?_, fun h => ⟨by show l3.length ≤ _; omega, fun i15 hf _ => ⟨fun h2 => key _ _ ?_, fun h2 => ?_⟩⟩⟩
 ·unfold Dk.read; rw [if_pos (by rw [← hx.dead]; exact h)]; rfl
 ·unfold Dk.read; rw [if_neg (by rw [← hx.dead, h]; simp), (jD hf hx).1 h2]; rfl
 ·obtain ⟨g1, g2, g3⟩ := aY1 hx sx h2 ((jD hf hx).2 h2)
  refine ⟨h2, fun _ => ⟨g1, fun _ => key _ _ ?_⟩⟩
  rw [g2, rE]
  unfold Dk.read; rw [if_neg (by rw [← hx.dead, h]; simp), (jD hf hx).2 h2]; rfl
theorem kP.pure : kP.Pure := by
 intro v0 l1 v2 l3 v4 l5 v6 l7 i8 i9 i10 b11 i12 s13 _ _ _ _ _ _ _ _ _ hp _ _ _ _ _ _
 obtain ⟨x, hx, sx⟩ := hp
 have hx := Rf.of hx
 have k1 := hx.lnF sx; have k3 := hx.lnN sx
 refine ⟨fun h => kQ (op := fun x => Dk.sync x (tx s13)) hx ?_ hx, fun h => ⟨by show l3.length ≤ _; omega, fun i20 hf _ => ⟨fun h2 => kQ (op := fun x => Dk.sync x (tx s13)) hx ?_ hx, fun h2 => ⟨⟨x, hx.at, sx⟩, fun i21 i22 b23 i24 b25 i26 hb _ _ _ _ => ?_⟩⟩⟩⟩
 ·show Dk.sync x _ = _; unfold Dk.sync; rw [if_pos (by rw [← hx.dead]; exact h)]
 ·show Dk.sync x _ = _; unfold Dk.sync; rw [if_neg (by rw [← hx.dead, h]; simp), (jD hf hx).1 h2]
 have n2 := (jD hf hx).2 h2
 obtain ⟨hb, e1, e2⟩ := wP hb hx sx
 obtain ⟨g1, g2, g3⟩ := aY1 hx sx h2 n2
 have hc : Dk.sync x (tx s13) = if i26 ≠ 0 then ((Dk.begin x).1, i26) else (Dk.set (Dk.begin x).1 i20.toNat ⟨(Dk.fileAt (Dk.begin x).1 i20.toNat).data, (Dk.fileAt (Dk.begin x).1 i20.toNat).data.length⟩, 0) := by
  unfold Dk.sync
  rw [if_neg (by rw [← hx.dead, h]; simp), n2, e2]
 have hfa : Dk.fileAt (Dk.begin x).1 i20.toNat = Dk.fileAt x i20.toNat := by unfold Dk.fileAt; rw [(Dk.iR x).1]
 rw [hfa] at hc
 refine ⟨fun h4 => kQ (op := fun x => Dk.sync x (tx s13)) hx ((show Dk.sync x (tx s13) = _ from hc).trans (if_pos h4)) hb, fun h4 => ?_⟩
 rw [g2, rE]
 refine ⟨h2, fun _ => ⟨g1, fun _ => ⟨⟨h2, g1, by show l1.length ≤ _; omega⟩, fun v29 l30 hs _ => kQ (op := fun x => Dk.sync x (tx s13)) hx ((show Dk.sync x (tx s13) = _ from hc).trans (if_neg (by rw [h4]; simp))) (bS0 hs hb (Int.natCast_nonneg _))⟩⟩⟩
theorem mO.pure : mO.Pure := by
 intro v0 l1 v2 l3 v4 l5 v6 l7 i8 i9 i10 b11 i12 _ _ _ _ _ _ _ _ hp _ _ _ _ _ _
 obtain ⟨x, hx, sx⟩ := hp
 have hx := Rf.of hx
 refine ⟨⟨x, hx.at, sx⟩, fun i21 i22 b23 i24 b25 i26 hb _ _ _ _ => ?_⟩
 obtain ⟨hb, e1, e2⟩ := wP hb hx sx
 have hc : Dk.fM x = if i26 ≠ 0 then ((Dk.begin x).1, i26) else ({ (Dk.begin x).1 with safe := (Dk.begin x).1.names, pend := [] }, 0) := by
  unfold Dk.fM; rw [e2]
 exact ⟨fun h => bR9 (op := Dk.fM) hx (hc.trans (if_pos h)) hb, fun h v => bR9 (op := Dk.fM) hx (hc.trans (if_neg (by rw [h]; simp))) ⟨hb.1, hb.2, hb.2, rfl, hb.5, hb.6, hb.7, hb.8, hb.9⟩⟩
theorem jC.pure : jC.Pure := by
 intro v0 l1 v2 l3 v4 l5 v6 l7 i8 i9 i10 b11 i12 s13 s14 _ _ _ _ _ _ _ _ _ _ hp _ _ _ _ _ _
 obtain ⟨x, hx, sx⟩ := hp
 have hx := Rf.of hx
 have k3 := hx.lnN sx; have k7 := hx.lnP sx
 refine ⟨fun h => mP (op := fun x => Dk.rename x (tx s13) (tx s14)) hx ?_ hx, fun h => ⟨by show l3.length ≤ _; omega, fun i21 hf _ => ⟨fun h2 => mP (op := fun x => Dk.rename x (tx s13) (tx s14)) hx ?_ hx, fun h2 =>
  ⟨fun h3 => mP (op := fun x => Dk.rename x (tx s13) (tx s14)) hx ?_ hx, fun h3 => ⟨fun h4 => mP (op := fun x => Dk.rename x (tx s13) (tx s14)) hx ?_ hx, fun h4 => ⟨⟨x, hx.at, sx⟩, fun i22 i23 b24 i25 b26 i27 hb _ _ _ _ => ?_⟩⟩⟩⟩⟩⟩
 ·show Dk.rename x _ _ = _; unfold Dk.rename; rw [if_pos (by rw [← hx.dead]; exact h)]
 ·show Dk.rename x _ _ = _; unfold Dk.rename; rw [if_neg (by rw [← hx.dead, h]; simp), (jD hf hx).1 h2]
 ·show Dk.rename x _ _ = _; unfold Dk.rename; rw [if_neg (by rw [← hx.dead, h]; simp), (jD hf hx).2 h2]
  exact if_pos (.inl (congrArg tx h3))
 ·show Dk.rename x _ _ = _; unfold Dk.rename; rw [if_neg (by rw [← hx.dead, h]; simp), (jD hf hx).2 h2]
  exact if_pos (.inr (congrArg tx h4))
 have n2 := (jD hf hx).2 h2
 obtain ⟨hb, e1, e2⟩ := wP hb hx sx
 have hc : Dk.rename x (tx s13) (tx s14) = if i27 ≠ 0 ∧ b26 = false then ((Dk.begin x).1, i27) else (Dk.turn (Dk.begin x).1 ⟨tx s13, tx s14, i21.toNat⟩, i27) := by
  unfold Dk.rename
  rw [if_neg (by rw [← hx.dead, h]; simp), n2, e1, e2]
  exact if_neg (fun hh => hh.elim (fun hh => h3 (gG hh)) (fun hh => h4 (gG hh)))
 refine ⟨fun h4 => ⟨fun h5 => mP (op := fun x => Dk.rename x (tx s13) (tx s14)) hx ((show Dk.rename x (tx s13) (tx s14) = _ from hc).trans (if_pos ⟨h4, h5⟩)) hb, fun h5 => ?_⟩, fun h4 => ?_⟩
 all_goals exact ⟨⟨by show l3.length ≤ _; omega, by show l7.length ≤ _; omega⟩, fun v31 l32 v33 l34 ht _ _ => mP (op := fun x => Dk.rename x (tx s13) (tx s14)) hx ((show Dk.rename x (tx s13) (tx s14) = _ from hc).trans (if_neg (by first | (rw [h5]; simp) | (rw [h4]; simp)))) (aY2 ht hb h2)⟩
theorem kD.pure : kD.Pure := by
 intro v0 l1 v2 l3 v4 l5 v6 l7 i8 i9 i10 b11 i12 s13 _ _ _ _ _ _ _ _ _ hp _ _ _ _ _ _
 obtain ⟨x, hx, sx⟩ := hp
 have hx := Rf.of hx
 have k3 := hx.lnN sx; have k7 := hx.lnP sx
 refine ⟨fun h => kQ (op := fun x => Dk.remove x (tx s13)) hx ?_ hx, fun h => ⟨by show l3.length ≤ _; omega, fun i21 hf _ => ⟨fun h2 => kQ (op := fun x => Dk.remove x (tx s13)) hx ?_ hx, fun h2 => ⟨⟨x, hx.at, sx⟩, fun i22 i23 b24 i25 b26 i27 hb _ _ _ _ => ?_⟩⟩⟩⟩
 ·show Dk.remove x _ = _; unfold Dk.remove; rw [if_pos (by rw [← hx.dead]; exact h)]
 ·show Dk.remove x _ = _; unfold Dk.remove; rw [if_neg (by rw [← hx.dead, h]; simp), (jD hf hx).1 h2]
 have n2 := (jD hf hx).2 h2
 obtain ⟨hb, e1, e2⟩ := wP hb hx sx
 have hc : Dk.remove x (tx s13) = if i27 ≠ 0 ∧ b26 = false then ((Dk.begin x).1, i27) else (Dk.turn (Dk.begin x).1 ⟨tx s13, [], 0⟩, i27) := by
  unfold Dk.remove
  rw [if_neg (by rw [← hx.dead, h]; simp), n2, e1, e2]
 refine ⟨fun h4 => ⟨fun h5 => kQ (op := fun x => Dk.remove x (tx s13)) hx ((show Dk.remove x (tx s13) = _ from hc).trans (if_pos ⟨h4, h5⟩)) hb, fun h5 => ?_⟩, fun h4 => ?_⟩
 all_goals exact ⟨⟨by show l3.length ≤ _; omega, by show l7.length ≤ _; omega⟩, fun v31 l32 v33 l34 ht _ _ => kQ (op := fun x => Dk.remove x (tx s13)) hx ((show Dk.remove x (tx s13) = _ from hc).trans (if_neg (by first | (rw [h5]; simp) | (rw [h4]; simp)))) (aY2 (n := ⟨#[]⟩) ht hb (Int.le_refl 0))⟩
end Go.Vc
namespace Go.Vc
open Dk (Ds Fi Cg)
theorem kM.pure : kM.Pure := by
 intro v0 z1 i2 i3 h2 h3 hz hp
 obtain ⟨p1, p2, p3⟩ : 0 ≤ i2 ∧ 0 < i3 ∧ i3 ≤ 1000000000000 := hp
 exact jS.pure v0 z1 i2 i3 h2 h3 hz ⟨p1, p2, (by show i3 ≤ 1000000000000000; omega)⟩
theorem aZ.pure : aZ.Pure := by
 intro v0 l1 v2 l3 v4 l5 v6 l7 i8 i9 i10 b11 i12 i13 _ _ _ _ r13 _ _ _ _ hp n14
 obtain ⟨⟨x, hx⟩, hi⟩ := hp
 obtain ⟨hi, k3, k5, k7⟩ : 0 ≤ i13 ∧ l3.length ≤ 20000000 ∧ l5.length ≤ 20000000 ∧ l7.length ≤ 20000000 := hi
 have hx := Rf.of hx
 have key : ∀ b : Bool, b = Dk.held x i13.toNat → aZ.sig.post [.V v0, .L l1, .V v2, .L l3, .V v4, .L l5, .V v6, .L l7, .I i8, .I i9, .I i10, .B b11, .I i12, .I i13, .B b] := fun b h y hy => by
  obtain rfl := hx.inj (.of hy); exact h
 refine ⟨⟨Int.le_refl _, Int.natCast_nonneg _, fun _ _ => rfl⟩, fun i15 _ h => ?_⟩
 obtain ⟨a0, a1, a2⟩ : 0 ≤ i15 ∧ i15 ≤ l3.length ∧ ∀ x, bY _ 0 x → ((x.names.take i15.toNat).any fun p => p.2 == i13.toNat) = false := h
 have a2 := a2 x hx.at
 refine ⟨fun h1 => ⟨a0, fun _ n16 => ?_⟩, fun h1 => ⟨⟨Int.le_refl _, Int.natCast_nonneg _, fun _ _ => rfl⟩, fun i16 _ h => ?_⟩⟩
 ·obtain ⟨p, e1, e2⟩ := oP hx.names a0 h1
  rw [e2]
  refine ⟨fun h => key _ ?_, fun h => ?_⟩
  ·have h : (p.2 : Int) = i13 := h
   unfold Dk.held
   rw [List.any_eq_true.2 ⟨p, List.mem_of_getElem? e1, by simp; omega⟩]; rfl
  ·have h : (p.2 : Int) ≠ i13 := h
   have hne : (p.2 == i13.toNat) = false := by rw [beq_eq_false_iff_ne]; omega
   rw [wrap64 (by omega) (by omega)]
   refine ⟨⟨by show 0 ≤ i15 + 1; omega, by show i15 + 1 ≤ l3.length; omega, fun y hy => ?_⟩, by show (l3.length - (i15 + 1)).toNat < (l3.length - i15).toNat; omega⟩
   obtain rfl := hx.inj (.of hy)
   exact aJ9 a2 a0 e1 hne
 have a3 := aJ8 a2 (by rw [← List.length_map (f := nmR), ← hx.names]; exact h1)
 obtain ⟨c0, c1, c2⟩ : 0 ≤ i16 ∧ i16 ≤ l5.length ∧ ∀ x, bY _ 0 x → ((x.safe.take i16.toNat).any fun p => p.2 == i13.toNat) = false := h
 have c2 := c2 x hx.at
 refine ⟨fun h1 => ⟨c0, fun _ n16 => ?_⟩, fun h1 => ⟨⟨Int.le_refl _, Int.natCast_nonneg _, fun _ _ => rfl⟩, fun i17 _ h => ?_⟩⟩
 ·obtain ⟨p, e1, e2⟩ := oP hx.safe c0 h1
  rw [e2]
  refine ⟨fun h => key _ ?_, fun h => ?_⟩
  ·have h : (p.2 : Int) = i13 := h
   unfold Dk.held
   rw [a3, List.any_eq_true.2 ⟨p, List.mem_of_getElem? e1, by simp; omega⟩]; rfl
  ·have h : (p.2 : Int) ≠ i13 := h
   have hne : (p.2 == i13.toNat) = false := by rw [beq_eq_false_iff_ne]; omega
   rw [wrap64 (by omega) (by omega)]
   refine ⟨⟨by show 0 ≤ i16 + 1; omega, by show i16 + 1 ≤ l5.length; omega, fun y hy => ?_⟩, by show (l5.length - (i16 + 1)).toNat < (l5.length - i16).toNat; omega⟩
   obtain rfl := hx.inj (.of hy)
   exact aJ9 c2 c0 e1 hne
 have c3 := aJ8 c2 (by rw [← List.length_map (f := nmR), ← hx.safe]; exact h1)
 obtain ⟨d0, d1, d2⟩ : 0 ≤ i17 ∧ i17 ≤ l7.length ∧ ∀ x, bY _ 0 x → ((x.pend.take i17.toNat).any fun c => decide (c.name ≠ []) && c.file == i13.toNat) = false := h
 have d2 := d2 x hx.at
 have step : ∀ p, x.pend[i17.toNat]? = some p → (decide (p.name ≠ []) && p.file == i13.toNat) = false → (aZ.I2 [.V v0, .L l1, .V v2, .L l3, .V v4, .L l5, .V v6, .L l7, .I i8, .I i9, .I i10, .B b11, .I i12, .I i13, .I (i17 + 1)]) := fun p e1 e2 =>
  ⟨by show 0 ≤ i17 + 1; omega, by
   have : i17.toNat < x.pend.length := (List.getElem?_eq_some_iff.1 e1).1
   rw [← List.length_map (f := cgR), ← hx.pend] at this
   show i17 + 1 ≤ l7.length; omega, fun y hy => by obtain rfl := hx.inj (.of hy); exact aJ9 d2 d0 e1 e2⟩
 refine ⟨fun h1 => ⟨d0, fun _ n16 => ?_⟩, fun h1 => key _ ?_⟩
 ·obtain ⟨p, e1, e2⟩ := oP hx.pend d0 h1
  rw [e2]
  have hm : (l7.length - (i17 + 1)).toNat < (l7.length - i17).toNat := by omega
  refine ⟨fun h => ⟨fun h' => key _ ?_, fun h' => ?_⟩, fun h => ?_⟩
  ·have h : bx p.name ≠ ⟨#[]⟩ := h
   have h' : (p.file : Int) = i13 := h'
   have hn : p.name ≠ [] := fun e => h (by rw [e]; rfl)
   unfold Dk.held
   rw [a3, c3, List.any_eq_true.2 ⟨p, List.mem_of_getElem? e1, by simp [hn]; omega⟩]; rfl
  ·have h' : (p.file : Int) ≠ i13 := h'
   rw [wrap64 (by omega) (by omega)]
   refine ⟨step p e1 ?_, hm⟩
   have : (p.file == i13.toNat) = false := by simp; omega
   rw [this, Bool.and_false]
  ·have h : bx p.name = ⟨#[]⟩ := h
   rw [wrap64 (by omega) (by omega)]
   have hn : p.name = [] := congrArg tx h
   exact ⟨step p e1 (by simp [hn]), hm⟩
 ·unfold Dk.held
  rw [a3, c3, aJ8 d2 (by rw [← List.length_map (f := cgR), ← hx.pend]; exact h1)]; rfl
theorem aX5 (x : Ds) : ∀ (i : Nat) (fs : List Fi), Dk.jM x i fs ≤ (fs.map fun f => f.data.length).sum
 | _, [] => Nat.le_refl _
 | i, f :: fs => by
  have := aX5 x (i + 1) fs
  rw [Dk.jM, List.map_cons, List.sum_cons]
  split <;> omega
theorem dZ.pure : dZ.Pure := by
 intro v0 l1 v2 l3 v4 l5 v6 l7 i8 i9 i10 b11 i12 r8 _ _ _ _ _ _ _ hp n13
 obtain ⟨x, hx, sx⟩ := hp
 have hx := Rf.of hx
 have k1 := hx.lnF sx
 have hu : Dk.used x ≤ tot x := aX5 x 0 x.files
 have hby := sx.bytes
 have hro := sx.room
 have er := hx.room
 have hl : l1.length = x.files.length := by rw [hx.files, List.length_map]
 refine ⟨⟨Int.le_refl _, Int.natCast_nonneg _, fun y hy sy => ?_⟩, fun i14 i15 r14 _ h => ?_⟩
 ·obtain rfl := hx.inj (.of hy)
  show i8 = y.room - ((Dk.used y : Int) - Dk.jM y 0 y.files)
  rw [er]; unfold Dk.used; omega
 obtain ⟨a0, a1, a2⟩ : 0 ≤ i15 ∧ i15 ≤ l1.length ∧ ∀ x, bY _ 0 x → Small x → i14 = x.room - ((Dk.used x : Int) - Dk.jM x i15.toNat (x.files.drop i15.toNat)) := h
 have a2 := a2 x hx.at sx
 refine ⟨fun h1 => ⟨a0, fun _ n16 => ⟨⟨⟨x, hx.at⟩, a0, hx.lnN sx, by show l5.length ≤ _; rw [hx.safe, List.length_map]; have := sx.names; omega, by have := hx.lnP sx; show l7.length ≤ _; omega⟩, fun b17 hb => ?_⟩⟩, fun h1 y hy sy => ?_⟩
 ·have hb : b17 = Dk.held x i15.toNat := hb x hx.at
  obtain ⟨p, e1, e2⟩ := oP hx.files a0 h1
  rw [e2, rE]
  have e3 : x.files.drop i15.toNat = p :: x.files.drop (i15.toNat + 1) := by
   have hlt := (List.getElem?_eq_some_iff.1 e1).1
   rw [List.drop_eq_getElem_cons hlt, (List.getElem?_eq_some_iff.1 e1).2]
  rw [e3, Dk.jM] at a2
  have hle := aX5 x (i15.toNat + 1) (x.files.drop (i15.toNat + 1))
  have hpl := aX2 (List.mem_of_getElem? e1)
  have hm : (l1.length - (i15 + 1)).toNat < (l1.length - i15).toNat := by omega
  have hs : (bx p.data).size = p.data.length := rfl
  have en : (i15 + 1).toNat = i15.toNat + 1 := by omega
  rw [wrap64 (n := i15 + 1) (by omega) (by omega)]
  refine ⟨fun h => ?_, fun h => ?_⟩
  ·rw [if_pos (by rw [← hb]; exact h)] at a2
   rw [hs, wrap64 (by omega) (by omega)]
   refine ⟨⟨by show 0 ≤ i15 + 1; omega, by show i15 + 1 ≤ l1.length; omega, fun y hy sy => ?_⟩, hm⟩
   obtain rfl := hx.inj (.of hy)
   show i14 - p.data.length = y.room - ((Dk.used y : Int) - Dk.jM y (i15 + 1).toNat (y.files.drop (i15 + 1).toNat))
   rw [en]; omega
  ·rw [if_neg (by rw [← hb, h]; simp)] at a2
   refine ⟨⟨by show 0 ≤ i15 + 1; omega, by show i15 + 1 ≤ l1.length; omega, fun y hy sy => ?_⟩, hm⟩
   obtain rfl := hx.inj (.of hy)
   show i14 = y.room - ((Dk.used y : Int) - Dk.jM y (i15 + 1).toNat (y.files.drop (i15 + 1).toNat))
   rw [en]; omega
 ·obtain rfl := hx.inj (.of hy)
  show eY i14 0 = Dk.free y
  rw [List.drop_eq_nil_of_le (by omega), Dk.jM] at a2
  unfold Dk.free eY
  rw [pW]; omega
end Go.Vc
namespace Go.Vc
open Dk (Ds Fi Cg)
theorem aR9 : ∀ {a b : List UInt8}, Op.bytesLess a b = decide (a < b)
 | [], [] => by simp [Op.bytesLess]
 | [], _ :: _ => by simp [Op.bytesLess]
 | _ :: _, [] => by simp [Op.bytesLess]
 | x :: a, y :: b => by
  rw [Op.bytesLess, aR9 (a := a)]
  by_cases h : x < y
  ·simp [h, List.cons_lt_cons_iff]
  ·by_cases h2 : x = y
   ·subst h2; simp [List.cons_lt_cons_iff]
   ·simp [h, h2, List.cons_lt_cons_iff]
theorem bT5 {c : Cg} {L : List (Tx × Nat)} {i : Int} {p : Tx × Nat} (h0 : 0 ≤ i) (h : L[i.toNat]? = some p) : apN c (L.take (i + 1).toNat) = apS c (apN c (L.take i.toNat)) p := by
 rw [show (i + 1).toNat = i.toNat + 1 by omega, List.take_add_one, h]
 simp [apN]
theorem rZ (p : Tx × Nat) : ((nmR p).toL.getD (0 : Int).toNat default).toS = bx p.1 := rfl
theorem yD (p : Tx × Nat) : ((nmR p).toL.getD (1 : Int).toNat default).toI = (p.2 : Int) := rfl
theorem dJ.pure : dJ.Pure := by
 intro v0 l1 s2 s3 i4 _ _ _ _ hp n5 v6 v7
 have hp : l1.length ≤ 100000000 := hp
 refine ⟨⟨Int.le_refl _, Int.natCast_nonneg _, by show ((0 : Nat) : Int) ≤ 2 * 0; omega, fun L c _ _ e3 _ => ⟨rfl, ?_⟩⟩, fun v8 l9 b10 i11 _ hk h => ?_⟩
 ·show (s3.toList == (⟨#[]⟩ : BA).toList) = decide (c.name = [])
  have e3 : c.name = tx s3 := e3
  rw [e3, wK, wK]
  show (tx s3 == ([] : Tx)) = _
  cases tx s3 <;> rfl
 obtain ⟨a0, a1, a3, a2⟩ : 0 ≤ i11 ∧ i11 ≤ l1.length ∧ (l9.length : Int) ≤ 2 * i11 ∧ ∀ (L : List (Tx × Nat)) (c : Cg), l1 = L.map nmR → c.gone = tx s2 → c.name = tx s3 → (c.file : Int) = i4 → l9 = (apN c (L.take i11.toNat)).1.map nmR ∧ b10 = (apN c (L.take i11.toNat)).2 := h
 refine ⟨fun h1 => ⟨a0, fun _ n12 => ?_⟩, fun h1 => ?_⟩
 ·have hm : (l1.length - (i11 + 1)).toNat < (l1.length - i11).toNat := by omega
  rw [wrap64 (n := i11 + 1) (by omega) (by omega)]
  have step : ∀ (l' : LD) (b' : Bool), (l'.length : Int) ≤ l9.length + 2 → (∀ (L : List (Tx × Nat)) (c : Cg) (p : Tx × Nat), l1.getD i11.toNat default = nmR p → c.gone = tx s2 → c.name = tx s3 → (c.file : Int) = i4 → l9 = (apN c (L.take i11.toNat)).1.map nmR → b10 = (apN c (L.take i11.toNat)).2 →
    l' = (apS c (apN c (L.take i11.toNat)) p).1.map nmR ∧ b' = (apS c (apN c (L.take i11.toNat)) p).2) → dJ.I0 [.V v0, .L l1, .S s2, .S s3, .I i4, .L l', .B b', .I (i11 + 1)] := fun l' b' hl hs =>
   ⟨by show 0 ≤ i11 + 1; omega, by show i11 + 1 ≤ l1.length; omega, by show (l'.length : Int) ≤ 2 * (i11 + 1); omega, fun L c e1 e2 e3 e4 => by
    obtain ⟨p, f1, f2⟩ := oP (show l1 = L.map nmR from e1) a0 h1
    obtain ⟨g1, g2⟩ := a2 L c e1 e2 e3 e4
    show l' = (apN c (L.take (i11 + 1).toNat)).1.map nmR ∧ b' = (apN c (L.take (i11 + 1).toNat)).2
    rw [bT5 a0 f1]
    exact hs L c p f2 e2 e3 e4 g1 g2⟩
  have k0 : ((l1.getD i11.toNat default).toL.getD (0 : Int).toNat default).toS = (l1.getD i11.toNat default).key.toS := rfl
  refine ⟨fun h2 => ⟨step _ _ (by omega) fun L c p f2 e2 e3 e4 g1 g2 => ?_, hm⟩, fun h2 => ⟨fun h3 => ⟨step _ _ (by omega) fun L c p f2 e2 e3 e4 g1 g2 => ?_, hm⟩, fun h3 => ⟨fun h4 => ⟨fun h5 => ?_, fun h5 => ?_⟩, fun h4 => ?_⟩⟩⟩
  ·rw [f2, rZ] at h2
   have : p.1 = c.gone := by rw [e2, ← h2]; rfl
   unfold apS
   rw [if_pos (.inl this)]
   exact ⟨g1, g2⟩
  ·rw [f2, rZ] at h3
   have : p.1 = c.name := by rw [e3, ← h3]; rfl
   unfold apS
   rw [if_pos (.inr this)]
   exact ⟨g1, g2⟩
  ·intro v13
   refine ⟨by simp only [List.length_append, List.length_cons, List.length_nil]; omega, fun _ v14 v15 => ⟨by simp only [List.length_append, List.length_cons, List.length_nil]; omega, fun _ v16 => ⟨step _ _ (by simp only [List.length_append, List.length_cons, List.length_nil]; omega) fun L c p f2 e2 e3 e4 g1 g2 => ?_, hm⟩⟩⟩
   rw [f2] at h2 h3 h5 ⊢
   rw [rZ] at h2 h3 h5 ⊢
   rw [yD]
   have n2 : ¬ (p.1 = c.gone ∨ p.1 = c.name) := fun hh => hh.elim (fun hh => h2 (gG (by rw [← e2, ← hh]; rfl))) (fun hh => h3 (gG (by rw [← e3, ← hh]; rfl)))
   have n3 : c.name < p.1 := by
    have h5 := h5.1
    rw [wK, wK, aR9, ← e3] at h5
    have h5 : ¬ p.1 < c.name := of_decide_eq_false h5
    exact Dk.bI6 (fun e => n2 (.inr e)) h5
   unfold apS
   rw [if_neg n2, if_pos ⟨by rw [← g2]; exact h4, n3⟩]
   refine ⟨?_, rfl⟩
   rw [← e4, g1]
   simp [nmR, e3]
  ·intro v13
   refine ⟨by simp only [List.length_append, List.length_cons, List.length_nil]; omega, fun _ v14 => ⟨step _ _ (by simp only [List.length_append, List.length_cons, List.length_nil]; omega) fun L c p f2 e2 e3 e4 g1 g2 => ?_, hm⟩⟩
   rw [f2] at h2 h3 h5 ⊢
   rw [rZ] at h2 h3 h5 ⊢
   rw [yD]
   have n2 : ¬ (p.1 = c.gone ∨ p.1 = c.name) := fun hh => hh.elim (fun hh => h2 (gG (by rw [← e2, ← hh]; rfl))) (fun hh => h3 (gG (by rw [← e3, ← hh]; rfl)))
   have n3 : ¬ c.name < p.1 := by
    have h5 : _ := h5.resolve_right h3
    rw [wK, wK, aR9, ← e3] at h5
    have h5 : p.1 < c.name := of_decide_eq_true h5
    exact fun hh => Dk.lt_irrefl _ (Dk.lt_trans h5 hh)
   unfold apS
   rw [if_neg n2, if_neg (fun hh => n3 hh.2)]
   refine ⟨?_, g2⟩
   rw [g1]
   simp [nmR]
  ·intro v13
   refine ⟨by simp only [List.length_append, List.length_cons, List.length_nil]; omega, fun _ v14 => ⟨step _ _ (by simp only [List.length_append, List.length_cons, List.length_nil]; omega) fun L c p f2 e2 e3 e4 g1 g2 => ?_, hm⟩⟩
   rw [f2] at h2 h3 ⊢
   rw [rZ] at h2 h3 ⊢
   rw [yD]
   have n2 : ¬ (p.1 = c.gone ∨ p.1 = c.name) := fun hh => hh.elim (fun hh => h2 (gG (by rw [← e2, ← hh]; rfl))) (fun hh => h3 (gG (by rw [← e3, ← hh]; rfl)))
   unfold apS
   rw [if_neg n2, if_neg (fun hh => by rw [← g2, h4] at hh; exact absurd hh.1 (by simp))]
   refine ⟨?_, g2⟩
   rw [g1]
   simp [nmR]
 ·have fin : ∀ (L : List (Tx × Nat)) (c : Cg), l1 = L.map nmR → c.gone = tx s2 → c.name = tx s3 → (c.file : Int) = i4 → l9 = (apN c L).1.map nmR ∧ b10 = (apN c L).2 := fun L c e1 e2 e3 e4 => by
   have := a2 L c e1 e2 e3 e4
   rw [List.take_of_length_le (by rw [e1, List.length_map] at h1; omega)] at this
   exact this
  refine ⟨fun h2 v12 => ⟨by simp only [List.length_append, List.length_cons, List.length_nil]; omega, fun _ v13 L c e1 e2 e3 e4 => ?_⟩, fun h2 L c e1 e2 e3 e4 => ?_⟩
  ·obtain ⟨g1, g2⟩ := fin L c e1 e2 e3 e4
   have e3 : c.name = tx s3 := e3
   have e4 : (c.file : Int) = i4 := e4
   show l9 ++ _ = (Dk.apply L c).map nmR
   rw [← aY8]
   show _ = (oH c (apN c L)).map nmR
   unfold oH
   rw [if_neg (show ¬ (apN c L).2 = true from by rw [← g2, h2]; simp), List.map_append, g1, ← e4]
   simp [nmR, e3, apN]
  ·obtain ⟨g1, g2⟩ := fin L c e1 e2 e3 e4
   show l9 = (Dk.apply L c).map nmR
   rw [← aY8]
   show _ = (oH c (apN c L)).map nmR
   unfold oH
   rw [if_pos (show (apN c L).2 = true from by rw [← g2, h2])]
   exact g1
theorem cg_0 (c : Cg) : ((cgR c).toL.getD (0 : Int).toNat default).toS = bx c.gone := rfl
theorem cg_1 (c : Cg) : ((cgR c).toL.getD (1 : Int).toNat default).toS = bx c.name := rfl
theorem cg_2 (c : Cg) : ((cgR c).toL.getD (2 : Int).toNat default).toI = (c.file : Int) := rfl
theorem bA0 (d : Tx) (n : Nat) : (bx d).extract (0 : Int).toNat n = bx (d.take n) := gG (by show tx ((bx d).extract 0 n) = _; rw [aI8, List.drop_zero]; rfl)
theorem dK.pure : dK.Pure := by
 intro v0 l1 v2 l3 v4 l5 v6 l7 i8 i9 i10 b11 i12 v13 z14 _ _ _ _ _ _ _ _ _ hp _ _ _ _ _ _
 obtain ⟨x, hx, sx⟩ := hp
 have hx := Rf.of hx
 have k1 := hx.lnF sx; have k7 := hx.lnP sx
 have hl7 : l7.length = x.pend.length := by rw [hx.pend, List.length_map]
 have hl1 : l1.length = x.files.length := by rw [hx.files, List.length_map]
 have hn := sx.names
 have hby := sx.bytes
 rw [wrap64 (by omega) (by omega)]
 refine ⟨⟨Int.le_refl 0, by show 0 < (l7.length : Int) + 1; omega, by show (l7.length : Int) + 1 ≤ _; omega⟩, fun i21 hpk _ => ?_⟩
 have hpk : i21 = Dk.pick z14 0 ((l7.length : Int) + 1).toNat := hpk
 rw [show ((l7.length : Int) + 1).toNat = l7.length + 1 by omega] at hpk
 have hlt := Dk.yI z14 0 (l7.length + 1) (by omega)
 refine ⟨⟨Int.le_refl 0, Int.natCast_nonneg _, fun y hy _ => ?_⟩, fun i22 v23 l24 _ _ h => ?_⟩
 ·obtain rfl := hx.inj (.of hy); exact hx.safe
 obtain ⟨a0, a1, a2⟩ : 0 ≤ i22 ∧ i22 ≤ Dk.pick z14 0 (l7.length + 1) ∧ ∀ x, bY _ 0 x → Small x → l24 = ((x.pend.take i22.toNat).foldl Dk.apply x.safe).map nmR := h
 have a2 := a2 x hx.at sx
 have hll : l24.length ≤ 20000000 := by
  rw [a2, List.length_map]
  have := Dk.xM (x.pend.take i22.toNat) x.safe
  rw [List.length_take] at this; omega
 refine ⟨fun h1 => ⟨a0, fun _ => ⟨by omega, fun h2 => ⟨by show l24.length ≤ _; omega, fun v25 l26 ha _ => ?_⟩⟩⟩, fun h1 v25 => ?_⟩
 ·obtain ⟨p, e1, e2⟩ := oP hx.pend a0 h2
  rw [e2, cg_0, cg_1, cg_2] at ha
  have ha : l26 = (Dk.apply _ p).map nmR := ha _ p a2 rfl rfl rfl
  rw [wrap64 (by omega) (by omega)]
  refine ⟨⟨by show 0 ≤ i22 + 1; omega, by show i22 + 1 ≤ (Dk.pick z14 0 (l7.length + 1) : Int); omega, fun y hy sy => ?_⟩, by show (l7.length - (i22 + 1)).toNat < (l7.length - i22).toNat; omega⟩
  obtain rfl := hx.inj (.of hy)
  show l26 = ((y.pend.take (i22 + 1).toNat).foldl Dk.apply y.safe).map nmR
  rw [ha, show (i22 + 1).toNat = i22.toNat + 1 by omega, List.take_add_one, e1]
  simp
 have hi : i22.toNat = Dk.pick z14 0 (x.pend.length + 1) := by rw [← hl7]; omega
 rw [hi] at a2
 have a2 : l24 = (kC x z14).safe.map nmR := a2
 refine ⟨⟨Int.le_refl 0, Int.le_refl 1, by show (1 : Int) ≤ 0 + 1; omega, fun y hy _ => ?_⟩, fun i26 i27 v28 l29 _ _ _ h => ?_⟩
 ·obtain rfl := hx.inj (.of hy)
  exact ⟨[], rfl, rfl, hx.files⟩
 obtain ⟨c0, c1, c2, c3⟩ : 0 ≤ i27 ∧ 1 ≤ i26 ∧ i26 ≤ i27 + 1 ∧ ∀ x, bY _ 0 x → Small x → ∃ pre : List Fi, pre.length = i27.toNat ∧ Dk.cut (kC x z14) z14 0 1 x.files = pre ++ Dk.cut (kC x z14) z14 i27.toNat i26.toNat (x.files.drop i27.toNat) ∧ l29 = (pre ++ x.files.drop i27.toNat).map fiR := h
 obtain ⟨pre, c3, c4, c5⟩ := c3 x hx.at sx
 refine ⟨fun h1 => ?_, fun h1 => ?_⟩
 ·have hlt : i27.toNat < x.files.length := by omega
  have e3 : x.files.drop i27.toNat = x.files[i27.toNat] :: x.files.drop (i27.toNat + 1) := List.drop_eq_getElem_cons hlt
  obtain ⟨f, hf⟩ : ∃ f, f = x.files[i27.toNat] := ⟨_, rfl⟩
  rw [← hf] at e3
  have hm : f ∈ x.files := by rw [hf]; exact List.getElem_mem hlt
  have hfs := sx.inv.fs f hm
  have hft := aX2 hm
  rw [e3] at c4 c5
  have hlen : l29.length = x.files.length := by rw [c5, List.length_map, List.length_append, c3, List.length_cons, List.length_drop]; omega
  have hrow : l29.getD i27.toNat default = fiR f := by
   rw [c5, List.getD, List.getElem?_map, List.getElem?_append_right (by omega), c3, Nat.sub_self]; rfl
  have hmm : (l1.length - (i27 + 1)).toNat < (l1.length - i27).toNat := by omega
  have en : (i27 + 1).toNat = i27.toNat + 1 := by omega
  have hlw : ((l24.length : Nat) : Int) ≤ 20000000 := by omega
  obtain ⟨xx, x', hh⟩ : ∃ xx, bY [.V v28, .L l29, .V v23, .L l24, .V v23, .L l24, .V v25, .L [], .I i8, .I i9, .I i10, .B b11, .I i12, .I i27] 0 xx ∧ ∀ k, Dk.held xx k = Dk.held (kC x z14) k :=
   ⟨⟨pre ++ (f :: x.files.drop (i27.toNat + 1)), (kC x z14).names, (kC x z14).safe, [], x.room, x.crash, x.fail, x.dead, x.calls⟩, ⟨c5, a2, a2, rfl, hx.5, hx.6, hx.7, hx.8, hx.9⟩, fun _ => rfl⟩
  rw [hrow, rE, aO2]
  refine ⟨c0, fun _ => ⟨by omega, fun _ n30 => ⟨⟨⟨_, x'⟩, c0, by show l24.length ≤ _; omega, by show l24.length ≤ _; omega, by show 0 ≤ _; omega⟩, fun b31 hb => ?_⟩⟩⟩
  have hb : b31 = Dk.held (kC x z14) i27.toNat := (hb xx ⟨x'.1, x'.2, x'.3, x'.4, x'.5, x'.6, x'.7, x'.8, x'.9⟩).trans (hh _)
  have hsz : (bx f.data).size = f.data.length := rfl
  rw [hsz, wrap64 (n := (f.data.length : Int) - f.safe) (by omega) (by omega), wrap64 (n := i27 + 1) (by omega) (by omega), wrap64 (n := i26 + 1) (by omega) (by omega), wrap64 (n := (f.data.length : Int) - f.safe + 1) (by omega) (by omega)]
  have keep : ¬ (Dk.held (kC x z14) i27.toNat = true ∧ f.safe < f.data.length) → dK.I1 [.V v0, .L l1, .V v2, .L l3, .V v4, .L l5, .V v6, .L l7, .I i8, .I i9, .I i10, .B b11, .I i12, .V v13, .Z z14, .I i26, .I (i27 + 1), .L l29] := fun hk =>
   ⟨by show 0 ≤ i27 + 1; omega, c1, by show i26 ≤ i27 + 1 + 1; omega, fun y hy sy => by
    obtain rfl := hx.inj (.of hy)
    refine ⟨pre ++ [f], ?_, ?_, ?_⟩
    ·show _ = (i27 + 1).toNat
     rw [List.length_append, c3, en]; rfl
    ·show Dk.cut (kC y z14) z14 0 1 y.files = (pre ++ [f]) ++ Dk.cut (kC y z14) z14 (i27 + 1).toNat i26.toNat (y.files.drop (i27 + 1).toNat)
     rw [c4, Dk.cut, if_neg hk, en, List.append_assoc]; rfl
    ·show l29 = ((pre ++ [f]) ++ y.files.drop (i27 + 1).toNat).map fiR
     rw [c5, en, List.append_assoc]; rfl⟩
  refine ⟨fun h2 => ⟨fun h3 => ?_, fun h3 => ⟨keep (fun hh => by omega), hmm⟩⟩, fun h2 => ⟨keep (fun hh => by rw [hb] at h2; rw [h2] at hh; exact absurd hh.1 (by simp)), hmm⟩⟩
  refine ⟨⟨by show 0 ≤ i26; omega, by show 0 < (f.data.length : Int) - f.safe + 1; omega, by show (f.data.length : Int) - f.safe + 1 ≤ _; omega⟩, fun i32 hq _ => ?_⟩
  have hq : i32 = Dk.pick z14 i26.toNat ((f.data.length : Int) - f.safe + 1).toNat := hq
  rw [show ((f.data.length : Int) - f.safe + 1).toNat = f.data.length - f.safe + 1 by omega] at hq
  have hq2 := Dk.yI z14 i26.toNat (f.data.length - f.safe + 1) (by omega)
  rw [wrap64 (by omega) (by omega), bA0]
  refine ⟨by omega, fun _ => ⟨by omega, fun _ => ⟨⟨c0, by show i27 < (l29.length : Nat); omega, by show l29.length ≤ _; omega⟩, fun v33 l34 hs _ => ⟨⟨by show 0 ≤ i27 + 1; omega, by show 1 ≤ i26 + 1; omega, by show i26 + 1 ≤ i27 + 1 + 1; omega, fun y hy sy => ?_⟩, hmm⟩⟩⟩⟩
  obtain rfl := hx.inj (.of hy)
  have hnn : ((f.safe : Int) + i32).toNat = f.safe + Dk.pick z14 i26.toNat (f.data.length - f.safe + 1) := by omega
  have hs : l34 = l29.set i27.toNat (.L [.S (bx (f.data.take ((f.safe : Int) + i32).toNat)), .I ((f.safe : Int) + i32)]) := hs
  refine ⟨pre ++ [⟨f.data.take ((f.safe : Int) + i32).toNat, ((f.safe : Int) + i32).toNat⟩], ?_, ?_, ?_⟩
  ·show _ = (i27 + 1).toNat
   rw [List.length_append, c3, en]; rfl
  ·show Dk.cut (kC y z14) z14 0 1 y.files = (pre ++ [_]) ++ Dk.cut (kC y z14) z14 (i27 + 1).toNat (i26 + 1).toNat (y.files.drop (i27 + 1).toNat)
   rw [c4, Dk.cut, if_pos ⟨by rw [← hb]; exact h2, by omega⟩, en, show (i26 + 1).toNat = i26.toNat + 1 by omega, List.append_assoc, hnn]; rfl
  ·show l34 = ((pre ++ [_]) ++ y.files.drop (i27 + 1).toNat).map fiR
   rw [hs, c5, en, List.append_assoc, List.map_append, List.set_append_right _ _ (by rw [List.length_map]; omega), List.length_map, c3, Nat.sub_self, List.map_append]
   show _ = _ ++ (fiR _ :: _)
   have : (((f.safe : Int) + i32).toNat : Int) = (f.safe : Int) + i32 := by omega
   unfold fiR
   rw [this]; rfl
 ·intro y hy sy
  obtain rfl := hx.inj (.of hy)
  rw [List.drop_eq_nil_of_le (by omega)] at c4 c5
  rw [Dk.cut, List.append_nil] at c4
  rw [List.append_nil] at c5
  have hd : (Dk.restart y z14).files = pre := c4
  exact ⟨c5.trans (congrArg (List.map fiR) hd.symm), a2, a2, rfl, hx.5, rfl, rfl, rfl, hx.9⟩
end Go.Vc