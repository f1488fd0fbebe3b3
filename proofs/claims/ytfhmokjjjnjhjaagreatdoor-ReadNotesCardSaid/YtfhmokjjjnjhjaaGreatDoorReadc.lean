/-
 Litmus tests and their reader: contracts.
 The library's sort of rows: from what the shelf says of it to its contract.
 The reader's two sorts: locations by name, asks by place.
-/
import Derived.Test.YtfhmokjjjnjhjaaGreatDoorLexm
import Derived.Test.YtfhmokjjjnjhjaaGreatDoorReadm
import Derived.Test.YtfhmokjjjnjhjaaGreatDoorVcd
import Derived.OpenShut
import Derived.FnData
import Derived.ChangeArms
import GoSem.ClaimJoined
import Derived.Deep.Slices
import Derived.WideShapes
import Derived.Test.YtfhmokjjjnjhjaaGreatDoorVcc
import Derived.Lib.SlKeysI
import Derived.Lib.SlMapFilter
import Derived.Maps.Own
import Derived.Shelf.GgSortFunc.InsertionK
import Derived.Sort.AssemblyPlain
import Derived.Sort.Walk0
set_option linter.unusedVariables false
set_option linter.unusedSimpArgs false
set_option linter.unnecessarySimpa false
open _root_.Go.IntKind (wrap)
namespace Go.Vc
def bK (l : LD) (i : Nat) : Lt.Ins :=
 ⟨(arg l i).toI, (arg l (i + 1)).toI, (arg l (i + 2)).toI, (arg l (i + 3)).toB, (arg l (i + 4)).toI.toNat, (arg l (i + 5)).toB, (arg l (i + 6)).toI.toNat, (arg l (i + 7)).toB, (arg l (i + 8)).toB, (arg l (i + 9)).toI, (arg l (i + 10)).toI, (arg l (i + 11)).toI, (arg l (i + 12)).toI⟩
def rO (x : Lt.Ins) : D := .L [.I x.op, .I x.rd, .I x.loc, .B x.areg, .I x.an, .B x.breg, .I x.bn, .B x.acq, .B x.rel, .I x.dep, .I x.pred, .I x.succ, .I x.skip]
def bD (x : Tx × Nat) : D := .L [.S (bx x.1), .I x.2]
def jC (x : Int × Int × Nat) : D := .L [.I x.1, .I x.2.1, .I x.2.2]
def kQ : LD → List (List Lt.Ins) → Prop
 | [], [] => True
 | r :: L, m :: M => (∃ v : Value, r = .L [.V v, .L (m.map rO)]) ∧ kQ L M
 | _, _ => False
def eH (l : LD) (t : Lt.Test) : Prop := (arg l 2).toL = t.locs.map bD ∧ kQ (arg l 4).toL t.threads ∧ (arg l 6).toL = t.asks.map jC
def uJ : EK := [.int .i64, .int .i64, .int .i64, .bool, .int .u64, .bool, .int .u64, .bool, .bool, .int .i64, .int .i64, .int .i64, .int .i64]
def initK : EK := [.str, .int .u64]
def qJ : EK := [.int .i64, .int .i64, .int .u64]
def vV : EK := qJ ++ [.str]
def wW : EK := uJ ++ [.str]
def pI (i : Nat) : Pt := .lf (.int .i64 (.at i))
def pU (i : Nat) : Pt := .lf (.int .u64 (.at i))
def pB (i : Nat) : Pt := .lf (.bool (.at i))
def lU (i : Nat) : List Pt := [pI i, pI (i + 1), pI (i + 2), pB (i + 3), pU (i + 4), pB (i + 5), pU (i + 6), pB (i + 7), pB (i + 8), pI (i + 9), pI (i + 10), pI (i + 11), pI (i + 12)]
def mQ : List Srt := [.I, .I, .I, .B, .I, .B, .I, .B, .B, .I, .I, .I, .I]
def aP (i : Nat) : SV := .one (.lf (.ptr (.at i) 0))
def aA (ps : List Pt) : SV := .one (.agg ps)
def aIn (i : Nat) : SV := .one (.lf (.int .i64 (.at i)))
def aBo (i : Nat) : SV := .one (.lf (.bool (.at i)))
def aSt (i : Nat) : SV := .one (.lf (.str (.at i)))
def nX : List Ch := [.box (.at 0) [.lf (.sl (.at 1)), .lf (.sl (.at 3)), .lf (.sl (.at 5))], .rsl (.at 1) initK (.at 2), .rsl (.at 3) [.sl uJ] (.at 4), .abs (.deep [.sl uJ]) [.at 4], .rsl (.at 5) qJ (.at 6)]
def yG : List Srt := [.N, .V, .L, .V, .L, .V, .L]
def lOf.sig : Sig := { args := [aA (lU 0)], heap := [], aB := mQ, res := aA [pB 13, pB 14], heap' := [], news := [.B, .B], pre := fun _ => True, post := fun l => (arg l 13).toB = Lt.reads (arg l 0).toI ∧ (arg l 14).toB = Lt.writes (arg l 0).toI }
def dW.sig : Sig := { args := [aA (lU 0)], heap := [], aB := mQ, res := aBo 13, heap' := [], news := [.B], pre := fun _ => True, post := fun l => (arg l 13).toB = Lt.lV (arg l 0).toI }
def iW.sig : Sig := { dW.sig with post := fun l => (arg l 13).toB = Lt.sets (arg l 0).toI }
def jV.sig : Sig := { args := [aA [pB 0, pU 1]], heap := [], aB := [.B, .I], res := aBo 2, heap' := [], news := [.B], pre := fun _ => True, post := fun l => (arg l 2).toB = Lt.aF5 (arg l 0).toB (arg l 1).toI.toNat }
def bC.sig : Sig := eX [.s] [.b] (fun _ => True) fun l => (arg l 1).toB = Lt.jW (tx (arg l 0).toS)
def okc (s : BA) (k : Nat) : Prop := (97 ≤ byteAt s k ∧ byteAt s k ≤ 122) ∨ (0 < k ∧ 48 ≤ byteAt s k ∧ byteAt s k ≤ 57)
def bC.I0 : LD → Prop := fun l => 0 ≤ (arg l 1).toI ∧ (arg l 1).toI ≤ (arg l 0).toS.size ∧ ∀ k : Nat, (k : Int) < (arg l 1).toI → okc (arg l 0).toS k
def bC.I0M : LD → Nat := fun l => ((arg l 0).toS.size - (arg l 1).toI).toNat
def aC.sig : Sig := { args := [aA (lU 0)], heap := [], aB := mQ, res := aA (lU 13), heap' := [], news := mQ, pre := fun _ => True, post := fun l => bK l 13 = Lt.qK (bK l 0) }
def zI : Pt := .lf (.int .i64 (.int 0))
def zU : Pt := .lf (.int .u64 (.int 0))
def zB : Pt := .lf (.bool (.bool false))
def aS4 : List Pt := [zI, zI, zI, zB, zU, zB, zU, zB, zB, zI, zI, zI, zI]
def aC.T : St := ⟨[.one (.lf .junk), aP 13, aP 14, aP 15] ++ List.replicate 74 (.one (.lf .junk)), [.box (.at 15) (lU 16), .box (.at 14) aS4, .box (.at 13) (lU 0)], mQ ++ [.N, .N, .N] ++ mQ⟩
def aC.T5 : St := ⟨aC.T.tmps, [.box (.at 15) [pI 16, pI 17, pI 2, pB 19, pU 20, pB 21, pU 22, pB 7, pB 8, pI 9, pI 26, pI 27, pI 28], .box (.at 14) aS4, .box (.at 13) (lU 0)], aC.T.aB ++ [.B]⟩
def aC.J0 : LD → Prop := fun l => bK l 13 = Lt.bk1 (bK l 0)
def aC.J0M : LD → Nat := fun _ => 0
def aC.J1 : LD → Prop := fun l => bK l 13 = Lt.bk2 (bK l 0)
def aC.J1M : LD → Nat := fun _ => 0
def aC.J2 : LD → Prop := fun l => bK l 13 = Lt.bk3 (bK l 0)
def aC.J2M : LD → Nat := fun _ => 0
def aC.J3 : LD → Prop := fun l => bK l 13 = Lt.bk4 (bK l 0)
def aC.J3M : LD → Nat := fun _ => 0
def aC.J4 : LD → Prop := fun l => bK l 13 = Lt.qK (bK l 0)
def aC.J4M : LD → Nat := fun _ => 0
def bU.sig : Sig := { args := [aP 0], heap := nX, aB := yG, res := aIn 7, heap' := nX, news := [.I], pre := fun l => ∃ t, eH l t ∧ t.threads.length ≤ 4 ∧ ∀ x ∈ t.threads, x.length ≤ 8, post := fun l => ∀ t, eH l t → (arg l 7).toI = Lt.oU t.threads }
def bU.I0 : LD → Prop := fun l => 0 ≤ (arg l 8).toI ∧ (arg l 8).toI ≤ (arg l 4).toL.length ∧ 0 ≤ (arg l 7).toI ∧ (arg l 7).toI ≤ 16 * (arg l 8).toI ∧ ∀ t, eH l t → (arg l 7).toI + Lt.oU (t.threads.drop (arg l 8).toI.toNat) = Lt.oU t.threads
def bU.I0M : LD → Nat := fun l => ((arg l 4).toL.length - (arg l 8).toI).toNat
def bU.I1 : LD → Prop := fun l => 0 ≤ (arg l 9).toI ∧ 0 ≤ (arg l 8).toI ∧ (arg l 8).toI ≤ 16 * (arg l 7).toI + 2 * (arg l 9).toI ∧ ∀ t, eH l t → (arg l 9).toI ≤ (t.threads.getD (arg l 7).toI.toNat []).length ∧ (arg l 8).toI + Lt.evL ((t.threads.getD (arg l 7).toI.toNat []).drop (arg l 9).toI.toNat) + Lt.oU (t.threads.drop ((arg l 7).toI.toNat + 1)) = Lt.oU t.threads
def bU.I1M : LD → Nat := fun l => (16 - (arg l 9).toI).toNat
def jn (n : Nat) : List SV := List.replicate n (.one (.lf .junk))
def aG.T : St := ⟨jn 2 ++ [aIn 20] ++ jn 1 ++ [aP 21] ++ jn 128, [.box (.at 21) (lU 7)] ++ nX, yG ++ mQ ++ [.I, .N]⟩
def aG.J0 : LD → Prop := fun l => Lt.oN (arg l 2).toL.length (bK l 7) (arg l 20).toI = Lt.ck3 (bK l 7) (arg l 20).toI
def aG.J1 : LD → Prop := fun l => Lt.oN (arg l 2).toL.length (bK l 7) (arg l 20).toI = Lt.ck4 (bK l 7) (arg l 20).toI
def aG.J2 : LD → Prop := fun l => Lt.oN (arg l 2).toL.length (bK l 7) (arg l 20).toI = Lt.ck5 (bK l 7) (arg l 20).toI
def aG.J3 : LD → Prop := fun l => Lt.oN (arg l 2).toL.length (bK l 7) (arg l 20).toI = Lt.ck6 (bK l 7) (arg l 20).toI
def aG.J0M : LD → Nat := fun _ => 0
def aG.J1M : LD → Nat := fun _ => 0
def aG.J2M : LD → Nat := fun _ => 0
def aG.J3M : LD → Nat := fun _ => 0
def aG.sig : Sig := { args := [aP 0, aA (lU 7), aIn 20], heap := nX, aB := yG ++ mQ ++ [.I], res := aIn 21, heap' := nX, news := [.I], pre := fun _ => True, post := fun l => (arg l 21).toI = Lt.oN (arg l 2).toL.length (bK l 7) (arg l 20).toI }
def dX.sig : Sig := { args := [aP 0], heap := nX, aB := yG, res := aIn 7, heap' := nX, news := [.I], pre := fun l => ∃ t, eH l t, post := fun l => ∀ t, eH l t → (arg l 7).toI = Lt.sizes t }
def dX.I0 : LD → Prop := fun l => 0 ≤ (arg l 7).toI ∧ (arg l 7).toI ≤ (arg l 4).toL.length ∧ ∀ t, eH l t → Lt.sizes t = Lt.vN t (t.threads.drop (arg l 7).toI.toNat) ∧ ∀ k : Nat, (k : Int) < (arg l 7).toI → (t.threads.getD k []).length ≤ 8
def dX.I0M : LD → Nat := fun l => ((arg l 4).toL.length - (arg l 7).toI).toNat
def gQ.sig : Sig := { args := [aP 0, aA [pI 7, pI 8, pU 9]], heap := nX, aB := yG ++ [.I, .I, .I], res := aIn 10, heap' := nX, news := [.I], pre := fun _ => True, post := fun l => ∀ t, eH l t → (arg l 10).toI = Lt.qL t ((arg l 7).toI, (arg l 8).toI, (arg l 9).toI.toNat) }
def kL.sig : Sig := { args := [aA [pI 0, pI 1, pU 2], aA [pI 3, pI 4, pU 5]], heap := [], aB := [.I, .I, .I, .I, .I, .I], res := aBo 6, heap' := [], news := [.B], pre := fun _ => True, post := fun l => (arg l 6).toB = Lt.before ((arg l 0).toI, (arg l 1).toI, (arg l 2).toI.toNat) ((arg l 3).toI, (arg l 4).toI, (arg l 5).toI.toNat) }
def aQ.sig : Sig := { args := [aP 0], heap := nX, aB := yG, res := aIn 7, heap' := nX, news := [.I], pre := fun l => ∃ t, eH l t, post := fun l => ∀ t, eH l t → (arg l 7).toI = Lt.check t }
def aA1 (L : List (Tx × Nat)) (i : Nat) : Option Tx := if i = 0 then none else some (L.getD (i - 1) ([], 0)).1
def aA0 (L : List (Int × Int × Nat)) (i : Nat) : Option (Int × Int × Nat) := if i = 0 then none else some (L.getD (i - 1) (0, 0, 0))
def aQ.I0 : LD → Prop := fun l => 0 ≤ (arg l 7).toI ∧ (arg l 7).toI ≤ (arg l 2).toL.length ∧ ∀ t, eH l t → Lt.check t = Lt.vZ t (aA1 t.locs (arg l 7).toI.toNat) (t.locs.drop (arg l 7).toI.toNat)
def aQ.I0M : LD → Nat := fun l => ((arg l 2).toL.length - (arg l 7).toI).toNat
def aQ.I1 : LD → Prop := fun l => 0 ≤ (arg l 7).toI ∧ (arg l 7).toI ≤ (arg l 4).toL.length ∧ ∀ t, eH l t → Lt.check t = Lt.yR t (t.threads.drop (arg l 7).toI.toNat)
def aQ.I1M : LD → Nat := fun l => ((arg l 4).toL.length - (arg l 7).toI).toNat
def aQ.I2 : LD → Prop := fun l => 0 ≤ (arg l 8).toI ∧ ∀ t, eH l t → (arg l 8).toI ≤ (t.threads.getD (arg l 7).toI.toNat []).length ∧ Lt.check t = Lt.aD8 t ((t.threads.getD (arg l 7).toI.toNat []).drop (arg l 8).toI.toNat) (t.threads.drop ((arg l 7).toI.toNat + 1))
def aQ.I2M : LD → Nat := fun l => ((((arg l 4).toL.getD (arg l 7).toI.toNat default).toL.getD 1 default).toL.length - (arg l 8).toI).toNat
def aQ.I3 : LD → Prop := fun l => 0 ≤ (arg l 7).toI ∧ (arg l 7).toI ≤ (arg l 6).toL.length ∧ ∀ t, eH l t → Lt.check t = Lt.mF t (aA0 t.asks (arg l 7).toI.toNat) (t.asks.drop (arg l 7).toI.toNat)
def aQ.I3M : LD → Nat := fun l => ((arg l 6).toL.length - (arg l 7).toI).toNat
def rdH (i : Nat) (b : Nat) : List Ch := [.box (.at b) [.lf (.sl (.at i)), .lf (.int .i64 (.at (i + 2)))], .rsl (.at i) vP (.at (i + 1))]
def rdS : List Srt := [.V, .L, .I]
def bF (l : LD) (i : Nat) (r : Lt.Rd) : Prop := (arg l i).toL = r.t.map aV ∧ (arg l (i + 1)).toI = r.err
def qR (xs : List SV) (sr : List Srt) (res : Nat → SV) (ns : List Srt) (post : LD → Lt.Rd → Prop) : Sig := { args := aP 0 :: xs, heap := rdH 1 0, aB := [.N] ++ rdS ++ sr, res := res (7 + sr.length), heap' := rdH (4 + sr.length) 0, news := rdS ++ ns, pre := fun _ => True, post := fun l => ∀ r, bF l 2 r → post l r }
def aW.sig : Sig := { args := [aP 0, aIn 4], heap := rdH 1 0, aB := [.N] ++ rdS ++ [.I], res := .tup [], heap' := [.box (.at 0) [.lf (.sl (.at 1)), .lf (.int .i64 (.at 5))], .rsl (.at 1) vP (.at 2)], news := [.I], pre := fun _ => True, post := fun l => (arg l 5).toI = if (arg l 3).toI = 0 then (arg l 4).toI else (arg l 3).toI }
def fO.sig : Sig := qR [] [] (fun i => aA [pI i, .lf (.str (.at (i + 1))), pU (i + 2)]) [.I, .S, .I] fun l r => bF l 5 r.next.2 ∧ (arg l 7).toI = r.next.1.kind ∧ (arg l 8).toS = bx r.next.1.text ∧ (arg l 9).toI = r.next.1.n
def eG.sig : Sig := qR [] [] aSt [.S] fun l r => bF l 5 r.word.2 ∧ (arg l 7).toS = bx r.word.1
def bZ.sig : Sig := qR [aSt 4] [.S] aBo [.B] fun l r => bF l 6 (r.accept (tx (arg l 4).toS)).2 ∧ (arg l 8).toB = (r.accept (tx (arg l 4).toS)).1
def gY.sig : Sig := qR [aSt 4] [.S] (fun _ => .tup []) [] fun l r => bF l 6 (r.sign (tx (arg l 4).toS))
def dM.sig : Sig := qR [] [] (fun i => .one (.lf (.int .u64 (.at i)))) [.I] fun l r => bF l 5 r.number.2 ∧ (arg l 7).toI = r.number.1
def jY.sig : Sig := eX [.s] [.b] (fun _ => True) fun l => (arg l 1).toB = Lt.mV (tx (arg l 0).toS)
def dA.sig : Sig := qR [] [] aIn [.I] fun l r => bF l 5 r.reg.2 ∧ (arg l 7).toI = r.reg.1
def gX.sig : Sig := qR [] [] aSt [.S] fun l r => bF l 5 r.loc.2 ∧ (arg l 7).toS = bx r.loc.1
def eF.sig : Sig := qR [] [] (fun i => aA [pB i, pU (i + 1)]) [.B, .I] fun l r => bF l 5 r.arg.2 ∧ (arg l 7).toB = r.arg.1.1 ∧ (arg l 8).toI = r.arg.1.2
def jK.sig : Sig := qR [] [] aIn [.I] fun l r => bF l 5 r.side.2 ∧ (arg l 7).toI = r.side.1
def jL.sig : Sig := { args := [aP 0, .one (.lf (.ptr (.at 4) 0))], heap := rdH 1 0 ++ [.box (.at 4) (lU 5 ++ [.lf (.str (.at 18))])], aB := [.N] ++ rdS ++ [.N] ++ mQ ++ [.S], res := .tup [], heap' := rdH 19 0 ++ [.box (.at 4) (lU 22 ++ [.lf (.str (.at 18))])], news := rdS ++ mQ, pre := fun _ => True, post := fun l => ∀ r, bF l 2 r → bF l 20 (r.tail (bK l 5)).2 ∧ bK l 22 = (r.tail (bK l 5)).1 }
def nmH (g j : Nat) : List Ch := [.rsl (.o1 .hdr (.nat g)) [.sl [.str]] (.at j), .abs (.deep [.sl [.str]]) [.at j]]
def txR (l : List Tx) : LD := l.map fun s => .S (bx s)
def xC (d : D) : Prop := ∃ v : Value, d.toL = [.L [.V v, .L (txR Lt.names)]]
def gZ.sig : Sig := eX [.l [.str], .s] [.i .i64] (fun l => (arg l 1).toL.length ≤ 1000000000 ∧ ∃ xs, (arg l 1).toL = txR xs) fun l => ∀ xs, (arg l 1).toL = txR xs → (arg l 3).toI = Lt.idxBy (· == tx (arg l 2).toS) xs
def gZ.I0 : LD → Prop := fun l => 0 ≤ (arg l 3).toI ∧ (arg l 3).toI ≤ (arg l 1).toL.length ∧ ∀ xs, (arg l 1).toL = txR xs → ∀ k : Nat, (k : Int) < (arg l 3).toI → (xs.getD k [] == tx (arg l 2).toS) = false
def gZ.I0M : LD → Nat := fun l => ((arg l 1).toL.length - (arg l 3).toI).toNat
def aI.T (g : Nat) : St := ⟨[aP 0] ++ jn 1 ++ [aP 5, aP 6, aP 6] ++ jn 114, [.box (.at 0) [.lf (.sl (.at 7)), .lf (.int .i64 (.at 9))], .rsl (.at 7) vP (.at 8), .box (.at 6) (lU 10 ++ [.lf (.str (.at 23))]), .box (.at 5) (aS4 ++ [.lf (.str (.str ⟨#[]⟩))])] ++ nmH g 4, [.N] ++ rdS ++ [.L, .N, .N] ++ rdS ++ mQ ++ [.S]⟩
def rgJ (s : Lt.Rg → Lt.Rg) : LD → Prop := fun l => xC (arg l 4) ∧ ∀ r, bF l 2 r → r.op.x.op ≠ 0 ∧ bF l 5 (s r.op).r ∧ bK l 7 = (s r.op).x ∧ (arg l 20).toS = bx (s r.op).l
def aI.J0 : LD → Prop := rgJ fun g => g.rd
def aI.J1 : LD → Prop := rgJ fun g => g.rd.loc
def aI.J2 : LD → Prop := rgJ fun g => g.rd.loc.args
def aI.J3 : LD → Prop := rgJ fun g => g.rd.loc.args.tail
def aI.J4 : LD → Prop := rgJ fun g => g.rd.loc.args.tail.skip
def aI.J0M : LD → Nat := fun _ => 0
def aI.J1M : LD → Nat := fun _ => 0
def aI.J2M : LD → Nat := fun _ => 0
def aI.J3M : LD → Nat := fun _ => 0
def aI.J4M : LD → Nat := fun _ => 0
def aI.sig (g : FuncId) : Sig := { args := [aP 0], heap := rdH 1 0 ++ nmH g 4, aB := [.N] ++ rdS ++ [.L], res := aA (lU 8 ++ [.lf (.str (.at 21))]), heap' := rdH 5 0 ++ nmH g 4, news := rdS ++ mQ ++ [.S], pre := fun l => xC (arg l 4), post := fun l => ∀ r, bF l 2 r → bF l 6 r.instr.r ∧ bK l 8 = r.instr.x ∧ (arg l 21).toS = bx r.instr.l }
def dfB (b v : Nat) : Ch := .box (.at b) [.lf (.sl (.at v)), .lf (.sl (.at (v + 2))), .lf (.sl (.at (v + 4)))]
def cName.sig : Sig := { args := [aA [.lf (.str (.at 0)), pU 1], aP 2], heap := [.box (.at 2) [.lf (.str (.at 3))]], aB := [.S, .I, .N, .S], res := aBo 4, heap' := [.box (.at 2) [.lf (.str (.at 3))]], news := [.B], pre := fun _ => True, post := fun l => (arg l 4).toB = decide ((arg l 0).toS = (arg l 3).toS) }
def dK.sig (g : FuncId) : Sig := { args := [.one (.lf (.sl (.at 0))), .one (.lf (.clo g [] [.at 2]))], heap := [.osl (.at 0) initK (.at 1), .box (.at 2) [.lf (.str (.at 3))]], aB := [.V, .L, .N, .S], res := aIn 4, heap' := [.osl (.at 0) initK (.at 1), .box (.at 2) [.lf (.str (.at 3))]], news := [.I], pre := fun l => (arg l 1).toL.length ≤ 1000000000, post := fun l => ∀ q : List (Tx × Nat), (arg l 1).toL = q.map bD → (arg l 4).toI = Lt.idxBy (fun i => i.1 == tx (arg l 3).toS) q }
def dK.I0 : LD → Prop := fun l => 0 ≤ (arg l 4).toI ∧ (arg l 4).toI ≤ (arg l 1).toL.length ∧ ∀ q : List (Tx × Nat), (arg l 1).toL = q.map bD → ∀ k : Nat, (k : Int) < (arg l 4).toI → ((q.getD k ([], 0)).1 == tx (arg l 3).toS) = false
def dK.I0M : LD → Nat := fun l => ((arg l 1).toL.length - (arg l 4).toI).toNat
def mP.sig (g : FuncId) : Sig := { dK.sig g with res := aBo 4, news := [.B], post := fun l => ∀ q : List (Tx × Nat), (arg l 1).toL = q.map bD → (arg l 4).toB = q.any (fun i => i.1 == tx (arg l 3).toS) }
def yK (i : Nat) : List Pt := [pI i, pI (i + 1), pU (i + 2), .lf (.str (.at (i + 3)))]
def vU (l : LD) (i : Nat) : Lt.Ask := ⟨(arg l i).toI, (arg l (i + 1)).toI, (arg l (i + 2)).toI.toNat, tx (arg l (i + 3)).toS⟩
def aN0 : List Srt := [.I, .I, .I, .S]
def lM.sig : Sig := { args := [aA (yK 0), aP 4], heap := [.box (.at 4) (yK 5)], aB := aN0 ++ [.N] ++ aN0, res := aBo 9, heap' := [.box (.at 4) (yK 5)], news := [.B], pre := fun _ => True, post := fun l => (arg l 9).toB = Lt.iC (vU l 5) (vU l 0) }
def fB (q : Lt.Ask) : D := .L [.I q.th, .I q.at_, .I q.v, .S (bx q.loc)]
def fZ.sig (g : FuncId) : Sig := { args := [.one (.lf (.sl (.at 0))), .one (.lf (.clo g [] [.at 2]))], heap := [.osl (.at 0) vV (.at 1), .box (.at 2) (yK 3)], aB := [.V, .L, .N] ++ aN0, res := aIn 7, heap' := [.osl (.at 0) vV (.at 1), .box (.at 2) (yK 3)], news := [.I], pre := fun l => (arg l 1).toL.length ≤ 1000000000, post := fun l => ∀ q : List Lt.Ask, (arg l 1).toL = q.map fB → (arg l 7).toI = Lt.idxBy (Lt.iC (vU l 3)) q }
def fZ.I0 : LD → Prop := fun l => 0 ≤ (arg l 7).toI ∧ (arg l 7).toI ≤ (arg l 1).toL.length ∧ ∀ q : List Lt.Ask, (arg l 1).toL = q.map fB → ∀ k : Nat, (k : Int) < (arg l 7).toI → Lt.iC (vU l 3) (q.getD k ⟨0, 0, 0, []⟩) = false
def fZ.I0M : LD → Nat := fun l => ((arg l 1).toL.length - (arg l 7).toI).toNat
def mW.sig (g : FuncId) : Sig := { fZ.sig g with res := aBo 7, news := [.B], post := fun l => ∀ q : List Lt.Ask, (arg l 1).toL = q.map fB → (arg l 7).toB = q.any (Lt.iC (vU l 3)) }
def dF.sig : Sig := { args := [aP 0, aP 5], heap := [.box (.at 0) [.lf (.sl (.at 1)), .lf (.sl (.at 3)), .lf (.sl (.at 4))], .osl (.at 1) initK (.at 2)] ++ rdH 6 5, aB := [.N, .V, .L, .V, .V, .N, .V, .L, .I], res := .tup [], heap' := [.box (.at 0) [.lf (.sl (.at 9)), .lf (.sl (.at 3)), .lf (.sl (.at 4))], .osl (.at 9) initK (.at 10)] ++ rdH 11 5, news := [.V, .L, .V, .L, .I], pre := fun l => (arg l 2).toL.length + (arg l 7).toL.length ≤ 100000000 ∧ ∃ d r, (arg l 2).toL = List.map bD d ∧ bF l 7 r, post := fun l => ∀ d r, (arg l 2).toL = d.map bD → bF l 7 r → (arg l 10).toL = (Lt.jZ (r.t.length + 1) d r).1.map bD ∧ bF l 12 (Lt.jZ (r.t.length + 1) d r).2 }
def dF.I0 : LD → Prop := fun l => ∀ d r, (arg l 2).toL = d.map bD → bF l 7 r → ∃ d' r' k, (arg l 9).toL = List.map bD d' ∧ bF l 10 r' ∧ r'.t.length < k ∧ d'.length + r'.t.length ≤ d.length + r.t.length ∧ Lt.jZ (r.t.length + 1) d r = Lt.jZ k d' r'
def dF.I0M : LD → Nat := fun l => (arg l 10).toL.length
def bJ.sig : Sig := { args := [aP 0, aP 5], heap := [.box (.at 0) [.lf (.sl (.at 1)), .lf (.sl (.at 2)), .lf (.sl (.at 3))], .osl (.at 3) vV (.at 4)] ++ rdH 6 5, aB := [.N, .V, .V, .V, .L, .N, .V, .L, .I], res := .tup [], heap' := [.box (.at 0) [.lf (.sl (.at 1)), .lf (.sl (.at 2)), .lf (.sl (.at 9))], .osl (.at 9) vV (.at 10)] ++ rdH 11 5, news := [.V, .L, .V, .L, .I], pre := fun l => (arg l 4).toL.length + (arg l 7).toL.length ≤ 100000000 ∧ ∃ d r, (arg l 4).toL = List.map fB d ∧ bF l 7 r, post := fun l => ∀ d r, (arg l 4).toL = d.map fB → bF l 7 r → (arg l 10).toL = (Lt.iU (r.t.length + 1) d r).1.map fB ∧ bF l 12 (Lt.iU (r.t.length + 1) d r).2 }
def bJ.I0 : LD → Prop := fun l => ∀ d r, (arg l 4).toL = d.map fB → bF l 7 r → ∃ d' r' k, (arg l 9).toL = List.map fB d' ∧ bF l 10 r' ∧ r'.t.length < k ∧ d'.length + r'.t.length ≤ d.length + r.t.length ∧ Lt.iU (r.t.length + 1) d r = Lt.iU k d' r'
def bJ.I0M : LD → Nat := fun l => (arg l 10).toL.length
def dfH (b i : Nat) : List Ch := [dfB b i, .osl (.at i) initK (.at (i + 1)), .osl (.at (i + 2)) [.sl wW] (.at (i + 3)), .osl (.at (i + 4)) vV (.at (i + 5)), .osl (.at (i + 6)) wW (.at (i + 7)), .abs (.deep [.sl wW]) [.at (i + 8)]]
def dfS : List Srt := [.V, .L, .V, .L, .V, .L, .V, .L, .L]
def nP (x : Lt.Ins × Tx) : D := .L [.I x.1.op, .I x.1.rd, .I x.1.loc, .B x.1.areg, .I x.1.an, .B x.1.breg, .I x.1.bn, .B x.1.acq, .B x.1.rel, .I x.1.dep, .I x.1.pred, .I x.1.succ, .I x.1.skip, .S (bx x.2)]
def oZ : LD → List (List (Lt.Ins × Tx)) → Prop
 | [], [] => True
 | r :: L, m :: M => (∃ v : Value, r = .L [.V v, .L (m.map nP)]) ∧ oZ L M
 | _, _ => False
def aY5 (L0 I : LD) (v ll : D) (T : List (List (Lt.Ins × Tx))) : Prop :=
 (L0 = [] ∧ I = [] ∧ ll.toL = [] ∧ T = []) ∨ ∃ p q, T = p ++ [q] ∧ oZ I p ∧ ll.toL = q.map nP ∧ L0 = I ++ [.L [.V v.toV, .L ll.toL]]
def dP (l : LD) (i : Nat) (d : Lt.bI) : Prop :=
 (arg l (i + 1)).toL = d.inits.map bD ∧ (arg l (i + 5)).toL = d.asks.map fB ∧ aY5 (arg l (i + 3)).toL (arg l (i + 8)).toL (arg l (i + 6)) (arg l (i + 7)) d.threads
def iF (d : Lt.bI) : Nat := d.inits.length + d.asks.length + (d.threads.map fun t => t.length + 1).sum
def tX (d : Lt.bI) (n : Nat) : Prop := iF d ≤ n
def aK.sig (g : FuncId) : Sig := { args := [aP 0, .one (.lf (.sl (.at 10)))], heap := dfH 0 1 ++ [.rsl (.at 10) vP (.at 11)] ++ nmH g 12, aB := [.N] ++ dfS ++ [.V, .L, .L], res := aIn 22, heap' := dfH 0 13 ++ nmH g 12, news := dfS ++ [.I], pre := fun l => xC (arg l 12) ∧ ∃ (d : Lt.bI) (t : List Lx.Tok), dP l 1 d ∧ (arg l 11).toL = t.map aV ∧ tX d 10000000 ∧ t.length ≤ 10000, post := fun l => ∀ (d : Lt.bI) (t : List Lx.Tok), dP l 1 d → (arg l 11).toL = t.map aV → dP l 13 (Lt.take d t).1 ∧ (arg l 22).toI = (Lt.take d t).2 }
def aK.T (g : Nat) : St := ⟨jn 5 ++ [aP 13] ++ jn 111, dfH 0 14 ++ [.box (.at 13) [.lf (.sl (.at 23)), .lf (.int .i64 (.at 25))], .rsl (.at 23) vP (.at 24)] ++ nmH g 12, [.N] ++ dfS ++ [.V, .L, .L, .N] ++ dfS ++ rdS⟩
def aK.J0 : LD → Prop := fun l => ∀ (d : Lt.bI) (t : List Lx.Tok), dP l 1 d → (arg l 11).toL = t.map aV → ∃ d' r, dP l 13 d' ∧ bF l 23 r ∧ Lt.take d t = Lt.fin d' r
def aK.J0M : LD → Nat := fun _ => 0
def slv (i : Nat) : SV := .one (.lf (.sl (.at i)))
def qX.sig : Sig := { args := [slv 0], heap := [.osl (.at 0) initK (.at 1)], aB := [.V, .L], res := slv 2, heap' := [.osl (.at 0) initK (.at 1), .osl (.at 2) initK (.at 3)], news := [.V, .L], pre := fun l => (arg l 1).toL.length ≤ 1000000000, post := fun l => (arg l 3).toL = (arg l 1).toL }
def aB2.sig (g : FuncId) : Sig := { args := [slv 0, .one (.lf (.fn g))], heap := [.osl (.at 0) initK (.at 1)], aB := [.V, .L], res := .tup [], heap' := [.osl (.at 0) initK (.at 2)], news := [.L], pre := fun l => (arg l 1).toL.length ≤ 1000000000 ∧ ∃ q, (arg l 1).toL = List.map bD q, post := fun l => (arg l 2).toL.length = (arg l 1).toL.length ∧ ∀ q, (arg l 1).toL = q.map bD → (arg l 2).toL = (Lt.jA Lt.ltL q).map bD }
def aB1.sig (g : FuncId) : Sig := { args := [slv 0, .one (.lf (.fn g))], heap := [.osl (.at 0) qJ (.at 1)], aB := [.V, .L], res := .tup [], heap' := [.osl (.at 0) qJ (.at 2)], news := [.L], pre := fun l => (arg l 1).toL.length ≤ 1000000000 ∧ ∃ q, (arg l 1).toL = List.map jC q ∧ ∀ x ∈ q, -1 ≤ x.1 ∧ x.1 ≤ 1000000000 ∧ 0 ≤ x.2.1 ∧ x.2.1 ≤ 1000000000, post := fun l => ∀ q, (arg l 1).toL = q.map jC → (∀ x ∈ q, -1 ≤ x.1 ∧ x.1 ≤ 1000000000 ∧ 0 ≤ x.2.1 ∧ x.2.1 ≤ 1000000000) → (arg l 2).toL = (Lt.jA Lt.ltA q).map jC }
def oM.sig : Sig := cName.sig
def iI.sig (g : FuncId) : Sig := dK.sig g
def iI.I0 : LD → Prop := dK.I0
def iI.I0M : LD → Nat := dK.I0M
def oW.sig (g : FuncId) : Sig := mP.sig g
def kU.sig : Sig := { args := [aSt 0, aP 1], heap := [.box (.at 1) [.lf (.sl (.at 2))], .osl (.at 2) initK (.at 3)], aB := [.S, .N, .V, .L], res := .tup [], heap' := [.box (.at 1) [.lf (.sl (.at 4))], .osl (.at 4) initK (.at 5)], news := [.V, .L], pre := fun l => (arg l 3).toL.length ≤ 1000000000, post := fun l => ∀ q, (arg l 3).toL = q.map bD → (arg l 5).toL = (Lt.iT q (tx (arg l 0).toS)).map bD }
def bT.sig : Sig := { args := [aP 0], heap := dfH 0 1, aB := [.N] ++ dfS, res := slv 10, heap' := [dfB 0 1, .osl (.at 1) initK (.at 2), .osl (.at 3) [.sl wW] (.at 4), .abs (.deep [.sl wW]) [.at 4], .osl (.at 5) vV (.at 6), .osl (.at 10) initK (.at 11)], news := [.V, .L], pre := fun l => ∃ d, dP l 1 d ∧ tX d 100000000, post := fun l => (arg l 11).toL.length ≤ 1000000000 ∧ ∀ d, dP l 1 d → (arg l 11).toL = (Lt.locs d).map bD }
def nmT (T : List (List (Lt.Ins × Tx))) : List Tx := T.flatMap fun l => l.map (·.2)
def bT.I0 : LD → Prop := fun l => 0 ≤ (arg l 10).toI ∧ (arg l 10).toI ≤ (arg l 4).toL.length ∧ ∀ d, dP l 1 d → (arg l 11).toL = ((nmT (d.threads.take (arg l 10).toI.toNat)).foldl Lt.iT d.inits).map bD
def bT.I0M : LD → Nat := fun l => ((arg l 4).toL.length - (arg l 10).toI).toNat
def bT.I1 : LD → Prop := fun l => 0 ≤ (arg l 11).toI ∧ ∀ d, dP l 1 d → (arg l 11).toI ≤ (d.threads.getD (arg l 10).toI.toNat []).length ∧ (arg l 12).toL = ((nmT (d.threads.take (arg l 10).toI.toNat) ++ ((d.threads.getD (arg l 10).toI.toNat []).take (arg l 11).toI.toNat).map (·.2)).foldl Lt.iT d.inits).map bD
def bT.I1M : LD → Nat := fun l => ((((arg l 4).toL.getD (arg l 10).toI.toNat default).toL.getD 1 default).toL.length - (arg l 11).toI).toNat
def bT.I2 : LD → Prop := fun l => 0 ≤ (arg l 10).toI ∧ (arg l 10).toI ≤ (arg l 6).toL.length ∧ ∀ d, dP l 1 d → (arg l 11).toL = (((d.asks.take (arg l 10).toI.toNat).map (·.loc)).foldl Lt.iT ((nmT d.threads).foldl Lt.iT d.inits)).map bD
def bT.I2M : LD → Nat := fun l => ((arg l 6).toL.length - (arg l 10).toI).toNat
def pK.sig : Sig := cName.sig
def iQ.sig (g : FuncId) : Sig := dK.sig g
def iQ.I0 : LD → Prop := dK.I0
def iQ.I0M : LD → Nat := dK.I0M
def dAt.sig : Sig := { args := [aSt 0, aP 1], heap := [.box (.at 1) [.lf (.sl (.at 2)), .lf (.sl (.at 4)), .lf (.sl (.at 5))], .osl (.at 2) initK (.at 3)], aB := [.S, .N, .V, .L, .V, .V], res := aIn 6, heap' := [.box (.at 1) [.lf (.sl (.at 2)), .lf (.sl (.at 4)), .lf (.sl (.at 5))], .osl (.at 2) initK (.at 3)], news := [.I], pre := fun l => (arg l 3).toL.length ≤ 1000000000, post := fun l => ∀ q, (arg l 3).toL = q.map bD → (arg l 6).toI = Lt.oL q (tx (arg l 0).toS) }
def cvI (d : Lt.bI) (x : Lt.Ins × Tx) : Lt.Ins := if x.2 ≠ [] then { x.1 with loc := Lt.oL (Lt.locs d) x.2 } else x.1
def cvA (d : Lt.bI) (q : Lt.Ask) : Int × Int × Nat := (q.th, if q.loc ≠ [] then Lt.oL (Lt.locs d) q.loc else q.at_, q.v)
def yJ (d : Lt.bI) : Prop := ∀ q ∈ d.asks, -1 ≤ q.th ∧ q.th ≤ 4 ∧ 0 ≤ q.at_ ∧ q.at_ ≤ 7
def bG.sig : Sig := { args := [aP 0], heap := dfH 0 1, aB := [.N] ++ dfS, res := aA [.lf (.sl (.at 10)), .lf (.sl (.at 12)), .lf (.sl (.at 14))], heap' := [.rsl (.at 10) initK (.at 11), .rsl (.at 12) [.sl uJ] (.at 13), .abs (.deep [.sl uJ]) [.at 13], .rsl (.at 14) qJ (.at 15)], news := [.V, .L, .V, .L, .V, .L], pre := fun l => ∃ d, dP l 1 d ∧ tX d 100000000 ∧ yJ d, post := fun l => ∀ d, dP l 1 d → yJ d → (arg l 11).toL = (Lt.test d).locs.map bD ∧ kQ (arg l 13).toL (Lt.test d).threads ∧ (arg l 15).toL = (Lt.test d).asks.map jC }
def bG.I0 : LD → Prop := fun l => 0 ≤ (arg l 10).toI ∧ (arg l 10).toI ≤ (arg l 4).toL.length ∧ (arg l 11).toL.length = (arg l 10).toI ∧ ∀ d, dP l 1 d → kQ (arg l 11).toL ((d.threads.take (arg l 10).toI.toNat).map fun m => m.map (cvI d))
def bG.I0M : LD → Nat := fun l => ((arg l 4).toL.length - (arg l 10).toI).toNat
def bG.I1 : LD → Prop := fun l => 0 ≤ (arg l 12).toI ∧ (arg l 11).toL.length = (arg l 12).toI ∧ ∀ d, dP l 1 d → (arg l 12).toI ≤ (d.threads.getD (arg l 10).toI.toNat []).length ∧ (arg l 11).toL = (((d.threads.getD (arg l 10).toI.toNat []).take (arg l 12).toI.toNat).map (cvI d)).map rO
def bG.I1M : LD → Nat := fun l => ((((arg l 4).toL.getD (arg l 10).toI.toNat default).toL.getD 1 default).toL.length - (arg l 12).toI).toNat
def bG.I2 : LD → Prop := fun l => 0 ≤ (arg l 10).toI ∧ (arg l 10).toI ≤ (arg l 6).toL.length ∧ (arg l 11).toL.length = (arg l 10).toI ∧ ∀ d, dP l 1 d → (arg l 11).toL = ((d.asks.take (arg l 10).toI.toNat).map (cvA d)).map jC
def bG.I2M : LD → Nat := fun l => ((arg l 6).toL.length - (arg l 10).toI).toNat
def cH5 : St := ⟨[], [.osl (.at 0) wW .lnil], []⟩
def dN.sig (g : FuncId) : Sig := { args := [aSt 0], heap := nmH g 1, aB := [.S, .L], res := .tup [.agg [.lf (.sl (.at 2)), .lf (.sl (.at 4)), .lf (.sl (.at 6))], .lf (.int .i64 (.at 8)), .lf (.int .i64 (.at 9))], heap' := [.rsl (.at 2) initK (.at 3), .rsl (.at 4) [.sl uJ] (.at 5), .abs (.deep [.sl uJ]) [.at 5], .rsl (.at 6) qJ (.at 7)] ++ nmH g 1, news := [.V, .L, .V, .L, .V, .L, .I, .I], pre := fun l => xC (arg l 1), post := fun l => (arg l 3).toL = (Lt.parse (tx (arg l 0).toS)).1.locs.map bD ∧ kQ (arg l 5).toL (Lt.parse (tx (arg l 0).toS)).1.threads ∧ (arg l 7).toL = (Lt.parse (tx (arg l 0).toS)).1.asks.map jC ∧ (arg l 8).toI = (Lt.parse (tx (arg l 0).toS)).2.1 ∧ (arg l 9).toI = (Lt.parse (tx (arg l 0).toS)).2.2 }
def dN.I0 : LD → Prop := fun l => 0 ≤ (arg l 2).toI ∧ (arg l 2).toI ≤ (Lx.lines (tx (arg l 0).toS)).1.length ∧ ∃ d, dP l 3 d ∧ iF d ≤ 3000 * (arg l 2).toI.toNat ∧ yJ d ∧ Lt.jQ Lt.bI.zero (Lx.lines (tx (arg l 0).toS)).1 = Lt.jQ d ((Lx.lines (tx (arg l 0).toS)).1.drop (arg l 2).toI.toNat)
def dN.I0M : LD → Nat := fun l => ((Lx.lines (tx (arg l 0).toS)).1.length - (arg l 2).toI).toNat
end Go.Vc
namespace Go.Vc
open Go.Sort Go.Proofs
theorem bF1 {α : Type} [Inhabited α] (lt : α → α → Bool) (b : Nat) : ∀ (f i : Nat) (d : Array α), b ≤ i + f → Lt.aG0 lt b f i d = insOuter lt 0 b i d
 | 0, i, d, h => by
  unfold insOuter
  rw [if_neg (by omega)]
  rfl
 | f + 1, i, d, h => by
  unfold insOuter
  simp only [Lt.aG0]
  split
  ·exact bF1 lt b f (i + 1) _ (by omega)
  ·rfl
theorem bN4 {α : Type} [Inhabited α] (lt : α → α → Bool) (l : List α) : (pdq lt l.toArray 0 l.length (Lib.bitLen l.length) true true).toList = Lt.jA lt l := by
 unfold Lt.jA
 split
 ·rename_i h
  unfold pdq
  rw [if_pos (by omega)]
  unfold insertionSort
  rw [bF1 lt l.length l.length 1 _ (by omega)]
 ·rfl
theorem bN5 {α : Type} [Inhabited α] {lt : α → α → Bool} (h : SWO lt) (l : List α) : (Lt.jA lt l).Perm l := by
 have h1 := (pdq_sorts lt h l.toArray 0 l.length (Lib.bitLen l.length) true true (Nat.zero_le _) (by simp) (Or.inl rfl)).1
 obtain ⟨h1, _, h2⟩ := h1
 rw [← bN4]
 have e1 : ∀ d : Array α, d.size = l.length → (d.extract 0 l.length).toList = d.toList := by
  intro d hd
  rw [← hd, Array.extract_size]
 rw [e1 _ (by simpa using h1), e1 _ (by simp)] at h2
 exact h2
theorem bD2 {α : Type} [Inhabited α] {enc : α → List Value} {k : Nat} (hk : ∀ x, (enc x).length = k) (d : Array α) : (Go.Sort.flatK enc k d).toList = d.toList.flatMap enc := by
 have key : ∀ (l : List α) (n : Nat), l.length = n → (List.range (n * k)).map (fun t => (enc (l.toArray[t / k]!))[t % k]!) = l.flatMap enc := by
  intro l
  induction l with
  | nil => intro n hn; subst hn; simp
  | cons x r ih =>
   intro n hn
   subst hn
   rw [List.flatMap_cons, ← ih r.length rfl, List.length_cons, Nat.add_mul, Nat.one_mul, Nat.add_comm, List.range_add, List.map_append, List.map_map]
   rcases Nat.eq_zero_or_pos k with h0 | h0
   ·subst h0
    have := hk x
    rw [List.eq_nil_of_length_eq_zero this]
    simp
   congr 1
   ·apply List.ext_getElem?
    intro i
    by_cases hi : i < k
    ·have h2 : i < (enc x).length := by rw [hk]; exact hi
     simp [hi, Nat.div_eq_of_lt hi, Nat.mod_eq_of_lt hi, h2]
    ·rw [List.getElem?_eq_none (by simp; omega), List.getElem?_eq_none (by rw [hk]; omega)]
   ·apply List.map_congr_left
    intro t _
    have e1 : (k + t) / k = t / k + 1 := by rw [Nat.add_comm, Nat.add_div_right _ h0]
    have e2 : (k + t) % k = t % k := by simp
    simp only [Function.comp, e1, e2]
    congr 2
    simp [getElem!_def]
 have := key d.toList d.size (by simp)
 rw [← this]
 unfold Go.Sort.flatK
 simp
theorem cE3 {F c : Array Value} (h : F.size ≤ c.size) : (Go.Sort.putCells id 0 F c).toList = F.toList ++ c.toList.drop F.size := by
 unfold Go.Sort.putCells
 apply List.ext_getElem?
 intro i
 rw [List.getElem?_append]
 by_cases hi : i < F.size
 ·have hc : i < c.size := by omega
  simp [hi, hc]
 ·by_cases hc : i < c.size
  ·have e : F.size + (i - F.size) = i := by omega
   simp [hi, hc, e]
  ·have e : c.size ≤ F.size + (i - F.size) := by omega
   simp [hi, hc, e]
theorem cD7 {α : Type} {enc : α → List Value} {w : World} {b m k : Nat} {cur : Array Value} {e : TypeId} {fz : Nat × Nat} [Inhabited α] (hk : ∀ x, (enc x).length = k) {d : Array α}
  (h1 : w.heap[b]? = some (.cells cur e fz)) (h2 : gV fz cur.size) (h3 : d.size = m) (h4 : m * k ≤ cur.size) (h5 : cur.toList.take (m * k) = d.toList.flatMap enc) : HoldsK enc k w b 0 d := by
 intro j hj
 rw [size_flatK, h3] at hj
 have hc : cur[j]? = some (Go.Sort.flatK enc k d)[j]! := by
  have e1 : (cur.toList.take (m * k))[j]? = cur[j]? := by rw [List.getElem?_take_of_lt hj, Array.getElem?_toList]
  rw [← e1, h5, ← bD2 hk, Array.getElem?_toList]
  have : j < (Go.Sort.flatK enc k d).size := by rw [size_flatK, h3]; exact hj
  rw [getElem!_pos _ j this, Array.getElem?_eq_getElem this]
 refine ⟨?_, ?_⟩
 ·rw [Nat.zero_add]
  show w.cell? ⟨b, j, none⟩ = some (Go.Sort.flatK enc k d)[j]!
  simp only [World.cell?, h1]
  simpa using hc
 ·rw [Nat.zero_add]
  have := h2 j (by omega)
  simp only [World.frozen?, h1]
  simp
  omega
def aK5 (ek : EK) (g : FuncId) (pre post : LD → Prop) : Sig :=
 { args := [slv 0, .one (.lf (.fn g))], heap := [.osl (.at 0) ek (.at 1)], aB := [.V, .L], res := .tup [], heap' := [.osl (.at 0) ek (.at 2)], news := [.L], pre := pre, post := post }
theorem bG3 {α : Type} [Inhabited α] {P : Program} {G : List Glob} {f g : FuncId} {fn : Func} {ek : EK} {k : Nat} {enc : α → List Value} {row : α → D} {ok : α → Prop} {lt : α → α → Bool} {pre post : LD → Prop}
  (hf : P.funcs[f]? = some fn) (hn : (fn.name == "runtime.NumGoroutine") = false) (hb : fn.body.isSome = true)
  (hw : ek.width = k) (k1 : k ≠ 1) (he1 : ∀ d, EK.len ek d = d.toL.length) (he2 : ∀ d, EK.cells ek d = d.toL.flatMap fun r => eU ek r.toL) (he3 : ∀ d, EK.ok ek d ↔ ∀ r ∈ d.toL, fG ek r.toL)
  (hk : ∀ x, (enc x).length = k) (henc : ∀ x, ok x → fG ek (row x).toL → eU ek (row x).toL = enc x) (hS : SWO lt)
  (hpre : ∀ v L, pre [v, .L L] → L.length ≤ 1000000000 ∧ ∃ q : List α, L = q.map row ∧ ∀ x ∈ q, ok x)
  (hpost : ∀ v (q : List α), pre [v, .L (q.map row)] → post [v, .L (q.map row), .L ((Lt.jA lt q).map row)])
  (run : ∀ (b cap : Nat) (d : Array α) (w : World), HoldsK enc k w b 0 d → b < w.heap.size → d.size < 4611686018427387904 →
   Calls P f #[.slice (some ⟨b, 0, none⟩) d.size cap, .func (.func g) #[] #[]] w fun e w' => e = .returned (.tuple #[]) ∧ ∃ n os, w' = sortWorldK enc k w b 0 n (pdq lt d 0 d.size (Lib.bitLen d.size) true true) os)
  (none : ∀ (cap : Nat) (fv : Value) (w : World), Calls P f #[.slice none 0 cap, fv] w fun e w' => e = .returned (.tuple #[]) ∧ w' = w) : Kept P G f (aK5 ek g pre post) := by
 obtain ⟨bd, hb⟩ := Option.isSome_iff_exists.1 hb
 refine ⟨?_, fn, bd, hf, hn, hb⟩
 intro w args ρ hsr hp ha hh hg
 have hsr : bY [.V, .L] ρ := hsr
 match ρ, hsr with
 | [d0, d1], hsr =>
  obtain ⟨⟨v, rfl⟩, ⟨L, rfl⟩, _⟩ := hsr
  obtain ⟨v0, r0, e0, h0, v1, r1, e1, h1, e2⟩ := ha
  have h0 : v0 = v := h0
  have h1 : v1 = .func (.func g) #[] #[] := h1
  have e2 : r1 = [] := e2
  subst h0 h1 e2 e1
  have ea : args = #[v0, .func (.func g) #[] #[]] := Array.toList_inj.1 e0
  subst ea
  obtain ⟨hL, q, rfl, hok⟩ := hpre _ _ hp
  obtain ⟨hown, hck⟩ : fE w v0 ek.width (ek.len (.L (q.map row))) (ek.cells (.L (q.map row))) ∧ ek.ok (.L (q.map row)) := hh.holds _ (.head _)
  rw [he3] at hck
  have hcells : ∀ l : List α, (∀ x ∈ l, x ∈ q) → ek.cells (.L (l.map row)) = l.flatMap enc := by
   intro l hl
   rw [he2]
   simp only [D.toL_L]
   rw [List.flatMap_map]
   induction l with
   | nil => rfl
   | cons x r ih =>
    rw [List.flatMap_cons, List.flatMap_cons, ih (fun y hy => hl y (List.mem_cons_of_mem _ hy)), henc x (hok x (hl x List.mem_cons_self)) (hck _ (List.mem_map_of_mem (hl x List.mem_cons_self)))]
  rw [he1, hcells q (fun _ h => h), hw] at hown
  have hlen : (D.L (q.map row)).toL.length = q.length := by simp
  rw [hlen] at hown
  have hperm := bN5 hS q
  have hok' : ek.ok (.L ((Lt.jA lt q).map row)) := by
   rw [he3]
   intro r hr
   obtain ⟨x, hx, rfl⟩ := List.mem_map.1 hr
   exact hck _ (List.mem_map_of_mem (hperm.subset hx))
  have hcells' := hcells (Lt.jA lt q) (fun x hx => hperm.subset hx)
  have hfin : ∀ w', eY w (owns [.V v0, .L (q.map row)] [.osl (.at 0) ek (.at 1)]) w' → fE w' v0 k q.length ((Lt.jA lt q).flatMap enc) →
    ∃ u, Ending.returned (.tuple #[]) = .returned u ∧ (Fit post (aK5 ek g pre post).toSigR [.V v0, .L (q.map row)] w u w' ∨ ∃ r, (aK5 ek g pre post).second = some r ∧ Fit (aK5 ek g pre post).post2 r [.V v0, .L (q.map row)] w u w') := by
   intro w' hfr ho
   refine ⟨_, rfl, .inl ⟨[.L ((Lt.jA lt q).map row)], ⟨⟨_, rfl⟩, trivial⟩, hpost _ _ hp, ⟨#[], rfl, rfl⟩, ?_, ?_, ?_, hfr⟩⟩
   ·show aN _ [Ch.osl (.at 0) ek (.at 2)] w'
    refine (qP rfl).2 ⟨⟨?_, hok'⟩, bE6, fun x _ => ⟨by simp [owns], by simp [ros]⟩, fun x hx => by cases hx⟩
    show fE w' v0 ek.width (ek.len (.L ((Lt.jA lt q).map row))) (ek.cells (.L ((Lt.jA lt q).map row)))
    rw [he1, hcells', hw]
    have : (D.L ((Lt.jA lt q).map row)).toL.length = q.length := by simp [hperm.length_eq]
    rw [this]
    exact ho
   ·intro x hx; exact .inl hx
   ·intro x hx; cases hx
  rcases hown with ⟨rfl, hq, _⟩ | ⟨b, cap, cur, e, fz, rfl, c1, c2, c3, c4, c5, c6, c7⟩
  ·have hq : q = [] := List.eq_nil_of_length_eq_zero hq
   subst hq
   refine (none 0 _ w).mono ?_
   rintro x w' ⟨rfl, rfl⟩
   exact hfin _ ⟨rfl, rfl, rfl, Nat.le_refl _, fun _ _ _ => rfl⟩ (.inl ⟨rfl, rfl, by rw [List.eq_nil_of_length_eq_zero hperm.length_eq]; rfl⟩)
  ·rw [if_neg k1] at c2
   have hmk : q.length * k ≤ cur.size := by rw [c5]; exact Nat.mul_le_mul_right k c3
   have hqs : q.toArray.size = q.length := by simp
   have hr := run b cap q.toArray w (cD7 (m := q.length) hk c1 (fun j hj => c2 j (by omega)) hqs hmk (by rw [c7])) (Array.getElem?_eq_some_iff.1 c1).1 (by simp at hL; rw [hqs]; omega)
   rw [hqs] at hr
   refine hr.mono ?_
   rintro x w' ⟨rfl, n, os, rfl⟩
   have hbs : b < w.heap.size := (Array.getElem?_eq_some_iff.1 c1).1
   have hsrt := bN4 lt q
   generalize pdq lt q.toArray 0 q.length (Lib.bitLen q.length) true true = d' at hsrt
   have hfl : (Go.Sort.flatK enc k d').toList = (Lt.jA lt q).flatMap enc := by rw [bD2 hk, hsrt]
   have hds : d'.size = q.length := by rw [← Array.length_toList, hsrt, hperm.length_eq]
   have hheap : (sortWorldK enc k w b 0 n d' os).heap = (w.heap.modify b (onCells (Go.Sort.putCells id 0 (Go.Sort.flatK enc k d')))) ++ os := rfl
   have hat : (sortWorldK enc k w b 0 n d' os).heap[b]? = some (.cells (Go.Sort.putCells id 0 (Go.Sort.flatK enc k d') cur) e fz) := by
    rw [hheap, Array.getElem?_append_left (by simpa using hbs), Array.getElem?_modify]
    simp [c1, onCells]
   refine hfin _ ⟨rfl, rfl, rfl, by rw [hheap]; simp, fun x hx hne => ?_⟩ (.inr ⟨b, cap, _, e, fz, rfl, hat, ?_, c3, c4, ?_, ?_, ?_⟩)
   ·have hne : x ≠ b := fun h => hne (by subst h; show x ∈ [x]; simp)
    rw [hheap, Array.getElem?_append_left (by simpa using hx), Array.getElem?_modify, if_neg (Ne.symm hne)]
   ·rw [if_neg k1]; simpa [Go.Sort.putCells] using c2
   ·simpa [Go.Sort.putCells] using c5
   ·rw [← hfl]; simp [hds]
   ·rw [cE3 (by rw [size_flatK, hds]; exact hmk), ← hfl]
    have : (Go.Sort.flatK enc k d').toList.length = q.length * k := by simp [hds]
    rw [← this, List.take_left]
end Go.Vc
namespace Go.Vc
open Go.Sort Go.Proofs
theorem aY1 : SWO Lt.nY where
 irrefl x := by unfold Lt.nY; rw [bytesLess_eq]; simpa using List.lt_irrefl x
 trans x y z h1 h2 := by
  unfold Lt.nY at *
  rw [bytesLess_eq] at *
  simp only [decide_eq_true_eq] at *
  exact List.lt_trans h1 h2
 ntrans x y z h1 h2 := by
  unfold Lt.nY at *
  rw [bytesLess_eq] at *
  simp only [decide_eq_false_iff_not, List.not_lt] at *
  exact List.le_trans h2 h1
theorem aY0 : SWO Lt.ltL where
 irrefl x := aY1.irrefl _
 trans x y z := aY1.trans _ _ _
 ntrans x y z := aY1.ntrans _ _ _
theorem wC (i : Int) : -1 ≤ Lt.bQ i := by unfold Lt.bQ; omega
theorem swoA : SWO Lt.ltA where
 irrefl x := by simp [Lt.ltA, Lt.before]
 trans x y z := by
  have b1 := wC x.1; have b2 := wC y.1; have b3 := wC z.1
  simp only [Lt.ltA, Lt.before]
  split <;> split <;> split <;> simp <;> omega
 ntrans x y z := by
  have b1 := wC x.1; have b2 := wC y.1; have b3 := wC z.1
  simp only [Lt.ltA, Lt.before]
  split <;> split <;> split <;> simp <;> omega
theorem hasU (v : Int) : IntKind.u64.has v ↔ 0 ≤ v ∧ v < 18446744073709551616 := by
 simp only [IntKind.has, IntKind.min, IntKind.max, IntKind.signed, IntKind.bits]
 constructor <;> rintro ⟨h1, h2⟩ <;> constructor <;> simp at * <;> omega
def pR (n : Nat) : Int := ((n % 18446744073709551616 : Nat) : Int)
def lS (x : Tx × Nat) : List Value := [.string (bx (Lt.oO x.1)), .int .u64 (pR x.2)]
def lQ (x : Int × Int × Nat) : List Value := [.int .i64 (Lt.bQ x.1), .int .i64 (Lt.bQ x.2.1), .int .u64 (pR x.2.2)]
def cfL (x y : Tx × Nat) : Int := if Lt.ltL x y then -1 else 1
def cfA (x y : Int × Int × Nat) : Int := if Lt.bQ x.1 = Lt.bQ y.1 then Lt.bQ x.2.1 - Lt.bQ y.2.1 else if Lt.ltA x y then -1 else 1
theorem bT7 (x y : Tx × Nat) : decide (cfL x y < 0) = Lt.ltL x y := by
 unfold cfL; cases Lt.ltL x y <;> decide
theorem bT6 (x y : Int × Int × Nat) : decide (cfA x y < 0) = Lt.ltA x y := by
 unfold cfA Lt.ltA Lt.before
 split
 ·rename_i h
  simp only [h, ne_eq, not_true_eq_false, ↓reduceIte]
  congr 1
  exact propext ⟨fun h => by omega, fun h => by omega⟩
 ·rename_i h
  simp only [h, ne_eq, not_false_eq_true, ↓reduceIte]
  cases (decide (Lt.bQ y.1 < 0) || (decide (0 ≤ Lt.bQ x.1) && decide (Lt.bQ x.1 < Lt.bQ y.1))) <;> decide
theorem bV4 (x : Tx × Nat) (h : fG initK (bD x).toL) : eU initK (bD x).toL = lS x := by
 obtain ⟨h1, h2, _⟩ := h
 have h1 : ((bx x.1).size : Int) ≤ 9223372036854775807 := h1
 have h2 : IntKind.u64.has (x.2 : Int) := h2
 have e1 : Lt.oO x.1 = x.1 := by
  unfold Lt.oO
  rw [if_pos]
  simp only [bx, ByteArray.size, List.size_toArray] at h1
  omega
 have e2 : x.2 % 18446744073709551616 = x.2 := by
  have : (x.2 : Int) < 18446744073709551616 := by have := (hasU _).1 h2; omega
  omega
 show [Value.string (bx x.1), .int .u64 (x.2 : Int)] = lS x
 unfold lS pR
 rw [e1, e2]
theorem bV3 (x : Int × Int × Nat) (ho : -1 ≤ x.1 ∧ x.1 ≤ 1000000000 ∧ 0 ≤ x.2.1 ∧ x.2.1 ≤ 1000000000) (h : fG qJ (jC x).toL) : eU qJ (jC x).toL = lQ x := by
 obtain ⟨_, _, h2, _⟩ := h
 have h2 : IntKind.u64.has (x.2.2 : Int) := h2
 have e2 : x.2.2 % 18446744073709551616 = x.2.2 := by
  have : (x.2.2 : Int) < 18446744073709551616 := by have := (hasU _).1 h2; omega
  omega
 have e0 : Lt.bQ x.1 = x.1 := by unfold Lt.bQ; omega
 have e1 : Lt.bQ x.2.1 = x.2.1 := by unfold Lt.bQ; omega
 show [Value.int .i64 x.1, .int .i64 x.2.1, .int .u64 (x.2.2 : Int)] = lQ x
 unfold lQ pR
 rw [e0, e1, e2]
theorem cA3 : ∀ {a b : List (Tx × Nat)}, a.map bD = b.map bD → a = b := by
 intro a b h
 refine List.map_inj_right (fun x y hxy => ?_) |>.1 h
 simp only [bD, D.L.injEq, List.cons.injEq, D.S.injEq, D.I.injEq, and_true] at hxy
 exact Prod.ext (bA5 hxy.1) (by omega)
theorem bR5 : ∀ {a b : List (Int × Int × Nat)}, a.map jC = b.map jC → a = b := by
 intro a b h
 refine List.map_inj_right (fun x y hxy => ?_) |>.1 h
 simp only [jC, D.L.injEq, List.cons.injEq, D.I.injEq, and_true] at hxy
 exact Prod.ext hxy.1 (Prod.ext hxy.2.1 (by omega))
theorem bZ0 {P : Program} {G : List Glob} {f g : FuncId} {fn : Func} (hf : P.funcs[f]? = some fn) (hn : (fn.name == "runtime.NumGoroutine") = false) (hb : fn.body.isSome = true)
  (run : ∀ (b cap : Nat) (d : Array (Tx × Nat)) (w : World), HoldsK lS 2 w b 0 d → b < w.heap.size → d.size < 4611686018427387904 →
   Calls P f #[.slice (some ⟨b, 0, none⟩) d.size cap, .func (.func g) #[] #[]] w fun e w' => e = .returned (.tuple #[]) ∧ ∃ n os, w' = sortWorldK lS 2 w b 0 n (pdq Lt.ltL d 0 d.size (Lib.bitLen d.size) true true) os)
  (none : ∀ (cap : Nat) (fv : Value) (w : World), Calls P f #[.slice none 0 cap, fv] w fun e w' => e = .returned (.tuple #[]) ∧ w' = w) : Kept P G f (aB2.sig g) :=
 bG3 (ek := initK) (row := bD) (ok := fun _ => True) hf hn hb rfl (by decide) (fun _ => rfl) (fun _ => rfl) (fun _ => Iff.rfl) (fun _ => rfl) (fun x _ h => bV4 x h) aY0
  (fun v L h => ⟨h.1, h.2.imp fun q hq => ⟨hq, fun _ _ => trivial⟩⟩)
  (fun v q h => ⟨by show ((Lt.jA Lt.ltL q).map bD).length = (q.map bD).length
                    rw [List.length_map, List.length_map, (bN5 aY0 q).length_eq], fun q' hq => by
   have : q = q' := cA3 hq
   subst this; rfl⟩) run none
theorem bY9 {P : Program} {G : List Glob} {f g : FuncId} {fn : Func} (hf : P.funcs[f]? = some fn) (hn : (fn.name == "runtime.NumGoroutine") = false) (hb : fn.body.isSome = true)
  (run : ∀ (b cap : Nat) (d : Array (Int × Int × Nat)) (w : World), HoldsK lQ 3 w b 0 d → b < w.heap.size → d.size < 4611686018427387904 →
   Calls P f #[.slice (some ⟨b, 0, none⟩) d.size cap, .func (.func g) #[] #[]] w fun e w' => e = .returned (.tuple #[]) ∧ ∃ n os, w' = sortWorldK lQ 3 w b 0 n (pdq Lt.ltA d 0 d.size (Lib.bitLen d.size) true true) os)
  (none : ∀ (cap : Nat) (fv : Value) (w : World), Calls P f #[.slice none 0 cap, fv] w fun e w' => e = .returned (.tuple #[]) ∧ w' = w) : Kept P G f (aB1.sig g) :=
 bG3 (ek := qJ) (row := jC) (ok := fun x => -1 ≤ x.1 ∧ x.1 ≤ 1000000000 ∧ 0 ≤ x.2.1 ∧ x.2.1 ≤ 1000000000) hf hn hb rfl (by decide) (fun _ => rfl) (fun _ => rfl) (fun _ => Iff.rfl) (fun _ => rfl) (fun x => bV3 x) swoA
  (fun v L h => h) (fun v q h q' hq _ => by
   have : q = q' := bR5 hq
   subst this; rfl) run none
theorem bY7 {P : Program} {G : List Glob} {f : FuncId} {fn : Func} (hf : P.funcs[f]? = some fn) (hn : (fn.name == "runtime.NumGoroutine") = false) (hb : fn.body.isSome = true) {t : TypeId}
  (run : ∀ (b n c : Nat) (news : List Value) (w : World), news.length = n * 2 → n ≤ maxLen → n * 24 ≤ 140737488355328 → (∀ j u, news[j]? = some u → w.cell? ⟨b, 0 + j, none⟩ = some u) → (∀ u ∈ news, u.oneCell' = true) →
   Calls P f #[.slice (some ⟨b, 0, none⟩) n c] w fun e w' => ∃ v', e = .returned v' ∧ w'.ownsRow w.heap.size t 2 v' n news ∧ v' ≠ .slice none 0 0 ∧ Go.RowKit.Below w.heap.size w w')
  (none : ∀ (n c : Nat) (w : World), Calls P f #[.slice none n c] w fun e w' => e = .returned (.slice none 0 0) ∧ w' = w) : Kept P G f qX.sig := by
 obtain ⟨bd, hb⟩ := Option.isSome_iff_exists.1 hb
 refine ⟨?_, fn, bd, hf, hn, hb⟩
 intro w args ρ hsr hp ha hh hg
 have hsr : bY [.V, .L] ρ := hsr
 match ρ, hsr with
 | [d0, d1], hsr =>
  obtain ⟨⟨v, rfl⟩, ⟨L, rfl⟩, _⟩ := hsr
  obtain ⟨v0, r0, e0, h0, e1⟩ := ha
  have h0 : v0 = v := h0
  have e1 : r0 = [] := e1
  subst h0 e1
  have ea : args = #[v0] := Array.toList_inj.1 e0
  subst ea
  have hL : L.length ≤ 1000000000 := hp
  obtain ⟨hown, hck⟩ : fE w v0 2 L.length (EK.cells initK (.L L)) ∧ EK.ok initK (.L L) := hh.holds _ (.head _)
  have hone : ∀ u ∈ EK.cells initK (.L L), u.oneCell' = true := by
   intro u hu
   obtain ⟨r, hr, hu⟩ := List.mem_flatMap.1 (show u ∈ L.flatMap fun r => eU initK r.toL from hu)
   have hok : fG initK r.toL := hck r hr
   match r.toL, hok, hu with
   | [a, b], _, hu =>
    rcases List.mem_cons.1 (show u ∈ [Value.string a.toS, .int .u64 b.toI] from hu) with rfl | hu
    ·rfl
    ·rcases List.mem_singleton.1 hu with rfl; rfl
   | [], h, _ => exact h.elim
   | [_], h, _ => exact h.2.elim
   | _ :: _ :: _ :: _, h, _ => exact h.2.2.elim
  have hfin : ∀ w' v', fE w' v' 2 L.length (EK.cells initK (.L L)) → (∀ x, v'.ownBlock = some x → w.heap.size ≤ x) → Go.RowKit.Below w.heap.size w w' →
    ∃ u, Ending.returned v' = .returned u ∧ (Fit qX.sig.post qX.sig.toSigR [.V v0, .L L] w u w' ∨ ∃ r, qX.sig.second = some r ∧ Fit qX.sig.post2 r [.V v0, .L L] w u w') := by
   intro w' v' ho hnew hbel
   have hlt : ∀ x, v0.ownBlock = some x → x < w.heap.size := fun x hx => hh.dZ (by
    refine kM.2 ⟨Ch.osl (.at 0) initK (.at 1), .head _, ?_⟩
    exact hx)
   refine ⟨_, rfl, .inl ⟨[.V v', .L L], ⟨⟨_, rfl⟩, ⟨_, rfl⟩, trivial⟩, rfl, rfl, ?_, ?_, ?_, ⟨hbel.os, hbel.tape, hbel.output, hbel.size, fun x hx _ => hbel.block x hx⟩⟩⟩
   ·have hold := hh.congr (fun x hx => hbel.block x (hx.elim hh.dZ hh.jM)) hbel.size
    have h1 : fE w' v0 2 L.length (EK.cells initK (.L L)) ∧ EK.ok initK (.L L) := hold.holds _ (.head _)
    show aN [.V v0, .L L, .V v', .L L] [Ch.osl (.at 0) initK (.at 1), .osl (.at 2) initK (.at 3)] w'
    refine (qP rfl).2 ⟨h1, (qP rfl).2 ⟨⟨ho, hck⟩, bE6, fun x _ => ⟨by simp [owns], by simp [ros]⟩, fun x hx => by cases hx⟩, fun x hx => ⟨fun hm => ?_, fun hm => ?_⟩, fun x hx => by cases hx⟩
    ·rcases gW.1 hm with hm | hm
     ·have := hnew x hm
      have := hlt x hx
      omega
     ·simp [owns] at hm
    ·rcases jO.1 hm with hm | hm
     ·cases hm
     ·simp [ros] at hm
   ·intro x hx
    rcases gW.1 hx with hx | hx
    ·exact .inl (kM.2 ⟨Ch.osl (.at 0) initK (.at 1), .head _, hx⟩)
    ·rcases gW.1 hx with hx | hx
     ·exact .inr (hnew x hx)
     ·simp [owns] at hx
   ·intro x hx
    rcases jO.1 hx with hx | hx
    ·cases hx
    ·rcases jO.1 hx with hx | hx
     ·cases hx
     ·simp [ros] at hx
  rcases hown with ⟨rfl, hq, hx⟩ | ⟨b, cap, cur, e, fz, rfl, c1, c2, c3, c4, c5, c6, c7⟩
  ·refine (none 0 0 w).mono ?_
   rintro x w' ⟨rfl, rfl⟩
   exact hfin w' _ (.inl ⟨rfl, hq, hx⟩) (fun x hx => by cases hx) (Go.RowKit.Below.refl _ _)
  ·have h2 : (1000000000 : Nat) ≤ maxLen := by decide
   refine (run b L.length cap _ w c6 (by omega) (by omega) ?_ hone).mono ?_
   ·intro j u hj
    rw [Nat.zero_add]
    have hjl : j < L.length * 2 := by rw [← c6]; exact (List.getElem?_eq_some_iff.1 hj).1
    rw [← c7, List.getElem?_take_of_lt hjl, Array.getElem?_toList] at hj
    simp only [World.cell?, c1]
    simpa using hj
   ·rintro x w' ⟨v', rfl, hrow, _, hbel⟩
    obtain ⟨hl, ⟨rfl, h0⟩ | ⟨g, cp, cu, rfl, g1, g2, g3, g4, g5, g6⟩⟩ := hrow
    ·exact hfin w' _ (.inl ⟨rfl, h0, List.eq_nil_of_length_eq_zero (by rw [c6, h0])⟩) (fun x hx => by cases hx) hbel
    ·exact hfin w' _ (.inr ⟨g, cp, cu, t, (0, 0), rfl, g2, fun j _ hj => by simp only at hj; omega, g3, g4, g5, hl, g6⟩) (fun x hx => by cases hx; exact g1) hbel
theorem bC4 (x : Tx × Nat) : (lS x).toArray = #[.string (bx (Lt.oO x.1)), .int .u64 (pR x.2)] := rfl
theorem bC3 (x : Int × Int × Nat) : (lQ x).toArray = #[.int .i64 (Lt.bQ x.1), .int .i64 (Lt.bQ x.2.1), .int .u64 (pR x.2.2)] := rfl
theorem bV2 (x : Tx × Nat) : ∀ v ∈ lS x, v.oneCell' = true := by
 intro v hv; simp only [lS, List.mem_cons, List.not_mem_nil, or_false] at hv; rcases hv with rfl | rfl <;> rfl
theorem bV1 (x : Int × Int × Nat) : ∀ v ∈ lQ x, v.oneCell' = true := by
 intro v hv; simp only [lQ, List.mem_cons, List.not_mem_nil, or_false] at hv; rcases hv with rfl | rfl | rfl <;> rfl
theorem bT5 (x y : Int × Int × Nat) : cfA x y = if Lt.bQ x.1 = Lt.bQ y.1 then Lt.bQ x.2.1 - Lt.bQ y.2.1 else if Lt.bQ y.1 < 0 ∨ 0 ≤ Lt.bQ x.1 ∧ Lt.bQ x.1 < Lt.bQ y.1 then -1 else 1 := by
 unfold cfA Lt.ltA Lt.before
 split
 ·rfl
 ·rename_i h
  simp [h]
theorem aE2 (i : Int) : -1 ≤ Lt.bQ i ∧ Lt.bQ i ≤ 1000000000 := by unfold Lt.bQ; omega
end Go.Vc