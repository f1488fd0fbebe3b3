/-
 A text's lines of tokens, as a model in Lean.
 The lexer: contracts.
-/
import Derived.Test.YtfhmokjjjnjhjaaGreatDoorDska
import Derived.Test.YtfhmokjjjnjhjaaGreatDoorIxc
set_option linter.unusedVariables false
set_option linter.unusedSimpArgs false
open _root_.Go.IntKind (wrap)
namespace Go.Vc
namespace Lx
def small (c : UInt8) : Bool := decide (97 ≤ c.toNat) && decide (c.toNat ≤ 122)
def digit (c : UInt8) : Bool := decide (48 ≤ c.toNat) && decide (c.toNat ≤ 57)
def bP (c : UInt8) : Bool := small c || digit c
def val (c : UInt8) : Nat := if digit c then c.toNat - 48 else if 97 ≤ c.toNat ∧ c.toNat ≤ 102 then c.toNat - 87 else 99
def iJ (base : Nat) : Nat → Tx → Option Nat
 | n, [] => some n
 | n, c :: r => if val c < base ∧ n * base + val c < 18446744073709551616 then iJ base (n * base + val c) r else none
def num (s : Tx) : Option Nat :=
 match s with
 | 48 :: 120 :: r => if r = [] then none else iJ 16 0 r
 | _ => if s = [] then none else iJ 10 0 s
structure Tok where
 kind : Nat
 text : Tx
 n : Nat
 deriving DecidableEq, Repr
def next (s : Tx) : Option (Tok × Tx) :=
 match s with
 | [] => none
 | c :: r =>
  if small c then some (⟨1, (c :: r).takeWhile bP, 0⟩, (c :: r).dropWhile bP)
  else if digit c then (num ((c :: r).takeWhile bP)).map fun n => (⟨2, (c :: r).takeWhile bP, n⟩, (c :: r).dropWhile bP)
  else if c = 61 ∨ c = 58 then some (⟨3, [c], 0⟩, r)
  else none
def blank (c : UInt8) : Bool := c == 32 || c == 9
def eP : Nat → Tx → Option (List Tok)
 | 0, _ => none
 | f + 1, s => match s.dropWhile blank with
  | [] => some []
  | c :: r => match next (c :: r) with
   | none => none
   | some (t, s') => (eP f s').map (t :: ·)
def bare (s : Tx) : Tx := s.takeWhile (· ≠ 35)
def toks (s : Tx) : Option (List Tok) := eP (s.length + 1) (bare s)
def trim (l : Tx) : Tx := if l.getLast? = some 13 then l.dropLast else l
def gU : Nat → List Tx → Except Nat (List (Nat × List Tok))
 | _, [] => .ok []
 | n, l :: ls => match toks (trim l) with
  | none => .error n
  | some t => match gU (n + 1) ls with
   | .error k => .error k
   | .ok r => .ok (if t = [] then r else (n, t) :: r)
def lines (s : Tx) : List (Nat × List Tok) × Nat × Nat :=
 if 2000 < s.length then ([], 0, 17) else match gU 1 (aS s) with
 | .error k => ([], k, 10)
 | .ok r => (r, 0, 0)
theorem aU8 {s : Tx} {t : Tok} {s' : Tx} (h : next s = some (t, s')) : s'.length < s.length := by
 match s with
 | [] => simp [next] at h
 | c :: r =>
  have hd : ∀ {p : UInt8 → Bool} (l : Tx), (l.dropWhile p).length ≤ l.length := fun {p} l => by
   exact (List.dropWhile_sublist p).length_le
  simp only [next] at h
  split at h
  ·rename_i hc
   cases h
   rw [List.dropWhile_cons, if_pos (by simp [bP, hc])]
   have := hd (p := bP) r
   simp only [List.length_cons]; omega
  ·split at h
   ·rename_i hc
    cases hn : num ((c :: r).takeWhile bP) with
    | none => rw [hn] at h; cases h
    | some n =>
     rw [hn] at h
     cases h
     rw [List.dropWhile_cons, if_pos (by simp [bP, hc])]
     have := hd (p := bP) r
     simp only [List.length_cons]; omega
   ·split at h
    ·cases h; simp
    ·cases h
theorem bP3 : ∀ (f g : Nat) (s : Tx), s.length < f → s.length < g → eP f s = eP g s
 | 0, _, _, h, _ => absurd h (by omega)
 | _, 0, _, _, h => absurd h (by omega)
 | f + 1, g + 1, s, hf, hg => by
  have hd := (List.dropWhile_sublist (l := s) blank).length_le
  simp only [eP]
  split
  ·rfl
  ·rename_i c r he
   rw [he] at hd
   split
   ·rfl
   ·rename_i t s' hn
    have := aU8 hn
    rw [bP3 f g s' (by omega) (by omega)]
end Lx
end Go.Vc
namespace Go.Vc
def b8 (i : Int) : UInt8 := UInt8.ofNat i.toNat
def vP : EK := [.int .i64, .str, .int .u64]
def bZ7 : EK := [.int .i64, .sl vP]
def aV (t : Lx.Tok) : D := .L [.I t.kind, .S (bx t.text), .I t.n]
def cA1 (r : D) (m : Nat × List Lx.Tok) : Prop := ∃ v : Value, r = .L [.I m.1, .L [.V v, .L (m.2.map aV)]]
def rU : LD → List (Nat × List Lx.Tok) → Prop
 | [], [] => True
 | r :: L, m :: M => cA1 r m ∧ rU L M
 | _, _ => False
def xIdx.sig : Sig := eX [.s, .s] [.i .i64] (fun l => (arg l 1).toS.size = 1) fun l => (arg l 2).toI = Lib.indexByte (tx (arg l 0).toS) (b8 (byteAt (arg l 1).toS 0))
def nZ.sig : Sig := eX [.s, .s] [.s, .s, .b] (fun l => (arg l 1).toS = ⟨#[35]⟩) fun l => (arg l 2).toS = bx (Lx.bare (tx (arg l 0).toS))
def qA.sig : Sig := eX [.s, .s] [.s, .s, .b] (fun l => (arg l 1).toS = ⟨#[35]⟩) fun l => (arg l 2).toS = bx (Lx.bare (tx (arg l 0).toS))
def oG.sig : Sig := eX [.s, .s] [.b] (fun l => (arg l 1).toS = ⟨#[13]⟩) fun l => (arg l 2).toB = decide ((tx (arg l 0).toS).getLast? = some 13)
def oI.sig : Sig := eX [.s, .s] [.s] (fun l => (arg l 1).toS = ⟨#[13]⟩) fun l => (arg l 2).toS = bx (Lx.trim (tx (arg l 0).toS))
def qE.sig : Sig := eX [.s, .s] [.s] (fun l => (arg l 1).toS = ⟨#[13]⟩) fun l => (arg l 2).toS = bx (Lx.trim (tx (arg l 0).toS))
def vS.sig : Sig := eX [.s, .s] [.s] (fun l => (arg l 1).toS = ⟨#[32, 9]⟩) fun l => (arg l 2).toS = bx ((tx (arg l 0).toS).dropWhile Lx.blank)
def oD.sig : Sig := eX [.s, .s] [.b] (fun l => (arg l 1).toS = ⟨#[48, 120]⟩) fun l => (arg l 2).toB = decide ((tx (arg l 0).toS).take 2 = [48, 120])
def oC.sig : Sig := eX [.s, .s] [.s, .b] (fun l => (arg l 1).toS = ⟨#[48, 120]⟩) fun l => (arg l 3).toB = decide ((tx (arg l 0).toS).take 2 = [48, 120]) ∧ (arg l 2).toS = if (tx (arg l 0).toS).take 2 = [48, 120] then bx ((tx (arg l 0).toS).drop 2) else (arg l 0).toS
def qB.sig : Sig := eX [.s, .s] [.s, .b] (fun l => (arg l 1).toS = ⟨#[48, 120]⟩) fun l => (arg l 3).toB = decide ((tx (arg l 0).toS).take 2 = [48, 120]) ∧ (arg l 2).toS = if (tx (arg l 0).toS).take 2 = [48, 120] then bx ((tx (arg l 0).toS).drop 2) else (arg l 0).toS
def oH.sig (g : FuncId) : Sig := { args := [.one (.lf (.str (.at 0))), .one (.lf (.str (.at 1))), .one (.lf (.int .i64 (.at 2)))], heap := [], aB := [.S, .S, .I], res := .one (.lf (.clo g [] [.at 3, .at 4, .at 5])), heap' := [.box (.at 3) [.lf (.str (.at 1))], .box (.at 4) [.lf (.str (.at 0))], .box (.at 5) [.lf (.int .i64 (.at 2))]], news := [.N, .N, .N], pre := fun _ => True, post := fun _ => True }
def qC.sig (g : FuncId) : Sig := { args := [.one (.lf (.str (.at 0))), .one (.lf (.str (.at 1)))], heap := [], aB := [.S, .S], res := .one (.lf (.clo g [] [.at 2, .at 3, .at 4])), heap' := [.box (.at 2) [.lf (.str (.at 1))], .box (.at 3) [.lf (.str (.at 0))], .box (.at 4) [.lf (.int .i64 (.int 0))]], news := [.N, .N, .N], pre := fun _ => True, post := fun _ => True }
def lJ.sig : Sig := eX [.i .u8] [.b] (fun _ => True) fun l => (arg l 1).toB = Lx.small (b8 (arg l 0).toI)
def jS.sig : Sig := eX [.i .u8] [.b] (fun _ => True) fun l => (arg l 1).toB = Lx.digit (b8 (arg l 0).toI)
def dY.sig : Sig := eX [.s] [.i .i64] (fun l => (arg l 0).toS.size ≤ 1000000) fun l => (arg l 1).toI = ((tx (arg l 0).toS).takeWhile Lx.bP).length
def dY.I0 : LD → Prop := fun l => 0 ≤ (arg l 1).toI ∧ (arg l 1).toI ≤ (arg l 0).toS.size ∧ ∀ c ∈ (tx (arg l 0).toS).take (arg l 1).toI.toNat, Lx.bP c = true
def dY.I0M : LD → Nat := fun l => ((arg l 0).toS.size - (arg l 1).toI).toNat
def kG.sig : Sig := eX [.i .u8, .i .u64] [.i .u64, .b] (fun _ => True) fun l => (arg l 2).toI = Lx.val (b8 (arg l 0).toI) ∧ (arg l 3).toB = decide ((Lx.val (b8 (arg l 0).toI) : Int) < (arg l 1).toI)
def isNum (o : Option Nat) (n : Int) (ok : Bool) : Prop := match o with | some m => n = m ∧ ok = true | none => ok = false
def dO.sig : Sig := eX [.s] [.i .u64, .b] (fun l => (arg l 0).toS.size ≤ 1000000) fun l => isNum (Lx.num (tx (arg l 0).toS)) (arg l 1).toI (arg l 2).toB
def dH (s : Tx) : Nat × Tx := if s.take 2 = [48, 120] then (16, s.drop 2) else (10, s)
def dO.I0 : LD → Prop := fun l => 0 ≤ (arg l 2).toI ∧ (arg l 2).toI ≤ (dH (tx (arg l 0).toS)).2.length ∧ 0 ≤ (arg l 1).toI ∧ (arg l 1).toI < 18446744073709551616 ∧
 Lx.iJ (dH (tx (arg l 0).toS)).1 0 (dH (tx (arg l 0).toS)).2 = Lx.iJ (dH (tx (arg l 0).toS)).1 (arg l 1).toI.toNat ((dH (tx (arg l 0).toS)).2.drop (arg l 2).toI.toNat)
def dO.I0M : LD → Nat := fun l => ((arg l 0).toS.size - (arg l 2).toI).toNat
def jT.sig : Sig := { args := [.one (.lf (.str (.at 0)))], heap := [], aB := [.S], res := .tup [.agg [.lf (.int .i64 (.at 1)), .lf (.str (.at 2)), .lf (.int .u64 (.at 3))], .lf (.int .i64 (.at 4)), .lf (.bool (.at 5))], heap' := [], news := [.I, .S, .I, .I, .B],
                         pre := fun l => 0 < (arg l 0).toS.size ∧ (arg l 0).toS.size ≤ 1000000,
                         post := fun l => match Lx.next (tx (arg l 0).toS) with
                          | none => (arg l 5).toB = false
                          | some (t, r) => (arg l 5).toB = true ∧ (arg l 1).toI = t.kind ∧ (arg l 2).toS = bx t.text ∧ (arg l 3).toI = t.n ∧ 0 ≤ (arg l 4).toI ∧ (arg l 4).toI ≤ (arg l 0).toS.size ∧ r = (tx (arg l 0).toS).drop (arg l 4).toI.toNat }
def aG1 (o : Option (List Lx.Tok)) (L : LD) (ok : Bool) : Prop := match o with | some T => L = T.map aV ∧ ok = true | none => ok = false
def iR.sig : Sig := eX [.s] [.l vP, .b] (fun l => (arg l 0).toS.size ≤ 1000000) fun l => aG1 (Lx.toks (tx (arg l 0).toS)) (arg l 2).toL (arg l 3).toB
def iR.I0 : LD → Prop := fun l => ∃ T, (arg l 2).toL = T.map aV ∧ (tx (arg l 1).toS).dropWhile Lx.blank = tx (arg l 1).toS ∧ (arg l 2).toL.length + (arg l 1).toS.size ≤ (arg l 0).toS.size ∧
 Lx.toks (tx (arg l 0).toS) = (Lx.eP ((arg l 1).toS.size + 1) (tx (arg l 1).toS)).map (T ++ ·)
def iR.I0M : LD → Nat := fun l => (arg l 1).toS.size
def uK (s : Tx) (L : LD) (n e : Int) : Prop := rU L (Lx.lines s).1 ∧ n = (Lx.lines s).2.1 ∧ e = (Lx.lines s).2.2
def fU.sig : Sig := eX [.s] [.l bZ7, .i .i64, .i .i64] (fun _ => True) fun l => uK (tx (arg l 0).toS) (arg l 2).toL (arg l 3).toI (arg l 4).toI
def fU.I0 : LD → Prop := fun l => 0 ≤ (arg l 3).toI ∧ (arg l 3).toI ≤ (dG (arg l 0).toS).length ∧ (arg l 1).toI = (arg l 3).toI ∧ (arg l 2).toL.length ≤ (arg l 3).toI ∧
 ∃ M, Lx.gU 1 ((aS (tx (arg l 0).toS)).take (arg l 3).toI.toNat) = .ok M ∧ rU (arg l 2).toL M
def fU.I0M : LD → Nat := fun _ => 0
end Go.Vc