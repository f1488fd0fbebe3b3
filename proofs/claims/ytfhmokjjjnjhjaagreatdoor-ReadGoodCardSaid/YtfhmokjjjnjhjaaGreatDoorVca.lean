/-
 Reified symbolic states, what they say of a world, and verification conditions. Generic over the program.
 The generator of verification conditions: it runs a function's code over reified states.
 The generator, second part: operations, calls, control.
 The generator, third part: control.
-/
import Derived.Tactics
import Derived.Orders
import Derived.Below
import Derived.Laws.AppendOwn
import Derived.Laws.BitsAll
import Derived.Deep.LoopGhost
set_option linter.unusedVariables false
set_option linter.unusedSimpArgs false
open _root_.Go.IntKind (wrap)
namespace Go.Vc
inductive D where
 | I (n : Int) | B (x : Bool) | S (x : ByteArray) | Z (l : List Int) | L (l : List D) | N (n : Nat) | V (v : Value)
instance : Inhabited D := ⟨.I 0⟩
def D.toI : D → Int | .I n => n | _ => 0
def D.toB : D → Bool | .B x => x | _ => false
def D.toS : D → ByteArray | .S x => x | _ => ByteArray.empty
def D.aH : D → List Int | .Z l => l | _ => []
def D.toL : D → List D | .L l => l | _ => []
def D.toN : D → Nat | .N n => n | _ => 0
def D.toV : D → Value | .V v => v | _ => .bool false
@[simp] theorem D.toI_I (n : Int) : (D.I n).toI = n := rfl
@[simp] theorem D.toB_B (x : Bool) : (D.B x).toB = x := rfl
@[simp] theorem D.toS_S (x : ByteArray) : (D.S x).toS = x := rfl
@[simp] theorem D.toLi_Z (x : List Int) : (D.Z x).aH = x := rfl
@[simp] theorem D.toL_L (x : List D) : (D.L x).toL = x := rfl
@[simp] theorem D.toN_N (x : Nat) : (D.N x).toN = x := rfl
@[simp] theorem D.toV_V (x : Value) : (D.V x).toV = x := rfl
inductive O1 where
 | wrap (k : IntKind) | not | slen | lilen | llen | ofLi | aH | asI | asB | asS | asZ | asL | asV | asN | lines | hdr
 deriving DecidableEq
inductive O2 where
 | add (k : IntKind) | sub (k : IntKind) | mul (k : IntKind) | quo (k : IntKind) | rem
 | bits (o : BinOp) (k : IntKind) | shl (k : IntKind) | shr (k : IntKind)
 | lt | le | eq | eqb | eqs | lts | eqli | and | or | min | max
 | cat | byte | liget | lget | liapp | licons | lapp | lcons | litake | lidrop | ltake | ldrop | lirep | lrep
 | mget | mhas | mdel | nget | nhas
 deriving DecidableEq
inductive O3 where
 | ssub | liset | lset | mset | nset
 deriving DecidableEq
inductive Tm where
 | at (n : Nat) | int (n : Int) | bool (b : Bool) | str (s : ByteArray) | nat (n : Nat) | lis (l : List Int) | lnil
 | o1 (o : O1) (a : Tm) | o2 (o : O2) (a b : Tm) | o3 (o : O3) (a b c : Tm)
 deriving DecidableEq
instance : Inhabited Tm := ⟨.int 0⟩
def bytesOf (s : ByteArray) : List Int := s.data.toList.map fun b => (b.toNat : Int)
def textOf (l : List Int) : ByteArray := ⟨(l.map fun x => UInt8.ofNat x.toNat).toArray⟩
def aS : List UInt8 → List (List UInt8)
 | [] => [[]]
 | c :: r => if c = 10 then [] :: aS r else match aS r with
  | x :: xs => (c :: x) :: xs
  | [] => [[c]]
def dG (s : ByteArray) : List D := (aS s.data.toList).map fun l => .S ⟨l.toArray⟩
def byteAt (s : ByteArray) (i : Int) : Int := (s.data.toList.getD i.toNat 0).toNat
def D.key (r : D) : D := r.toL.getD 0 default
def D.snd (r : D) : D := r.toL.getD 1 default
def iO : D → D → Bool
 | .I a, .I b => a == b
 | .S a, .S b => a.toList == b.toList
 | .B a, .B b => a == b
 | .Z a, .Z b => a == b
 | .N a, .N b => a == b
 | _, _ => false
def vG (L : List D) (k : D) : D := (L.find? fun r => iO r.key k).getD default
def sK (L : List D) (k : D) : Bool := L.any fun r => iO r.key k
def qU : List D → D → D → List D
 | [], _, r => [r]
 | x :: L, k, r => if iO x.key k then r :: L else x :: qU L k r
def sJ : List D → D → List D
 | [], _ => []
 | x :: L, k => if iO x.key k then L else x :: sJ L k
def lZ (L : List D) (n : Nat) : D := (L.find? fun r => r.snd.toN == n).getD default
def qF (L : List D) (n : Nat) : Bool := L.any fun r => r.snd.toN == n
def qH : List D → Nat → D → List D
 | [], _, _ => []
 | x :: L, n, r => if x.snd.toN == n then r :: L else x :: qH L n r
def O1.den : O1 → D → D
 | .wrap k, a => .I (k.wrap a.toI)
 | .not, a => .B (!a.toB)
 | .slen, a => .I (a.toS.size : Int)
 | .lilen, a => .I (a.aH.length : Int)
 | .llen, a => .I (a.toL.length : Int)
 | .ofLi, a => .S (textOf a.aH)
 | .aH, a => .Z (bytesOf a.toS)
 | .asI, a => .I a.toI
 | .asB, a => .B a.toB
 | .asS, a => .S a.toS
 | .asZ, a => .Z a.aH
 | .asL, a => .L a.toL
 | .asV, a => .V a.toV
 | .asN, a => .N a.toN
 | .lines, a => .L (dG a.toS)
 | .hdr, a => .V (.slice (some ⟨a.toN, 0, none⟩) 1 1)
def O2.den : O2 → D → D → D
 | .add k, a, b => .I (k.wrap (a.toI + b.toI))
 | .sub k, a, b => .I (k.wrap (a.toI - b.toI))
 | .mul k, a, b => .I (k.wrap (a.toI * b.toI))
 | .quo k, a, b => .I (k.wrap (a.toI.tdiv b.toI))
 | .rem, a, b => .I (a.toI.tmod b.toI)
 | .bits o k, a, b => .I (Go.bits o k a.toI b.toI)
 | .shl k, a, b => .I (k.wrap (a.toI * 2 ^ (Nat.min b.toI.toNat k.bits)))
 | .shr k, a, b => .I (a.toI.fdiv (2 ^ (Nat.min b.toI.toNat k.bits)))
 | .lt, a, b => .B (decide (a.toI < b.toI))
 | .le, a, b => .B (decide (a.toI ≤ b.toI))
 | .eq, a, b => .B (a.toI == b.toI)
 | .eqb, a, b => .B (a.toB == b.toB)
 | .eqs, a, b => .B (a.toS.toList == b.toS.toList)
 | .lts, a, b => .B (Op.bytesLess a.toS.toList b.toS.toList)
 | .eqli, a, b => .B (a.aH == b.aH)
 | .and, a, b => .B (a.toB && b.toB)
 | .or, a, b => .B (a.toB || b.toB)
 | .min, a, b => .I (if b.toI < a.toI then b.toI else a.toI)
 | .max, a, b => .I (if b.toI > a.toI then b.toI else a.toI)
 | .cat, a, b => .S (a.toS ++ b.toS)
 | .byte, a, b => .I (byteAt a.toS b.toI)
 | .liget, a, b => .I (a.aH.getD b.toI.toNat 0)
 | .lget, a, b => a.toL.getD b.toI.toNat default
 | .liapp, a, b => .Z (a.aH ++ b.aH)
 | .licons, a, b => .Z (a.toI :: b.aH)
 | .lapp, a, b => .L (a.toL ++ b.toL)
 | .lcons, a, b => .L (a :: b.toL)
 | .litake, a, b => .Z (a.aH.take b.toI.toNat)
 | .lidrop, a, b => .Z (a.aH.drop b.toI.toNat)
 | .ltake, a, b => .L (a.toL.take b.toI.toNat)
 | .ldrop, a, b => .L (a.toL.drop b.toI.toNat)
 | .lirep, a, b => .Z (List.replicate a.toI.toNat b.toI)
 | .lrep, a, b => .L (List.replicate a.toI.toNat b)
 | .mget, a, b => vG a.toL b
 | .mhas, a, b => .B (sK a.toL b)
 | .mdel, a, b => .L (sJ a.toL b)
 | .nget, a, b => lZ a.toL b.toN
 | .nhas, a, b => .B (qF a.toL b.toN)
def O3.den : O3 → D → D → D → D
 | .ssub, a, b, c => .S (a.toS.extract b.toI.toNat c.toI.toNat)
 | .liset, a, b, c => .Z (a.aH.set b.toI.toNat c.toI)
 | .lset, a, b, c => .L (a.toL.set b.toI.toNat c)
 | .mset, a, b, c => .L (qU a.toL b c)
 | .nset, a, b, c => .L (qH a.toL b.toN c)
def Tm.den (ρ : List D) : Tm → D
 | .at n => ρ.getD n default
 | .int n => .I n
 | .bool b => .B b
 | .str s => .S s
 | .nat n => .N n
 | .lis l => .Z l
 | .lnil => .L []
 | .o1 o a => o.den (a.den ρ)
 | .o2 o a b => o.den (a.den ρ) (b.den ρ)
 | .o3 o a b c => o.den (a.den ρ) (b.den ρ) (c.den ρ)
def Tm.under (n : Nat) : Tm → Bool
 | .at i => decide (i < n)
 | .o1 _ a => a.under n
 | .o2 _ a b => a.under n && b.under n
 | .o3 _ a b c => a.under n && b.under n && c.under n
 | _ => true
def Tm.subst (n : Nat) (θ : List Tm) : Tm → Tm
 | .at i => if i < n then .at i else θ.getD (i - n) default
 | .o1 o a => .o1 o (a.subst n θ)
 | .o2 o a b => .o2 o (a.subst n θ) (b.subst n θ)
 | .o3 o a b c => .o3 o (a.subst n θ) (b.subst n θ) (c.subst n θ)
 | t => t
theorem Tm.bH {ρ : List D} {σ : List D} : ∀ {t : Tm}, t.under ρ.length = true → t.den (ρ ++ σ) = t.den ρ
 | .at i, h => by
  have h : i < ρ.length := by simpa [Tm.under] using h
  simp [Tm.den, List.getD, List.getElem?_append_left h]
 | .int _, _ => rfl
 | .bool _, _ => rfl
 | .str _, _ => rfl
 | .nat _, _ => rfl
 | .lis _, _ => rfl
 | .lnil, _ => rfl
 | .o1 o a, h => by simp only [Tm.den]; rw [Tm.bH (t := a) (by simpa [Tm.under] using h)]
 | .o2 o a b, h => by
  simp only [Tm.under, Bool.and_eq_true] at h
  simp only [Tm.den]; rw [Tm.bH (t := a) h.1, Tm.bH (t := b) h.2]
 | .o3 o a b c, h => by
  simp only [Tm.under, Bool.and_eq_true] at h
  simp only [Tm.den]; rw [Tm.bH (t := a) h.1.1, Tm.bH (t := b) h.1.2, Tm.bH (t := c) h.2]
theorem Tm.kF {n m : Nat} : ∀ {t : Tm}, t.under n = true → n ≤ m → t.under m = true
 | .at i, h, hm => by have h : i < n := by simpa [Tm.under] using h
                      simp only [Tm.under, decide_eq_true_eq]; omega
 | .int _, _, _ => rfl
 | .bool _, _, _ => rfl
 | .str _, _, _ => rfl
 | .nat _, _, _ => rfl
 | .lis _, _, _ => rfl
 | .lnil, _, _ => rfl
 | .o1 _ a, h, hm => Tm.kF (t := a) h hm
 | .o2 _ a b, h, hm => by
  simp only [Tm.under, Bool.and_eq_true] at h ⊢
  exact ⟨Tm.kF h.1 hm, Tm.kF h.2 hm⟩
 | .o3 _ a b c, h, hm => by
  simp only [Tm.under, Bool.and_eq_true] at h ⊢
  exact ⟨⟨Tm.kF h.1.1 hm, Tm.kF h.1.2 hm⟩, Tm.kF h.2 hm⟩
theorem Tm.nG {ρ : List D} {σ : List D} {θ : List Tm} : ∀ {t : Tm},
  (t.subst ρ.length θ).den (ρ ++ σ) = t.den (ρ ++ θ.map (Tm.den (ρ ++ σ)))
 | .at i => by
  simp only [Tm.subst, Tm.den]
  split
  ·rename_i h
   simp [Tm.den, List.getD, List.getElem?_append_left h]
  ·rename_i h
   have hi : ρ.length ≤ i := by omega
   simp only [List.getD]
   rw [List.getElem?_append_right hi, List.getElem?_map]
   cases hθ : θ[i - ρ.length]? with
   | none => rfl
   | some t => rfl
 | .int _ => rfl
 | .bool _ => rfl
 | .str _ => rfl
 | .nat _ => rfl
 | .lis _ => rfl
 | .lnil => rfl
 | .o1 o a => by simp only [Tm.subst, Tm.den]; rw [Tm.nG (t := a)]
 | .o2 o a b => by simp only [Tm.subst, Tm.den]; rw [Tm.nG (t := a), Tm.nG (t := b)]
 | .o3 o a b c => by simp only [Tm.subst, Tm.den]; rw [Tm.nG (t := a), Tm.nG (t := b), Tm.nG (t := c)]
inductive Lf where
 | int (k : IntKind) (t : Tm) | bool (t : Tm) | str (t : Tm)
 | ptr (b : Tm) (o : Nat)                     -- into an owned block, at a place
 | aptr (b : Tm) (o : Nat) (i : Tm) (n : Nat) -- the element i of n whole numbers that lie from place o on
 | eptr (a i : Tm) (es o : Nat)               -- place o of the element i of a slice, each of es cells
 | bsl (b : Tm) (o n : Nat)                   -- the n cells of an owned block from place o on, as a slice
 | nilp | sl (a : Tm) | fn (f : FuncId) | nilfn | nilsl | mp (b : Tm) | nilmp | junk | undef
 | clo (f : FuncId) (first caps : List Tm)    -- a function's value: what is bound to it are addresses of blocks
 deriving DecidableEq
inductive Pt where
 | lf (l : Lf) | ints (k : IntKind) (n : Nat) (L : Tm)
 deriving DecidableEq
inductive S0 where
 | lf (l : Lf) | agg (ps : List Pt)
 deriving DecidableEq
inductive SV where
 | one (x : S0) | tup (xs : List S0)
 deriving DecidableEq
inductive CK where
 | int (k : IntKind) | ints (k : IntKind) (n : Nat) | bool | str
 | sl (ek : List CK)                          -- a slice, with what it holds
mutual
def CK.beq : CK → CK → Bool
 | .int k, .int k' => decide (k = k')
 | .ints k n, .ints k' n' => decide (k = k') && decide (n = n')
 | .bool, .bool => true
 | .str, .str => true
 | .sl a, .sl b => CK.yM a b
 | _, _ => false
def CK.yM : List CK → List CK → Bool
 | [], [] => true
 | a :: as, b :: bs => CK.beq a b && CK.yM as bs
 | _, _ => false
end
mutual
theorem CK.beq_iff : ∀ {a b : CK}, CK.beq a b = true ↔ a = b
 | .int k, b => by cases b <;> simp [CK.beq]
 | .ints k n, b => by cases b <;> simp [CK.beq]
 | .bool, b => by cases b <;> simp [CK.beq]
 | .str, b => by cases b <;> simp [CK.beq]
 | .sl as, b => by cases b <;> simp [CK.beq, CK.bA1 (as := as)]
theorem CK.bA1 : ∀ {as bs : List CK}, CK.yM as bs = true ↔ as = bs
 | [], bs => by cases bs <;> simp [CK.yM]
 | a :: as, bs => by cases bs <;> simp [CK.yM, CK.beq_iff (a := a), CK.bA1 (as := as)]
end
instance : DecidableEq CK := fun _ _ => decidable_of_iff _ CK.beq_iff
abbrev EK := List CK
inductive Kd where
 | deep (ek : EK) | mp (K E : CK) | mpp (K : CK) (ek : EK) | mpi (K E : CK) | mppi (K : CK) (ek : EK)
 deriving DecidableEq
inductive Ch where
 | box (b : Tm) (ps : List Pt)
 | osl (a : Tm) (ek : EK) (L : Tm)
 | rsl (a : Tm) (ek : EK) (L : Tm)
 | abs (k : Kd) (ts : List Tm)
 deriving DecidableEq
inductive Srt where
 | I | B | S | Z | L | N | V
 deriving DecidableEq
structure St where
 tmps : List SV
 heap : List Ch
 aB : List Srt
def Srt.ok : Srt → D → Prop
 | .I, d => ∃ x, d = .I x
 | .B, d => ∃ x, d = .B x
 | .S, d => ∃ x, d = .S x
 | .Z, d => ∃ x, d = .Z x
 | .L, d => ∃ x, d = .L x
 | .N, d => ∃ x, d = .N x
 | .V, d => ∃ x, d = .V x
def bY : List Srt → List D → Prop
 | [], [] => True
 | s :: ss, d :: ds => s.ok d ∧ bY ss ds
 | _, _ => False
def bW : Int := 9223372036854775807
def Lf.holds (ρ : List D) : Lf → Value → Prop
 | .int k t, v => v = .int k (t.den ρ).toI ∧ k.has (t.den ρ).toI
 | .bool t, v => v = .bool (t.den ρ).toB
 | .str t, v => v = .string (t.den ρ).toS ∧ ((t.den ρ).toS.size : Int) ≤ bW
 | .ptr b o, v => v = .pointer (some ⟨(b.den ρ).toN, o, none⟩)
 | .aptr b o i n, v => v = .pointer (some ⟨(b.den ρ).toN, o + (i.den ρ).toI.toNat, none⟩) ∧ 0 ≤ (i.den ρ).toI ∧ (i.den ρ).toI < n
 | .eptr a i es o, v => ∃ ad n c, (a.den ρ).toV = .slice (some ad) n c ∧ ad.spot = none ∧ 0 ≤ (i.den ρ).toI ∧ (i.den ρ).toI < n ∧ v = .pointer (some ⟨ad.block, ad.off + ((i.den ρ).toI.toNat * es + o), none⟩)
 | .bsl b o n, v => ∃ c, v = .slice (some ⟨(b.den ρ).toN, o, none⟩) n c ∧ n ≤ c
 | .nilp, v => v = .pointer none
 | .sl a, v => v = (a.den ρ).toV
 | .fn f, v => v = .func (.func f) #[] #[]
 | .nilfn, v => v = .nilFunc
 | .nilsl, v => v = .slice none 0 0
 | .mp b, v => v = .map (some (b.den ρ).toN)
 | .nilmp, v => v = .map none
 | .junk, _ => True
 | .undef, v => v = Go.undef
 | .clo f first caps, v => v = .func (.func f) (first.map fun b => Value.pointer (some ⟨(b.den ρ).toN, 0, none⟩)).toArray (caps.map fun b => Value.pointer (some ⟨(b.den ρ).toN, 0, none⟩)).toArray
def one (v : Value) : Prop := v.oneCell' = true
def aJ (ρ : List D) : List Pt → List Value → Prop
 | [], vs => vs = []
 | .lf l :: ps, vs => ∃ v r, vs = v :: r ∧ l.holds ρ v ∧ one v ∧ aJ ρ ps r
 | .ints k n L :: ps, vs => ∃ r, vs = (L.den ρ).aH.map (Value.int k) ++ r ∧ (L.den ρ).aH.length = n ∧ (∀ x ∈ (L.den ρ).aH, k.has x) ∧ aJ ρ ps r
def S0.holds (ρ : List D) : S0 → Value → Prop
 | .lf l, v => l.holds ρ v
 | .agg ps, v => ∃ cs, v = .agg cs ∧ aJ ρ ps cs.toList
def kP (ρ : List D) : List S0 → List Value → Prop
 | [], vs => vs = []
 | x :: xs, vs => ∃ v r, vs = v :: r ∧ x.holds ρ v ∧ kP ρ xs r
def SV.holds (ρ : List D) : SV → Value → Prop
 | .one x, v => x.holds ρ v
 | .tup xs, v => ∃ vs, v = .tuple vs ∧ kP ρ xs vs.toList
def aU (ρ : List D) : List SV → List Value → Prop
 | [], vs => vs = []
 | x :: xs, vs => ∃ v r, vs = v :: r ∧ x.holds ρ v ∧ aU ρ xs r
def slV (d : D) : Value := (d.toL.getD 0 default).toV
def slC (d : D) : D := d.toL.getD 1 default
def CK.width : CK → Nat
 | .int _ => 1 | .ints _ n => n | .bool => 1 | .str => 1 | .sl _ => 1
def CK.cells : CK → D → List Value
 | .int k, d => [.int k d.toI]
 | .ints k _, d => d.aH.map (.int k)
 | .bool, d => [.bool d.toB]
 | .str, d => [.string d.toS]
 | .sl _, d => [slV d]
def aO (ek : EK) (d : D) : List D :=
 match ek with
 | [.int _] => d.aH.map D.I
 | _ => d.toL
def lN (ek : EK) (x : D) : List D :=
 match ek with
 | [_] => [x]
 | _ => x.toL
mutual
def CK.ok : CK → D → Prop
 | .int k, d => k.has d.toI
 | .ints k n, d => d.aH.length = n ∧ ∀ x ∈ d.aH, k.has x
 | .bool, _ => True
 | .str, d => (d.toS.size : Int) ≤ bW
 | .sl ek, d => ((∃ v c, d = .L [.V v, c]) ∧ one (slV d)) ∧ ∀ x ∈ aO ek (slC d), fG ek (lN ek x)
def fG : List CK → List D → Prop
 | c :: cs, d :: ds => c.ok d ∧ fG cs ds
 | [], [] => True
 | [], _ :: _ => False
 | _ :: _, [] => False
end
def EK.width (ek : EK) : Nat := (ek.map CK.width).foldr (· + ·) 0
def eU : EK → List D → List Value
 | c :: cs, d :: ds => c.cells d ++ eU cs ds
 | _, _ => []
def EK.cells (ek : EK) (d : D) : List Value :=
 match ek with
 | [.int k] => d.aH.map (.int k)
 | [c] => d.toL.flatMap c.cells
 | _ => d.toL.flatMap fun r => eU ek r.toL
def EK.ok (ek : EK) (d : D) : Prop :=
 match ek with
 | [.int k] => ∀ x ∈ d.aH, k.has x
 | [c] => ∀ x ∈ d.toL, c.ok x
 | _ => ∀ r ∈ d.toL, fG ek r.toL
def EK.len (ek : EK) (d : D) : Nat :=
 match ek with
 | [.int _] => d.aH.length
 | _ => d.toL.length
theorem aE1 (ek : EK) (d : D) : (∀ x ∈ aO ek d, fG ek (lN ek x)) ↔ ek.ok d := by
 rcases ek with _ | ⟨c, _ | ⟨c', cs⟩⟩
 ·exact Iff.rfl
 ·cases c with
  | int k =>
   constructor
   ·intro h n hn
    exact (h (.I n) (List.mem_map_of_mem hn)).1
   ·rintro h x hx
    obtain ⟨n, hn, rfl⟩ := List.mem_map.1 hx
    exact ⟨h n hn, trivial⟩
  | _ => exact ⟨fun h x hx => (h x hx).1, fun h x hx => ⟨h x hx, trivial⟩⟩
 ·cases c <;> exact Iff.rfl
def gV (fz : Nat × Nat) (n : Nat) : Prop := ∀ j, j < n → ¬ (fz.1 ≤ j ∧ j < fz.2)
def fE (w : World) (v : Value) (es m : Nat) (xs : List Value) : Prop :=
 (v = .slice none 0 0 ∧ m = 0 ∧ xs = []) ∨
 ∃ g cap cur e fz, v = .slice (some ⟨g, 0, none⟩) m cap ∧ w.heap[g]? = some (.cells cur e fz) ∧ gV fz (cur.size + (if es = 1 then 0 else 1)) ∧ m ≤ cap ∧ cap ≤ maxLen ∧
  cur.size = cap * es ∧ xs.length = m * es ∧ cur.toList.take (m * es) = xs
def roB : Value → Option Nat
 | .slice (some ad) (_ + 1) _ => some ad.block
 | _ => none
theorem aA9 {v : Value} {b : Nat} (h : roB v = some b) : v.ownBlock = some b := by
 unfold roB at h
 split at h
 ·cases h; rfl
 ·cases h
def fA (w : World) (v : Value) (es m : Nat) (xs : List Value) : Prop :=
 (v = .slice none 0 0 ∧ m = 0 ∧ xs = []) ∨ (∃ ad cap, v = .slice (some ad) 0 cap ∧ m = 0 ∧ xs = []) ∨
 ∃ ad cap, v = .slice (some ad) m cap ∧ ad.spot = none ∧ ad.block < w.heap.size ∧ m ≤ cap ∧ cap ≤ maxLen ∧ xs.length = m * es ∧
  ∀ j u, xs[j]? = some u → w.cell? (ad.add j) = some u
mutual
def CK.deep (w : World) : CK → D → Prop
 | .sl ek, d => fA w (slV d) (EK.width ek) (EK.len ek (slC d)) (EK.cells ek (slC d)) ∧ ∀ x ∈ aO ek (slC d), oQ w ek (lN ek x)
 | .int _, _ | .ints _ _, _ | .bool, _ | .str, _ => True
def oQ (w : World) : List CK → List D → Prop
 | c :: cs, d :: ds => c.deep w d ∧ oQ w cs ds
 | [], _ => True
 | _ :: _, [] => True
end
def jU (w : World) (ek : EK) (d : D) : Prop := ∀ x ∈ aO ek d, oQ w ek (lN ek x)
mutual
def CK.blks : CK → D → List Nat
 | .sl ek, d => (roB (slV d)).toList ++ (aO ek (slC d)).flatMap fun x => jD ek (lN ek x)
 | .int _, _ | .ints _ _, _ | .bool, _ | .str, _ => []
def jD : List CK → List D → List Nat
 | c :: cs, d :: ds => c.blks d ++ jD cs ds
 | [], _ => []
 | _ :: _, [] => []
end
def fF (ek : EK) (d : D) : List Nat := (aO ek d).flatMap fun x => jD ek (lN ek x)
def CK.word : CK → D → D
 | .int _, d => .I d.toI
 | .bool, d => .B d.toB
 | .str, d => .S d.toS
 | .ints _ _, d => .Z d.aH
 | .sl _, _ => .I 0
def CK.isWord (c : CK) (d : D) : Prop := c.ok d ∧ c.word d = d
def dR (w : World) (b : Nat) (es : List MapEntry) (clock : Nat) : Prop :=
 w.heap[b]? = some (.map es.toArray clock) ∧ (es.map (·.born)).Nodup ∧ (∀ e ∈ es, e.born < clock) ∧ es.length ≤ maxLen
def vH (K E : CK) : List MapEntry → List D → Prop
 | [], [] => True
 | e :: es, r :: L => (K.cells r.key = [e.key] ∧ K.isWord r.key ∧ E.cells r.snd = [e.val] ∧ E.isWord r.snd ∧ r = .L [r.key, r.snd]) ∧ vH K E es L
 | _, _ => False
def dL (L : List D) : Prop := L.Pairwise fun a b => iO a.key b.key = false
def aY (L : List D) : List Nat := L.map fun r => r.snd.toN
def lD (w : World) (K : CK) (ek : EK) : List MapEntry → List D → Prop
 | [], [] => True
 | e :: es, r :: L => (K.cells r.key = [e.key] ∧ K.isWord r.key ∧ e.val = .pointer (some ⟨r.snd.toN, 0, none⟩) ∧ r = .L (r.key :: .N r.snd.toN :: r.toL.drop 2) ∧ fG ek (r.toL.drop 2) ∧
   ∃ cs t fz, w.heap[r.snd.toN]? = some (.cells cs t fz) ∧ gV fz cs.size ∧ cs.toList = eU ek (r.toL.drop 2)) ∧ lD w K ek es L
 | _, _ => False
def oJ (w : World) (b m : Nat) (es : List MapEntry) (clock : Nat) (L S : List D) : Prop :=
 ∃ seen : List Nat, w.heap[b]? = some (.mapIter (some m) clock seen.toArray clock) ∧ seen.Nodup ∧
  S = seen.map (fun n => L.getD (es.findIdx fun e => e.born == n) default) ∧ ∀ n ∈ seen, ∃ e ∈ es, e.born = n
def arg (ds : List D) (i : Nat) : D := ds.getD i default
def Kd.holds (w : World) : Kd → List D → Prop
 | .deep ek, ds => jU w ek (arg ds 0)
 | .mp K E, ds => ∃ es clock, dR w (arg ds 0).toN es clock ∧ vH K E es (arg ds 1).toL ∧ dL (arg ds 1).toL
 | .mpp K ek, ds => ∃ es clock, dR w (arg ds 0).toN es clock ∧ lD w K ek es (arg ds 1).toL ∧ dL (arg ds 1).toL
 | .mpi K E, ds => ∃ es clock, dR w (arg ds 0).toN es clock ∧ vH K E es (arg ds 1).toL ∧ dL (arg ds 1).toL ∧ oJ w (arg ds 2).toN (arg ds 0).toN es clock (arg ds 1).toL (arg ds 3).toL
 | .mppi K ek, ds => ∃ es clock, dR w (arg ds 0).toN es clock ∧ lD w K ek es (arg ds 1).toL ∧ dL (arg ds 1).toL ∧ oJ w (arg ds 2).toN (arg ds 0).toN es clock (arg ds 1).toL (arg ds 3).toL
def Kd.own : Kd → List D → List Nat
 | .deep _, _ => []
 | .mp _ _, ds => [(arg ds 0).toN]
 | .mpp _ _, ds => (arg ds 0).toN :: aY (arg ds 1).toL
 | .mpi _ _, ds => [(arg ds 0).toN, (arg ds 2).toN]
 | .mppi _ _, ds => (arg ds 0).toN :: (arg ds 2).toN :: aY (arg ds 1).toL
def Kd.ro : Kd → List D → List Nat
 | .deep ek, ds => fF ek (arg ds 0)
 | _, _ => []
def Ch.holds (ρ : List D) (w : World) : Ch → Prop
 | .box b ps => ∃ cs e fz, w.heap[(b.den ρ).toN]? = some (.cells cs e fz) ∧ gV fz cs.size ∧ aJ ρ ps cs.toList
 | .osl a ek L => fE w (a.den ρ).toV ek.width (ek.len (L.den ρ)) (ek.cells (L.den ρ)) ∧ ek.ok (L.den ρ)
 | .rsl a ek L => fA w (a.den ρ).toV ek.width (ek.len (L.den ρ)) (ek.cells (L.den ρ)) ∧ ek.ok (L.den ρ)
 | .abs k ts => k.holds w (ts.map (Tm.den ρ))
def Ch.own (ρ : List D) : Ch → List Nat
 | .box b _ => [(b.den ρ).toN]
 | .osl a _ _ => (a.den ρ).toV.ownBlock.toList
 | .rsl _ _ _ => []
 | .abs k ts => k.own (ts.map (Tm.den ρ))
def Ch.ro (ρ : List D) : Ch → List Nat
 | .rsl a _ _ => (roB (a.den ρ).toV).toList
 | .abs k ts => k.ro (ts.map (Tm.den ρ))
 | _ => []
def Ch.fJ (ρ : List D) : Ch → Nat → Prop
 | .box b _, x => some (b.den ρ).toN = some x
 | .osl a _ _, x => (a.den ρ).toV.ownBlock = some x
 | .rsl _ _ _, x => (none : Option Nat) = some x
 | .abs k ts, x => x ∈ k.own (ts.map (Tm.den ρ))
def Ch.fK (ρ : List D) : Ch → Nat → Prop
 | .rsl a _ _, x => roB (a.den ρ).toV = some x
 | .abs k ts, x => x ∈ k.ro (ts.map (Tm.den ρ))
 | .box _ _, x => (none : Option Nat) = some x
 | .osl _ _ _, x => (none : Option Nat) = some x
theorem Ch.wZ {ρ : List D} {c : Ch} {b : Nat} : b ∈ c.own ρ ↔ c.fJ ρ b := by
 cases c <;> simp [Ch.own, Ch.fJ, eq_comm]
theorem Ch.uS {ρ : List D} {c : Ch} {b : Nat} : b ∈ c.ro ρ ↔ c.fK ρ b := by
 cases c <;> simp [Ch.ro, Ch.fK]
def owns (ρ : List D) (hs : List Ch) : List Nat := hs.flatMap (Ch.own ρ)
def ros (ρ : List D) (hs : List Ch) : List Nat := hs.flatMap (Ch.ro ρ)
structure aN (ρ : List D) (hs : List Ch) (w : World) : Prop where
 holds : ∀ c ∈ hs, c.holds ρ w
 nodup : (owns ρ hs).Nodup
 ro : ∀ c ∈ hs, ∀ b, c.fK ρ b → b ∉ owns ρ hs
structure Glob where
 g : Nat
 k : IntKind
 l : List Int
def Glob.holds (x : Glob) (w : World) : Prop :=
 (∃ e fz, w.heap[x.g]? = some (.cells (x.l.map (Value.int x.k)).toArray e fz)) ∧ ∀ y ∈ x.l, x.k.has y
structure eY (w0 : World) (D0 : List Nat) (w : World) : Prop where
 os : w.os = w0.os
 tape : w.tape = w0.tape
 output : w.output = w0.output
 size : w0.heap.size ≤ w.heap.size
 block : ∀ b, b < w0.heap.size → b ∉ D0 → w.heap[b]? = w0.heap[b]?
structure Rel (G : List Glob) (w0 : World) (D0 R0 : List Nat) (ρ : List D) (S : St) (a : Act) (w : World) : Prop where
 aB : bY S.aB ρ
 tmps : aU ρ S.tmps a.tmps.toList
 defers : a.defers = []
 heap : aN ρ S.heap w
 globs : ∀ g ∈ G, g.holds w ∧ g.g ∉ owns ρ S.heap
 frame : eY w0 D0 w
 within : ∀ b ∈ owns ρ S.heap, b ∈ D0 ∨ w0.heap.size ≤ b
 within' : ∀ b ∈ ros ρ S.heap, b ∈ D0 ∨ w0.heap.size ≤ b ∨ b ∈ R0
inductive Fact where
 | has (k : IntKind) (t : Tm) | ssz (t : Tm) | allHas (k : IntKind) (t : Tm) | len (t : Tm) (n : Nat) | ekok (ek : EK) (t : Tm)
 | kd (k : Kd) (ts : List Tm)                 -- what is known of a chunk's words
 | allCame (L S : Tm) | comes (L S r : Tm)    -- all rows have come; one that hasn't
 deriving DecidableEq
def mapOk (K E : CK) (L : List D) : Prop := dL L ∧ ∀ r ∈ L, K.isWord r.key ∧ E.isWord r.snd ∧ r = .L [r.key, r.snd]
def aU0 (K : CK) (ek : EK) (L : List D) : Prop := dL L ∧ (aY L).Nodup ∧ ∀ r ∈ L, K.isWord r.key ∧ r = .L (r.key :: .N r.snd.toN :: r.toL.drop 2) ∧ fG ek (r.toL.drop 2)
def Kd.known : Kd → List D → Prop
 | .deep _, _ => True
 | .mp K E, ds => mapOk K E (arg ds 1).toL
 | .mpp K ek, ds => aU0 K ek (arg ds 1).toL
 | .mpi K E, ds => mapOk K E (arg ds 1).toL ∧ (arg ds 3).toL.Nodup ∧ ∀ r ∈ (arg ds 3).toL, r ∈ (arg ds 1).toL
 | .mppi K ek, ds => aU0 K ek (arg ds 1).toL ∧ (arg ds 3).toL.Nodup ∧ ∀ r ∈ (arg ds 3).toL, r ∈ (arg ds 1).toL
def Fact.den (ρ : List D) : Fact → Prop
 | .has k t => k.has (t.den ρ).toI
 | .ssz t => ((t.den ρ).toS.size : Int) ≤ bW
 | .allHas k t => ∀ x ∈ (t.den ρ).aH, k.has x
 | .len t n => (t.den ρ).aH.length = n
 | .ekok ek t => ek.ok (t.den ρ)
 | .kd k ts => k.known (ts.map (Tm.den ρ))
 | .allCame L S => (S.den ρ).toL.Perm (L.den ρ).toL
 | .comes L S r => r.den ρ ∈ (L.den ρ).toL ∧ r.den ρ ∉ (S.den ρ).toL
inductive VC where
 | tt
 | and (a b : VC)
 | imp (t : Tm) (pos : Bool) (k : VC)
 | obl (t : Tm) (k : VC)
 | all (s : Srt) (k : VC)
 | know (f : Fact) (k : VC)
 | pre (c : Nat) (ts : List Tm) (k : VC)
 | post (c : Nat) (ts : List Tm) (k : VC)
 | inv (j : Nat) (ts : List Tm) (k : VC)
 | asm (j : Nat) (ts : List Tm) (k : VC)
 | back (j : Nat) (old new : List Tm)
 | ret (ts : List Tm)
 | cut (n : Nat) (k : VC)              -- only the first n words are known from here on
def sameD (l : List D) : Prop := arg l 0 = arg l 1
structure Env where
 pre : Nat → List D → Prop
 post : Nat → List D → Prop
 inv : Nat → List D → Prop
 meas : Nat → List D → Nat
 ret : List D → Prop
 same : ∀ a b, inv 900 [a, b] → a = b   -- this one is always there
def VC.den (E : Env) : VC → List D → Prop
 | .tt, _ => True
 | .and a b, ρ => a.den E ρ ∧ b.den E ρ
 | .imp t p k, ρ => (t.den ρ).toB = p → k.den E ρ
 | .obl t k, ρ => (t.den ρ).toB = true ∧ ((t.den ρ).toB = true → k.den E ρ)
 | .all .I c, ρ => ∀ x : Int, c.den E (ρ ++ [.I x])
 | .all .B c, ρ => ∀ x : Bool, c.den E (ρ ++ [.B x])
 | .all .S c, ρ => ∀ x : ByteArray, c.den E (ρ ++ [.S x])
 | .all .Z c, ρ => ∀ x : List Int, c.den E (ρ ++ [.Z x])
 | .all .L c, ρ => ∀ x : List D, c.den E (ρ ++ [.L x])
 | .all .N c, ρ => ∀ x : Nat, c.den E (ρ ++ [.N x])
 | .all .V c, ρ => ∀ x : Value, c.den E (ρ ++ [.V x])
 | .know f k, ρ => f.den ρ → k.den E ρ
 | .pre c ts k, ρ => E.pre c (ts.map (Tm.den ρ)) ∧ k.den E ρ
 | .post c ts k, ρ => E.post c (ts.map (Tm.den ρ)) → k.den E ρ
 | .inv j ts k, ρ => E.inv j (ts.map (Tm.den ρ)) ∧ k.den E ρ
 | .asm j ts k, ρ => E.inv j (ts.map (Tm.den ρ)) → k.den E ρ
 | .back j old new, ρ => E.inv j (new.map (Tm.den ρ)) ∧ E.meas j (new.map (Tm.den ρ)) < E.meas j (old.map (Tm.den ρ))
 | .ret ts, ρ => E.ret (ts.map (Tm.den ρ))
 | .cut n k, ρ => k.den E (ρ.take n)
theorem VC.bB6 {E : Env} {s : Srt} {k : VC} {ρ : List D} (h : (VC.all s k).den E ρ) {d : D} (hd : s.ok d) : k.den E (ρ ++ [d]) := by
 cases s <;> (obtain ⟨x, rfl⟩ := hd; exact h x)
structure SigR where
 args : List SV
 heap : List Ch
 aB : List Srt
 res : SV
 heap' : List Ch
 news : List Srt
 alt : Option (SV × List Ch × List Srt) := none   -- another form of what it gives back
def SigR.second (R : SigR) : Option SigR :=
 match R.alt with
 | some x => some { R with res := x.1, heap' := x.2.1, news := x.2.2, alt := none }
 | none => none
structure Sig extends SigR where
 pre : List D → Prop
 post : List D → Prop
 post2 : List D → Prop := fun _ => False
def Fit (post : List D → Prop) (R : SigR) (ρ : List D) (w : World) (v : Value) (w' : World) : Prop :=
 ∃ σ, bY R.news σ ∧ post (ρ ++ σ) ∧ R.res.holds (ρ ++ σ) v ∧ aN (ρ ++ σ) R.heap' w' ∧
  (∀ b ∈ owns (ρ ++ σ) R.heap', b ∈ owns ρ R.heap ∨ w.heap.size ≤ b) ∧
  (∀ b ∈ ros (ρ ++ σ) R.heap', b ∈ owns ρ R.heap ∨ w.heap.size ≤ b ∨ b ∈ ros ρ R.heap) ∧ eY w (owns ρ R.heap) w'
def Sig.Holds (c : Sig) (P : Program) (G : List Glob) (f : FuncId) : Prop :=
 ∀ (w : World) (args : Array Value) (ρ : List D), bY c.aB ρ → c.pre ρ → aU ρ c.args args.toList → aN ρ c.heap w →
  (∀ g ∈ G, g.holds w ∧ g.g ∉ owns ρ c.heap) →
  Calls P f args w fun e w' => ∃ v, e = .returned v ∧ (Fit c.post c.toSigR ρ w v w' ∨ ∃ r, c.second = some r ∧ Fit c.post2 r ρ w v w')
end Go.Vc
namespace Go.Vc
abbrev M := Except String VC
structure Ann where
 key : Nat
 j : Nat                 -- which invariant
 watch : List Nat := []  -- slots whose payload the invariant is told besides
 havoc : List Nat := []  -- chunks (by place) that the body turns
 join : Bool := false
 frz : Bool := false     -- slices of its own that the loop's slots hold are only read from now on
 tmpl : Option St := none -- a joint's pattern
 say : List Srt → St → List Nat → String := fun _ _ _ => ""
structure Cx where
 P : Program
 fn : Func
 G : List Glob
 sigs : List (FuncId × Nat × SigR)
 own : SigR
 anns : List Ann
 iters : List FuncId := []
inductive LK where
 | cell | ints (k : IntKind) (n : Nat) | slice (ek : EK)
 deriving DecidableEq
def aP2 (P : Program) : Nat → TypeId → Option EK
 | 0, _ => none
 | f + 1, t =>
  match P.underlying t with
  | some (.int k) => some [.int k]
  | some .bool => some [.bool]
  | some .string => some [.str]
  | some (.array n e) => match P.underlying e with
   | some (.int k) => some [.ints k n]
   | _ => none
  | some (.struct fs) => fs.toList.foldr (fun x acc => match aP2 P f x.type, acc with | some a, some r => some (a ++ r) | _, _ => none) (some [])
  | _ => none
def zX (P : Program) : Nat → TypeId → Option EK
 | 0, _ => none
 | f + 1, t =>
  match P.underlying t with
  | some (.int k) => some [.int k]
  | some .bool => some [.bool]
  | some .string => some [.str]
  | some (.array n e) => match P.underlying e with
   | some (.int k) => some [.ints k n]
   | _ => none
  | some (.struct fs) => fs.toList.foldr (fun x acc => match zX P f x.type, acc with | some a, some r => some (a ++ r) | _, _ => none) (some [])
  | some (.slice e) => match zX P f e with
   | some ek => some [.sl ek]
   | none => none
  | _ => none
def uP (P : Program) : Nat → TypeId → Option (List LK)
 | 0, _ => none
 | f + 1, t =>
  match P.underlying t with
  | some (.array n e) => match P.underlying e with
   | some (.int k) => some [.ints k n]
   | _ => match uP P f e with
    | some l => some (List.replicate n l).flatten
    | none => none
  | some (.struct fs) => fs.toList.foldr (fun x acc => match uP P f x.type, acc with | some a, some r => some (a ++ r) | _, _ => none) (some [])
  | some (.slice e) => match zX P 20 e with
   | some ek => some [.slice ek]
   | none => some [.cell]
  | some _ => some [.cell]
  | none => none
def zO : Value → Option Lf
 | .int k n => if k.min ≤ n ∧ n ≤ k.max then some (.int k (.int n)) else none
 | .bool b => some (.bool (.bool b))
 | .string s => if (s.size : Int) ≤ bW then some (.str (.str s)) else none
 | .pointer none => some .nilp
 | .slice none 0 0 => some .nilsl
 | .nilFunc => some .nilfn
 | .map none => some .nilmp
 | .func (.func f) first cap => if first.isEmpty && cap.isEmpty then some (.fn f) else none
 | _ => none
def intsOf (k : IntKind) : List Value → Option (List Int)
 | [] => some []
 | .int k' n :: vs => if k' = k ∧ k.min ≤ n ∧ n ≤ k.max then match intsOf k vs with | some r => some (n :: r) | none => none else none
 | _ :: _ => none
def mX : List LK → List Value → Option (List Pt)
 | [], [] => some []
 | .ints k n :: ls, vs => match intsOf k (vs.take n), mX ls (vs.drop n) with
  | some xs, some r => if xs.length = n then some (.ints k n (if xs = List.replicate n 0 then .o2 .lirep (.int n) (.int 0) else .lis xs) :: r) else none
  | _, _ => none
 | _ :: ls, v :: vs => match zO v, mX ls vs with
  | some l, some r => if v.oneCell' then some (.lf l :: r) else none
  | _, _ => none
 | _, _ => none
def aO5 (P : Program) (t : TypeId) : Value → Option SV
 | .agg cs => match uP P 20 t with
  | some lay => match mX lay cs.toList with
   | some ps => some (.one (.agg ps))
   | none => none
  | none => none
 | v => match zO v with | some l => some (.one (.lf l)) | none => none
def Lf.under (n : Nat) : Lf → Bool
 | .int _ t | .bool t | .str t | .sl t | .mp t => t.under n
 | .ptr b _ | .bsl b _ _ => b.under n
 | .aptr b _ i _ => b.under n && i.under n
 | .eptr a i _ _ => a.under n && i.under n
 | .clo _ fs cs => fs.all (Tm.under n) && cs.all (Tm.under n)
 | _ => true
def Pt.under (n : Nat) : Pt → Bool
 | .lf l => l.under n
 | .ints _ _ L => L.under n
def S0.under (n : Nat) : S0 → Bool
 | .lf l => l.under n
 | .agg ps => ps.all (Pt.under n)
def SV.under (n : Nat) : SV → Bool
 | .one x => x.under n
 | .tup xs => xs.all (S0.under n)
def Ch.under (n : Nat) : Ch → Bool
 | .box b ps => b.under n && ps.all (Pt.under n)
 | .osl a _ L => a.under n && L.under n
 | .rsl a _ L => a.under n && L.under n
 | .abs _ ts => ts.all (Tm.under n)
def St.under (S : St) : Bool := S.tmps.all (SV.under S.aB.length) && S.heap.all (Ch.under S.aB.length)
def Lf.subst (n : Nat) (θ : List Tm) : Lf → Lf
 | .int k t => .int k (t.subst n θ)
 | .bool t => .bool (t.subst n θ)
 | .str t => .str (t.subst n θ)
 | .sl t => .sl (t.subst n θ)
 | .mp t => .mp (t.subst n θ)
 | .ptr b o => .ptr (b.subst n θ) o
 | .bsl b o m => .bsl (b.subst n θ) o m
 | .aptr b o i m => .aptr (b.subst n θ) o (i.subst n θ) m
 | .eptr a i es o => .eptr (a.subst n θ) (i.subst n θ) es o
 | .clo f fs cs => .clo f (fs.map (Tm.subst n θ)) (cs.map (Tm.subst n θ))
 | l => l
def Pt.subst (n : Nat) (θ : List Tm) : Pt → Pt
 | .lf l => .lf (l.subst n θ)
 | .ints k m L => .ints k m (L.subst n θ)
def S0.subst (n : Nat) (θ : List Tm) : S0 → S0
 | .lf l => .lf (l.subst n θ)
 | .agg ps => .agg (ps.map (Pt.subst n θ))
def SV.subst (n : Nat) (θ : List Tm) : SV → SV
 | .one x => .one (x.subst n θ)
 | .tup xs => .tup (xs.map (S0.subst n θ))
def Ch.subst (n : Nat) (θ : List Tm) : Ch → Ch
 | .box b ps => .box (b.subst n θ) (ps.map (Pt.subst n θ))
 | .osl a ek L => .osl (a.subst n θ) ek (L.subst n θ)
 | .rsl a ek L => .rsl (a.subst n θ) ek (L.subst n θ)
 | .abs k ts => .abs k (ts.map (Tm.subst n θ))
def Tm.shp (ss : List Srt) : Tm → Option Srt
 | .at i => ss[i]?
 | .int _ => some .I
 | .bool _ => some .B
 | .str _ => some .S
 | .nat _ => some .N
 | .lis _ => some .Z
 | .lnil => some .L
 | .o1 o _ => some (match o with | .wrap _ | .slen | .lilen | .llen | .asI => .I | .not | .asB => .B | .ofLi | .asS => .S | .aH | .asZ => .Z | .asL => .L | .asV => .V | .asN => .N | .lines => .L | .hdr => .V)
 | .o2 o _ _ => match o with
  | .add _ | .sub _ | .mul _ | .quo _ | .rem | .bits _ _ | .shl _ | .shr _ | .min | .max | .byte | .liget => some .I
  | .lt | .le | .eq | .eqb | .eqs | .lts | .eqli | .and | .or | .mhas | .nhas => some .B
  | .cat => some .S
  | .lget | .mget | .nget => none
  | .liapp | .licons | .litake | .lidrop | .lirep => some .Z
  | .lapp | .lcons | .ltake | .ldrop | .lrep | .mdel => some .L
 | .o3 o _ _ _ => some (match o with | .ssub => .S | .liset => .Z | .lset | .mset | .nset => .L)
def fresh (S : St) (s : Srt) (k : Tm → St → M) : M :=
 if S.under then
  match k (.at S.aB.length) { S with aB := S.aB ++ [s] } with
  | .ok v => .ok (.all s v)
  | .error e => .error e
 else .error "fresh: a state whose atoms aren't known"
def obl (t : Tm) (k : M) : M := match k with | .ok v => .ok (.obl t v) | .error e => .error e
def imp (t : Tm) (b : Bool) (k : M) : M := match k with | .ok v => .ok (.imp t b v) | .error e => .error e
def evT (cx : Cx) (S : St) (t : TypeId) : Operand → Except String SV
 | .tmp i => match S.tmps[i]? with
  | some v => .ok v
  | none => .error "no such slot"
 | .const v => match aO5 cx.P t v with
  | some x => .ok x
  | none => .error "a constant that isn't taken"
 | .global g => .ok (.one (.lf (.ptr (.nat g) 0)))
 | .func f => .ok (.one (.lf (.fn f)))
def ev (cx : Cx) (S : St) (x : Operand) : Except String SV := evT cx S 0 x
def St.put (S : St) (dst : Option Tmp) (v : SV) : St :=
 match dst with
 | some d => { S with tmps := S.tmps.set d v }
 | none => S
def iG (b : Tm) : List Ch → Option (List Pt)
 | [] => none
 | .box b' ps :: hs => if b' = b then some ps else iG b hs
 | _ :: hs => iG b hs
def lG (b : Tm) (ps : List Pt) : List Ch → List Ch
 | [] => []
 | .box b' qs :: hs => if b' = b then .box b' ps :: hs else .box b' qs :: lG b ps hs
 | h :: hs => h :: lG b ps hs
def aZ (a : Tm) : List Ch → Option (Bool × EK × Tm)
 | [] => none
 | .osl a' ek L :: hs => if a' = a then some (true, ek, L) else aZ a hs
 | .rsl a' ek L :: hs => if a' = a then some (false, ek, L) else aZ a hs
 | _ :: hs => aZ a hs
def lH (a : Tm) (L : Tm) : List Ch → List Ch
 | [] => []
 | .osl a' ek L' :: hs => if a' = a then .osl a' ek L :: hs else .osl a' ek L' :: lH a L hs
 | h :: hs => h :: lH a L hs
def fH (a : Tm) : List Ch → List Ch
 | [] => []
 | .osl a' ek L :: hs => if a' = a then hs else .osl a' ek L :: fH a hs
 | h :: hs => h :: fH a hs
def dJ (a : Tm) : List Ch → List Ch
 | [] => []
 | .osl a' ek L :: hs => if a' = a then .rsl a' ek L :: hs else .osl a' ek L :: dJ a hs
 | .rsl a' ek L :: hs => if a' = a then .rsl a' ek L :: hs else .rsl a' ek L :: dJ a hs
 | h :: hs => h :: dJ a hs
def ptW : Pt → Nat
 | .lf _ => 1
 | .ints _ n _ => n
def rZ : List Pt → Nat
 | [] => 0
 | p :: ps => ptW p + rZ ps
def partAt (o : Nat) : List Pt → Option (Pt × Nat)
 | [] => none
 | p :: ps => if o < ptW p then some (p, o) else partAt (o - ptW p) ps
def uZ (m : Nat) : List Pt → Option (List Pt)
 | [] => if m = 0 then some [] else none
 | p :: ps => if m = 0 then some [] else if ptW p ≤ m then (match uZ (m - ptW p) ps with | some r => some (p :: r) | none => none) else none
def rX (o m : Nat) : List Pt → Option (List Pt)
 | [] => if o = 0 then uZ m [] else none
 | p :: ps => if o = 0 then uZ m (p :: ps) else if ptW p ≤ o then rX (o - ptW p) m ps else none
def qQ (o : Nat) (ps : List Pt) : Option Lf :=
 match partAt o ps with
 | some (.lf l, _) => some l
 | some (.ints k _ L, j) => some (.int k (.o2 .liget L (.int j)))
 | none => none
def aI9 (new ps : List Pt) : Option (List Pt) :=
 match uZ (rZ new) ps with
 | some old => some (new ++ ps.drop old.length)
 | none => none
def aB4 (o : Nat) (new : List Pt) : List Pt → Option (List Pt)
 | [] => if o = 0 then aI9 new [] else none
 | p :: ps => if o = 0 then aI9 new (p :: ps) else
  if ptW p ≤ o then (match aB4 (o - ptW p) new ps with | some r => some (p :: r) | none => none) else none
def aB3 (o : Nat) (l : Lf) : List Pt → Option (List Pt)
 | [] => none
 | p :: ps =>
  if o < ptW p then
   match p, l with
   | .lf _, l => some (.lf l :: ps)
   | .ints k n L, .int k' t => if k' = k then some (.ints k n (.o3 .liset L (.int o) t) :: ps) else none
   | _, _ => none
  else match aB3 (o - ptW p) l ps with | some r => some (p :: r) | none => none
def rP (o n : Nat) : List Pt → Option (IntKind × Tm)
 | [] => none
 | p :: ps => if o = 0 then (match p with | .ints k m L => if m = n then some (k, L) else none | _ => none)
  else if ptW p ≤ o then rP (o - ptW p) n ps else none
def yC (o n : Nat) (L' : Tm) : List Pt → Option (List Pt)
 | [] => none
 | p :: ps => if o = 0 then (match p with | .ints k m _ => if m = n then some (.ints k m L' :: ps) else none | _ => none)
  else if ptW p ≤ o then (match yC (o - ptW p) n L' ps with | some r => some (p :: r) | none => none) else none
def S0.parts : S0 → List Pt
 | .lf l => [.lf l]
 | .agg ps => ps
def asK : EK → O1
 | [.int _] => .asZ
 | _ => .asL
def zQ (c : CK) (t : Tm) : Pt :=
 match c with
 | .int k => .lf (.int k (.o1 .asI t))
 | .bool => .lf (.bool (.o1 .asB t))
 | .str => .lf (.str (.o1 .asS t))
 | .ints k n => .ints k n (.o1 .asZ t)
 | .sl _ => .lf (.sl (.o1 .asV (.o2 .lget t (.int 0))))
def xZ (row : Tm) : Nat → EK → List Pt
 | _, [] => []
 | j, c :: cs => zQ c (.o2 .lget row (.int j)) :: xZ row (j + 1) cs
def aP4 (ek : EK) (L i : Tm) : List Pt :=
 match ek with
 | [.int k] => [.lf (.int k (.o2 .liget L i))]
 | [c] => [zQ c (.o2 .lget L i)]
 | cs => xZ (.o1 .asL (.o2 .lget L i)) 0 cs
def jI (hs : List Ch) : CK → Pt → Option Tm
 | .int k, .lf (.int k' t) => if k' = k then some (.o1 .asI t) else none
 | .bool, .lf (.bool t) => some (.o1 .asB t)
 | .str, .lf (.str t) => some (.o1 .asS t)
 | .ints k n, .ints k' n' L => if k' = k ∧ n' = n then some (.o1 .asZ L) else none
 | .sl ek, .lf (.sl a) => match aZ a hs with
  | some (_, ek', L) => if ek' = ek then some (.o2 .lcons (.o1 .asV a) (.o2 .lcons L .lnil)) else none
  | none => none
 | _, _ => none
def fP (hs : List Ch) : EK → List Pt → Option Tm
 | [], [] => some .lnil
 | c :: cs, p :: ps => match jI hs c p, fP hs cs ps with
  | some t, some r => some (.o2 .lcons t r)
  | _, _ => none
 | _, _ => none
def rQ (hs : List Ch) (ek : EK) : List (List Pt) → Option Tm
 | [] => match ek with | [.int _] => some (.lis []) | _ => some .lnil
 | ps :: r =>
  match rQ hs ek r with
  | none => none
  | some L => match ek, ps with
   | [.int k], [.lf (.int k' t)] => if k' = k then some (.o2 .licons t L) else none
   | [c], [p] => match jI hs c p with | some t => some (.o2 .lcons t L) | none => none
   | cs, ps => match fP hs cs ps with | some t => some (.o2 .lcons t L) | none => none
def nV (ps : List Pt) : List Tm := ps.filterMap fun p => match p with | .lf (.sl a) => some a | _ => none
def flatK : CK → Bool
 | .sl _ => false
 | _ => true
def fV (ek : EK) : Bool := ek.all flatK
def mG (ek : EK) (L : Tm) : Tm := match ek with | [.int _] => .o1 .lilen L | _ => .o1 .llen L
def jE (ek : EK) : Tm := match ek with | [.int _] => .lis [] | _ => .lnil
def qM (ek : EK) (a b : Tm) : Tm := match ek with | [.int _] => .o2 .liapp a b | _ => .o2 .lapp a b
def aE7 (ek : EK) (a b : Tm) : Tm := match ek with | [.int _] => .o2 .litake a b | _ => .o2 .ltake a b
def aP1 (ek : EK) (a b : Tm) : Tm := match ek with | [.int _] => .o2 .lidrop a b | _ => .o2 .ldrop a b
def tY (ek : EK) (L a b : Tm) : Tm :=
 let h := if b = mG ek L then L else aE7 ek L b
 if a = .int 0 then h else aP1 ek h a
def lX (lay : List LK) (ps : List Pt) (S : St) (k : List Pt → St → M) : M :=
 match lay, ps with
 | .slice ek :: lay, .lf .nilsl :: ps => fresh S .V fun a S => lX lay ps { S with heap := .osl a ek (jE ek) :: S.heap } fun qs S => k (.lf (.sl a) :: qs) S
 | _ :: lay, p :: ps => lX lay ps S fun qs S => k (p :: qs) S
 | _, ps => k ps S
def uQ (cx : Cx) (t : TypeId) (v : SV) (S : St) (k : SV → St → M) : M :=
 match v with
 | .one (.lf .nilsl) => match uP cx.P 20 t with
  | some lay => lX lay [.lf .nilsl] S fun qs S => match qs with | [.lf l] => k (.one (.lf l)) S | _ => .error "mat"
  | none => k v S
 | .one (.agg ps) => if ps.any (fun p => p = .lf .nilsl) then match uP cx.P 20 t with
   | some lay => if ps.all (Pt.under S.aB.length) then lX lay ps S fun qs S => k (.one (.agg qs)) S else .error "mat: parts that aren't known"
   | none => k v S
  else k v S
 | v => k v S
def aH7 (y : Tm) (k : M) : M :=
 match y with
 | .int n => if n ≠ 0 then k else .error "a division by 0"
 | _ => obl (.o1 .not (.o2 .eq y (.int 0))) k
def arith (o : BinOp) (k : IntKind) (x y : Tm) (ret : SV → M) : M :=
 let int t := ret (.one (.lf (.int k t)))
 let bool t := ret (.one (.lf (.bool t)))
 match o with
 | .add => int (.o2 (.add k) x y)
 | .sub => int (.o2 (.sub k) x y)
 | .mul => int (.o2 (.mul k) x y)
 | .quo => aH7 y (int (.o2 (.quo k) x y))
 | .rem => aH7 y (int (.o2 .rem x y))
 | .and | .or | .xor | .andNot => int (.o2 (.bits o k) x y)
 | .eql => bool (.o2 .eq x y)
 | .neq => bool (.o1 .not (.o2 .eq x y))
 | .lss => bool (.o2 .lt x y)
 | .leq => bool (.o2 .le x y)
 | .gtr => bool (.o2 .lt y x)
 | .geq => bool (.o2 .le y x)
 | _ => .error "an operation on whole numbers that isn't taken"
def bP6 : IntKind → Bool
 | .u8 | .u16 | .u32 | .u64 => true
 | _ => false
def aV1 (yk : IntKind) (y : Tm) (k : M) : M :=
 match y with
 | .int n => if 0 ≤ n then k else .error "a shift by less than 0"
 | _ => if bP6 yk then k else obl (.o2 .le (.int 0) y) k
def shift (o : BinOp) (k : IntKind) (x : Tm) (yk : IntKind) (y : Tm) (ret : SV → M) : M :=
 aV1 yk y (match o with
  | .shl => ret (.one (.lf (.int k (.o2 (.shl k) x y))))
  | _ => ret (.one (.lf (.int k (.o2 (.shr k) x y)))))
def aX5 (o : BinOp) (x y : Tm) (ret : SV → M) : M :=
 let bool t := ret (.one (.lf (.bool t)))
 match o with
 | .add => obl (.o2 .le (.o1 .slen (.o2 .cat x y)) (.int bW)) (ret (.one (.lf (.str (.o2 .cat x y)))))
 | .eql => bool (.o2 .eqs x y)
 | .neq => bool (.o1 .not (.o2 .eqs x y))
 | .lss => bool (.o2 .lts x y)
 | .leq => bool (.o2 .or (.o2 .lts x y) (.o2 .eqs x y))
 | .gtr => bool (.o1 .not (.o2 .or (.o2 .lts x y) (.o2 .eqs x y)))
 | .geq => bool (.o1 .not (.o2 .lts x y))
 | _ => .error "an operation on texts that isn't taken"
def bF4 (P : Program) (t : TypeId) : Bool :=
 match P.underlying t with | some .bool => true | _ => false
def bF6 (P : Program) (t : TypeId) : Bool :=
 match P.underlying t with | some (.pointer _) => true | _ => false
def bI9 : Lf → Lf → Option Bool
 | .nilp, .nilp => some true
 | .nilp, .ptr .. => some false
 | .ptr .., .nilp => some false
 | _, _ => none
def gK (P : Program) (t : TypeId) : Bool :=
 match P.underlying t with
 | some (.struct _) | some (.array _ _) => true
 | _ => false
def aM6 (a b : Tm) : Tm := if b = .bool true then a else .o2 .and a b
def aP8 (P : Program) (t : TypeId) : Lf → Lf → Option Tm
 | .int k a, .int k' b => match P.underlying t with
  | some (.int _) => if k = k' then some (.o2 .eq a b) else none
  | _ => none
 | .str a, .str b => match P.underlying t with
  | some .string => some (.o2 .eqs a b)
  | _ => none
 | .bool a, .bool b => match P.underlying t with
  | some .bool => some (.o2 .eqb a b)
  | _ => none
 | _, _ => none
def eqF (P : Program) (again : TypeId → List Pt → List Pt → Option Tm) (xs ys : List Pt) (f : Field) : Option Tm :=
 if f.name = "_" ∨ P.cellsOf f.type = 0 then none else
 if gK P f.type then
  match rX f.offset (P.cellsOf f.type) xs, rX f.offset (P.cellsOf f.type) ys with
  | some a, some b => again f.type a b
  | _, _ => none
 else match qQ f.offset xs, qQ f.offset ys with
  | some a, some b => if (P.underlying f.type).isSome then aP8 P f.type a b else none
  | _, _ => none
def yZ (P : Program) (again : TypeId → List Pt → List Pt → Option Tm) (xs ys : List Pt) : List Field → Option Tm
 | [] => some (.bool true)
 | f :: fs => match eqF P again xs ys f, yZ P again xs ys fs with
  | some t, some r => some (aM6 t r)
  | _, _ => none
def bF5 (P : Program) (t : TypeId) : Bool := match P.underlying t with | some (.int _) => true | _ => false
def aE8 (P : Program) : Nat → TypeId → List Pt → List Pt → Option Tm
 | 0, _, _, _ => none
 | d + 1, t, xs, ys => match P.underlying t with
  | some (.struct fs) => if P.stoodInHeld t then none else yZ P (aE8 P d) xs ys fs.toList
  | some (.array n e) => match xs, ys with
   | [.ints k m L], [.ints k' m' L'] => if k = k' ∧ m = n ∧ m' = n ∧ P.cellsOf e = 1 ∧ bF5 P e = true then some (.o2 .eqli L L') else none
   | _, _ => none
  | _ => none
def aN3 (P : Program) (t : TypeId) (o : BinOp) (x y : SV) (ret : SV → M) : M :=
 match x, y with
 | .one (.lf (.int k a)), .one (.lf (.int k' b)) =>
  if o = .shl ∨ o = .shr then shift o k a k' b ret
  else if k = k' then arith o k a b ret else .error "kinds differ"
 | .one (.lf (.str a)), .one (.lf (.str b)) => aX5 o a b ret
 | .one (.lf (.bool a)), .one (.lf (.bool b)) =>
  if bF4 P t then
  match o with
  | .eql => ret (.one (.lf (.bool (.o2 .eqb a b))))
  | .neq => ret (.one (.lf (.bool (.o1 .not (.o2 .eqb a b)))))
  | _ => .error "an operation on bools that isn't taken"
  else .error "no bools"
 | .one (.lf a), .one (.lf b) => match bI9 a b with
  | some e => if bF6 P t then
    match o with
    | .eql => ret (.one (.lf (.bool (.bool e))))
    | .neq => ret (.one (.lf (.bool (.bool (!e)))))
    | _ => .error "an operation on addresses that isn't taken"
   else .error "no addresses"
  | none => .error "binOp: operands that aren't taken"
 | .one (.agg xs), .one (.agg ys) =>
  if P.eqGuardType P.depth t then .error "binOp: an aggregate with interfaces" else
  match aE8 P 4 t xs ys with
  | some e => match o with
   | .eql => ret (.one (.lf (.bool e)))
   | .neq => ret (.one (.lf (.bool (.o1 .not e))))
   | _ => .error "an operation on aggregates that isn't taken"
  | none => .error "binOp: aggregates that aren't taken"
 | _, _ => .error "binOp: operands that aren't taken"
def unS (o : UnOp) (x : SV) (ret : SV → M) : M :=
 match o, x with
 | .neg, .one (.lf (.int k a)) => ret (.one (.lf (.int k (.o2 (.sub k) (.int 0) a))))
 | .xor, .one (.lf (.int k a)) => ret (.one (.lf (.int k (.o2 (.bits .xor k) (.int (if k.signed then -1 else k.max)) a))))
 | .not, .one (.lf (.bool a)) => ret (.one (.lf (.bool (.o1 .not a))))
 | _, _ => .error "unOp: an operand that isn't taken"
end Go.Vc
namespace Go.Vc
def aE0 (P : Program) (t : TypeId) : Option CK :=
 match P.underlying t with
 | some (.int k) => some (.int k)
 | some .string => some .str
 | some .bool => some .bool
 | _ => none
def wY (P : Program) (t : TypeId) : Option Kd :=
 match P.underlying t with
 | some (.map k e) => match aE0 P k with
  | some K => match P.underlying e with
   | some (.pointer s) => match aP2 P 20 s with
    | some ek => some (.mpp K ek)
    | none => none
   | _ => match aE0 P e with
    | some E => some (.mp K E)
    | none => none
  | none => none
 | _ => none
def dV (b : Tm) : List Ch → Option (Kd × List Tm)
 | [] => none
 | .abs k (b' :: ts) :: hs => match k with
  | .deep _ => dV b hs
  | k => if b' = b then some (k, b' :: ts) else dV b hs
 | _ :: hs => dV b hs
def dB (b : Tm) (c : Ch) : List Ch → List Ch
 | [] => []
 | .abs k (b' :: ts) :: hs => match k with
  | .deep ek => .abs (.deep ek) (b' :: ts) :: dB b c hs
  | k => if b' = b then c :: hs else .abs k (b' :: ts) :: dB b c hs
 | h :: hs => h :: dB b c hs
def xK : Kd → List Tm → Option (Kd × Tm × Tm)
 | .mp K E, [b, L] => some (.mp K E, b, L)
 | .mpp K ek, [b, L] => some (.mpp K ek, b, L)
 | .mpi K E, [b, L, _, _] => some (.mp K E, b, L)
 | .mppi K ek, [b, L, _, _] => some (.mpp K ek, b, L)
 | _, _ => none
def oV : List Ch → Option (Tm × Kd × EK × Tm × List Tm)
 | [] => none
 | .abs (.mpp K ek) (b :: L :: ts) :: hs => if ts = [] then some (b, .mpp K ek, ek, L, ts) else oV hs
 | .abs (.mppi K ek) (b :: L :: ts) :: hs => if ts.length = 2 then some (b, .mppi K ek, ek, L, ts) else oV hs
 | _ :: hs => oV hs
def qG (L b : Tm) : Tm := .o2 .nget L b
def aM4 (ek : EK) (L b : Tm) : List Pt := xZ (.o1 .asL (qG L b)) 2 ek
def uD (g : Nat) : List Glob → Option Glob
 | [] => none
 | x :: xs => if x.g = g then some x else uD g xs
def pF (agg : Bool) (size o : Nat) (ps : List Pt) (ret : SV → M) : M :=
 if agg then match rX o size ps with
  | some qs => ret (.one (.agg qs))
  | none => .error "load: no such parts"
 else match qQ o ps with
  | some l => ret (.one (.lf l))
  | none => .error "load: no such leaf"
def aK6 (size : Nat) (ps : List Pt) (ret : SV → M) (i : Tm) (o : Nat) : Nat → Nat → M
 | 0, _ => .ok .tt
 | n + 1, j => match imp (.o2 .eq i (.int (j : Int))) true (pF false size (o + j) ps ret), aK6 size ps ret i o n (j + 1) with
  | .ok x, .ok y => .ok (.and x y)
  | .error e, _ => .error e
  | _, .error e => .error e
def zV (cx : Cx) (S : St) (t : TypeId) (x : SV) (ret : SV → M) : M :=
 let agg := gK cx.P t
 let size := cx.P.cellsOf t
 if (cx.P.underlying t).isNone || size == 0 then .error "load: of what?" else
 match x with
 | .one (.lf (.ptr b o)) =>
  match b with
  | .nat g => match uD g cx.G with
   | some gl => pF agg size o [.ints gl.k gl.l.length (.lis gl.l)] ret
   | none => .error "load: no such table"
  | b => match iG b S.heap with
   | some ps => pF agg size o ps ret
   | none => match oV S.heap with
    | some (_, _, ek, L, _) => obl (.o2 .nhas L b) (pF agg size o (aM4 ek L b) ret)
    | none => .error "load: no such block"
 | .one (.lf (.aptr b o i n)) =>
  if agg then .error "load: an element that is no number" else
  match b with
  | .nat g => match uD g cx.G with
   | some gl => if o = 0 ∧ n = gl.l.length then ret (.one (.lf (.int gl.k (.o2 .liget (.lis gl.l) i)))) else .error "load: a table's part"
   | none => .error "load: no such table"
  | b => match iG b S.heap with
   | some ps => match rP o n ps with
    | some (k, L) => ret (.one (.lf (.int k (.o2 .liget L i))))
    | none => aK6 size ps ret i o n 0
   | none => .error "load: no such block"
 | .one (.lf (.eptr a i es o)) =>
  match aZ a S.heap with
  | some (_, ek, L) => if ek.width = es then pF agg size o (aP4 ek L i) ret else .error "load: an element of another size"
  | none => .error "load: no such slice"
 | _ => .error "load: no address that is known"
def aH8 (hs : List Ch) : Lf → Bool
 | .junk => false
 | .undef => false
 | .sl a => (aZ a hs).isSome
 | _ => true
def yE (hs : List Ch) (size o : Nat) (ps : List Pt) (v : SV) : Option (List Pt) :=
 match v with
 | .one (.agg qs) => if rZ qs = size then aB4 o qs ps else none
 | .one (.lf l) => if size = 1 ∧ aH8 hs l = true then aB3 o l ps else none
 | _ => none
def sS (c : Ch) : List Ch → Option (List Ch)
 | [] => none
 | h :: hs => if h = c then some hs else match sS c hs with | some r => some (h :: r) | none => none
def kJ (hs : List Ch) (ek : EK) (ps : List Pt) : Option Tm :=
 match ek, ps with
 | [.int k], [.lf (.int k' t)] => if k' = k then some t else none
 | [.int _], _ => none
 | [c], [p] => jI hs c p
 | [_], _ => none
 | cs, ps => fP hs cs ps
def aP3 (ek : EK) (L i u : Tm) : Tm :=
 match ek with
 | [.int _] => .o3 .liset L i u
 | _ => .o3 .lset L i u
def aX4 (cx : Cx) (S : St) (t : TypeId) (x v : SV) (k : St → M) : M :=
 let size := cx.P.cellsOf t
 if size == 0 then .error "store: of what?" else
 uQ cx t v S fun v S =>
 match x with
 | .one (.lf (.ptr b o)) =>
  match iG b S.heap with
  | some ps => match yE S.heap size o ps v with
   | some qs => k { S with heap := lG b qs S.heap }
   | none => .error "store: no such place"
  | none => match oV S.heap with
   | some (m, kd, ek, L, ts) => match yE S.heap size o (aM4 ek L b) v with
    | some qs => match fP S.heap ek qs with
     | some rt => if ts = [] then obl (.o2 .nhas L b) (k { S with heap := dB m (.abs kd [m, .o3 .nset L b (.o2 .lcons (.o2 .lget (qG L b) (.int 0)) (.o2 .lcons (.o1 .asN (.o2 .lget (qG L b) (.int 1))) rt))]) S.heap }) else .error "store: into a map that is gone over"
     | none => .error "store: a block that can't be told"
    | none => .error "store: no such place"
   | none => .error "store: no such block"
 | .one (.lf (.aptr b o i n)) =>
  match iG b S.heap, v with
  | some ps, .one (.lf (.int k' u)) => match rP o n ps with
   | some (k1, L) => if k' = k1 ∧ size = 1 then match yC o n (.o3 .liset L i u) ps with
     | some qs => k { S with heap := lG b qs S.heap }
     | none => .error "store: no such numbers"
    else .error "store: a number of another kind"
   | none => .error "store: no such numbers"
  | _, _ => .error "store: no such block"
 | .one (.lf (.eptr a i es o)) =>
  match aZ a S.heap with
  | some (true, ek, L) =>
   if ek.width = es then match yE S.heap size o (aP4 ek L i) v with
    | some qs => match kJ S.heap ek qs with
     | some u => k { S with heap := lH a (aP3 ek L i u) S.heap }
     | none => .error "store: an element that can't be told"
    | none => .error "store: no such place in an element"
   else .error "store: an element of another size"
  | _ => .error "store: no such slice of its own"
 | _ => .error "store: no address that is known"
def aH4 (cx : Cx) (S : St) (t : TypeId) (ps : List Pt) (k : SV → St → M) : M :=
 match uP cx.P 20 t with
 | none => .error "a type that isn't laid"
 | some lay =>
  if ps.all (Pt.under S.aB.length) then
  lX lay ps S fun qs S =>
   if qs.all (Pt.under S.aB.length) then
   fresh S .N fun b S => k (.one (.lf (.ptr b 0))) { S with heap := .box b qs :: S.heap }
   else .error "a new block: parts that aren't known"
  else .error "a new block: parts that aren't known"
def aC6 (cx : Cx) (t : TypeId) : Option (List Pt) :=
 match cx.P.info? t, uP cx.P 20 t with
 | some i, some lay => match i.zero with
  | some z => mX lay z.cells.toList
  | none => none
 | _, _ => none
def oP (hs : List Ch) (ek : EK) (L : Tm) : Bool := fV ek || L = .lnil || hs.any (fun c => c = .abs (.deep ek) [L])
def oK (ek : EK) (L : Tm) (S : St) : St := if fV ek then S else { S with heap := .abs (.deep ek) [L] :: S.heap }
def qZ (hs : List Ch) (as : List Tm) : Bool := as.all fun a => match aZ a hs with | some (false, ek, L) => oP hs ek L | _ => false
def aF3 : List Tm → List Ch → List Ch
 | [], hs => hs
 | a :: as, hs => aF3 as (dJ a hs)
def uT (row : Tm) : Nat → EK → List Ch
 | _, [] => []
 | j, .sl ek :: cs => let t := Tm.o2 .lget row (.int j)
  .rsl (.o1 .asV (.o2 .lget t (.int 0))) ek (.o1 (asK ek) (.o2 .lget t (.int 1))) :: (if fV ek then [] else [.abs (.deep ek) [.o1 (asK ek) (.o2 .lget t (.int 1))]]) ++ uT row (j + 1) cs
 | j, _ :: cs => uT row (j + 1) cs
def cC1 (ek : EK) (L i : Tm) : List Ch :=
 match ek with
 | [.sl ek'] => let t := Tm.o2 .lget L i
  .rsl (.o1 .asV (.o2 .lget t (.int 0))) ek' (.o1 (asK ek') (.o2 .lget t (.int 1))) :: (if fV ek' then [] else [.abs (.deep ek') [.o1 (asK ek') (.o2 .lget t (.int 1))]])
 | [_] => []
 | cs => uT (.o1 .asL (.o2 .lget L i)) 0 cs
def aP6 (S : St) (x : SV) : St :=
 match x with
 | .one (.lf (.eptr a i _ _)) => match aZ a S.heap with
  | some (_, ek, L) => if fV ek then S else if oP S.heap ek L then { S with heap := (cC1 ek L i).filter (fun c => !S.heap.contains c) ++ S.heap } else S
  | none => S
 | _ => S
def aR8 (cx : Cx) (S : St) (x : SV) : SV :=
 match x with
 | .one (.lf (.ptr (.nat g) o)) => match uD g cx.G, aZ (.o1 .hdr (.nat g)) S.heap with
  | none, some _ => .one (.lf (.eptr (.o1 .hdr (.nat g)) (.int 0) 1 o))
  | _, _ => x
 | x => x
def aQ8 (wd : Nat) (hs : List Ch) : Option (EK × Tm × Tm × Tm × Tm) :=
 match hs.findSome? (fun c => match c with | .osl _ [.sl lk] L0 => if EK.width lk == wd then some (lk, L0) else none | _ => none) with
 | some (lk, L0) => match hs.findSome? (fun c => match c with | .abs (.deep [.sl lk']) [I] => if lk' = lk then some I else none | _ => none), hs.reverse.findSome? (fun c => match c with | .osl V lk' _ => if lk' = lk then some V else none | _ => none) with
  | some I, some V => match aZ V hs with
   | some (_, lk', Lv) => if lk' = lk ∧ fV lk = true ∧ oP (dJ V hs) [.sl lk] I = true then some (lk, I, V, Lv, L0) else none
   | none => none
  | _, _ => none
 | none => none
def aQ9 (cx : Cx) (d : Option Tmp) (S : St) (k : St → M) : M :=
 match (d.bind fun d => cx.anns.find? fun a => a.key == 5000000 + d).bind fun a => aQ8 a.j S.heap with
 | some (lk, I, V, Lv, L0) => match k (oK [.sl lk] L0 { S with heap := dJ V S.heap }) with
  | .ok vc => .ok (.inv 900 [.o2 .ltake (.o2 .lapp I (.o2 .lcons (.o2 .lcons (.o1 .asV V) (.o2 .lcons Lv .lnil)) .lnil)) (.o1 .llen L0), L0] vc)
  | .error e => .error e
 | none => k S
def aM5 (cx : Cx) (d : Option Tmp) (S : St) (v : SV) (k : SV → M) : M :=
 match d, v with
 | some d, .one (.lf (.sl t)) =>
  if cx.anns.any (fun a => a.key == 4000000 + d) && (aZ t S.heap).isNone then
   match S.heap.reverse.findSome? (fun c => match c with | .osl b ek _ => if cx.anns.any (fun a => a.key == 4000000 + d && a.j == ek.width) then some b else none | _ => none) with
   | some b => match k (.one (.lf (.sl b))) with
    | .ok vc => .ok (.inv 900 [t, b] vc)
    | .error e => .error e
   | none => k v
  else k v
 | _, _ => k v
def nS (S : St) (ek : EK) (L : Tm) (k : SV → St → M) : M :=
 if L.under S.aB.length then
 fresh S .V fun a S => k (.one (.lf (.sl a))) { S with heap := .osl a ek L :: S.heap }
 else .error "a new slice: what isn't known"
def aU6 (S : St) (ek : EK) (L : Tm) (k : SV → St → M) : M :=
 if L.under S.aB.length then
 fresh S .V fun a S => k (.one (.lf (.sl a))) { S with heap := .rsl a ek L :: S.heap }
 else .error "a new slice: what isn't known"
def aL0 (hs : List Ch) : SV → Option (List Pt)
 | .one (.lf l) => if aH8 hs l then some [.lf l] else none
 | .one (.agg ps) => some ps
 | _ => none
def wH (cx : Cx) (S : St) (place : Nat → Option (Nat × Nat × TypeId)) : List (Nat × Operand) → List Pt → Except String (List Pt)
 | [], ps => .ok ps
 | (i, x) :: r, ps => match place i with
  | none => .error "build: no such part"
  | some (off, size, t) => match evT cx S t x with
   | .error e => .error e
   | .ok v => match yE S.heap size off ps v with
    | some qs => wH cx S place r qs
    | none => .error "build: a part that doesn't fit"
def aN7 (cx : Cx) (S : St) (t : TypeId) (args : List (Nat × Operand)) (ret : SV → M) : M :=
 match cx.P.underlying t, aC6 cx t with
 | some (.struct fs), some zs =>
  if fs.all (fun f => cx.P.cellsOf f.type != 0) then
   match wH cx S (fun i => (fs[i]?).map fun f => (f.offset, cx.P.cellsOf f.type, f.type)) args zs with
   | .ok ps => ret (.one (.agg ps))
   | .error e => .error e
  else .error "build: fields of no size"
 | some (.array _ e), some zs =>
  if cx.P.cellsOf e = 0 then .error "build: elements of no size" else
  match wH cx S (fun i => some (i * cx.P.cellsOf e, cx.P.cellsOf e, e)) args zs with
  | .ok ps => ret (.one (.agg ps))
  | .error er => .error er
 | _, _ => .error "build: of what?"
def yN (cx : Cx) (S : St) (e : TypeId) (size : Nat) : Nat → List (Nat × Operand) → Except String (List (List Pt))
 | _, [] => .ok []
 | j, (i, x) :: r =>
  if i = j then match evT cx S e x with
   | .error er => .error er
   | .ok v => match aL0 S.heap v with
    | none => .error "buildSlice: a part that is no value"
    | some ps => if rZ ps = size then match yN cx S e size (j + 1) r with
      | .ok pss => .ok (ps :: pss)
      | .error er => .error er
     else .error "buildSlice: a part of another size"
  else .error "buildSlice: a part that isn't given"
def bA3 (cx : Cx) (S : St) (e : TypeId) (len n : Nat) (ps : List Pt) (zero : Bool) (k : SV → St → M) : M :=
 if cx.P.cellsOf e = 1 ∧ n = len ∧ len ≠ 0 ∧ len ≤ 1000 ∧ zero = true ∧ ps.all (Pt.under S.aB.length) = true then
  fresh S .N fun b S => k (.one (.lf (.bsl b 0 len))) { S with heap := .box b ps :: S.heap }
 else .error "buildSlice: of functions"
def nilRow (cx : Cx) (e : TypeId) (len : Nat) (args : List (Nat × Operand)) : Option EK :=
 match args with
 | [(0, .const (.slice none 0 0))] => match zX cx.P 20 e, cx.P.info? e with
  | some [.sl lk], some i => if len = 1 ∧ i.size = 1 ∧ i.zero.isSome = true ∧ cx.anns.any (fun a => a.key == 7000000 && a.j == EK.width lk) = true then some lk else none
  | _, _ => none
 | _ => none
def aN8 (cx : Cx) (S : St) (t : TypeId) (len : Nat) (args : List (Nat × Operand)) (k : SV → St → M) : M :=
 match cx.P.underlying t with
 | some (.slice e) => match nilRow cx e len args with
  | some lk => fresh S .V fun a S => nS { S with heap := .osl a lk (jE lk) :: S.heap } [.sl lk] (.o2 .lcons (.o2 .lcons (.o1 .asV a) (.o2 .lcons (jE lk) .lnil)) .lnil) k
  | none => match zX cx.P 20 e, yN cx S e (cx.P.cellsOf e) 0 args, cx.P.info? e with
   | some ek, .ok pss, some i =>
    let S := if fV ek then S else { S with heap := aF3 (pss.flatMap nV) S.heap }
    match rQ S.heap ek pss with
    | some L => if ek.width = cx.P.cellsOf e ∧ cx.P.cellsOf e ≠ 0 ∧ args.length = len ∧ len * ek.width ≤ 16777216 ∧ i.zero.isSome = true ∧ (fV ek || qZ S.heap (pss.flatMap nV)) = true then nS (oK ek L S) ek L k else .error "buildSlice: too great"
    | none => .error "buildSlice: elements that can't be told"
   | none, .ok pss, some i => bA3 cx S e len args.length pss.flatten i.zero.isSome k
   | _, .error er, _ => .error er
   | _, _, _ => .error "buildSlice: of what?"
 | _ => .error "buildSlice: no slice"
def gG (a b : Tm) (k : M) : M :=
 match a, b with
 | .int x, .int y => if x ≤ y then k else .error "a bound that fails"
 | .int 0, .o1 .slen _ => k
 | .int 0, .o1 .lilen _ => k
 | .int 0, .o1 .llen _ => k
 | a, b => if a = b then k else obl (.o2 .le a b) k
def uV (a b : Tm) (k : M) : M :=
 match a, b with
 | .int x, .int y => if x < y then k else .error "a bound that fails"
 | a, b => obl (.o2 .lt a b) k
def aQ0 (cx : Cx) (s : TypeId) (x : SV) (f : Nat) (ret : SV → M) : M :=
 match cx.P.underlying s with
 | some (.struct fs) => match fs[f]? with
  | some fd => if cx.P.cellsOf fd.type = 0 then .error "fieldAddr: a field without cells" else
   match x with
   | .one (.lf (.ptr b o)) => ret (.one (.lf (.ptr b (o + fd.offset))))
   | .one (.lf (.eptr a i es o)) => ret (.one (.lf (.eptr a i es (o + fd.offset))))
   | _ => .error "fieldAddr: no address that is known"
  | none => .error "fieldAddr: no such field"
 | _ => .error "fieldAddr: no struct"
def aS2 (cx : Cx) (S : St) (t : TypeId) (x ix : SV) (ret : SV → M) : M :=
 match ix with
 | .one (.lf (.int _ i)) =>
  match cx.P.underlying t with
  | some (.array len e) =>
   match x with
   | .one (.lf (.ptr b o)) =>
    match i with
    | .int n => if 0 ≤ n ∧ n < len ∧ cx.P.cellsOf e ≠ 0 then ret (.one (.lf (.ptr b (o + n.toNat * cx.P.cellsOf e)))) else .error "indexAddr: beyond"
    | i => if cx.P.cellsOf e = 1 then gG (.int 0) i (uV i (.int len) (ret (.one (.lf (.aptr b o i len))))) else .error "indexAddr: elements of many cells"
   | _ => .error "indexAddr: no address that is known"
  | some (.slice e) =>
   match x with
   | .one (.lf (.sl a)) => match aZ a S.heap with
    | some (_, ek, L) => if ek.width = cx.P.cellsOf e ∧ cx.P.cellsOf e ≠ 0 then gG (.int 0) i (uV i (mG ek L) (ret (.one (.lf (.eptr a i ek.width 0))))) else .error "indexAddr: elements of another size"
    | none => .error "indexAddr: no such slice"
   | .one (.lf (.bsl b o n)) => if cx.P.cellsOf e = 1 then gG (.int 0) i (uV i (.int n) (ret (.one (.lf (.aptr b o i n))))) else .error "indexAddr: elements of many cells"
   | _ => .error "indexAddr: no slice that is known"
  | _ => .error "indexAddr: of what?"
 | _ => .error "indexAddr: no number"
def aS3 (cx : Cx) (t : TypeId) (x ix : SV) (ret : SV → M) : M :=
 match ix with
 | .one (.lf (.int _ i)) =>
  match cx.P.underlying t, x with
  | some .string, .one (.lf (.str s)) => gG (.int 0) i (uV i (.o1 .slen s) (ret (.one (.lf (.int .u8 (.o2 .byte s i))))))
  | some (.array len e), .one (.agg [.ints k n L]) =>
   if n = len ∧ cx.P.cellsOf e = 1 ∧ gK cx.P e = false ∧ (cx.P.underlying e).isSome = true then gG (.int 0) i (uV i (.int len) (ret (.one (.lf (.int k (.o2 .liget L i)))))) else .error "index: of what?"
  | _, _ => .error "index: of what?"
 | _ => .error "index: no number"
def aQ1 (cx : Cx) (t : TypeId) (x : SV) (f : Nat) (ret : SV → M) : M :=
 match cx.P.underlying t, x with
 | some (.struct fs), .one (.agg ps) => match fs[f]? with
  | some fd => if (cx.P.underlying fd.type).isNone || cx.P.cellsOf fd.type == 0 then .error "field: of what?" else pF (gK cx.P fd.type) (cx.P.cellsOf fd.type) fd.offset ps ret
  | none => .error "field: no such field"
 | _, _ => .error "field: of what?"
def xI : Option SV → Tm → Except String Tm
 | none, d => .ok d
 | some (.one (.lf (.int _ i))), _ => .ok i
 | _, _ => .error "slice: no number"
def dropped (cx : Cx) (d : Option Tmp) : Bool :=
 match d with
 | some d => cx.anns.any fun a => a.key == 3000000 + d
 | none => false
def aB6 (cx : Cx) (S : St) (t : TypeId) (x : SV) (lo hi : Option SV) (mx drop : Bool) (k : SV → St → M) : M :=
 if mx then .error "slice: three bounds" else
 match x with
 | .one (.lf (.str s)) =>
  match cx.P.underlying t with
  | some .string => match xI lo (.int 0), xI hi (.o1 .slen s) with
   | .ok l, .ok h => gG l h (gG (.int 0) l (gG h (.o1 .slen s) (k (.one (.lf (.str (.o3 .ssub s l h)))) S)))
   | .error e, _ => .error e
   | _, .error e => .error e
  | _ => .error "slice: no text"
 | .one (.lf (.sl a)) =>
  match cx.P.underlying t, aZ a S.heap with
  | some (.slice e), some (_, ek, L) => match xI lo (.int 0), xI hi (mG ek L) with
   | .ok l, .ok h =>
    if ek.width = cx.P.cellsOf e ∧ cx.P.cellsOf e ≠ 0 then
     if oP S.heap ek L then
     gG l h (gG (.int 0) l (gG h (mG ek L) (if drop then k (.one (.lf .junk)) S else aU6 { oK ek (tY ek L l h) S with heap := dJ a (oK ek (tY ek L l h) S).heap } ek (tY ek L l h) k)))
     else .error "slice: what its elements hold isn't told"
    else .error "slice: elements of another size"
   | .error e, _ => .error e
   | _, .error e => .error e
  | _, _ => .error "slice: no such slice"
 | .one (.lf (.ptr b o)) =>
  match cx.P.underlying t, lo, hi with
  | some (.array n e), none, none => if cx.P.cellsOf e = 1 then k (.one (.lf (.bsl b o n))) S else .error "slice: an array of what?"
  | _, _, _ => .error "slice: an array's part"
 | _ => .error "slice: of what?"
def yT (cx : Cx) (S : St) (src dst : TypeId) (x : SV) (k : SV → St → M) : M :=
 match cx.P.underlying src, cx.P.underlying dst, x with
 | some _, some (.int k1), .one (.lf (.int k0 t)) => k (.one (.lf (.int k1 (if k0 = k1 then t else .o1 (.wrap k1) t)))) S
 | some _, some .string, .one (.lf (.str s)) => k (.one (.lf (.str s))) S
 | some _, some (.slice e), .one (.lf (.str s)) => match cx.P.underlying e with
  | some (.int .u8) => nS S [.int .u8] (.o1 .aH s) k
  | _ => .error "convert: a text to what?"
 | some (.slice e), some .string, .one (.lf (.sl a)) => match cx.P.underlying e, aZ a S.heap with
  | some (.int .u8), some (_, ek, L) => if ek = [.int .u8] then k (.one (.lf (.str (.o1 .ofLi L)))) S else .error "convert: what to a text?"
  | _, _ => .error "convert: what to a text?"
 | some (.slice e), some .string, .one (.lf (.bsl b o n)) => match cx.P.underlying e, iG b S.heap with
  | some (.int .u8), some ps => match rP o n ps with
   | some (kk, L) => if kk = .u8 ∧ (n : Int) ≤ bW then k (.one (.lf (.str (.o1 .ofLi L)))) S else .error "convert: no such bytes"
   | _ => .error "convert: no such bytes"
  | _, _ => .error "convert: what to a text?"
 | _, _, _ => .error "convert: what to what?"
def yX (ek : EK) (l z : Tm) : Tm := match ek with | [.int _] => Tm.o2 .lirep l z | _ => Tm.o2 .lrep l z
def aT7 (cx : Cx) (S : St) (t : TypeId) (len cap : SV) (k : SV → St → M) : M :=
 match cx.P.underlying t, len, cap with
 | some (.slice e), .one (.lf (.int .i64 l)), .one (.lf (.int .i64 c)) =>
  match aP2 cx.P 20 e, aC6 cx e with
  | some ek, some zs => match kJ [] ek zs, cx.P.info? e with
   | some z, some i =>
    if fV ek = false then .error "makeSlice: slices in it" else
    if ek.width = i.size ∧ 0 < i.size ∧ 0 < i.bytes ∧ rZ zs = i.size then
     if l = c then gG (.int 0) l (gG l (.int (140737488355328 / i.bytes)) (nS S ek (yX ek l z) k))
     else if l = .int 0 then gG (.int 0) c (gG c (.int (140737488355328 / i.bytes)) (nS S ek (jE ek) k))
     else .error "makeSlice: a length and another capacity"
    else .error "makeSlice: elements of another size"
   | _, _ => .error "makeSlice: no zero"
  | _, _ => .error "makeSlice: of what?"
 | _, _, _ => .error "makeSlice: of what?"
def bF7 (P : Program) (t : TypeId) : Bool :=
 match P.underlying t with | some (.slice _) => true | _ => false
def aN2 (cx : Cx) (S : St) (o : BinOp) (t : TypeId) (x y : SV) (ret : SV → M) : M :=
 match x, y with
 | .one (.lf (.sl a)), .one (.lf .nilsl) => match aZ a S.heap with
  | some (_, ek, L) => if bF7 cx.P t then
    match o with
    | .eql => match ret (.one (.lf (.bool (.bool true)))), ret (.one (.lf (.bool (.bool false)))) with
     | .ok v1, .ok v2 => .ok (.and (.imp (.o2 .eq (mG ek L) (.int 0)) true v1) v2)
     | .error e, _ => .error e
     | _, .error e => .error e
    | .neq => match ret (.one (.lf (.bool (.bool false)))), ret (.one (.lf (.bool (.bool true)))) with
     | .ok v1, .ok v2 => .ok (.and (.imp (.o2 .eq (mG ek L) (.int 0)) true v1) v2)
     | .error e, _ => .error e
     | _, .error e => .error e
    | _ => .error "an operation on slices that isn't taken"
   else .error "no slices"
  | none => .error "binOp: no such slice"
 | _, _ => aN3 cx.P t o x y ret
def aT1 (cx : Cx) (S : St) (t : TypeId) (x : SV) (ret : SV → M) : M :=
 match cx.P.underlying t, x with
 | some .string, .one (.lf (.str s)) => ret (.one (.lf (.int .i64 (.o1 .slen s))))
 | some (.array n _), _ => if (n : Int) ≤ bW then ret (.one (.lf (.int .i64 (.int n)))) else .error "len: great"
 | some (.slice _), .one (.lf (.sl a)) => match aZ a S.heap with
  | some (_, ek, L) => ret (.one (.lf (.int .i64 (mG ek L))))
  | none => .error "len: no such slice"
 | some (.slice _), .one (.lf (.bsl _ _ n)) => if (n : Int) ≤ bW then ret (.one (.lf (.int .i64 (.int n)))) else .error "len: great"
 | some (.pointer a), _ => match cx.P.underlying a with
  | some (.array n _) => if (n : Int) ≤ bW then ret (.one (.lf (.int .i64 (.int n)))) else .error "len: great"
  | _ => .error "len: of what?"
 | _, _ => .error "len: of what?"
def rJ (o : O2) : IntKind → Tm → List SV → Option Tm
 | _, t, [] => some t
 | k, t, .one (.lf (.int k' u)) :: r => if k' = k then rJ o k (.o2 o t u) r else none
 | _, _, _ => none
def xA (o : O2) (args : List SV) (ret : SV → M) : M :=
 match args with
 | .one (.lf (.int k t)) :: r => match rJ o k t r with
  | some u => ret (.one (.lf (.int k u)))
  | none => .error "min, max: of what?"
 | _ => .error "min, max: of what?"
def aS7 (P : Program) : Option TypeId → Bool
 | some t => match P.underlying t with | some .string => true | _ => false
 | none => false
def aM7 (hs : List Ch) (ek : EK) (L : Tm) (x : SV) : Bool :=
 oP hs ek L && match x with
  | .one (.lf (.sl b)) => match aZ b hs with
   | some (_, _, L') => oP hs ek L'
   | none => true
  | _ => true
def aE3 (b : Bool) (ek : EK) (L : Tm) (S : St) : St := if b then oK ek L S else S
def bQ2 (i : TypeInfo) : Bool :=
 match i.zero with
 | some z => z.cells.size == i.size
 | none => false
def aM8 (cx : Cx) (S : St) (t : TypeId) (tx : Option TypeId) (s x : SV) (k : SV → St → M) : M :=
 match cx.P.underlying t, s with
 | some (.slice e), .one (.lf (.sl a)) =>
  match aZ a S.heap, cx.P.info? e with
  | some (true, ek, L), some i =>
   if ek.width = i.size ∧ 0 < i.size ∧ 0 < i.bytes ∧ bQ2 i = true then
    let dp := aM7 S.heap ek L x   -- else: what the elements hold isn't told of the new one either
    let fin (N : Tm) : M := gG (mG ek N) (.int (140737488355328 / i.bytes)) (nS { aE3 dp ek N S with heap := fH a (aE3 dp ek N S).heap } ek N k)
    match x with
    | .one (.lf (.sl b)) => match aZ b S.heap with
     | some (_, ek', L') => if ek' = ek ∧ tx = some t ∧ (oP S.heap ek L' = true ∨ dp = false) then fin (qM ek L L') else .error "append: other elements"
     | none => .error "append: no such slice behind"
    | .one (.lf (.str z)) => if ek = [.int .u8] ∧ aS7 cx.P tx then fin (qM ek L (.o1 .aH z)) else .error "append: a text to what?"
    | .one (.lf .nilsl) => if tx = some t then fin L else .error "append: nil of what?"
    | _ => .error "append: what?"
   else .error "append: elements of another size"
  | _, _ => .error "append: to a slice that isn't its own"
 | _, _ => .error "append: to what?"
def copyS (cx : Cx) (S : St) (t tx : TypeId) (d x : SV) (k : SV → St → M) : M :=
 let src : Option Tm := match x with
  | .one (.lf (.str z)) => if aS7 cx.P (some tx) then some (.o1 .aH z) else none
  | .one (.lf (.sl b)) => match aZ b S.heap with
   | some (_, [.int .u8], L) => some L
   | _ => none
  | _ => none
 match src, cx.P.underlying t with
 | some X, some (.slice e) =>
  if cx.P.cellsOf e = 1 then
  match d with
  | .one (.lf (.bsl b o n)) => match iG b S.heap with
   | some ps => match rP o n ps with
    | some (.u8, L) =>
     let m := Tm.o2 .min (.o1 .lilen X) (.int n)
     match yC o n (.o2 .liapp (.o2 .litake X (.int n)) (.o2 .lidrop L (.o1 .lilen X))) ps with
     | some qs => k (.one (.lf (.int .i64 m))) { S with heap := lG b qs S.heap }
     | none => .error "copy: no such numbers"
    | _ => .error "copy: no such bytes"
   | none => .error "copy: no such block"
  | .one (.lf (.sl a)) => match aZ a S.heap with
   | some (true, [.int .u8], L) =>
    let m := Tm.o2 .min (.o1 .lilen X) (.o1 .lilen L)
    k (.one (.lf (.int .i64 m))) { S with heap := lH a (.o2 .liapp (.o2 .litake X (.o1 .lilen L)) (.o2 .lidrop L (.o1 .lilen X))) S.heap }
   | _ => .error "copy: into what?"
  | _ => .error "copy: into what?"
  else .error "copy: elements of many cells"
 | _, _ => .error "copy: of what?"
abbrev Bind := List (Option Tm)
def uTm (n0 : Nat) (p t : Tm) (θ : Bind) : Bind :=
 match p with
 | .at i => if i < n0 then θ else match θ.getD (i - n0) none with
  | none => θ.set (i - n0) (some t)
  | some _ => θ
 | .o1 _ p => match t with
  | .o1 _ t => uTm n0 p t θ
  | _ => θ
 | .o2 _ p _ => match t with
  | .o2 _ t _ => uTm n0 p t θ
  | _ => θ
 | _ => θ
def aL9 (n0 : Nat) : List Tm → List Tm → Bind → Bind
 | p :: ps, t :: ts, θ => aL9 n0 ps ts (uTm n0 p t θ)
 | _, _, θ => θ
def uLf (n0 : Nat) (p l : Lf) (θ : Bind) : Bind :=
 match p, l with
 | .int _ t, .int _ u | .bool t, .bool u | .str t, .str u | .sl t, .sl u | .mp t, .mp u | .ptr t _, .ptr u _ => uTm n0 t u θ
 | .bsl t _ _, .bsl u _ _ => uTm n0 t u θ
 | .aptr b _ i _, .aptr b' _ i' _ => uTm n0 i i' (uTm n0 b b' θ)
 | .eptr a i _ _, .eptr a' i' _ _ => uTm n0 i i' (uTm n0 a a' θ)
 | .clo _ fs cs, .clo _ fs' cs' => aL9 n0 cs cs' (aL9 n0 fs fs' θ)
 | _, _ => θ
def aL7 (n0 : Nat) : List Pt → List Pt → Bind → Bind
 | .lf l :: ps, .lf l' :: qs, θ => aL7 n0 ps qs (uLf n0 l l' θ)
 | .ints _ _ L :: ps, .ints _ _ L' :: qs, θ => aL7 n0 ps qs (uTm n0 L L' θ)
 | _, _, θ => θ
def uS0 (n0 : Nat) (p x : S0) (θ : Bind) : Bind :=
 match p, x with
 | .lf l, .lf l' => uLf n0 l l' θ
 | .agg ps, .agg qs => aL7 n0 ps qs θ
 | _, _ => θ
def uS0s (n0 : Nat) : List S0 → List S0 → Bind → Bind
 | x :: xs, y :: ys, θ => uS0s n0 xs ys (uS0 n0 x y θ)
 | _, _, θ => θ
def uSV (n0 : Nat) (p x : SV) (θ : Bind) : Bind :=
 match p, x with
 | .one a, .one b => uS0 n0 a b θ
 | .tup xs, .tup ys => uS0s n0 xs ys θ
 | _, _ => θ
def aL8 (n0 : Nat) : List SV → List SV → Bind → Bind
 | x :: xs, y :: ys, θ => aL8 n0 xs ys (uSV n0 x y θ)
 | _, _, θ => θ
def aD4 (θ : Bind) : List Tm := θ.map fun x => x.getD default
def bD7 (n0 : Nat) (θ : Bind) : Tm → Bool
 | .at i => n0 ≤ i && (θ.getD (i - n0) none).isNone
 | _ => false
def mY (n0 : Nat) (hs : List Ch) : List Ch → Bind → Bind
 | [], θ => θ
 | .box b ps :: cs, θ => mY n0 hs cs (match iG (b.subst n0 (aD4 θ)) hs with | some qs => aL7 n0 ps qs θ | none => θ)
 | .osl a ek L :: cs, θ => mY n0 hs cs (if bD7 n0 θ a then (match hs.findSome? (fun c => match c with | .osl b ek' L' => if ek' = ek && !θ.contains (some b) then some (b, L') else none | _ => none) with | some (b, L') => uTm n0 L L' (uTm n0 a b θ) | none => θ)
   else match aZ (a.subst n0 (aD4 θ)) hs with | some (_, _, L') => uTm n0 L L' θ | none => θ)
 | .rsl a _ L :: cs, θ => mY n0 hs cs (match aZ (a.subst n0 (aD4 θ)) hs with | some (_, _, L') => uTm n0 L L' θ | none => θ)
 | .abs (.deep ek) [a] :: cs, θ => mY n0 hs cs (if bD7 n0 θ a then (match hs.findSome? (fun c => match c with | .abs (.deep ek') [b] => if ek' = ek then some b else none | _ => none) with | some b => uTm n0 a b θ | none => θ) else θ)
 | .abs (.deep _) _ :: cs, θ => mY n0 hs cs θ
 | .abs _ (b :: ts) :: cs, θ => mY n0 hs cs (match dV (b.subst n0 (aD4 θ)) hs with | some (_, _ :: ts') => aL9 n0 ts ts' θ | _ => θ)
 | .abs _ [] :: cs, θ => mY n0 hs cs θ
def bound : Bind → Option (List Tm)
 | [] => some []
 | some t :: r => match bound r with | some ts => some (t :: ts) | none => none
 | none :: _ => none
def aC0 (c : Ch) : List Ch → Option (List Ch)
 | [] => none
 | h :: hs => if h = c then some hs else match aC0 c hs with | some r => some (h :: r) | none => none
def jH : Ch → Bool
 | .rsl .. => true
 | .abs (.deep _) _ => true
 | _ => false
def jQ : List Ch → List Ch → Option (List Ch)
 | [], hs => some hs
 | c :: cs, hs => if jH c then jQ cs hs else match aC0 c hs with | some r => jQ cs r | none => none
def xW (strict : Bool) (hs : List Ch) : Ch → Bool
 | .rsl a ek L => hs.any (fun c => c = .rsl a ek L) || (!strict && hs.any (fun c => c = .osl a ek L))
 | .abs (.deep ek) [L] => fV ek || L = .lnil || hs.any (fun c => c = .abs (.deep ek) [L])
 | .abs (.deep _) _ => false
 | _ => true
def cover (strict : Bool) (pat hs : List Ch) : Option (List Ch) :=
 match jQ pat hs with
 | some r => if pat.all (xW strict r) then some r else none
 | none => none
def tV : List SV → List SV → Bool
 | [], [] => true
 | p :: ps, x :: xs => (p = x || p = .one (.lf .junk)) && tV ps xs
 | _, _ => false
def shapes (ss : List Srt) : List Tm → List Srt → Bool
 | [], [] => true
 | t :: ts, s :: r => t.shp ss = some s && shapes ss ts r
 | _, _ => false
def aG8 : Lf → List Fact
 | .int k t => [.has k t]
 | .str t => [.ssz t]
 | _ => []
def aI5 : Pt → List Fact
 | .lf l => aG8 l
 | .ints k n L => [.len L n, .allHas k L]
def aJ9 : S0 → List Fact
 | .lf l => aG8 l
 | .agg ps => ps.flatMap aI5
def aB8 : SV → List Fact
 | .one x => aJ9 x
 | .tup xs => xs.flatMap aJ9
def vY : Ch → List Fact
 | .box _ ps => ps.flatMap aI5
 | .osl _ ek L => match ek with | [.int k] => [.allHas k L] | ek => [.ekok ek L]
 | .rsl _ ek L => match ek with | [.int k] => [.allHas k L] | ek => [.ekok ek L]
 | .abs (.deep _) _ => []
 | .abs k ts => [.kd k ts]
def knows : List Fact → M → M
 | [], k => k
 | f :: fs, k => match knows fs k with | .ok v => .ok (.know f v) | .error e => .error e
def Fact.at (n : Nat) : Fact → Bool
 | .has _ (.at i) | .ssz (.at i) | .allHas _ (.at i) | .len (.at i) _ | .ekok _ (.at i) => decide (n ≤ i)
 | .kd _ ts => ts.any fun t => match t with | .at i => decide (n ≤ i) | _ => false
 | _ => false
def uI (S : St) : List Srt → (List Tm → St → M) → M
 | [], k => k [] S
 | s :: ss, k => fresh S s fun a S => uI S ss fun as S => k (a :: as) S
def wM : List Ch → List Ch → List Ch
 | [], hs => hs
 | .rsl a _ _ :: cs, hs => wM cs (dJ a hs)
 | _ :: cs, hs => wM cs hs
def uF (f : FuncId) : List (FuncId × Nat × SigR) → Option (Nat × SigR)
 | [] => none
 | (g, c, R) :: r => if g = f then some (c, R) else uF f r
def xQ (cx : Cx) (f : FuncId) : Bool :=
 match uF f cx.sigs with
 | some (_, R) => R.heap.all jH
 | none => false
def bA7 (R : SigR) (θ' : List Tm) (m c : Nat) (S : St) (k : SV → St → M) : M :=
 let v := R.res.subst 0 θ'
 let hs := R.heap'.map (Ch.subst 0 θ')
 match knows ((aB8 v ++ hs.flatMap vY).filter (Fact.at (S.aB.length - m))) (k v { S with heap := hs ++ S.heap }) with
 | .ok w => .ok (.post c θ' w)
 | .error e => .error e
def both (a b : M) : M :=
 match a, b with
 | .ok x, .ok y => .ok (.and x y)
 | .error e, _ => .error e
 | _, .error e => .error e
def yQ (S : St) (f c : Nat) (R : SigR) (args : List SV) (k : SV → St → M) : M :=
 match bound (mY 0 S.heap R.heap (aL8 0 R.args args (List.replicate R.aB.length none))) with
 | none => .error ("call: a contract's words aren't bound: " ++ toString f)
 | some θ =>
  if R.args.map (SV.subst 0 θ) = args ∧ θ.all (Tm.under S.aB.length) = true then
  if shapes S.aB θ R.aB then
  let pat := R.heap.map (Ch.subst 0 θ)
  let lends := R.heap'.any jH
  let H := if lends then wM pat S.heap else S.heap
  match cover lends pat H with
  | none => .error ("call: a contract's heap isn't there: " ++ toString f)
  | some rest =>
   match uI { S with heap := rest } R.news fun as S => bA7 R (θ ++ as) as.length c S k with
   | .ok w => .ok (.pre c θ w)
   | .error e => .error e
  else .error ("call: shapes: " ++ toString f)
  else .error ("call: arguments: " ++ toString f)
def bI8 : List SV → List SV → Bool
 | .one (.lf (.ptr _ _)) :: _, .one (.lf .nilp) :: _ => true
 | _ :: ps, _ :: xs => bI8 ps xs
 | _, _ => false
def aD6 (cx : Cx) (S : St) (f : FuncId) (args : List SV) (k : SV → St → M) : M :=
 match uF f cx.sigs with
 | none => .error ("call: no contract of function " ++ toString f)
 | some (c, R) => if bI8 R.args args then .ok (.obl (.bool false) .tt) else match R.second with
  | none => yQ S f c R args k
  | some r => both (yQ S f c R args k) (yQ S f (c + 200) r args k)
def evs (cx : Cx) (S : St) : List Operand → List TypeId → Except String (List SV)
 | [], _ => .ok []
 | x :: xs, ts =>
  match evT cx S (ts.headD 0) x, evs cx S xs ts.tail with
  | .ok v, .ok r => .ok (v :: r)
  | .error e, _ => .error e
  | _, .error e => .error e
def zW (cx : Cx) : List SV → List TypeId → St → (List SV → St → M) → M
 | [], _, S, k => k [] S
 | v :: vs, ts, S, k =>
  if vs.all (SV.under S.aB.length) then uQ cx (ts.headD 0) v S fun v S =>
   if v.under S.aB.length then zW cx vs ts.tail S fun vs S => k (v :: vs) S else .error "an argument that isn't known"
  else .error "an argument that isn't known"
def cZ (x : Except String SV) (k : SV → M) : M :=
 match x with | .ok v => k v | .error e => .error e
def aT3 : SV → Option Bool
 | .one (.lf (.bool (.bool b))) => some b
 | _ => none
def svLf : SV → Option Lf
 | .one (.lf l) => some l
 | _ => none
def wQ (K : CK) (v : SV) : Option Tm :=
 match svLf v with
 | some l => match K with
  | .int _ | .str | .bool => jI [] K (.lf l)
  | _ => none
 | none => none
def yA (r : Tm) : Tm := .o2 .lget r (.int 1)
def xY (E : CK) (t : Tm) : Option Lf := match zQ E t with | .lf l => some l | _ => none
def aR0 (kd : Kd) (L kt : Tm) : Option Lf :=
 match kd with
 | .mp _ E => xY E (yA (.o2 .mget L kt))
 | .mpp _ _ => some (.ptr (.o1 .asN (yA (.o2 .mget L kt))) 0)
 | _ => none
def aU4 (cx : Cx) (t : TypeId) : Option Lf :=
 match cx.P.underlying t with
 | some (.map _ e) => match cx.P.info? e with
  | some i => match i.zero with
   | some z => zO z
   | none => none
  | none => none
 | _ => none
def lW : Kd → CK
 | .mp K _ | .mpp K _ | .mpi K _ | .mppi K _ => K
 | .deep _ => .bool
def mapOf (cx : Cx) (S : St) (t : TypeId) (x : SV) : Except String (Kd × Tm × Tm) :=
 match x with
 | .one (.lf (.mp b)) => match dV b S.heap with
  | some (kd, ts) => match xK kd ts with
   | some (kd, b', L) => if wY cx.P t = some kd ∧ b' = b then .ok (kd, b, L) else .error "a map of another type"
   | none => .error "no such map"
  | none => .error "no such map"
 | _ => .error "no map that is known"
def aT6 (cx : Cx) (S : St) (t : TypeId) (x ix : SV) (commaOk : Bool) (ret : SV → M) : M :=
 match mapOf cx S t x with
 | .error e => .error ("lookup: " ++ e)
 | .ok (kd, _, L) => match wQ (lW kd) ix with
  | none => .error "lookup: no key"
  | some kt =>
   let out (l : Lf) (b : Bool) : M := ret (if commaOk then .tup [.lf l, .lf (.bool (.bool b))] else .one (.lf l))
   match aR0 kd L kt with
   | none => .error "lookup: of what?"
   | some f => if !commaOk && (match kd with | .mpp _ _ => true | _ => false) then obl (.o2 .mhas L kt) (out f true) else match aU4 cx t with
    | some m => both (imp (.o2 .mhas L kt) true (out f true)) (imp (.o2 .mhas L kt) false (out m false))
    | none => .error "lookup: of what?"
def aT9 (cx : Cx) (S : St) (t : TypeId) (x ix v : SV) (k : St → M) : M :=
 match mapOf cx S t x with
 | .error e => .error ("mapUpdate: " ++ e)
 | .ok (kd, b, L) => match wQ (lW kd) ix with
  | none => .error "mapUpdate: no key"
  | some kt => match kd with
   | .mp K E => match wQ E v with
    | some vt =>
     let L' := Tm.o3 .mset L kt (.o2 .lcons kt (.o2 .lcons vt .lnil))
     gG (.o1 .llen L') (.int 1000000000) (k { S with heap := dB b (.abs (.mp K E) [b, L']) S.heap })
    | none => .error "mapUpdate: a value of another kind"
   | .mpp K ek => match v with
    | .one (.lf (.ptr pb 0)) => match iG pb S.heap with
     | some ps => match fP [] ek ps, sS (.box pb ps) S.heap with
      | some rt, some hs =>
       let L' := Tm.o3 .mset L kt (.o2 .lcons kt (.o2 .lcons (.o1 .asN pb) rt))
       if pb.under S.aB.length && rt.under S.aB.length then
       gG (.o1 .llen L') (.int 1000000000) (k { S with heap := dB b (.abs (.mpp K ek) [b, L']) hs })
       else .error "mapUpdate: what isn't known"
      | _, _ => .error "mapUpdate: a block that can't be told"
     | none => .error "mapUpdate: no such block"
    | _ => .error "mapUpdate: no address of a block"
   | _ => .error "mapUpdate: of what?"
def aO8 (cx : Cx) (S : St) (t : TypeId) (x ix : SV) (k : SV → St → M) : M :=
 match mapOf cx S t x with
 | .error e => .error ("delete: " ++ e)
 | .ok (kd, b, L) => match wQ (lW kd) ix with
  | none => .error "delete: no key"
  | some kt => k (.tup []) { S with heap := dB b (.abs kd [b, .o2 .mdel L kt]) S.heap }
def aG9 (cx : Cx) (S : St) (t : TypeId) (k : SV → St → M) : M :=
 match wY cx.P t with
 | some kd => fresh S .N fun b S => k (.one (.lf (.mp b))) { S with heap := .abs kd [b, .lnil] :: S.heap }
 | none => .error "makeMap: of what?"
def kY : Kd → Tm → Tm → Tm → Tm → Option Ch
 | .mp K E, b, L, it, s => some (.abs (.mpi K E) [b, L, it, s])
 | .mpp K ek, b, L, it, s => some (.abs (.mppi K ek) [b, L, it, s])
 | _, _, _, _, _ => none
def rangeS (cx : Cx) (S : St) (t : TypeId) (x : SV) (k : SV → St → M) : M :=
 match mapOf cx S t x with
 | .error e => .error ("range: " ++ e)
 | .ok (kd, b, L) => fresh S .N fun it S => match kY kd b L it .lnil with
  | some c => k (.one (.lf (.ptr it 0))) { S with heap := dB b c S.heap }
  | none => .error "range: of what?"
def aQ4 (it : Tm) : List Ch → Option Tm
 | [] => none
 | .abs _ [b, _, it', _] :: hs => if it' = it then some b else aQ4 it hs
 | _ :: hs => aQ4 it hs
def aG3 (S : St) (it : Tm) : Option (Tm × Kd × Tm × Tm) :=
 match aQ4 it S.heap with
 | some b => match dV b S.heap with
  | some (kd', [b', L, it', s]) => if it' = it then match xK kd' [b', L, it', s] with
    | some (kd, _, _) => some (b', kd, L, s)
    | none => none
   else none
  | _ => none
 | none => none
def aD7 (kd : Kd) (r : Tm) : Option Lf :=
 match kd with
 | .mp _ E => xY E (yA r)
 | .mpp _ _ => some (.ptr (.o1 .asN (yA r)) 0)
 | _ => none
def aG6 (f : Fact) (k : M) : M := match k with | .ok v => .ok (.know f v) | .error e => .error e
def aU7 (S : St) (x : SV) (k : SV → St → M) : M :=
 match x with
 | .one (.lf (.ptr it 0)) => match aG3 S it with
  | some (b, kd, L, s) =>
   both (aG6 (.allCame L s) (k (.tup [.lf (.bool (.bool false))]) { S with heap := dB b (.abs kd [b, L]) S.heap }))
    (fresh S .L fun r S => match xY (lW kd) (.o2 .lget r (.int 0)), aD7 kd r, kY kd b L it (.o2 .lapp s (.o2 .lcons r .lnil)) with
     | some kl, some vl, some c => aG6 (.comes L s r) (k (.tup [.lf (.bool (.bool true)), .lf kl, .lf vl]) { S with heap := dB b c S.heap })
     | _, _, _ => .error "next: of what?")
  | none => .error "next: no such iterator"
 | _ => .error "next: no iterator that is known"
def aP7 (S : St) (x : SV) (ret : SV → M) : M :=
 match x with
 | .one (.lf (.ptr it 0)) => match aG3 S it with
  | some (_, kd, _, .o2 .lapp _ (.o2 .lcons r .lnil)) => match xY (lW kd) (.o2 .lget r (.int 0)), aD7 kd r with
   | some kl, some vl => ret (.tup [.lf kl, .lf vl])
   | _, _ => .error "entry: of what?"
  | _ => .error "entry: no such iterator, or no row came"
 | _ => .error "entry: no iterator that is known"
def vW (cx : Cx) (S : St) : List Operand → Except String (List Tm)
 | [] => .ok []
 | x :: xs => match ev cx S x, vW cx S xs with
  | .ok (.one (.lf (.ptr b 0))), .ok bs => .ok (b :: bs)
  | .ok _, .ok _ => .error "makeFunc: what is bound is no address of a block"
  | .error e, _ => .error e
  | _, .error e => .error e
def aA3 (b : Tm) : SV := .one (.lf (.ptr b 0))
def yO (cx : Cx) (b : Builtin) (ts : List TypeId) (args : List SV) (S : St) (k : SV → St → M) : M :=
 match b, ts, args with
 | .len, [t], [x] => aT1 cx S t x fun v => k v S
 | .min, _, args => xA .min args fun v => k v S
 | .max, _, args => xA .max args fun v => k v S
 | .append, [t, tx], [s, x] => if x.under S.aB.length then uQ cx t s S fun s S => aM8 cx S t (some tx) s x k else .error "append: of what isn't known"
 | .copy, [t, tx], [d, x] => copyS cx S t tx d x k
 | .delete, [t, _], [m, x] => aO8 cx S t m x k
 | _, _, _ => .error "a built-in function that isn't taken"
def step (cx : Cx) (o : Oper) (S : St) (k : St → M) : M :=
 let ret (v : SV) : M := k (S.put o.dst v)
 let ret' (v : SV) (S : St) : M := k (S.put o.dst v)
 match o.op with
 | .move x | .assign x => cZ (evT cx S o.type x) fun v => uQ cx o.type v S ret'
 | .pick c a b => cZ (ev cx S c) fun v => match aT3 v with
  | some true => cZ (evT cx S o.type a) ret
  | some false => cZ (evT cx S o.type b) ret
  | none => .error "pick: a test that isn't told"
 | .alloc t => match aC6 cx t with
  | some ps => aH4 cx S t ps ret'
  | none => .error "alloc: no zero"
 | .box t x => cZ (evT cx S t x) fun v => match aL0 S.heap v with
  | some ps => aH4 cx S t ps ret'
  | none => .error "box: of what?"
 | .build t args => aN7 cx S t args.toList ret
 | .buildSlice t n args => aN8 cx S t n args.toList ret'
 | .load t a => aQ9 cx o.dst S fun S => cZ (ev cx S a) fun x => let x := aR8 cx S x; let S := aP6 S x; zV cx S t x fun v => aM5 cx o.dst S v fun v => k (S.put o.dst v)
 | .store t a x => cZ (ev cx S a) fun p => cZ (evT cx S t x) fun v => aX4 cx S t p v fun S => k (S.put o.dst (.one (.lf .junk)))
 | .nilCheck x => cZ (ev cx S x) fun v => match v with
  | .one (.lf (.ptr ..)) | .one (.lf (.aptr ..)) | .one (.lf (.eptr ..)) => ret v
  | .one (.lf .nilp) => .ok (.obl (.bool false) .tt)
  | _ => .error "nilCheck: of what?"
 | .binOp op t x y _ => cZ (evT cx S t x) fun a => cZ (evT cx S t y) fun b => aN2 cx S op t a b ret
 | .unOp op t x => cZ (evT cx S t x) fun a => unS op a ret
 | .convert s d x => cZ (evT cx S s x) fun v => yT cx S s d v ret'
 | .makeSlice t l c => cZ (ev cx S l) fun l => cZ (ev cx S c) fun c => aT7 cx S t l c ret'
 | .slice t x lo hi mx => cZ (ev cx S x) fun v =>
   match (match lo with | none => Except.ok none | some l => (match ev cx S l with | .ok v => .ok (some v) | .error e => .error e)), (match hi with | none => Except.ok none | some l => (match ev cx S l with | .ok v => .ok (some v) | .error e => .error e)) with
   | .ok l, .ok h => aB6 cx S t v l h mx.isSome (dropped cx o.dst) ret'
   | .error e, _ => .error e
   | _, .error e => .error e
 | .fieldAddr t x f => cZ (ev cx S x) fun v => aQ0 cx t v f ret
 | .field t x f => cZ (evT cx S t x) fun v => aQ1 cx t v f ret
 | .indexAddr t x i => cZ (ev cx S x) fun v => cZ (ev cx S i) fun i => aS2 cx S t v i ret
 | .index t x i => cZ (evT cx S t x) fun v => cZ (ev cx S i) fun i => aS3 cx t v i ret
 | .extract x i => cZ (ev cx S x) fun v => match v with
  | .tup xs => match xs[i]? with
   | some x => ret (.one x)
   | none => .error "extract: no such result"
  | _ => .error "extract: of what?"
 | .call c => match c.callee with
  | .builtin b => match evs cx S c.args.toList c.argTypes.toList with
   | .ok args => yO cx b c.argTypes.toList args S ret'
   | .error e => .error e
  | .value f => match ev cx S f, evs cx S c.args.toList c.argTypes.toList with
   | .ok (.one (.lf (.fn g))), .ok args => zW cx args c.argTypes.toList S fun args S => aD6 cx S g args ret'
   | .ok (.one (.lf (.clo g fs cs))), .ok args => if fs.all (Tm.under S.aB.length) && cs.all (Tm.under S.aB.length) then zW cx args c.argTypes.toList S fun args S => aD6 cx S g (fs.map aA3 ++ args ++ cs.map aA3) ret' else .error "call: what isn't known is bound"
   | .ok _, .ok _ => .error "call: of what?"
   | .error e, _ => .error e
   | _, .error e => .error e
  | _ => .error "call: through an interface"
 | .makeFunc fn first caps => match fn, vW cx S first.toList, vW cx S caps.toList with
  | .func f, .ok fs, .ok cs => ret (.one (.lf (if fs = [] ∧ cs = [] then .fn f else .clo f fs cs)))
  | .func _, .error e, _ => .error e
  | .func _, _, .error e => .error e
  | _, _, _ => .error "makeFunc: of what?"
 | .makeMap t r => match r with
  | none => aG9 cx S t ret'
  | some r => cZ (ev cx S r) fun v => match v with
   | .one (.lf (.int .i64 _)) => aG9 cx S t ret'
   | _ => .error "makeMap: no number"
 | .lookup t x i ok => cZ (ev cx S x) fun v => cZ (ev cx S i) fun i => if (cx.P.underlying t).any (fun d => match d with | .map _ _ => true | _ => false) then aT6 cx S t v i ok ret else .error "lookup: no map"
 | .mapUpdate t m x v => cZ (ev cx S m) fun m => cZ (ev cx S x) fun x => cZ (ev cx S v) fun v => aT9 cx S t m x v fun S => k (S.put o.dst (.one (.lf .junk)))
 | .range t x => cZ (ev cx S x) fun v => rangeS cx S t v ret'
 | .entry x => cZ (ev cx S x) fun v => aP7 S v ret
 | .next x isStr => if isStr then .error "next: of a text" else cZ (ev cx S x) fun v => aU7 S v ret'
 | _ => .error "an operation that isn't taken"
end Go.Vc
namespace Go.Vc
inductive KI where
 | code (c : Code)
 | ops (all : Array Oper) (rest : List Oper)
 | any (all : Array Oper) (fuel : Nat) (listed : Array Bool)
 | still (all : Array Oper) (fuel : Nat) (listed : Array Bool) (oth : List Nat)
 | blk (id : Nat)
 | wait
 | lp (j : Nat) (T : St) (n0 : Nat) (fix : List Tm)
def mM : Code → Option Nat
 | .region id _ _ => some id
 | .seq a b => match mM a with | some k => some k | none => mM b
 | .cond _ a b => match mM a with | some k => some k | none => mM b
 | .block _ c => mM c
 | .loop c => mM c
 | .scope c => mM c
 | _ => none
def dstsOf : Code → List Nat
 | .region _ ops _ => ops.toList.filterMap (·.dst)
 | .seq a b => dstsOf a ++ dstsOf b
 | .cond _ a b => dstsOf a ++ dstsOf b
 | .block _ c => dstsOf c
 | .loop c => dstsOf c
 | .scope c => dstsOf c
 | _ => []
def cD3 (all : Array Oper) (o : Oper) : List Nat :=
 o.op.operands.toList.filterMap (fun x => match x with | .tmp t => some t | _ => none) ++
  (match o.guard with | some (g, _) => ((all[g]?).bind (·.dst)).toList | none => [])
def exposed : Code → List Nat → List Nat × List Nat
 | .region _ ops _, ws => ops.toList.foldl (fun (rs, ws) o => (rs ++ (cD3 ops o).filter (fun t => !ws.contains t), o.dst.toList ++ ws)) ([], ws)
 | .seq a b, ws => let (r1, ws) := exposed a ws; let (r2, ws) := exposed b ws; (r1 ++ r2, ws)
 | .cond x a b, ws =>
  let r0 := match x with | .tmp t => if ws.contains t then [] else [t] | _ => []
  let (r1, w1) := exposed a ws; let (r2, w2) := exposed b ws; (r0 ++ r1 ++ r2, w1.filter w2.contains)
 | .block _ c, ws => exposed c ws
 | .loop c, ws => exposed c ws
 | .scope c, ws => exposed c ws
 | _, ws => ([], ws)
def qN (key : Nat) (join : Bool) : List Ann → Option Ann
 | [] => none
 | a :: r => if a.key = key ∧ a.join = join then some a else qN key join r
def hTm (s : Srt) (S : St) : Tm × St := (.at S.aB.length, { S with aB := S.aB ++ [s] })
def aE6 (ek : EK) : Srt := match ek with | [.int _] => .Z | _ => .L
def aJ1 (a a' L' : Tm) : List Ch → List Ch
 | [] => []
 | .osl b ek L :: hs => if b = a then .osl a' ek L' :: hs else .osl b ek L :: aJ1 a a' L' hs
 | .rsl b ek L :: hs => if b = a then .rsl a' ek L' :: hs else .rsl b ek L :: aJ1 a a' L' hs
 | h :: hs => h :: aJ1 a a' L' hs
def cF1 (ek : EK) (L L' : Tm) (c : Ch) : Ch := if fV ek then c else if c = .abs (.deep ek) [L] then .abs (.deep ek) [L'] else c
def hLf (l : Lf) (S : St) : Lf × St :=
 match l with
 | .int k _ => let (t, S) := hTm .I S; (.int k t, S)
 | .bool _ => let (t, S) := hTm .B S; (.bool t, S)
 | .str _ => let (t, S) := hTm .S S; (.str t, S)
 | .sl a => match aZ a S.heap with
  | some (_, ek, L) =>
   let (a', S) := hTm .V S
   let (L', S) := hTm (aE6 ek) S
   (.sl a', { S with heap := (aJ1 a a' L' S.heap).map (cF1 ek L L') ++ (if fV ek || S.heap.contains (.abs (.deep ek) [L]) then [] else [.abs (.deep ek) [L']]) })
  | none => (l, S)
 | .mp b => match dV b S.heap with
  | some (k, [_, _]) =>
   let (b', S) := hTm .N S
   let (L', S) := hTm .L S
   (.mp b', { S with heap := dB b (.abs k [b', L']) S.heap })
  | _ => (l, S)
 | l => (l, S)
def hPt (p : Pt) (S : St) : Pt × St :=
 match p with
 | .lf l => let (l, S) := hLf l S; (.lf l, S)
 | .ints k n _ => let (t, S) := hTm .Z S; (.ints k n t, S)
def aR6 : List Pt → St → List Pt × St
 | [], S => ([], S)
 | p :: ps, S => let (p, S) := hPt p S; let (ps, S) := aR6 ps S; (p :: ps, S)
def hS0 (x : S0) (S : St) : S0 × St :=
 match x with
 | .lf l => let (l, S) := hLf l S; (.lf l, S)
 | .agg ps => let (ps, S) := aR6 ps S; (.agg ps, S)
def hSV (x : SV) (S : St) : SV × St :=
 match x with
 | .one x => let (x, S) := hS0 x S; (.one x, S)
 | .tup _ => (.one (.lf .junk), S)
def pkTm : Tm → Option Nat
 | .o1 _ (.o2 .lget (.at h) (.int _)) => some h
 | _ => none
def pkPt : Pt → Option Nat
 | .lf (.mp t) | .lf (.sl t) | .lf (.int _ t) | .lf (.str t) | .lf (.bool t) | .lf (.ptr t _) => pkTm t
 | .ints _ _ t => pkTm t
 | _ => none
def iP (a b : Nat) : Tm → Tm
 | .at i => if i = a then .at b else .at i
 | .o1 o t => .o1 o (iP a b t)
 | .o2 o t u => .o2 o (iP a b t) (iP a b u)
 | .o3 o t u v => .o3 o (iP a b t) (iP a b u) (iP a b v)
 | t => t
def swLf (a b : Nat) : Lf → Lf
 | .int k t => .int k (iP a b t) | .bool t => .bool (iP a b t) | .str t => .str (iP a b t) | .sl t => .sl (iP a b t) | .mp t => .mp (iP a b t)
 | .ptr t o => .ptr (iP a b t) o
 | l => l
def swPt (a b : Nat) : Pt → Pt
 | .lf l => .lf (swLf a b l)
 | .ints k n t => .ints k n (iP a b t)
def swCh (a b : Nat) : Ch → Ch
 | .box t ps => .box (iP a b t) (ps.map (swPt a b))
 | .osl t ek L => .osl (iP a b t) ek (iP a b L)
 | .rsl t ek L => .rsl (iP a b t) ek (iP a b L)
 | .abs k ts => .abs k (ts.map (iP a b))
def hCh (i : Nat) (S : St) : St :=
 match S.heap[i]? with
 | some (.box b ps) => match ps.findSome? pkPt with
  | some h => let (_, S) := hTm .L S; { S with heap := S.heap.map (swCh h (S.aB.length - 1)) }
  | none => let (qs, S) := aR6 ps S; { S with heap := S.heap.set i (.box b qs) }
 | some (.osl a ek _) => let (t, S) := hTm (aE6 ek) S; { S with heap := S.heap.set i (.osl a ek t) }
 | some (.rsl a ek _) => let (t, S) := hTm (aE6 ek) S; { S with heap := S.heap.set i (.rsl a ek t) }
 | some (.abs k [b, _]) => let (t, S) := hTm .L S; { S with heap := S.heap.set i (.abs k [b, t]) }
 | some (.abs k [b, L, it, _]) => let (t, S) := hTm .L S; { S with heap := S.heap.set i (.abs k [b, L, it, t]) }
 | some (.abs _ _) => S
 | none => S
def aF6 (names : Array String) (live : List Nat) : List Nat → St → St
 | [], S => S
 | j :: js, S =>
  match S.tmps[j]? with
  | some v =>
   if (names.getD j "" = "" ∧ !live.contains j) ∨ v = .one (.lf .junk) then aF6 names live js { S with tmps := S.tmps.set j (.one (.lf .junk)) }
   else let (v, S) := hSV v S; aF6 names live js { S with tmps := S.tmps.set j v }
  | none => aF6 names live js S
def dedup : List Nat → List Nat
 | [] => []
 | x :: xs => if xs.contains x then dedup xs else x :: dedup xs
def bF2 (x : Nat) : List Nat → List Nat
 | [] => [x]
 | y :: ys => if x ≤ y then x :: y :: ys else y :: bF2 x ys
def bN6 : List Nat → List Nat
 | [] => []
 | x :: xs => bF2 x (bN6 xs)
def aR2 (S : St) : List Nat → List Ch → List Ch
 | [], hs => hs
 | j :: js, hs => match S.tmps[j]? with
  | some (.one (.lf (.sl a))) => aR2 S js (dJ a hs)
  | _ => aR2 S js hs
def hPtr (j : Nat) (S : St) : St :=
 match S.tmps[j]? with
 | some (.one (.lf (.ptr (.at b) o))) =>
  let (t, S) := hTm .N S
  { S with tmps := S.tmps.set j (.one (.lf (.ptr t o))), heap := S.heap.map (swCh b (S.aB.length - 1)) }
 | _ => S
def bX1 (i j : Nat) (S : St) : St :=
 match S.heap[i]? with
 | some (.box b ps) => match ps[j]? with
  | some p => let (p, S) := hPt p S; { S with heap := S.heap.set i (.box b (ps.set j p)) }
  | none => S
 | _ => S
def hAll (i : Nat) (S : St) : St :=
 match S.heap[i]? with
 | some (.osl _ ek _) => let (a, S) := hTm .V S; let (t, S) := hTm (aE6 ek) S; { S with heap := S.heap.set i (.osl a ek t) }
 | some (.abs k [_]) => let (t, S) := hTm .L S; { S with heap := S.heap.set i (.abs k [t]) }
 | _ => S
def aR5 (i : Nat) (S : St) : St := if i < 1000 then hCh i S else if i < 100000 then hPtr (i - 1000) S else if i < 200000 then bX1 ((i - 100000) / 100) (i % 100) S else hAll (i - 200000) S
def template (cx : Cx) (S : St) (c : Code) (ann : Ann) : St :=
 let S := if ann.frz then { S with heap := aR2 S (dstsOf c) S.heap } else S
 ann.havoc.foldl (fun S i => aR5 i S) (aF6 cx.fn.tmpNames (exposed c []).1 (bN6 (dedup (dstsOf c))) S)
def bH0 : Lf → List Tm
 | .int _ t | .bool t | .str t => [t]
 | _ => []
def bK6 : Pt → List Tm
 | .lf l => bH0 l
 | .ints _ _ L => [L]
def aC4 (S : St) (j : Nat) : List Tm :=
 match S.tmps[j]? with
 | some (.one (.lf (.sl a))) => match aZ a S.heap with | some (_, _, L) => [L] | none => []
 | some (.one (.lf (.ptr b _))) => match iG b S.heap with | some ps => ps.flatMap bK6 | none => []
 | some (.one (.lf l)) => bH0 l
 | some (.one (.agg ps)) => ps.flatMap bK6
 | _ => []
def told : Srt → Bool
 | .N | .V => false
 | _ => true
def keep : List Tm → List Srt → List Tm
 | t :: ts, s :: ss => if told s then t :: keep ts ss else keep ts ss
 | _, _ => []
def atoms (n : Nat) : List Tm := (List.range n).map Tm.at
def bA9 (hs : List Ch) : String := " ".intercalate (hs.map fun c => match c with | .box _ ps => "box" ++ toString (ps.length) | .osl .. => "osl" | .rsl .. => "rsl" | .abs (.deep _) _ => "deep" | .abs (.mp ..) _ => "mp" | .abs (.mpp ..) _ => "mpp" | .abs (.mpi ..) _ => "mpi" | .abs (.mppi ..) _ => "mppi")
def fit (T : St) (n0 : Nat) (S : St) : Except String (List Tm) :=
 match bound (mY n0 S.heap T.heap (mY n0 S.heap T.heap (aL8 n0 T.tmps S.tmps (List.replicate (T.aB.length - n0) none)))) with
 | none => .error "fit: not all words are bound"
 | some θ =>
  if tV (T.tmps.map (SV.subst n0 θ)) S.tmps then
  if shapes S.aB θ (T.aB.drop n0) then
  match cover false (T.heap.map (Ch.subst n0 θ)) S.heap with
  | some _ => .ok θ
  | none => .error ("fit: the heap: " ++ bA9 T.heap ++ " IN " ++ bA9 S.heap)
  else .error "fit: shapes"
  else .error "fit: slots"
def tN : List Srt → M → M
 | [], k => k
 | s :: ss, k => match tN ss k with | .ok v => .ok (.all s v) | .error e => .error e
def yD (n0 : Nat) (T : St) : List Fact := ((T.tmps.flatMap aB8) ++ T.heap.flatMap vY).filter (Fact.at n0)
def nD (n0 m : Nat) : List Tm := (List.range m).map fun i => Tm.at (n0 + i)
def vs (b : Bool) (ss : List Srt) : List Srt := if b then ss.map (fun s => if s = .V then .L else s) else ss
def apart (T : St) : Bool := T.heap.any fun c => match c with
 | .abs (.deep [.sl lk]) [.at i] => T.heap.any (fun c => match c with | .osl (.at _) lk' _ => lk' = lk | _ => false) && !T.heap.any (fun c => match c with | .osl _ _ (.at j) | .rsl _ _ (.at j) => j = i | _ => false)
 | _ => false
def sel (T : St) (n0 : Nat) : List Srt := vs (apart T) (T.aB.drop n0)
def general (S : St) (T : St) (ann : Nat × List Tm) (body : M) : M :=
 let n0 := S.aB.length
 let news := T.aB.drop n0
 if T.aB.take n0 = S.aB ∧ T.under = true ∧ ann.2.all (Tm.under n0) = true then
 match fit T n0 S with
 | .error e => .error ("a loop's head: " ++ e)
 | .ok θ =>
  let ts := ann.2 ++ keep (nD n0 news.length) (sel T n0)
  match tN news (knows (yD n0 T) (match body with
    | .ok v => .ok (.asm ann.1 ts v)
    | .error e => .error e)) with
  | .ok v => .ok (.inv ann.1 (ann.2 ++ keep θ (sel T n0)) v)
  | .error e => .error e
 else .error "a loop's head: template"
def guardOf (all : Array Oper) (S : St) (o : Oper) : Except String (Bool ⊕ (Nat × Tm × Bool)) :=
 match o.guard with
 | none => .ok (.inl true)
 | some (j, want) => match (all[j]?).bind (·.dst) with
  | none => .error "a guard without a slot"
  | some d => match S.tmps[d]? with
   | some (.one (.lf (.bool (.bool b)))) => .ok (.inl (b == want))
   | some (.one (.lf (.bool t))) => .ok (.inr (d, t, want))
   | some (.one (.lf .undef)) => .ok (.inl false)
   | _ => .error "a guard that isn't told"
def jJ (o : Oper) : Bool :=
 match o.op with
 | .move _ | .assign _ | .pick .. | .binOp .. | .unOp .. | .fieldAddr .. | .extract .. | .nilCheck _ | .field .. | .build .. => true
 | _ => false
def sD (cx : Cx) (S : St) (o : Oper) : Bool :=
 jJ o || (match o.op with
  | .index .. | .indexAddr .. => true
  | .slice _ x _ _ _ => match ev cx S x with
   | .ok (.one (.lf (.str _))) => true
   | _ => false
  | .convert s d x => match evT cx S s x with
   | .ok (.one (.lf (.int ..))) => true
   | .ok (.one (.lf (.str _))) => (match cx.P.underlying d with | some .string => true | _ => false)
   | _ => false
  | .call c => match c.callee, c.argTypes.toList with
   | .builtin .len, [_] => true
   | .builtin .min, _ => true
   | .builtin .max, _ => true
   | _, _ => false
  | _ => false)
def aK8 (cx : Cx) (S : St) (o : Oper) : Bool :=
 sD cx S o || (match o.op with | .load .. => true | _ => false)
def quietIn (cx : Cx) (S : St) (o : Oper) : Bool :=
 match o.op with
 | .alloc _ => true
 | .box _ _ => true
 | .call c => match c.callee with
  | .value f => match ev cx S f with
   | .ok (.one (.lf (.fn g))) => xQ cx g
   | _ => false
  | _ => false
 | _ => false
def aU1 (o : Oper) : Bool :=
 jJ o || (match o.op with
  | .load .. | .index .. | .indexAddr .. | .slice .. | .convert .. => true
  | .call c => match c.callee, c.argTypes.toList with
   | .builtin .len, [_] => true
   | .builtin .min, _ => true
   | .builtin .max, _ => true
   | _, _ => false
  | _ => false)
def cI7 (cx : Cx) (o : Oper) : Bool :=
 match o.op with
 | .alloc _ | .box _ _ => true
 | .slice t _ _ _ _ => (match cx.P.underlying t with | some .string => true | _ => false)
 | .convert s d _ => (match cx.P.underlying s, cx.P.underlying d with | some (.int _), some (.int _) => true | some .string, some .string => true | _, _ => false)
 | .call c => match c.callee with
  | .value (.func g) => xQ cx g
  | _ => aU1 o
 | _ => aU1 o
def aI1 (cx : Cx) (all : Array Oper) : List Nat := (List.range all.size).filter fun i => match all[i]? with | some o => !cI7 cx o | none => true
def isLoad (o : Oper) : Bool := match o.op with | .load .. => true | _ => false
def bY3 (o : Oper) : Bool := match o.op with | .call c => (match c.callee with | .value _ => true | _ => false) | _ => false
def countIn (f : Oper → Bool) (all : Array Oper) (listed : Array Bool) : Nat := ((List.range all.size).filter fun i => !listed.getD i true && ((all[i]?).map f).getD false).length
def cB5 (all : Array Oper) (listed : Array Bool) : Bool :=
 let l := countIn isLoad all listed
 decide (3 ≤ l) && decide (5 ≤ l + countIn bY3 all listed)
def waits (all : Array Oper) (listed : Array Bool) (i : Nat) : Nat → Nat → Bool
 | 0, _ => false
 | n + 1, j => match all[j]? with
  | none => false
  | some o => o.after.any fun e => Region.binds .any e && (e.on == i || (!(listed.getD e.on true) && waits all listed i n e.on))
def aI2 (all : Array Oper) (listed : Array Bool) (oth : List Nat) (i : Nat) : Bool :=
 oth.all fun j => listed.getD j true || j == i || waits all listed i all.size j
def cF4 (all : Array Oper) (listed : Array Bool) : Bool :=
 (List.range all.size).all fun i => listed.getD i true || ((all[i]?).map aU1).getD false
def uG (cx : Cx) (all : Array Oper) (S : St) : List Nat → Option Nat
 | [] => none
 | i :: r => match all[i]? with
  | some o => match guardOf all S o with
   | .ok (.inl false) => some i
   | .ok (.inl true) => if aK8 cx S o then some i else uG cx all S r
   | _ => uG cx all S r
  | none => uG cx all S r
def bQ6 (cx : Cx) (all : Array Oper) (S : St) (oth rs : List Nat) : Bool :=
 rs.all fun i => oth.contains i || (match all[i]? with | some o => quietIn cx S o | none => false)
def aV9 (cx : Cx) (all : Array Oper) (S : St) (i : Nat) : Bool :=
 match all[i]? with
 | some o => sD cx S o || (match guardOf all S o with | .ok (.inl false) => true | _ => false)
 | none => false
def orElse (a : M) (b : Unit → M) : M := match a with | .ok v => .ok v | .error _ => b ()
def xU (cx : Cx) (S : St) : List ResultVar → (List S0 → M) → M
 | [], k => k []
 | .tmp t :: r, k => match S.tmps[t]? with
  | some (.one x) => xU cx S r fun xs => k (x :: xs)
  | _ => .error "a result that isn't known"
 | .cell a t :: r, k => match S.tmps[a]? with
  | some (.one (.lf (.ptr b o))) => zV cx S t (.one (.lf (.ptr b o))) fun v => match v with
   | .one x => xU cx S r fun xs => k (x :: xs)
   | _ => .error "a result of more than one value"
  | _ => .error "a result in memory that isn't known"
def bK9 : List S0 → SV
 | [x] => .one x
 | xs => .tup xs
def aJ4 (S : St) (R : SigR) (v : SV) (fin : List Tm → VC) : M :=
 let n0 := R.aB.length
 match bound (mY n0 S.heap R.heap' (uSV n0 R.res v (List.replicate R.news.length none))) with
 | none => .error "return: a result's words aren't bound"
 | some θ =>
  if R.res.subst n0 θ = v then
  if shapes S.aB θ R.news then
  match cover false (R.heap'.map (Ch.subst n0 θ)) S.heap with
  | some _ => .ok (fin (atoms n0 ++ θ))
  | none => .error "return: the heap"
  else .error "return: shapes"
  else .error "return: the result's form"
def iZ (cx : Cx) (S : St) : M :=
 xU cx S cx.fn.results.toList fun xs =>
  let v := bK9 xs
  match aJ4 S cx.own v .ret with
  | .ok x => .ok x
  | .error e => match cx.own.second with
   | none => .error e
   | some r => aJ4 S r v fun ts => .pre 200 ts .tt
def behind (id : Nat) : List KI → Option (List KI)
 | [] => none
 | .blk i :: K => if id = i then some K else behind id K
 | _ :: K => behind id K
def rG (all : Array Oper) (S : St) : List Nat → Option (Nat × Tm)
 | [] => none
 | i :: r => match all[i]? with
  | some o => match guardOf all S o with
   | .ok (.inr (d, t, _)) => some (d, t)
   | _ => rG all S r
  | none => rG all S r
def rH (cx : Cx) (all : Array Oper) (S : St) : List Nat → Option Nat
 | [] => none
 | i :: r => match all[i]? with
  | some o => match guardOf all S o with
   | .ok (.inl false) => some i
   | .ok (.inl true) => if sD cx S o then some i else rH cx all S r
   | _ => rH cx all S r
  | none => rH cx all S r
def forEach (f : Nat → M) : List Nat → M
 | [] => .ok .tt
 | [i] => f i
 | i :: r => both (f i) (forEach f r)
def kE (S : St) (x : Operand) (b : Bool) : St := match x with | .tmp i => { S with tmps := S.tmps.set i (.one (.lf (.bool (.bool b)))) } | _ => S
def at_ (pos : String) (x : M) : M := match x with | .ok v => .ok v | .error e => .error (pos ++ ": " ++ e)
def kC (cx : Cx) (all : Array Oper) (i : Nat) (S : St) (next : St → M) : M :=
 match all[i]? with
 | none => .error "a region's operation"
 | some o => match guardOf all S o with
  | .error e => .error e
  | .ok (.inl true) => at_ o.pos (step cx o S next)
  | .ok (.inl false) => next (S.put o.dst (.one (.lf .undef)))
  | .ok (.inr _) => .error "a guard that isn't told, in a region that draws"
def cA0 (c : Code) (K : List KI) : List Nat := (exposed (K.foldl (fun acc ki => match ki with | .code c' => .seq acc c' | _ => acc) c) []).1 ++
 K.flatMap fun ki => match ki with | .lp _ T _ _ => (List.range T.tmps.length).filter fun j => T.tmps.getD j (.one (.lf .junk)) != .one (.lf .junk) | _ => []
def wX : List KI → Nat
 | [] => 0
 | .lp _ T _ _ :: K => max T.aB.length (wX K)
 | _ :: K => wX K
def aG4 (cx : Cx) (c : Code) (K : List KI) (S : St) (jn : Ann) (rule : St → M) : M :=
 let n0 := max cx.own.aB.length (wX K)
 match jn.tmpl with
 | none => .error ("JOINT " ++ jn.say (S.aB.take n0) S (cA0 c K))
 | some T =>
  let news := T.aB.drop n0
  if T.aB.take n0 = S.aB.take n0 ∧ n0 ≤ S.aB.length then
  match fit T n0 S with
  | .error e => .error ("a joint: " ++ e)
  | .ok θ =>
   match tN news (knows (yD n0 T) (match rule T with
     | .ok v => .ok (.asm jn.j (atoms n0 ++ keep (nD n0 news.length) (vs jn.frz news)) v)
     | .error e => .error e)) with
   | .ok v => .ok (.inv jn.j (atoms n0 ++ keep θ (vs jn.frz news)) (.cut n0 v))
   | .error e => .error e
  else .error "a joint: its pattern"
def aX3 (cx : Cx) (id : Nat) (S : St) (k : St → M) : M :=
 match (qN (id + 8000000) true cx.anns).bind (fun a => a.tmpl.bind fun T => T.heap.head?) with
 | some (.osl _ lk _) => lX [.slice lk] [.lf .nilsl] S fun _ S => k (oK [.sl lk] .lnil S)
 | _ => k S
def aK1 (T S : St) : M := if T.heap = S.heap ∧ T.aB = S.aB ∧ tV T.tmps S.tmps = true then .ok .tt else .error "orders that don't end alike"
def sN (cx : Cx) (all : Array Oper) (T : St) : Nat → Array Bool → St → M
 | 0, listed, S => match Region.ready .any all listed with
  | [] => aK1 T S
  | _ => .error "a region without an end"
 | fuel + 1, listed, S => match Region.ready .any all listed with
  | [] => aK1 T S
  | rs =>
   let take (i : Nat) : M := kC cx all i S (fun S => sN cx all T fuel (listed.setIfInBounds i true) S)
   match rH cx all S rs with
   | some i => if Region.noSelect all && Region.free .any all listed i then take i else forEach take rs
   | none => forEach take rs
def xE (o : Oper) : Bool := match o.op with | .defer _ => false | _ => true
def kD (b : Tm) : List Ch → Option (List Pt × List Ch)
 | [] => none
 | .box b' ps :: hs => if b' = b then some (ps, hs) else (kD b hs).map fun x => (x.1, .box b' ps :: x.2)
 | h :: hs => (kD b hs).map fun x => (x.1, h :: x.2)
def bV (cx : Cx) (fin ret : St → M) : Nat → List KI → St → M
 | 0, _, _ => .error "out of fuel"
 | _ + 1, [], S => fin S
 | f + 1, .code c :: K, S =>
  match c with
  | .skip => bV cx fin ret f K S
  | .label _ => bV cx fin ret f K S
  | .seq a b => bV cx fin ret f (.code a :: .code b :: K) S
  | .block id c => bV cx fin ret f (.code c :: .blk id :: K) S
  | .cond x a b =>
   match ev cx S x with
   | .error e => .error e
   | .ok v => match v with
    | .one (.lf (.bool (.bool true))) => bV cx fin ret f (.code a :: K) S
    | .one (.lf (.bool (.bool false))) => bV cx fin ret f (.code b :: K) S
    | .one (.lf (.bool t)) =>
     both (imp t true (bV cx fin ret f (.code a :: K) (kE S x true))) (imp t false (bV cx fin ret f (.code b :: K) (kE S x false)))
    | _ => .error "cond: no bool"
  | .exit id => match behind id K with
   | some K => bV cx fin ret f K S
   | none => .error "exit: no such block"
  | .ret => ret S
  | .region _ all draw =>
   if draw then bV cx fin ret f (.any all all.size (Array.replicate all.size false) :: K) S
   else bV cx fin ret f (.ops all all.toList :: K) S
  | _ => .error "control that isn't taken in a round"
 | f + 1, .ops all rest :: K, S =>
  match rest with
  | [] => bV cx fin ret f K S
  | o :: rest => if xE o then match guardOf all S o with
   | .error e => .error e
   | .ok (.inl true) => at_ o.pos (step cx o S (fun S => bV cx fin ret f (.ops all rest :: K) S))
   | .ok (.inl false) => bV cx fin ret f (.ops all rest :: K) (S.put o.dst (.one (.lf .undef)))
   | .ok (.inr (d, t, _)) =>
    both (imp t true (bV cx fin ret f (.ops all (o :: rest) :: K) (kE S (.tmp d) true))) (imp t false (bV cx fin ret f (.ops all (o :: rest) :: K) (kE S (.tmp d) false)))
   else .error "a defer in a round"
 | f + 1, .any all fuel listed :: K, S =>
  match fuel, Region.ready .any all listed with
  | _, [] => bV cx fin ret f K S
  | 0, _ => .error "a region without an end"
  | fuel + 1, rs =>
   if all.all xE then
   match rG all S rs with
   | some (d, t) =>
    both (imp t true (bV cx fin ret f (.any all (fuel + 1) listed :: K) (kE S (.tmp d) true))) (imp t false (bV cx fin ret f (.any all (fuel + 1) listed :: K) (kE S (.tmp d) false)))
   | none => forEach (fun i => kC cx all i S (fun S => bV cx fin ret f (.any all fuel (listed.setIfInBounds i true) :: K) S)) rs
   else .error "a defer in a round"
 | f + 1, .blk _ :: K, S => bV cx fin ret f K S
 | _ + 1, _ :: _, _ => .error "what isn't taken in a round"
def overS (cx : Cx) (f : Nat) (g : Operand) (p : Tmp) (asg body : Code) (K : List KI) (S : St) : M :=
 match ev cx S g, (mM asg).bind (fun k => qN k false cx.anns) with
 | .ok (.one (.lf (.clo gf [] [b2, b1, b3]))), some ann =>
  match kD b1 S.heap with
  | some ([.lf (.str t)], h1) => match kD b2 h1 with
   | some ([.lf (.str u)], h2) => match kD b3 h2 with
    | some ([.lf (.int .i64 z)], h3) =>
     let n0 := S.aB.length
     let T0 := ann.havoc.foldl (fun S i => aR5 i S) { S with heap := h3 }
     let news := T0.aB.drop n0
     let i : Tm := .at T0.aB.length
     let xs : Tm := .o1 .lines t
     let fix := atoms cx.own.aB.length ++ ann.watch.flatMap (aC4 T0)
     let T : St := { T0 with aB := T0.aB ++ [.I] }
     let fin (S' : St) : M := match fit T0 n0 { S' with tmps := S.tmps } with
      | .ok θ => .ok (.inv ann.j (fix ++ keep θ news ++ [.o2 (.add .i64) i (.int 1)]) .tt)
      | .error e => .error ("end of a round: " ++ e)
     let ret (S' : St) : M := iZ cx { S' with tmps := S.tmps }
     if cx.iters.contains gf ∧ T0.aB.take n0 = S.aB ∧ T0.tmps = S.tmps ∧ S.under = true ∧ T0.under = true ∧ fix.all (Tm.under n0) = true ∧ t.under n0 = true ∧ K.all (fun k => match k with | .code _ | .blk _ => true | _ => false) = true then
      match fit T0 n0 { S with heap := h3 } with
      | .ok θ =>
       match tN (news ++ [.I]) (knows (yD n0 T0) (match
         both (imp (.o2 .and (.o2 .le (.int 0) i) (.o2 .lt i (.o1 .llen xs))) true
           (bV cx (fun S' => bV cx fin ret f [.code body] S') (fun _ => .error "a return in an assignment") f [.code asg] { T with tmps := T.tmps.set p (.one (.lf (.str (.o1 .asS (.o2 .lget xs i))))) }))
          (imp (.o2 .eq i (.o1 .llen xs)) true (bV cx (iZ cx) (iZ cx) f K T)) with
        | .ok v => .ok (.asm ann.j (fix ++ keep (nD n0 news.length) news ++ [i]) v)
        | .error e => .error e)) with
       | .ok v => .ok (.obl (.o2 .eqs u (.str ⟨#[10]⟩)) (.obl (.o2 .eq z (.int 0)) (.obl (.o2 .le (.o1 .llen xs) (.int 4611686018427387904)) (.inv ann.j (fix ++ keep θ news ++ [.int 0]) v))))
       | .error e => .error e
      | .error e => .error ("a range's head: " ++ e)
     else .error "a range's head: template"
    | _ => .error "a range: its third box"
   | _ => .error "a range: its second box"
  | _ => .error "a range: its first box"
 | .error e, _ => .error e
 | _, none => .error ("a range without an invariant: " ++ toString ((mM asg).getD 0))
 | _, _ => .error "a range over what?"
def run (cx : Cx) : Nat → List KI → St → M
 | 0, _, _ => .error "out of fuel"
 | _ + 1, [], S => iZ cx S
 | f + 1, .code c :: K, S =>
  match c with
  | .skip => run cx f K S
  | .label _ => run cx f K S
  | .seq a b => run cx f (.code a :: .code b :: K) S
  | .block id c =>
   run cx f (.code c :: .blk id :: K) S
  | .cond x a b =>
   match ev cx S x with
   | .error e => .error e
   | .ok v => match v with
    | .one (.lf (.bool (.bool true))) => run cx f (.code a :: K) S
    | .one (.lf (.bool (.bool false))) => run cx f (.code b :: K) S
    | .one (.lf (.bool t)) =>
     both (imp t true (run cx f (.code a :: K) (kE S x true))) (imp t false (run cx f (.code b :: K) (kE S x false)))
    | _ => .error "cond: no bool"
  | .loop c =>
   match (mM c).bind (fun k => qN k false cx.anns) with
   | some ann =>
    let rule (S : St) : M :=
     let T := template cx S c ann
     let fix := atoms cx.own.aB.length ++ ann.watch.flatMap (aC4 T)
     general S T (ann.j, fix) (run cx f (.code c :: .lp ann.j T S.aB.length fix :: K) T)
    match (mM c).bind (fun k => qN k true cx.anns) with
    | some jn => aG4 cx c K S jn rule
    | none => rule S
   | none => .error ("a loop without an invariant: " ++ toString ((mM c).getD 0))
  | .exit id => match behind id K with
   | some K => run cx f K S
   | none => .error "exit: no such block"
  | .ret => iZ cx S
  | .region id all draw =>
   let rule (S : St) : M :=
    if draw then match (qN (id + 6000000) true cx.anns).bind (·.tmpl) with
     | some T => if T.aB.length = S.aB.length then both (sN cx all T all.size (Array.replicate all.size false) S) (run cx f K T) else .error "orders that end alike: a pattern"
     | none => run cx f (.any all all.size (Array.replicate all.size false) :: K) S
    else run cx f (.ops all all.toList :: K) S
   if (qN (id + 2000000) true cx.anns).isSome then .ok (.obl (.bool false) .tt) else
   match qN (id + 1000000) true cx.anns with
   | some jn => aG4 cx (.region id all draw) K S jn (fun T => run cx f (.wait :: (if draw then .any all all.size (Array.replicate all.size false) else .ops all all.toList) :: K) T)
   | none => aX3 cx id S rule
  | .rangeFunc g ps asg body => match ps.toList with
   | [p] => overS cx f g p asg body K S
   | _ => .error "a range over a function of more than one value"
  | .refuse _ => .error "a statement that the model refuses"
  | _ => .error "control that isn't taken"
 | f + 1, .ops all rest :: K, S =>
  match rest with
  | [] => run cx f K S
  | o :: rest => match guardOf all S o with
   | .error e => .error e
   | .ok (.inl true) => at_ o.pos (step cx o S (fun S => run cx f (.ops all rest :: K) S))
   | .ok (.inl false) => run cx f (.ops all rest :: K) (S.put o.dst (.one (.lf .undef)))
   | .ok (.inr (d, t, _)) =>
    both (imp t true (run cx f (.ops all (o :: rest) :: K) (kE S (.tmp d) true))) (imp t false (run cx f (.ops all (o :: rest) :: K) (kE S (.tmp d) false)))
 | f + 1, .any all fuel listed :: K, S =>
  match fuel, Region.ready .any all listed with
  | _, [] => run cx f K S
  | 0, _ => .error "a region without an end"
  | fuel + 1, rs =>
   let take (i : Nat) : M := kC cx all i S (fun S => run cx f (.any all fuel (listed.setIfInBounds i true) :: K) S)
   if cB5 all listed && !cx.anns.any (fun a => a.key == 999998) then run cx f (.still all (fuel + 1) listed (aI1 cx all) :: K) S else
   orElse (if cx.anns.any (fun a => a.key == 999999) then run cx f (.still all (fuel + 1) listed (aI1 cx all) :: K) S else .error "") fun _ =>
   orElse (if cF4 all listed then run cx f (.still all (fuel + 1) listed [] :: K) S else .error "") fun _ =>
   (match rH cx all S rs with
   | some i => if Region.noSelect all && Region.free .any all listed i then take i else forEach take rs
   | none => match rG all S rs with
    | some (d, t) =>
     both (imp t true (run cx f (.any all (fuel + 1) listed :: K) (kE S (.tmp d) true))) (imp t false (run cx f (.any all (fuel + 1) listed :: K) (kE S (.tmp d) false)))
    | none => forEach take rs)
 | f + 1, .still all fuel listed oth :: K, S =>
  match fuel, Region.ready .any all listed with
  | _, [] => run cx f K S
  | 0, _ => .error "a region without an end"
  | fuel + 1, rs =>
   match uG cx all S (rs.filter fun i => Region.noSelect all && Region.free .any all listed i && (aV9 cx all S i || aI2 all listed oth i)) with
   | some i => if Region.noSelect all && Region.free .any all listed i && (aV9 cx all S i || aI2 all listed oth i) then
      kC cx all i S (fun S => run cx f (.still all fuel (listed.setIfInBounds i true) oth :: K) S)
     else .error "a region that isn't still: what isn't free"
   | none => match rG all S rs with
    | some (d, t) =>
     both (imp t true (run cx f (.still all (fuel + 1) listed oth :: K) (kE S (.tmp d) true))) (imp t false (run cx f (.still all (fuel + 1) listed oth :: K) (kE S (.tmp d) false)))
    | none => if bQ6 cx all S oth rs then forEach (fun i => kC cx all i S (fun S => run cx f (.still all fuel (listed.setIfInBounds i true) oth :: K) S)) rs
     else .error "a region that isn't still"
 | f + 1, .blk _ :: K, S => run cx f K S
 | f + 1, .wait :: K, S => if f % 1024 = 0 then run cx f K S else run cx f (.wait :: K) S
 | _ + 1, .lp j T n0 fix :: _, S =>
  match fit T n0 S with
  | .ok θ => .ok (.back j (fix ++ keep (nD n0 (T.aB.drop n0).length) (sel T n0)) (fix ++ keep θ (sel T n0)))
  | .error e => .error ("end of a round: " ++ e)
def entry (cx : Cx) : St :=
 { tmps := cx.own.args ++ List.replicate (cx.fn.ntmps - cx.own.args.length) (.one (.lf .junk)), heap := cx.own.heap, aB := cx.own.aB }
def aC2 (cx : Cx) : M :=
 match cx.fn.body with
 | none => .error "no body"
 | some c =>
  let S := entry cx
  if S.under then
  tN cx.own.aB (knows (yD 0 S) (match run cx 100000 [.code c] S with
   | .ok v => .ok (.post 0 (atoms cx.own.aB.length) v)
   | .error e => .error e))
  else .error "entry"
abbrev R64 (i : Int) : Prop := -9223372036854775808 ≤ i ∧ i < 9223372036854775808
abbrev U64 (i : Int) : Prop := 0 ≤ i ∧ i < 18446744073709551616
abbrev LD := List D
abbrev LI := List Int
abbrev BA := ByteArray
abbrev Im (a b : Prop) : Prop := a ∧ (a → b)
abbrev Bk (I : List D → Prop) (M : List D → Nat) (a b : List D) : Prop := I a ∧ M a < M b
end Go.Vc