/-
 Reified symbolic states, what they say of a world, and verification conditions. Generic over the program.
 The generator of verification conditions: it runs a function's code over reified states.
 The generator, second part: operations, calls, control.
 The generator, third part: control.
-/
import Derived.Tactics
import Derived.Orders
import Derived.Below
import Derived.Laws.AppendOwn
import Derived.Laws.BitsAll
import Derived.Deep.LoopGhost
set_option linter.unusedVariables false
set_option linter.unusedSimpArgs false
open _root_.Go.IntKind (wrap)
namespace Go.Vc
inductive D where
 | I (n : Int) | B (x : Bool) | S (x : ByteArray) | Z (l : List Int) | L (l : List D) | N (n : Nat) | V (v : Value)
instance : Inhabited D := ⟨.I 0⟩
def D.toI : D → Int | .I n => n | _ => 0
def D.toB : D → Bool | .B x => x | _ => false
def D.toS : D → ByteArray | .S x => x | _ => ByteArray.empty
def D.aC : D → List Int | .Z l => l | _ => []
def D.toL : D → List D | .L l => l | _ => []
def D.toN : D → Nat | .N n => n | _ => 0
def D.toV : D → Value | .V v => v | _ => .bool false
@[simp] theorem D.toI_I (n : Int) : (D.I n).toI = n := rfl
@[simp] theorem D.toB_B (x : Bool) : (D.B x).toB = x := rfl
@[simp] theorem D.toS_S (x : ByteArray) : (D.S x).toS = x := rfl
@[simp] theorem D.toLi_Z (x : List Int) : (D.Z x).aC = x := rfl
@[simp] theorem D.toL_L (x : List D) : (D.L x).toL = x := rfl
@[simp] theorem D.toN_N (x : Nat) : (D.N x).toN = x := rfl
@[simp] theorem D.toV_V (x : Value) : (D.V x).toV = x := rfl
inductive O1 where
 | wrap (k : IntKind) | not | slen | lilen | llen | ofLi | aC | asI | asB | asS | asZ | asL | asV | asN | lines
 deriving DecidableEq
inductive O2 where
 | add (k : IntKind) | sub (k : IntKind) | mul (k : IntKind) | quo (k : IntKind) | rem
 | bits (o : BinOp) (k : IntKind) | shl (k : IntKind) | shr (k : IntKind)
 | lt | le | eq | eqb | eqs | lts | eqli | and | or | min | max
 | cat | byte | liget | lget | liapp | licons | lapp | lcons | litake | lidrop | ltake | ldrop | lirep | lrep
 | mget | mhas | mdel | nget | nhas
 deriving DecidableEq
inductive O3 where
 | ssub | liset | lset | mset | nset
 deriving DecidableEq
inductive Tm where
 | at (n : Nat) | int (n : Int) | bool (b : Bool) | str (s : ByteArray) | nat (n : Nat) | lis (l : List Int) | lnil
 | o1 (o : O1) (a : Tm) | o2 (o : O2) (a b : Tm) | o3 (o : O3) (a b c : Tm)
 deriving DecidableEq
instance : Inhabited Tm := ⟨.int 0⟩
def bytesOf (s : ByteArray) : List Int := s.data.toList.map fun b => (b.toNat : Int)
def textOf (l : List Int) : ByteArray := ⟨(l.map fun x => UInt8.ofNat x.toNat).toArray⟩
def aS0 : List UInt8 → List (List UInt8)
 | [] => [[]]
 | c :: r => if c = 10 then [] :: aS0 r else match aS0 r with
  | x :: xs => (c :: x) :: xs
  | [] => [[c]]
def cD0 (s : ByteArray) : List D := (aS0 s.data.toList).map fun l => .S ⟨l.toArray⟩
def byteAt (s : ByteArray) (i : Int) : Int := (s.data.toList.getD i.toNat 0).toNat
def D.key (r : D) : D := r.toL.getD 0 default
def D.snd (r : D) : D := r.toL.getD 1 default
def aQ : D → D → Bool
 | .I a, .I b => a == b
 | .S a, .S b => a.toList == b.toList
 | .B a, .B b => a == b
 | .Z a, .Z b => a == b
 | .N a, .N b => a == b
 | _, _ => false
def aB (L : List D) (k : D) : D := (L.find? fun r => aQ r.key k).getD default
def aI (L : List D) (k : D) : Bool := L.any fun r => aQ r.key k
def aU : List D → D → D → List D
 | [], _, r => [r]
 | x :: L, k, r => if aQ x.key k then r :: L else x :: aU L k r
def fK : List D → D → List D
 | [], _ => []
 | x :: L, k => if aQ x.key k then L else x :: fK L k
def aF (L : List D) (n : Nat) : D := (L.find? fun r => r.snd.toN == n).getD default
def dG (L : List D) (n : Nat) : Bool := L.any fun r => r.snd.toN == n
def dA : List D → Nat → D → List D
 | [], _, _ => []
 | x :: L, n, r => if x.snd.toN == n then r :: L else x :: dA L n r
def O1.den : O1 → D → D
 | .wrap k, a => .I (k.wrap a.toI)
 | .not, a => .B (!a.toB)
 | .slen, a => .I (a.toS.size : Int)
 | .lilen, a => .I (a.aC.length : Int)
 | .llen, a => .I (a.toL.length : Int)
 | .ofLi, a => .S (textOf a.aC)
 | .aC, a => .Z (bytesOf a.toS)
 | .asI, a => .I a.toI
 | .asB, a => .B a.toB
 | .asS, a => .S a.toS
 | .asZ, a => .Z a.aC
 | .asL, a => .L a.toL
 | .asV, a => .V a.toV
 | .asN, a => .N a.toN
 | .lines, a => .L (cD0 a.toS)
def O2.den : O2 → D → D → D
 | .add k, a, b => .I (k.wrap (a.toI + b.toI))
 | .sub k, a, b => .I (k.wrap (a.toI - b.toI))
 | .mul k, a, b => .I (k.wrap (a.toI * b.toI))
 | .quo k, a, b => .I (k.wrap (a.toI.tdiv b.toI))
 | .rem, a, b => .I (a.toI.tmod b.toI)
 | .bits o k, a, b => .I (Go.bits o k a.toI b.toI)
 | .shl k, a, b => .I (k.wrap (a.toI * 2 ^ (Nat.min b.toI.toNat k.bits)))
 | .shr k, a, b => .I (a.toI.fdiv (2 ^ (Nat.min b.toI.toNat k.bits)))
 | .lt, a, b => .B (decide (a.toI < b.toI))
 | .le, a, b => .B (decide (a.toI ≤ b.toI))
 | .eq, a, b => .B (a.toI == b.toI)
 | .eqb, a, b => .B (a.toB == b.toB)
 | .eqs, a, b => .B (a.toS.toList == b.toS.toList)
 | .lts, a, b => .B (Op.bytesLess a.toS.toList b.toS.toList)
 | .eqli, a, b => .B (a.aC == b.aC)
 | .and, a, b => .B (a.toB && b.toB)
 | .or, a, b => .B (a.toB || b.toB)
 | .min, a, b => .I (if b.toI < a.toI then b.toI else a.toI)
 | .max, a, b => .I (if b.toI > a.toI then b.toI else a.toI)
 | .cat, a, b => .S (a.toS ++ b.toS)
 | .byte, a, b => .I (byteAt a.toS b.toI)
 | .liget, a, b => .I (a.aC.getD b.toI.toNat 0)
 | .lget, a, b => a.toL.getD b.toI.toNat default
 | .liapp, a, b => .Z (a.aC ++ b.aC)
 | .licons, a, b => .Z (a.toI :: b.aC)
 | .lapp, a, b => .L (a.toL ++ b.toL)
 | .lcons, a, b => .L (a :: b.toL)
 | .litake, a, b => .Z (a.aC.take b.toI.toNat)
 | .lidrop, a, b => .Z (a.aC.drop b.toI.toNat)
 | .ltake, a, b => .L (a.toL.take b.toI.toNat)
 | .ldrop, a, b => .L (a.toL.drop b.toI.toNat)
 | .lirep, a, b => .Z (List.replicate a.toI.toNat b.toI)
 | .lrep, a, b => .L (List.replicate a.toI.toNat b)
 | .mget, a, b => aB a.toL b
 | .mhas, a, b => .B (aI a.toL b)
 | .mdel, a, b => .L (fK a.toL b)
 | .nget, a, b => aF a.toL b.toN
 | .nhas, a, b => .B (dG a.toL b.toN)
def O3.den : O3 → D → D → D → D
 | .ssub, a, b, c => .S (a.toS.extract b.toI.toNat c.toI.toNat)
 | .liset, a, b, c => .Z (a.aC.set b.toI.toNat c.toI)
 | .lset, a, b, c => .L (a.toL.set b.toI.toNat c)
 | .mset, a, b, c => .L (aU a.toL b c)
 | .nset, a, b, c => .L (dA a.toL b.toN c)
def Tm.den (ρ : List D) : Tm → D
 | .at n => ρ.getD n default
 | .int n => .I n
 | .bool b => .B b
 | .str s => .S s
 | .nat n => .N n
 | .lis l => .Z l
 | .lnil => .L []
 | .o1 o a => o.den (a.den ρ)
 | .o2 o a b => o.den (a.den ρ) (b.den ρ)
 | .o3 o a b c => o.den (a.den ρ) (b.den ρ) (c.den ρ)
def Tm.under (n : Nat) : Tm → Bool
 | .at i => decide (i < n)
 | .o1 _ a => a.under n
 | .o2 _ a b => a.under n && b.under n
 | .o3 _ a b c => a.under n && b.under n && c.under n
 | _ => true
def Tm.subst (n : Nat) (θ : List Tm) : Tm → Tm
 | .at i => if i < n then .at i else θ.getD (i - n) default
 | .o1 o a => .o1 o (a.subst n θ)
 | .o2 o a b => .o2 o (a.subst n θ) (b.subst n θ)
 | .o3 o a b c => .o3 o (a.subst n θ) (b.subst n θ) (c.subst n θ)
 | t => t
theorem Tm.aV {ρ : List D} {σ : List D} : ∀ {t : Tm}, t.under ρ.length = true → t.den (ρ ++ σ) = t.den ρ
 | .at i, h => by
  have h : i < ρ.length := by simpa [Tm.under] using h
  simp [Tm.den, List.getD, List.getElem?_append_left h]
 | .int _, _ => rfl
 | .bool _, _ => rfl
 | .str _, _ => rfl
 | .nat _, _ => rfl
 | .lis _, _ => rfl
 | .lnil, _ => rfl
 | .o1 o a, h => by simp only [Tm.den]; rw [Tm.aV (t := a) (by simpa [Tm.under] using h)]
 | .o2 o a b, h => by
  simp only [Tm.under, Bool.and_eq_true] at h
  simp only [Tm.den]; rw [Tm.aV (t := a) h.1, Tm.aV (t := b) h.2]
 | .o3 o a b c, h => by
  simp only [Tm.under, Bool.and_eq_true] at h
  simp only [Tm.den]; rw [Tm.aV (t := a) h.1.1, Tm.aV (t := b) h.1.2, Tm.aV (t := c) h.2]
theorem Tm.jB {n m : Nat} : ∀ {t : Tm}, t.under n = true → n ≤ m → t.under m = true
 | .at i, h, hm => by have h : i < n := by simpa [Tm.under] using h
                      simp only [Tm.under, decide_eq_true_eq]; omega
 | .int _, _, _ => rfl
 | .bool _, _, _ => rfl
 | .str _, _, _ => rfl
 | .nat _, _, _ => rfl
 | .lis _, _, _ => rfl
 | .lnil, _, _ => rfl
 | .o1 _ a, h, hm => Tm.jB (t := a) h hm
 | .o2 _ a b, h, hm => by
  simp only [Tm.under, Bool.and_eq_true] at h ⊢
  exact ⟨Tm.jB h.1 hm, Tm.jB h.2 hm⟩
 | .o3 _ a b c, h, hm => by
  simp only [Tm.under, Bool.and_eq_true] at h ⊢
  exact ⟨⟨Tm.jB h.1.1 hm, Tm.jB h.1.2 hm⟩, Tm.jB h.2 hm⟩
theorem Tm.lQ {ρ : List D} {σ : List D} {θ : List Tm} : ∀ {t : Tm},
  (t.subst ρ.length θ).den (ρ ++ σ) = t.den (ρ ++ θ.map (Tm.den (ρ ++ σ)))
 | .at i => by
  simp only [Tm.subst, Tm.den]
  split
  ·rename_i h
   simp [Tm.den, List.getD, List.getElem?_append_left h]
  ·rename_i h
   have hi : ρ.length ≤ i := by omega
   simp only [List.getD]
   rw [List.getElem?_append_right hi, List.getElem?_map]
   cases hθ : θ[i - ρ.length]? with
   | none => rfl
   | some t => rfl
 | .int _ => rfl
 | .bool _ => rfl
 | .str _ => rfl
 | .nat _ => rfl
 | .lis _ => rfl
 | .lnil => rfl
 | .o1 o a => by simp only [Tm.subst, Tm.den]; rw [Tm.lQ (t := a)]
 | .o2 o a b => by simp only [Tm.subst, Tm.den]; rw [Tm.lQ (t := a), Tm.lQ (t := b)]
 | .o3 o a b c => by simp only [Tm.subst, Tm.den]; rw [Tm.lQ (t := a), Tm.lQ (t := b), Tm.lQ (t := c)]
inductive Lf where
 | int (k : IntKind) (t : Tm) | bool (t : Tm) | str (t : Tm)
 | ptr (b : Tm) (o : Nat)                     -- into an owned block, at a place
 | aptr (b : Tm) (o : Nat) (i : Tm) (n : Nat) -- the element i of n whole numbers that lie from place o on
 | eptr (a i : Tm) (es o : Nat)               -- place o of the element i of a slice, each of es cells
 | bsl (b : Tm) (o n : Nat)                   -- the n cells of an owned block from place o on, as a slice
 | nilp | sl (a : Tm) | fn (f : FuncId) | nilfn | nilsl | mp (b : Tm) | nilmp | junk | undef
 | clo (f : FuncId) (first caps : List Tm)    -- a function's value: what is bound to it are addresses of blocks
 deriving DecidableEq
inductive Pt where
 | lf (l : Lf) | ints (k : IntKind) (n : Nat) (L : Tm)
 deriving DecidableEq
inductive S0 where
 | lf (l : Lf) | agg (ps : List Pt)
 deriving DecidableEq
inductive SV where
 | one (x : S0) | tup (xs : List S0)
 deriving DecidableEq
inductive CK where
 | int (k : IntKind) | ints (k : IntKind) (n : Nat) | bool | str
 | sl (ek : List CK)                          -- a slice, with what it holds
mutual
def CK.beq : CK → CK → Bool
 | .int k, .int k' => decide (k = k')
 | .ints k n, .ints k' n' => decide (k = k') && decide (n = n')
 | .bool, .bool => true
 | .str, .str => true
 | .sl a, .sl b => CK.wS a b
 | _, _ => false
def CK.wS : List CK → List CK → Bool
 | [], [] => true
 | a :: as, b :: bs => CK.beq a b && CK.wS as bs
 | _, _ => false
end
mutual
theorem CK.beq_iff : ∀ {a b : CK}, CK.beq a b = true ↔ a = b
 | .int k, b => by cases b <;> simp [CK.beq]
 | .ints k n, b => by cases b <;> simp [CK.beq]
 | .bool, b => by cases b <;> simp [CK.beq]
 | .str, b => by cases b <;> simp [CK.beq]
 | .sl as, b => by cases b <;> simp [CK.beq, CK.aZ7 (as := as)]
theorem CK.aZ7 : ∀ {as bs : List CK}, CK.wS as bs = true ↔ as = bs
 | [], bs => by cases bs <;> simp [CK.wS]
 | a :: as, bs => by cases bs <;> simp [CK.wS, CK.beq_iff (a := a), CK.aZ7 (as := as)]
end
instance : DecidableEq CK := fun _ _ => decidable_of_iff _ CK.beq_iff
abbrev EK := List CK
inductive Kd where
 | deep (ek : EK) | mp (K E : CK) | mpp (K : CK) (ek : EK) | mpi (K E : CK) | mppi (K : CK) (ek : EK)
 deriving DecidableEq
inductive Ch where
 | box (b : Tm) (ps : List Pt)
 | osl (a : Tm) (ek : EK) (L : Tm)
 | rsl (a : Tm) (ek : EK) (L : Tm)
 | abs (k : Kd) (ts : List Tm)
 deriving DecidableEq
inductive Srt where
 | I | B | S | Z | L | N | V
 deriving DecidableEq
structure St where
 tmps : List SV
 heap : List Ch
 aA : List Srt
def Srt.ok : Srt → D → Prop
 | .I, d => ∃ x, d = .I x
 | .B, d => ∃ x, d = .B x
 | .S, d => ∃ x, d = .S x
 | .Z, d => ∃ x, d = .Z x
 | .L, d => ∃ x, d = .L x
 | .N, d => ∃ x, d = .N x
 | .V, d => ∃ x, d = .V x
def aP : List Srt → List D → Prop
 | [], [] => True
 | s :: ss, d :: ds => s.ok d ∧ aP ss ds
 | _, _ => False
def dF : Int := 9223372036854775807
def Lf.holds (ρ : List D) : Lf → Value → Prop
 | .int k t, v => v = .int k (t.den ρ).toI ∧ k.has (t.den ρ).toI
 | .bool t, v => v = .bool (t.den ρ).toB
 | .str t, v => v = .string (t.den ρ).toS ∧ ((t.den ρ).toS.size : Int) ≤ dF
 | .ptr b o, v => v = .pointer (some ⟨(b.den ρ).toN, o, none⟩)
 | .aptr b o i n, v => v = .pointer (some ⟨(b.den ρ).toN, o + (i.den ρ).toI.toNat, none⟩) ∧ 0 ≤ (i.den ρ).toI ∧ (i.den ρ).toI < n
 | .eptr a i es o, v => ∃ ad n c, (a.den ρ).toV = .slice (some ad) n c ∧ ad.spot = none ∧ 0 ≤ (i.den ρ).toI ∧ (i.den ρ).toI < n ∧ v = .pointer (some ⟨ad.block, ad.off + ((i.den ρ).toI.toNat * es + o), none⟩)
 | .bsl b o n, v => ∃ c, v = .slice (some ⟨(b.den ρ).toN, o, none⟩) n c ∧ n ≤ c
 | .nilp, v => v = .pointer none
 | .sl a, v => v = (a.den ρ).toV
 | .fn f, v => v = .func (.func f) #[] #[]
 | .nilfn, v => v = .nilFunc
 | .nilsl, v => v = .slice none 0 0
 | .mp b, v => v = .map (some (b.den ρ).toN)
 | .nilmp, v => v = .map none
 | .junk, _ => True
 | .undef, v => v = Go.undef
 | .clo f first caps, v => v = .func (.func f) (first.map fun b => Value.pointer (some ⟨(b.den ρ).toN, 0, none⟩)).toArray (caps.map fun b => Value.pointer (some ⟨(b.den ρ).toN, 0, none⟩)).toArray
def one (v : Value) : Prop := v.oneCell' = true
def aG (ρ : List D) : List Pt → List Value → Prop
 | [], vs => vs = []
 | .lf l :: ps, vs => ∃ v r, vs = v :: r ∧ l.holds ρ v ∧ one v ∧ aG ρ ps r
 | .ints k n L :: ps, vs => ∃ r, vs = (L.den ρ).aC.map (Value.int k) ++ r ∧ (L.den ρ).aC.length = n ∧ (∀ x ∈ (L.den ρ).aC, k.has x) ∧ aG ρ ps r
def S0.holds (ρ : List D) : S0 → Value → Prop
 | .lf l, v => l.holds ρ v
 | .agg ps, v => ∃ cs, v = .agg cs ∧ aG ρ ps cs.toList
def jL (ρ : List D) : List S0 → List Value → Prop
 | [], vs => vs = []
 | x :: xs, vs => ∃ v r, vs = v :: r ∧ x.holds ρ v ∧ jL ρ xs r
def SV.holds (ρ : List D) : SV → Value → Prop
 | .one x, v => x.holds ρ v
 | .tup xs, v => ∃ vs, v = .tuple vs ∧ jL ρ xs vs.toList
def aS (ρ : List D) : List SV → List Value → Prop
 | [], vs => vs = []
 | x :: xs, vs => ∃ v r, vs = v :: r ∧ x.holds ρ v ∧ aS ρ xs r
def slV (d : D) : Value := (d.toL.getD 0 default).toV
def slC (d : D) : D := d.toL.getD 1 default
def CK.width : CK → Nat
 | .int _ => 1 | .ints _ n => n | .bool => 1 | .str => 1 | .sl _ => 1
def CK.cells : CK → D → List Value
 | .int k, d => [.int k d.toI]
 | .ints k _, d => d.aC.map (.int k)
 | .bool, d => [.bool d.toB]
 | .str, d => [.string d.toS]
 | .sl _, d => [slV d]
def aJ (ek : EK) (d : D) : List D :=
 match ek with
 | [.int _] => d.aC.map D.I
 | _ => d.toL
def kF (ek : EK) (x : D) : List D :=
 match ek with
 | [_] => [x]
 | _ => x.toL
mutual
def CK.ok : CK → D → Prop
 | .int k, d => k.has d.toI
 | .ints k n, d => d.aC.length = n ∧ ∀ x ∈ d.aC, k.has x
 | .bool, _ => True
 | .str, d => (d.toS.size : Int) ≤ dF
 | .sl ek, d => ((∃ v c, d = .L [.V v, c]) ∧ one (slV d)) ∧ ∀ x ∈ aJ ek (slC d), dH ek (kF ek x)
def dH : List CK → List D → Prop
 | c :: cs, d :: ds => c.ok d ∧ dH cs ds
 | [], [] => True
 | [], _ :: _ => False
 | _ :: _, [] => False
end
def EK.width (ek : EK) : Nat := (ek.map CK.width).foldr (· + ·) 0
def bI : EK → List D → List Value
 | c :: cs, d :: ds => c.cells d ++ bI cs ds
 | _, _ => []
def EK.cells (ek : EK) (d : D) : List Value :=
 match ek with
 | [.int k] => d.aC.map (.int k)
 | [c] => d.toL.flatMap c.cells
 | _ => d.toL.flatMap fun r => bI ek r.toL
def EK.ok (ek : EK) (d : D) : Prop :=
 match ek with
 | [.int k] => ∀ x ∈ d.aC, k.has x
 | [c] => ∀ x ∈ d.toL, c.ok x
 | _ => ∀ r ∈ d.toL, dH ek r.toL
def EK.len (ek : EK) (d : D) : Nat :=
 match ek with
 | [.int _] => d.aC.length
 | _ => d.toL.length
theorem aA9 (ek : EK) (d : D) : (∀ x ∈ aJ ek d, dH ek (kF ek x)) ↔ ek.ok d := by
 rcases ek with _ | ⟨c, _ | ⟨c', cs⟩⟩
 ·exact Iff.rfl
 ·cases c with
  | int k =>
   constructor
   ·intro h n hn
    exact (h (.I n) (List.mem_map_of_mem hn)).1
   ·rintro h x hx
    obtain ⟨n, hn, rfl⟩ := List.mem_map.1 hx
    exact ⟨h n hn, trivial⟩
  | _ => exact ⟨fun h x hx => (h x hx).1, fun h x hx => ⟨h x hx, trivial⟩⟩
 ·cases c <;> exact Iff.rfl
def gB (fz : Nat × Nat) (n : Nat) : Prop := ∀ j, j < n → ¬ (fz.1 ≤ j ∧ j < fz.2)
def iE (w : World) (v : Value) (es m : Nat) (xs : List Value) : Prop :=
 (v = .slice none 0 0 ∧ m = 0 ∧ xs = []) ∨
 ∃ g cap cur e fz, v = .slice (some ⟨g, 0, none⟩) m cap ∧ w.heap[g]? = some (.cells cur e fz) ∧ gB fz (cur.size + (if es = 1 then 0 else 1)) ∧ m ≤ cap ∧ cap ≤ maxLen ∧
  cur.size = cap * es ∧ xs.length = m * es ∧ cur.toList.take (m * es) = xs
def roB : Value → Option Nat
 | .slice (some ad) (_ + 1) _ => some ad.block
 | _ => none
theorem zF {v : Value} {b : Nat} (h : roB v = some b) : v.ownBlock = some b := by
 unfold roB at h
 split at h
 ·cases h; rfl
 ·cases h
def gX (w : World) (v : Value) (es m : Nat) (xs : List Value) : Prop :=
 (v = .slice none 0 0 ∧ m = 0 ∧ xs = []) ∨ (∃ ad cap, v = .slice (some ad) 0 cap ∧ m = 0 ∧ xs = []) ∨
 ∃ ad cap, v = .slice (some ad) m cap ∧ ad.spot = none ∧ ad.block < w.heap.size ∧ m ≤ cap ∧ cap ≤ maxLen ∧ xs.length = m * es ∧
  ∀ j u, xs[j]? = some u → w.cell? (ad.add j) = some u
mutual
def CK.deep (w : World) : CK → D → Prop
 | .sl ek, d => gX w (slV d) (EK.width ek) (EK.len ek (slC d)) (EK.cells ek (slC d)) ∧ ∀ x ∈ aJ ek (slC d), gK w ek (kF ek x)
 | .int _, _ | .ints _ _, _ | .bool, _ | .str, _ => True
def gK (w : World) : List CK → List D → Prop
 | c :: cs, d :: ds => c.deep w d ∧ gK w cs ds
 | [], _ => True
 | _ :: _, [] => True
end
def fQ (w : World) (ek : EK) (d : D) : Prop := ∀ x ∈ aJ ek d, gK w ek (kF ek x)
mutual
def CK.blks : CK → D → List Nat
 | .sl ek, d => (roB (slV d)).toList ++ (aJ ek (slC d)).flatMap fun x => iT ek (kF ek x)
 | .int _, _ | .ints _ _, _ | .bool, _ | .str, _ => []
def iT : List CK → List D → List Nat
 | c :: cs, d :: ds => c.blks d ++ iT cs ds
 | [], _ => []
 | _ :: _, [] => []
end
def eH (ek : EK) (d : D) : List Nat := (aJ ek d).flatMap fun x => iT ek (kF ek x)
def CK.word : CK → D → D
 | .int _, d => .I d.toI
 | .bool, d => .B d.toB
 | .str, d => .S d.toS
 | .ints _ _, d => .Z d.aC
 | .sl _, _ => .I 0
def CK.isWord (c : CK) (d : D) : Prop := c.ok d ∧ c.word d = d
def bP (w : World) (b : Nat) (es : List MapEntry) (clock : Nat) : Prop :=
 w.heap[b]? = some (.map es.toArray clock) ∧ (es.map (·.born)).Nodup ∧ (∀ e ∈ es, e.born < clock) ∧ es.length ≤ maxLen
def oQ (K E : CK) : List MapEntry → List D → Prop
 | [], [] => True
 | e :: es, r :: L => (K.cells r.key = [e.key] ∧ K.isWord r.key ∧ E.cells r.snd = [e.val] ∧ E.isWord r.snd ∧ r = .L [r.key, r.snd]) ∧ oQ K E es L
 | _, _ => False
def aW (L : List D) : Prop := L.Pairwise fun a b => aQ a.key b.key = false
def aN (L : List D) : List Nat := L.map fun r => r.snd.toN
def jK (w : World) (K : CK) (ek : EK) : List MapEntry → List D → Prop
 | [], [] => True
 | e :: es, r :: L => (K.cells r.key = [e.key] ∧ K.isWord r.key ∧ e.val = .pointer (some ⟨r.snd.toN, 0, none⟩) ∧ r = .L (r.key :: .N r.snd.toN :: r.toL.drop 2) ∧ dH ek (r.toL.drop 2) ∧
   ∃ cs t fz, w.heap[r.snd.toN]? = some (.cells cs t fz) ∧ gB fz cs.size ∧ cs.toList = bI ek (r.toL.drop 2)) ∧ jK w K ek es L
 | _, _ => False
def mV (w : World) (b m : Nat) (es : List MapEntry) (clock : Nat) (L S : List D) : Prop :=
 ∃ seen : List Nat, w.heap[b]? = some (.mapIter (some m) clock seen.toArray clock) ∧ seen.Nodup ∧
  S = seen.map (fun n => L.getD (es.findIdx fun e => e.born == n) default) ∧ ∀ n ∈ seen, ∃ e ∈ es, e.born = n
def arg (ds : List D) (i : Nat) : D := ds.getD i default
def Kd.holds (w : World) : Kd → List D → Prop
 | .deep ek, ds => fQ w ek (arg ds 0)
 | .mp K E, ds => ∃ es clock, bP w (arg ds 0).toN es clock ∧ oQ K E es (arg ds 1).toL ∧ aW (arg ds 1).toL
 | .mpp K ek, ds => ∃ es clock, bP w (arg ds 0).toN es clock ∧ jK w K ek es (arg ds 1).toL ∧ aW (arg ds 1).toL
 | .mpi K E, ds => ∃ es clock, bP w (arg ds 0).toN es clock ∧ oQ K E es (arg ds 1).toL ∧ aW (arg ds 1).toL ∧ mV w (arg ds 2).toN (arg ds 0).toN es clock (arg ds 1).toL (arg ds 3).toL
 | .mppi K ek, ds => ∃ es clock, bP w (arg ds 0).toN es clock ∧ jK w K ek es (arg ds 1).toL ∧ aW (arg ds 1).toL ∧ mV w (arg ds 2).toN (arg ds 0).toN es clock (arg ds 1).toL (arg ds 3).toL
def Kd.own : Kd → List D → List Nat
 | .deep _, _ => []
 | .mp _ _, ds => [(arg ds 0).toN]
 | .mpp _ _, ds => (arg ds 0).toN :: aN (arg ds 1).toL
 | .mpi _ _, ds => [(arg ds 0).toN, (arg ds 2).toN]
 | .mppi _ _, ds => (arg ds 0).toN :: (arg ds 2).toN :: aN (arg ds 1).toL
def Kd.ro : Kd → List D → List Nat
 | .deep ek, ds => eH ek (arg ds 0)
 | _, _ => []
def Ch.holds (ρ : List D) (w : World) : Ch → Prop
 | .box b ps => ∃ cs e fz, w.heap[(b.den ρ).toN]? = some (.cells cs e fz) ∧ gB fz cs.size ∧ aG ρ ps cs.toList
 | .osl a ek L => iE w (a.den ρ).toV ek.width (ek.len (L.den ρ)) (ek.cells (L.den ρ)) ∧ ek.ok (L.den ρ)
 | .rsl a ek L => gX w (a.den ρ).toV ek.width (ek.len (L.den ρ)) (ek.cells (L.den ρ)) ∧ ek.ok (L.den ρ)
 | .abs k ts => k.holds w (ts.map (Tm.den ρ))
def Ch.own (ρ : List D) : Ch → List Nat
 | .box b _ => [(b.den ρ).toN]
 | .osl a _ _ => (a.den ρ).toV.ownBlock.toList
 | .rsl _ _ _ => []
 | .abs k ts => k.own (ts.map (Tm.den ρ))
def Ch.ro (ρ : List D) : Ch → List Nat
 | .rsl a _ _ => (roB (a.den ρ).toV).toList
 | .abs k ts => k.ro (ts.map (Tm.den ρ))
 | _ => []
def Ch.fF (ρ : List D) : Ch → Nat → Prop
 | .box b _, x => some (b.den ρ).toN = some x
 | .osl a _ _, x => (a.den ρ).toV.ownBlock = some x
 | .rsl _ _ _, x => (none : Option Nat) = some x
 | .abs k ts, x => x ∈ k.own (ts.map (Tm.den ρ))
def Ch.eX (ρ : List D) : Ch → Nat → Prop
 | .rsl a _ _, x => roB (a.den ρ).toV = some x
 | .abs k ts, x => x ∈ k.ro (ts.map (Tm.den ρ))
 | .box _ _, x => (none : Option Nat) = some x
 | .osl _ _ _, x => (none : Option Nat) = some x
theorem Ch.vG {ρ : List D} {c : Ch} {b : Nat} : b ∈ c.own ρ ↔ c.fF ρ b := by
 cases c <;> simp [Ch.own, Ch.fF, eq_comm]
theorem Ch.rX {ρ : List D} {c : Ch} {b : Nat} : b ∈ c.ro ρ ↔ c.eX ρ b := by
 cases c <;> simp [Ch.ro, Ch.eX]
def owns (ρ : List D) (hs : List Ch) : List Nat := hs.flatMap (Ch.own ρ)
def ros (ρ : List D) (hs : List Ch) : List Nat := hs.flatMap (Ch.ro ρ)
structure aH (ρ : List D) (hs : List Ch) (w : World) : Prop where
 holds : ∀ c ∈ hs, c.holds ρ w
 nodup : (owns ρ hs).Nodup
 ro : ∀ c ∈ hs, ∀ b, c.eX ρ b → b ∉ owns ρ hs
structure Glob where
 g : Nat
 k : IntKind
 l : List Int
def Glob.holds (x : Glob) (w : World) : Prop :=
 (∃ e fz, w.heap[x.g]? = some (.cells (x.l.map (Value.int x.k)).toArray e fz)) ∧ ∀ y ∈ x.l, x.k.has y
structure mQ (w0 : World) (D0 : List Nat) (w : World) : Prop where
 os : w.os = w0.os
 tape : w.tape = w0.tape
 output : w.output = w0.output
 size : w0.heap.size ≤ w.heap.size
 block : ∀ b, b < w0.heap.size → b ∉ D0 → w.heap[b]? = w0.heap[b]?
structure Rel (G : List Glob) (w0 : World) (D0 R0 : List Nat) (ρ : List D) (S : St) (a : Act) (w : World) : Prop where
 aA : aP S.aA ρ
 tmps : aS ρ S.tmps a.tmps.toList
 defers : a.defers = []
 heap : aH ρ S.heap w
 globs : ∀ g ∈ G, g.holds w ∧ g.g ∉ owns ρ S.heap
 frame : mQ w0 D0 w
 within : ∀ b ∈ owns ρ S.heap, b ∈ D0 ∨ w0.heap.size ≤ b
 within' : ∀ b ∈ ros ρ S.heap, b ∈ D0 ∨ w0.heap.size ≤ b ∨ b ∈ R0
inductive Fact where
 | has (k : IntKind) (t : Tm) | ssz (t : Tm) | allHas (k : IntKind) (t : Tm) | len (t : Tm) (n : Nat) | ekok (ek : EK) (t : Tm)
 | kd (k : Kd) (ts : List Tm)                 -- what is known of a chunk's words
 | allCame (L S : Tm) | comes (L S r : Tm)    -- all rows have come; one that hasn't
 deriving DecidableEq
def mapOk (K E : CK) (L : List D) : Prop := aW L ∧ ∀ r ∈ L, K.isWord r.key ∧ E.isWord r.snd ∧ r = .L [r.key, r.snd]
def bM (K : CK) (ek : EK) (L : List D) : Prop := aW L ∧ (aN L).Nodup ∧ ∀ r ∈ L, K.isWord r.key ∧ r = .L (r.key :: .N r.snd.toN :: r.toL.drop 2) ∧ dH ek (r.toL.drop 2)
def Kd.known : Kd → List D → Prop
 | .deep _, _ => True
 | .mp K E, ds => mapOk K E (arg ds 1).toL
 | .mpp K ek, ds => bM K ek (arg ds 1).toL
 | .mpi K E, ds => mapOk K E (arg ds 1).toL ∧ (arg ds 3).toL.Nodup ∧ ∀ r ∈ (arg ds 3).toL, r ∈ (arg ds 1).toL
 | .mppi K ek, ds => bM K ek (arg ds 1).toL ∧ (arg ds 3).toL.Nodup ∧ ∀ r ∈ (arg ds 3).toL, r ∈ (arg ds 1).toL
def Fact.den (ρ : List D) : Fact → Prop
 | .has k t => k.has (t.den ρ).toI
 | .ssz t => ((t.den ρ).toS.size : Int) ≤ dF
 | .allHas k t => ∀ x ∈ (t.den ρ).aC, k.has x
 | .len t n => (t.den ρ).aC.length = n
 | .ekok ek t => ek.ok (t.den ρ)
 | .kd k ts => k.known (ts.map (Tm.den ρ))
 | .allCame L S => (S.den ρ).toL.Perm (L.den ρ).toL
 | .comes L S r => r.den ρ ∈ (L.den ρ).toL ∧ r.den ρ ∉ (S.den ρ).toL
inductive VC where
 | tt
 | and (a b : VC)
 | imp (t : Tm) (pos : Bool) (k : VC)
 | obl (t : Tm) (k : VC)
 | all (s : Srt) (k : VC)
 | know (f : Fact) (k : VC)
 | pre (c : Nat) (ts : List Tm) (k : VC)
 | post (c : Nat) (ts : List Tm) (k : VC)
 | inv (j : Nat) (ts : List Tm) (k : VC)
 | asm (j : Nat) (ts : List Tm) (k : VC)
 | back (j : Nat) (old new : List Tm)
 | ret (ts : List Tm)
 | cut (n : Nat) (k : VC)              -- only the first n words are known from here on
structure Env where
 pre : Nat → List D → Prop
 post : Nat → List D → Prop
 inv : Nat → List D → Prop
 meas : Nat → List D → Nat
 ret : List D → Prop
def VC.den (E : Env) : VC → List D → Prop
 | .tt, _ => True
 | .and a b, ρ => a.den E ρ ∧ b.den E ρ
 | .imp t p k, ρ => (t.den ρ).toB = p → k.den E ρ
 | .obl t k, ρ => (t.den ρ).toB = true ∧ ((t.den ρ).toB = true → k.den E ρ)
 | .all .I c, ρ => ∀ x : Int, c.den E (ρ ++ [.I x])
 | .all .B c, ρ => ∀ x : Bool, c.den E (ρ ++ [.B x])
 | .all .S c, ρ => ∀ x : ByteArray, c.den E (ρ ++ [.S x])
 | .all .Z c, ρ => ∀ x : List Int, c.den E (ρ ++ [.Z x])
 | .all .L c, ρ => ∀ x : List D, c.den E (ρ ++ [.L x])
 | .all .N c, ρ => ∀ x : Nat, c.den E (ρ ++ [.N x])
 | .all .V c, ρ => ∀ x : Value, c.den E (ρ ++ [.V x])
 | .know f k, ρ => f.den ρ → k.den E ρ
 | .pre c ts k, ρ => E.pre c (ts.map (Tm.den ρ)) ∧ k.den E ρ
 | .post c ts k, ρ => E.post c (ts.map (Tm.den ρ)) → k.den E ρ
 | .inv j ts k, ρ => E.inv j (ts.map (Tm.den ρ)) ∧ k.den E ρ
 | .asm j ts k, ρ => E.inv j (ts.map (Tm.den ρ)) → k.den E ρ
 | .back j old new, ρ => E.inv j (new.map (Tm.den ρ)) ∧ E.meas j (new.map (Tm.den ρ)) < E.meas j (old.map (Tm.den ρ))
 | .ret ts, ρ => E.ret (ts.map (Tm.den ρ))
 | .cut n k, ρ => k.den E (ρ.take n)
theorem VC.bB9 {E : Env} {s : Srt} {k : VC} {ρ : List D} (h : (VC.all s k).den E ρ) {d : D} (hd : s.ok d) : k.den E (ρ ++ [d]) := by
 cases s <;> (obtain ⟨x, rfl⟩ := hd; exact h x)
structure SigR where
 args : List SV
 heap : List Ch
 aA : List Srt
 res : SV
 heap' : List Ch
 news : List Srt
 alt : Option (SV × List Ch × List Srt) := none   -- another form of what it gives back
def SigR.second (R : SigR) : Option SigR :=
 match R.alt with
 | some x => some { R with res := x.1, heap' := x.2.1, news := x.2.2, alt := none }
 | none => none
structure Sig extends SigR where
 pre : List D → Prop
 post : List D → Prop
 post2 : List D → Prop := fun _ => False
def Fit (post : List D → Prop) (R : SigR) (ρ : List D) (w : World) (v : Value) (w' : World) : Prop :=
 ∃ σ, aP R.news σ ∧ post (ρ ++ σ) ∧ R.res.holds (ρ ++ σ) v ∧ aH (ρ ++ σ) R.heap' w' ∧
  (∀ b ∈ owns (ρ ++ σ) R.heap', b ∈ owns ρ R.heap ∨ w.heap.size ≤ b) ∧
  (∀ b ∈ ros (ρ ++ σ) R.heap', b ∈ owns ρ R.heap ∨ w.heap.size ≤ b ∨ b ∈ ros ρ R.heap) ∧ mQ w (owns ρ R.heap) w'
def Sig.Holds (c : Sig) (P : Program) (G : List Glob) (f : FuncId) : Prop :=
 ∀ (w : World) (args : Array Value) (ρ : List D), aP c.aA ρ → c.pre ρ → aS ρ c.args args.toList → aH ρ c.heap w →
  (∀ g ∈ G, g.holds w ∧ g.g ∉ owns ρ c.heap) →
  Calls P f args w fun e w' => ∃ v, e = .returned v ∧ (Fit c.post c.toSigR ρ w v w' ∨ ∃ r, c.second = some r ∧ Fit c.post2 r ρ w v w')
end Go.Vc
namespace Go.Vc
abbrev M := Except String VC
structure Ann where
 key : Nat
 j : Nat                 -- which invariant
 watch : List Nat := []  -- slots whose payload the invariant is told besides
 havoc : List Nat := []  -- chunks (by place) that the body turns
 join : Bool := false
 frz : Bool := false     -- slices of its own that the loop's slots hold are only read from now on
 tmpl : Option St := none -- a joint's pattern
 say : List Srt → St → List Nat → String := fun _ _ _ => ""
structure Cx where
 P : Program
 fn : Func
 G : List Glob
 sigs : List (FuncId × Nat × SigR)
 own : SigR
 anns : List Ann
 iters : List FuncId := []
inductive LK where
 | cell | ints (k : IntKind) (n : Nat) | slice (ek : EK)
 deriving DecidableEq
def aN5 (P : Program) : Nat → TypeId → Option EK
 | 0, _ => none
 | f + 1, t =>
  match P.underlying t with
  | some (.int k) => some [.int k]
  | some .bool => some [.bool]
  | some .string => some [.str]
  | some (.array n e) => match P.underlying e with
   | some (.int k) => some [.ints k n]
   | _ => none
  | some (.struct fs) => fs.toList.foldr (fun x acc => match aN5 P f x.type, acc with | some a, some r => some (a ++ r) | _, _ => none) (some [])
  | _ => none
def aE3 (P : Program) : Nat → TypeId → Option EK
 | 0, _ => none
 | f + 1, t =>
  match P.underlying t with
  | some (.int k) => some [.int k]
  | some .bool => some [.bool]
  | some .string => some [.str]
  | some (.array n e) => match P.underlying e with
   | some (.int k) => some [.ints k n]
   | _ => none
  | some (.struct fs) => fs.toList.foldr (fun x acc => match aE3 P f x.type, acc with | some a, some r => some (a ++ r) | _, _ => none) (some [])
  | some (.slice e) => match aE3 P f e with
   | some ek => some [.sl ek]
   | none => none
  | _ => none
def rV (P : Program) : Nat → TypeId → Option (List LK)
 | 0, _ => none
 | f + 1, t =>
  match P.underlying t with
  | some (.array n e) => match P.underlying e with
   | some (.int k) => some [.ints k n]
   | _ => match rV P f e with
    | some l => some (List.replicate n l).flatten
    | none => none
  | some (.struct fs) => fs.toList.foldr (fun x acc => match rV P f x.type, acc with | some a, some r => some (a ++ r) | _, _ => none) (some [])
  | some (.slice e) => match aE3 P 20 e with
   | some ek => some [.slice ek]
   | none => some [.cell]
  | some _ => some [.cell]
  | none => none
def xW : Value → Option Lf
 | .int k n => if k.min ≤ n ∧ n ≤ k.max then some (.int k (.int n)) else none
 | .bool b => some (.bool (.bool b))
 | .string s => if (s.size : Int) ≤ dF then some (.str (.str s)) else none
 | .pointer none => some .nilp
 | .slice none 0 0 => some .nilsl
 | .nilFunc => some .nilfn
 | .map none => some .nilmp
 | .func (.func f) first cap => if first.isEmpty && cap.isEmpty then some (.fn f) else none
 | _ => none
def intsOf (k : IntKind) : List Value → Option (List Int)
 | [] => some []
 | .int k' n :: vs => if k' = k ∧ k.min ≤ n ∧ n ≤ k.max then match intsOf k vs with | some r => some (n :: r) | none => none else none
 | _ :: _ => none
def kY : List LK → List Value → Option (List Pt)
 | [], [] => some []
 | .ints k n :: ls, vs => match intsOf k (vs.take n), kY ls (vs.drop n) with
  | some xs, some r => if xs.length = n then some (.ints k n (if xs = List.replicate n 0 then .o2 .lirep (.int n) (.int 0) else .lis xs) :: r) else none
  | _, _ => none
 | _ :: ls, v :: vs => match xW v, kY ls vs with
  | some l, some r => if v.oneCell' then some (.lf l :: r) else none
  | _, _ => none
 | _, _ => none
def aM5 (P : Program) (t : TypeId) : Value → Option SV
 | .agg cs => match rV P 20 t with
  | some lay => match kY lay cs.toList with
   | some ps => some (.one (.agg ps))
   | none => none
  | none => none
 | v => match xW v with | some l => some (.one (.lf l)) | none => none
def Lf.under (n : Nat) : Lf → Bool
 | .int _ t | .bool t | .str t | .sl t | .mp t => t.under n
 | .ptr b _ | .bsl b _ _ => b.under n
 | .aptr b _ i _ => b.under n && i.under n
 | .eptr a i _ _ => a.under n && i.under n
 | .clo _ fs cs => fs.all (Tm.under n) && cs.all (Tm.under n)
 | _ => true
def Pt.under (n : Nat) : Pt → Bool
 | .lf l => l.under n
 | .ints _ _ L => L.under n
def S0.under (n : Nat) : S0 → Bool
 | .lf l => l.under n
 | .agg ps => ps.all (Pt.under n)
def SV.under (n : Nat) : SV → Bool
 | .one x => x.under n
 | .tup xs => xs.all (S0.under n)
def Ch.under (n : Nat) : Ch → Bool
 | .box b ps => b.under n && ps.all (Pt.under n)
 | .osl a _ L => a.under n && L.under n
 | .rsl a _ L => a.under n && L.under n
 | .abs _ ts => ts.all (Tm.under n)
def St.under (S : St) : Bool := S.tmps.all (SV.under S.aA.length) && S.heap.all (Ch.under S.aA.length)
def Lf.subst (n : Nat) (θ : List Tm) : Lf → Lf
 | .int k t => .int k (t.subst n θ)
 | .bool t => .bool (t.subst n θ)
 | .str t => .str (t.subst n θ)
 | .sl t => .sl (t.subst n θ)
 | .mp t => .mp (t.subst n θ)
 | .ptr b o => .ptr (b.subst n θ) o
 | .bsl b o m => .bsl (b.subst n θ) o m
 | .aptr b o i m => .aptr (b.subst n θ) o (i.subst n θ) m
 | .eptr a i es o => .eptr (a.subst n θ) (i.subst n θ) es o
 | .clo f fs cs => .clo f (fs.map (Tm.subst n θ)) (cs.map (Tm.subst n θ))
 | l => l
def Pt.subst (n : Nat) (θ : List Tm) : Pt → Pt
 | .lf l => .lf (l.subst n θ)
 | .ints k m L => .ints k m (L.subst n θ)
def S0.subst (n : Nat) (θ : List Tm) : S0 → S0
 | .lf l => .lf (l.subst n θ)
 | .agg ps => .agg (ps.map (Pt.subst n θ))
def SV.subst (n : Nat) (θ : List Tm) : SV → SV
 | .one x => .one (x.subst n θ)
 | .tup xs => .tup (xs.map (S0.subst n θ))
def Ch.subst (n : Nat) (θ : List Tm) : Ch → Ch
 | .box b ps => .box (b.subst n θ) (ps.map (Pt.subst n θ))
 | .osl a ek L => .osl (a.subst n θ) ek (L.subst n θ)
 | .rsl a ek L => .rsl (a.subst n θ) ek (L.subst n θ)
 | .abs k ts => .abs k (ts.map (Tm.subst n θ))
def Tm.shp (ss : List Srt) : Tm → Option Srt
 | .at i => ss[i]?
 | .int _ => some .I
 | .bool _ => some .B
 | .str _ => some .S
 | .nat _ => some .N
 | .lis _ => some .Z
 | .lnil => some .L
 | .o1 o _ => some (match o with | .wrap _ | .slen | .lilen | .llen | .asI => .I | .not | .asB => .B | .ofLi | .asS => .S | .aC | .asZ => .Z | .asL => .L | .asV => .V | .asN => .N | .lines => .L)
 | .o2 o _ _ => match o with
  | .add _ | .sub _ | .mul _ | .quo _ | .rem | .bits _ _ | .shl _ | .shr _ | .min | .max | .byte | .liget => some .I
  | .lt | .le | .eq | .eqb | .eqs | .lts | .eqli | .and | .or | .mhas | .nhas => some .B
  | .cat => some .S
  | .lget | .mget | .nget => none
  | .liapp | .licons | .litake | .lidrop | .lirep => some .Z
  | .lapp | .lcons | .ltake | .ldrop | .lrep | .mdel => some .L
 | .o3 o _ _ _ => some (match o with | .ssub => .S | .liset => .Z | .lset | .mset | .nset => .L)
def fresh (S : St) (s : Srt) (k : Tm → St → M) : M :=
 if S.under then
  match k (.at S.aA.length) { S with aA := S.aA ++ [s] } with
  | .ok v => .ok (.all s v)
  | .error e => .error e
 else .error "fresh: a state whose atoms aren't known"
def obl (t : Tm) (k : M) : M := match k with | .ok v => .ok (.obl t v) | .error e => .error e
def imp (t : Tm) (b : Bool) (k : M) : M := match k with | .ok v => .ok (.imp t b v) | .error e => .error e
def evT (cx : Cx) (S : St) (t : TypeId) : Operand → Except String SV
 | .tmp i => match S.tmps[i]? with
  | some v => .ok v
  | none => .error "no such slot"
 | .const v => match aM5 cx.P t v with
  | some x => .ok x
  | none => .error "a constant that isn't taken"
 | .global g => .ok (.one (.lf (.ptr (.nat g) 0)))
 | .func f => .ok (.one (.lf (.fn f)))
def ev (cx : Cx) (S : St) (x : Operand) : Except String SV := evT cx S 0 x
def St.put (S : St) (dst : Option Tmp) (v : SV) : St :=
 match dst with
 | some d => { S with tmps := S.tmps.set d v }
 | none => S
def gQ (b : Tm) : List Ch → Option (List Pt)
 | [] => none
 | .box b' ps :: hs => if b' = b then some ps else gQ b hs
 | _ :: hs => gQ b hs
def jY (b : Tm) (ps : List Pt) : List Ch → List Ch
 | [] => []
 | .box b' qs :: hs => if b' = b then .box b' ps :: hs else .box b' qs :: jY b ps hs
 | h :: hs => h :: jY b ps hs
def aY (a : Tm) : List Ch → Option (Bool × EK × Tm)
 | [] => none
 | .osl a' ek L :: hs => if a' = a then some (true, ek, L) else aY a hs
 | .rsl a' ek L :: hs => if a' = a then some (false, ek, L) else aY a hs
 | _ :: hs => aY a hs
def jZ (a : Tm) (L : Tm) : List Ch → List Ch
 | [] => []
 | .osl a' ek L' :: hs => if a' = a then .osl a' ek L :: hs else .osl a' ek L' :: jZ a L hs
 | h :: hs => h :: jZ a L hs
def eU (a : Tm) : List Ch → List Ch
 | [] => []
 | .osl a' ek L :: hs => if a' = a then hs else .osl a' ek L :: eU a hs
 | h :: hs => h :: eU a hs
def dQ (a : Tm) : List Ch → List Ch
 | [] => []
 | .osl a' ek L :: hs => if a' = a then .rsl a' ek L :: hs else .osl a' ek L :: dQ a hs
 | .rsl a' ek L :: hs => if a' = a then .rsl a' ek L :: hs else .rsl a' ek L :: dQ a hs
 | h :: hs => h :: dQ a hs
def ptW : Pt → Nat
 | .lf _ => 1
 | .ints _ n _ => n
def qE : List Pt → Nat
 | [] => 0
 | p :: ps => ptW p + qE ps
def partAt (o : Nat) : List Pt → Option (Pt × Nat)
 | [] => none
 | p :: ps => if o < ptW p then some (p, o) else partAt (o - ptW p) ps
def sH (m : Nat) : List Pt → Option (List Pt)
 | [] => if m = 0 then some [] else none
 | p :: ps => if m = 0 then some [] else if ptW p ≤ m then (match sH (m - ptW p) ps with | some r => some (p :: r) | none => none) else none
def pY (o m : Nat) : List Pt → Option (List Pt)
 | [] => if o = 0 then sH m [] else none
 | p :: ps => if o = 0 then sH m (p :: ps) else if ptW p ≤ o then pY (o - ptW p) m ps else none
def oM (o : Nat) (ps : List Pt) : Option Lf :=
 match partAt o ps with
 | some (.lf l, _) => some l
 | some (.ints k _ L, j) => some (.int k (.o2 .liget L (.int j)))
 | none => none
def aG1 (new ps : List Pt) : Option (List Pt) :=
 match sH (qE new) ps with
 | some old => some (new ++ ps.drop old.length)
 | none => none
def zK (o : Nat) (new : List Pt) : List Pt → Option (List Pt)
 | [] => if o = 0 then aG1 new [] else none
 | p :: ps => if o = 0 then aG1 new (p :: ps) else
  if ptW p ≤ o then (match zK (o - ptW p) new ps with | some r => some (p :: r) | none => none) else none
def zJ (o : Nat) (l : Lf) : List Pt → Option (List Pt)
 | [] => none
 | p :: ps =>
  if o < ptW p then
   match p, l with
   | .lf _, l => some (.lf l :: ps)
   | .ints k n L, .int k' t => if k' = k then some (.ints k n (.o3 .liset L (.int o) t) :: ps) else none
   | _, _ => none
  else match zJ (o - ptW p) l ps with | some r => some (p :: r) | none => none
def pO (o n : Nat) : List Pt → Option (IntKind × Tm)
 | [] => none
 | p :: ps => if o = 0 then (match p with | .ints k m L => if m = n then some (k, L) else none | _ => none)
  else if ptW p ≤ o then pO (o - ptW p) n ps else none
def wH (o n : Nat) (L' : Tm) : List Pt → Option (List Pt)
 | [] => none
 | p :: ps => if o = 0 then (match p with | .ints k m _ => if m = n then some (.ints k m L' :: ps) else none | _ => none)
  else if ptW p ≤ o then (match wH (o - ptW p) n L' ps with | some r => some (p :: r) | none => none) else none
def S0.parts : S0 → List Pt
 | .lf l => [.lf l]
 | .agg ps => ps
def asK : EK → O1
 | [.int _] => .asZ
 | _ => .asL
def xX (c : CK) (t : Tm) : Pt :=
 match c with
 | .int k => .lf (.int k (.o1 .asI t))
 | .bool => .lf (.bool (.o1 .asB t))
 | .str => .lf (.str (.o1 .asS t))
 | .ints k n => .ints k n (.o1 .asZ t)
 | .sl _ => .lf (.sl (.o1 .asV (.o2 .lget t (.int 0))))
def vZ (row : Tm) : Nat → EK → List Pt
 | _, [] => []
 | j, c :: cs => xX c (.o2 .lget row (.int j)) :: vZ row (j + 1) cs
def aN7 (ek : EK) (L i : Tm) : List Pt :=
 match ek with
 | [.int k] => [.lf (.int k (.o2 .liget L i))]
 | [c] => [xX c (.o2 .lget L i)]
 | cs => vZ (.o1 .asL (.o2 .lget L i)) 0 cs
def iM (hs : List Ch) : CK → Pt → Option Tm
 | .int k, .lf (.int k' t) => if k' = k then some (.o1 .asI t) else none
 | .bool, .lf (.bool t) => some (.o1 .asB t)
 | .str, .lf (.str t) => some (.o1 .asS t)
 | .ints k n, .ints k' n' L => if k' = k ∧ n' = n then some (.o1 .asZ L) else none
 | .sl ek, .lf (.sl a) => match aY a hs with
  | some (_, ek', L) => if ek' = ek then some (.o2 .lcons (.o1 .asV a) (.o2 .lcons L .lnil)) else none
  | none => none
 | _, _ => none
def fB (hs : List Ch) : EK → List Pt → Option Tm
 | [], [] => some .lnil
 | c :: cs, p :: ps => match iM hs c p, fB hs cs ps with
  | some t, some r => some (.o2 .lcons t r)
  | _, _ => none
 | _, _ => none
def pV (hs : List Ch) (ek : EK) : List (List Pt) → Option Tm
 | [] => match ek with | [.int _] => some (.lis []) | _ => some .lnil
 | ps :: r =>
  match pV hs ek r with
  | none => none
  | some L => match ek, ps with
   | [.int k], [.lf (.int k' t)] => if k' = k then some (.o2 .licons t L) else none
   | [c], [p] => match iM hs c p with | some t => some (.o2 .lcons t L) | none => none
   | cs, ps => match fB hs cs ps with | some t => some (.o2 .lcons t L) | none => none
def mG (ps : List Pt) : List Tm := ps.filterMap fun p => match p with | .lf (.sl a) => some a | _ => none
def flatK : CK → Bool
 | .sl _ => false
 | _ => true
def fU (ek : EK) : Bool := ek.all flatK
def kS (ek : EK) (L : Tm) : Tm := match ek with | [.int _] => .o1 .lilen L | _ => .o1 .llen L
def lS (ek : EK) : Tm := match ek with | [.int _] => .lis [] | _ => .lnil
def oJ (ek : EK) (a b : Tm) : Tm := match ek with | [.int _] => .o2 .liapp a b | _ => .o2 .lapp a b
def aB5 (ek : EK) (a b : Tm) : Tm := match ek with | [.int _] => .o2 .litake a b | _ => .o2 .ltake a b
def aN4 (ek : EK) (a b : Tm) : Tm := match ek with | [.int _] => .o2 .lidrop a b | _ => .o2 .ldrop a b
def qZ (ek : EK) (L a b : Tm) : Tm :=
 let h := if b = kS ek L then L else aB5 ek L b
 if a = .int 0 then h else aN4 ek h a
def kW (lay : List LK) (ps : List Pt) (S : St) (k : List Pt → St → M) : M :=
 match lay, ps with
 | .slice ek :: lay, .lf .nilsl :: ps => fresh S .V fun a S => kW lay ps { S with heap := .osl a ek (lS ek) :: S.heap } fun qs S => k (.lf (.sl a) :: qs) S
 | _ :: lay, p :: ps => kW lay ps S fun qs S => k (p :: qs) S
 | _, ps => k ps S
def rW (cx : Cx) (t : TypeId) (v : SV) (S : St) (k : SV → St → M) : M :=
 match v with
 | .one (.lf .nilsl) => match rV cx.P 20 t with
  | some lay => kW lay [.lf .nilsl] S fun qs S => match qs with | [.lf l] => k (.one (.lf l)) S | _ => .error "mat"
  | none => k v S
 | .one (.agg ps) => if ps.any (fun p => p = .lf .nilsl) then match rV cx.P 20 t with
   | some lay => if ps.all (Pt.under S.aA.length) then kW lay ps S fun qs S => k (.one (.agg qs)) S else .error "mat: parts that aren't known"
   | none => k v S
  else k v S
 | v => k v S
def aE7 (y : Tm) (k : M) : M :=
 match y with
 | .int n => if n ≠ 0 then k else .error "a division by 0"
 | _ => obl (.o1 .not (.o2 .eq y (.int 0))) k
def arith (o : BinOp) (k : IntKind) (x y : Tm) (ret : SV → M) : M :=
 let int t := ret (.one (.lf (.int k t)))
 let bool t := ret (.one (.lf (.bool t)))
 match o with
 | .add => int (.o2 (.add k) x y)
 | .sub => int (.o2 (.sub k) x y)
 | .mul => int (.o2 (.mul k) x y)
 | .quo => aE7 y (int (.o2 (.quo k) x y))
 | .rem => aE7 y (int (.o2 .rem x y))
 | .and | .or | .xor | .andNot => int (.o2 (.bits o k) x y)
 | .eql => bool (.o2 .eq x y)
 | .neq => bool (.o1 .not (.o2 .eq x y))
 | .lss => bool (.o2 .lt x y)
 | .leq => bool (.o2 .le x y)
 | .gtr => bool (.o2 .lt y x)
 | .geq => bool (.o2 .le y x)
 | _ => .error "an operation on whole numbers that isn't taken"
def bQ9 : IntKind → Bool
 | .u8 | .u16 | .u32 | .u64 => true
 | _ => false
def aT7 (yk : IntKind) (y : Tm) (k : M) : M :=
 match y with
 | .int n => if 0 ≤ n then k else .error "a shift by less than 0"
 | _ => if bQ9 yk then k else obl (.o2 .le (.int 0) y) k
def shift (o : BinOp) (k : IntKind) (x : Tm) (yk : IntKind) (y : Tm) (ret : SV → M) : M :=
 aT7 yk y (match o with
  | .shl => ret (.one (.lf (.int k (.o2 (.shl k) x y))))
  | _ => ret (.one (.lf (.int k (.o2 (.shr k) x y)))))
def aW7 (o : BinOp) (x y : Tm) (ret : SV → M) : M :=
 let bool t := ret (.one (.lf (.bool t)))
 match o with
 | .add => obl (.o2 .le (.o1 .slen (.o2 .cat x y)) (.int dF)) (ret (.one (.lf (.str (.o2 .cat x y)))))
 | .eql => bool (.o2 .eqs x y)
 | .neq => bool (.o1 .not (.o2 .eqs x y))
 | .lss => bool (.o2 .lts x y)
 | .leq => bool (.o2 .or (.o2 .lts x y) (.o2 .eqs x y))
 | .gtr => bool (.o1 .not (.o2 .or (.o2 .lts x y) (.o2 .eqs x y)))
 | .geq => bool (.o1 .not (.o2 .lts x y))
 | _ => .error "an operation on texts that isn't taken"
def bG3 (P : Program) (t : TypeId) : Bool :=
 match P.underlying t with | some .bool => true | _ => false
def bG5 (P : Program) (t : TypeId) : Bool :=
 match P.underlying t with | some (.pointer _) => true | _ => false
def bJ6 : Lf → Lf → Option Bool
 | .nilp, .nilp => some true
 | .nilp, .ptr .. => some false
 | .ptr .., .nilp => some false
 | _, _ => none
def fV (P : Program) (t : TypeId) : Bool :=
 match P.underlying t with
 | some (.struct _) | some (.array _ _) => true
 | _ => false
def aJ7 (a b : Tm) : Tm := if b = .bool true then a else .o2 .and a b
def aO1 (P : Program) (t : TypeId) : Lf → Lf → Option Tm
 | .int k a, .int k' b => match P.underlying t with
  | some (.int _) => if k = k' then some (.o2 .eq a b) else none
  | _ => none
 | .str a, .str b => match P.underlying t with
  | some .string => some (.o2 .eqs a b)
  | _ => none
 | .bool a, .bool b => match P.underlying t with
  | some .bool => some (.o2 .eqb a b)
  | _ => none
 | _, _ => none
def eqF (P : Program) (again : TypeId → List Pt → List Pt → Option Tm) (xs ys : List Pt) (f : Field) : Option Tm :=
 if f.name = "_" ∨ P.cellsOf f.type = 0 then none else
 if fV P f.type then
  match pY f.offset (P.cellsOf f.type) xs, pY f.offset (P.cellsOf f.type) ys with
  | some a, some b => again f.type a b
  | _, _ => none
 else match oM f.offset xs, oM f.offset ys with
  | some a, some b => if (P.underlying f.type).isSome then aO1 P f.type a b else none
  | _, _ => none
def xE (P : Program) (again : TypeId → List Pt → List Pt → Option Tm) (xs ys : List Pt) : List Field → Option Tm
 | [] => some (.bool true)
 | f :: fs => match eqF P again xs ys f, xE P again xs ys fs with
  | some t, some r => some (aJ7 t r)
  | _, _ => none
def bG4 (P : Program) (t : TypeId) : Bool := match P.underlying t with | some (.int _) => true | _ => false
def aB6 (P : Program) : Nat → TypeId → List Pt → List Pt → Option Tm
 | 0, _, _, _ => none
 | d + 1, t, xs, ys => match P.underlying t with
  | some (.struct fs) => if P.stoodInHeld t then none else xE P (aB6 P d) xs ys fs.toList
  | some (.array n e) => match xs, ys with
   | [.ints k m L], [.ints k' m' L'] => if k = k' ∧ m = n ∧ m' = n ∧ P.cellsOf e = 1 ∧ bG4 P e = true then some (.o2 .eqli L L') else none
   | _, _ => none
  | _ => none
def aL3 (P : Program) (t : TypeId) (o : BinOp) (x y : SV) (ret : SV → M) : M :=
 match x, y with
 | .one (.lf (.int k a)), .one (.lf (.int k' b)) =>
  if o = .shl ∨ o = .shr then shift o k a k' b ret
  else if k = k' then arith o k a b ret else .error "kinds differ"
 | .one (.lf (.str a)), .one (.lf (.str b)) => aW7 o a b ret
 | .one (.lf (.bool a)), .one (.lf (.bool b)) =>
  if bG3 P t then
  match o with
  | .eql => ret (.one (.lf (.bool (.o2 .eqb a b))))
  | .neq => ret (.one (.lf (.bool (.o1 .not (.o2 .eqb a b)))))
  | _ => .error "an operation on bools that isn't taken"
  else .error "no bools"
 | .one (.lf a), .one (.lf b) => match bJ6 a b with
  | some e => if bG5 P t then
    match o with
    | .eql => ret (.one (.lf (.bool (.bool e))))
    | .neq => ret (.one (.lf (.bool (.bool (!e)))))
    | _ => .error "an operation on addresses that isn't taken"
   else .error "no addresses"
  | none => .error "binOp: operands that aren't taken"
 | .one (.agg xs), .one (.agg ys) =>
  if P.eqGuardType P.depth t then .error "binOp: an aggregate with interfaces" else
  match aB6 P 4 t xs ys with
  | some e => match o with
   | .eql => ret (.one (.lf (.bool e)))
   | .neq => ret (.one (.lf (.bool (.o1 .not e))))
   | _ => .error "an operation on aggregates that isn't taken"
  | none => .error "binOp: aggregates that aren't taken"
 | _, _ => .error "binOp: operands that aren't taken"
def unS (o : UnOp) (x : SV) (ret : SV → M) : M :=
 match o, x with
 | .neg, .one (.lf (.int k a)) => ret (.one (.lf (.int k (.o2 (.sub k) (.int 0) a))))
 | .xor, .one (.lf (.int k a)) => ret (.one (.lf (.int k (.o2 (.bits .xor k) (.int (if k.signed then -1 else k.max)) a))))
 | .not, .one (.lf (.bool a)) => ret (.one (.lf (.bool (.o1 .not a))))
 | _, _ => .error "unOp: an operand that isn't taken"
end Go.Vc
namespace Go.Vc
def aA8 (P : Program) (t : TypeId) : Option CK :=
 match P.underlying t with
 | some (.int k) => some (.int k)
 | some .string => some .str
 | some .bool => some .bool
 | _ => none
def vC (P : Program) (t : TypeId) : Option Kd :=
 match P.underlying t with
 | some (.map k e) => match aA8 P k with
  | some K => match P.underlying e with
   | some (.pointer s) => match aN5 P 20 s with
    | some ek => some (.mpp K ek)
    | none => none
   | _ => match aA8 P e with
    | some E => some (.mp K E)
    | none => none
  | none => none
 | _ => none
def dP (b : Tm) : List Ch → Option (Kd × List Tm)
 | [] => none
 | .abs k (b' :: ts) :: hs => match k with
  | .deep _ => dP b hs
  | k => if b' = b then some (k, b' :: ts) else dP b hs
 | _ :: hs => dP b hs
def dB (b : Tm) (c : Ch) : List Ch → List Ch
 | [] => []
 | .abs k (b' :: ts) :: hs => match k with
  | .deep ek => .abs (.deep ek) (b' :: ts) :: dB b c hs
  | k => if b' = b then c :: hs else .abs k (b' :: ts) :: dB b c hs
 | h :: hs => h :: dB b c hs
def vN : Kd → List Tm → Option (Kd × Tm × Tm)
 | .mp K E, [b, L] => some (.mp K E, b, L)
 | .mpp K ek, [b, L] => some (.mpp K ek, b, L)
 | .mpi K E, [b, L, _, _] => some (.mp K E, b, L)
 | .mppi K ek, [b, L, _, _] => some (.mpp K ek, b, L)
 | _, _ => none
def nI : List Ch → Option (Tm × Kd × EK × Tm × List Tm)
 | [] => none
 | .abs (.mpp K ek) (b :: L :: ts) :: hs => if ts = [] then some (b, .mpp K ek, ek, L, ts) else nI hs
 | .abs (.mppi K ek) (b :: L :: ts) :: hs => if ts.length = 2 then some (b, .mppi K ek, ek, L, ts) else nI hs
 | _ :: hs => nI hs
def oG (L b : Tm) : Tm := .o2 .nget L b
def aJ5 (ek : EK) (L b : Tm) : List Pt := vZ (.o1 .asL (oG L b)) 2 ek
def uJ (g : Nat) : List Glob → Option Glob
 | [] => none
 | x :: xs => if x.g = g then some x else uJ g xs
def nP (agg : Bool) (size o : Nat) (ps : List Pt) (ret : SV → M) : M :=
 if agg then match pY o size ps with
  | some qs => ret (.one (.agg qs))
  | none => .error "load: no such parts"
 else match oM o ps with
  | some l => ret (.one (.lf l))
  | none => .error "load: no such leaf"
def aH7 (size : Nat) (ps : List Pt) (ret : SV → M) (i : Tm) (o : Nat) : Nat → Nat → M
 | 0, _ => .ok .tt
 | n + 1, j => match imp (.o2 .eq i (.int (j : Int))) true (nP false size (o + j) ps ret), aH7 size ps ret i o n (j + 1) with
  | .ok x, .ok y => .ok (.and x y)
  | .error e, _ => .error e
  | _, .error e => .error e
def xZ (cx : Cx) (S : St) (t : TypeId) (x : SV) (ret : SV → M) : M :=
 let agg := fV cx.P t
 let size := cx.P.cellsOf t
 if (cx.P.underlying t).isNone || size == 0 then .error "load: of what?" else
 match x with
 | .one (.lf (.ptr b o)) =>
  match b with
  | .nat g => match uJ g cx.G with
   | some gl => nP agg size o [.ints gl.k gl.l.length (.lis gl.l)] ret
   | none => .error "load: no such table"
  | b => match gQ b S.heap with
   | some ps => nP agg size o ps ret
   | none => match nI S.heap with
    | some (_, _, ek, L, _) => obl (.o2 .nhas L b) (nP agg size o (aJ5 ek L b) ret)
    | none => .error "load: no such block"
 | .one (.lf (.aptr b o i n)) =>
  if agg then .error "load: an element that is no number" else
  match b with
  | .nat g => match uJ g cx.G with
   | some gl => if o = 0 ∧ n = gl.l.length then ret (.one (.lf (.int gl.k (.o2 .liget (.lis gl.l) i)))) else .error "load: a table's part"
   | none => .error "load: no such table"
  | b => match gQ b S.heap with
   | some ps => match pO o n ps with
    | some (k, L) => ret (.one (.lf (.int k (.o2 .liget L i))))
    | none => aH7 size ps ret i o n 0
   | none => .error "load: no such block"
 | .one (.lf (.eptr a i es o)) =>
  match aY a S.heap with
  | some (_, ek, L) => if ek.width = es then nP agg size o (aN7 ek L i) ret else .error "load: an element of another size"
  | none => .error "load: no such slice"
 | _ => .error "load: no address that is known"
def aE9 (hs : List Ch) : Lf → Bool
 | .junk => false
 | .undef => false
 | .sl a => (aY a hs).isSome
 | _ => true
def wI (hs : List Ch) (size o : Nat) (ps : List Pt) (v : SV) : Option (List Pt) :=
 match v with
 | .one (.agg qs) => if qE qs = size then zK o qs ps else none
 | .one (.lf l) => if size = 1 ∧ aE9 hs l = true then zJ o l ps else none
 | _ => none
def qO (c : Ch) : List Ch → Option (List Ch)
 | [] => none
 | h :: hs => if h = c then some hs else match qO c hs with | some r => some (h :: r) | none => none
def jH (hs : List Ch) (ek : EK) (ps : List Pt) : Option Tm :=
 match ek, ps with
 | [.int k], [.lf (.int k' t)] => if k' = k then some t else none
 | [.int _], _ => none
 | [c], [p] => iM hs c p
 | [_], _ => none
 | cs, ps => fB hs cs ps
def aN6 (ek : EK) (L i u : Tm) : Tm :=
 match ek with
 | [.int _] => .o3 .liset L i u
 | _ => .o3 .lset L i u
def aW6 (cx : Cx) (S : St) (t : TypeId) (x v : SV) (k : St → M) : M :=
 let size := cx.P.cellsOf t
 if size == 0 then .error "store: of what?" else
 rW cx t v S fun v S =>
 match x with
 | .one (.lf (.ptr b o)) =>
  match gQ b S.heap with
  | some ps => match wI S.heap size o ps v with
   | some qs => k { S with heap := jY b qs S.heap }
   | none => .error "store: no such place"
  | none => match nI S.heap with
   | some (m, kd, ek, L, ts) => match wI S.heap size o (aJ5 ek L b) v with
    | some qs => match fB S.heap ek qs with
     | some rt => if ts = [] then obl (.o2 .nhas L b) (k { S with heap := dB m (.abs kd [m, .o3 .nset L b (.o2 .lcons (.o2 .lget (oG L b) (.int 0)) (.o2 .lcons (.o1 .asN (.o2 .lget (oG L b) (.int 1))) rt))]) S.heap }) else .error "store: into a map that is gone over"
     | none => .error "store: a block that can't be told"
    | none => .error "store: no such place"
   | none => .error "store: no such block"
 | .one (.lf (.aptr b o i n)) =>
  match gQ b S.heap, v with
  | some ps, .one (.lf (.int k' u)) => match pO o n ps with
   | some (k1, L) => if k' = k1 ∧ size = 1 then match wH o n (.o3 .liset L i u) ps with
     | some qs => k { S with heap := jY b qs S.heap }
     | none => .error "store: no such numbers"
    else .error "store: a number of another kind"
   | none => .error "store: no such numbers"
  | _, _ => .error "store: no such block"
 | .one (.lf (.eptr a i es o)) =>
  match aY a S.heap with
  | some (true, ek, L) =>
   if ek.width = es then match wI S.heap size o (aN7 ek L i) v with
    | some qs => match jH S.heap ek qs with
     | some u => if fU ek then k { S with heap := jZ a (aN6 ek L i u) S.heap } else .error "store: slices in an element"
     | none => .error "store: an element that can't be told"
    | none => .error "store: no such place in an element"
   else .error "store: an element of another size"
  | _ => .error "store: no such slice of its own"
 | _ => .error "store: no address that is known"
def aE4 (cx : Cx) (S : St) (t : TypeId) (ps : List Pt) (k : SV → St → M) : M :=
 match rV cx.P 20 t with
 | none => .error "a type that isn't laid"
 | some lay =>
  if ps.all (Pt.under S.aA.length) then
  kW lay ps S fun qs S =>
   if qs.all (Pt.under S.aA.length) then
   fresh S .N fun b S => k (.one (.lf (.ptr b 0))) { S with heap := .box b qs :: S.heap }
   else .error "a new block: parts that aren't known"
  else .error "a new block: parts that aren't known"
def zT (cx : Cx) (t : TypeId) : Option (List Pt) :=
 match cx.P.info? t, rV cx.P 20 t with
 | some i, some lay => match i.zero with
  | some z => kY lay z.cells.toList
  | none => none
 | _, _ => none
def qY (hs : List Ch) (ek : EK) (L : Tm) : Bool := fU ek || L = .lnil || hs.any (fun c => c = .abs (.deep ek) [L])
def lJ (ek : EK) (L : Tm) (S : St) : St := if fU ek then S else { S with heap := .abs (.deep ek) [L] :: S.heap }
def oW (hs : List Ch) (as : List Tm) : Bool := as.all fun a => match aY a hs with | some (false, ek, L) => qY hs ek L | _ => false
def aC5 : List Tm → List Ch → List Ch
 | [], hs => hs
 | a :: as, hs => aC5 as (dQ a hs)
def rY (row : Tm) : Nat → EK → List Ch
 | _, [] => []
 | j, .sl ek :: cs => let t := Tm.o2 .lget row (.int j)
  .rsl (.o1 .asV (.o2 .lget t (.int 0))) ek (.o1 (asK ek) (.o2 .lget t (.int 1))) :: (if fU ek then [] else [.abs (.deep ek) [.o1 (asK ek) (.o2 .lget t (.int 1))]]) ++ rY row (j + 1) cs
 | j, _ :: cs => rY row (j + 1) cs
def cE6 (ek : EK) (L i : Tm) : List Ch :=
 match ek with
 | [.sl ek'] => let t := Tm.o2 .lget L i
  .rsl (.o1 .asV (.o2 .lget t (.int 0))) ek' (.o1 (asK ek') (.o2 .lget t (.int 1))) :: (if fU ek' then [] else [.abs (.deep ek') [.o1 (asK ek') (.o2 .lget t (.int 1))]])
 | [_] => []
 | cs => rY (.o1 .asL (.o2 .lget L i)) 0 cs
def aN9 (S : St) (x : SV) : St :=
 match x with
 | .one (.lf (.eptr a i _ _)) => match aY a S.heap with
  | some (_, ek, L) => if fU ek then S else if qY S.heap ek L then { S with heap := (cE6 ek L i).filter (fun c => !S.heap.contains c) ++ S.heap } else S
  | none => S
 | _ => S
def nR (S : St) (ek : EK) (L : Tm) (k : SV → St → M) : M :=
 if L.under S.aA.length then
 fresh S .V fun a S => k (.one (.lf (.sl a))) { S with heap := .osl a ek L :: S.heap }
 else .error "a new slice: what isn't known"
def aT4 (S : St) (ek : EK) (L : Tm) (k : SV → St → M) : M :=
 if L.under S.aA.length then
 fresh S .V fun a S => k (.one (.lf (.sl a))) { S with heap := .rsl a ek L :: S.heap }
 else .error "a new slice: what isn't known"
def aI1 (hs : List Ch) : SV → Option (List Pt)
 | .one (.lf l) => if aE9 hs l then some [.lf l] else none
 | .one (.agg ps) => some ps
 | _ => none
def uG (cx : Cx) (S : St) (place : Nat → Option (Nat × Nat × TypeId)) : List (Nat × Operand) → List Pt → Except String (List Pt)
 | [], ps => .ok ps
 | (i, x) :: r, ps => match place i with
  | none => .error "build: no such part"
  | some (off, size, t) => match evT cx S t x with
   | .error e => .error e
   | .ok v => match wI S.heap size off ps v with
    | some qs => uG cx S place r qs
    | none => .error "build: a part that doesn't fit"
def aL7 (cx : Cx) (S : St) (t : TypeId) (args : List (Nat × Operand)) (ret : SV → M) : M :=
 match cx.P.underlying t, zT cx t with
 | some (.struct fs), some zs =>
  if fs.all (fun f => cx.P.cellsOf f.type != 0) then
   match uG cx S (fun i => (fs[i]?).map fun f => (f.offset, cx.P.cellsOf f.type, f.type)) args zs with
   | .ok ps => ret (.one (.agg ps))
   | .error e => .error e
  else .error "build: fields of no size"
 | some (.array _ e), some zs =>
  if cx.P.cellsOf e = 0 then .error "build: elements of no size" else
  match uG cx S (fun i => some (i * cx.P.cellsOf e, cx.P.cellsOf e, e)) args zs with
  | .ok ps => ret (.one (.agg ps))
  | .error er => .error er
 | _, _ => .error "build: of what?"
def wU (cx : Cx) (S : St) (e : TypeId) (size : Nat) : Nat → List (Nat × Operand) → Except String (List (List Pt))
 | _, [] => .ok []
 | j, (i, x) :: r =>
  if i = j then match evT cx S e x with
   | .error er => .error er
   | .ok v => match aI1 S.heap v with
    | none => .error "buildSlice: a part that is no value"
    | some ps => if qE ps = size then match wU cx S e size (j + 1) r with
      | .ok pss => .ok (ps :: pss)
      | .error er => .error er
     else .error "buildSlice: a part of another size"
  else .error "buildSlice: a part that isn't given"
def aZ9 (cx : Cx) (S : St) (e : TypeId) (len n : Nat) (ps : List Pt) (zero : Bool) (k : SV → St → M) : M :=
 if cx.P.cellsOf e = 1 ∧ n = len ∧ len ≠ 0 ∧ len ≤ 1000 ∧ zero = true ∧ ps.all (Pt.under S.aA.length) = true then
  fresh S .N fun b S => k (.one (.lf (.bsl b 0 len))) { S with heap := .box b ps :: S.heap }
 else .error "buildSlice: of functions"
def aL8 (cx : Cx) (S : St) (t : TypeId) (len : Nat) (args : List (Nat × Operand)) (k : SV → St → M) : M :=
 match cx.P.underlying t with
 | some (.slice e) => match aE3 cx.P 20 e, wU cx S e (cx.P.cellsOf e) 0 args, cx.P.info? e with
  | some ek, .ok pss, some i =>
   let S := if fU ek then S else { S with heap := aC5 (pss.flatMap mG) S.heap }
   match pV S.heap ek pss with
   | some L => if ek.width = cx.P.cellsOf e ∧ cx.P.cellsOf e ≠ 0 ∧ args.length = len ∧ len * ek.width ≤ 16777216 ∧ i.zero.isSome = true ∧ (fU ek || oW S.heap (pss.flatMap mG)) = true then nR (lJ ek L S) ek L k else .error "buildSlice: too great"
   | none => .error "buildSlice: elements that can't be told"
  | none, .ok pss, some i => aZ9 cx S e len args.length pss.flatten i.zero.isSome k
  | _, .error er, _ => .error er
  | _, _, _ => .error "buildSlice: of what?"
 | _ => .error "buildSlice: no slice"
def fG (a b : Tm) (k : M) : M :=
 match a, b with
 | .int x, .int y => if x ≤ y then k else .error "a bound that fails"
 | .int 0, .o1 .slen _ => k
 | .int 0, .o1 .lilen _ => k
 | .int 0, .o1 .llen _ => k
 | a, b => if a = b then k else obl (.o2 .le a b) k
def sD (a b : Tm) (k : M) : M :=
 match a, b with
 | .int x, .int y => if x < y then k else .error "a bound that fails"
 | a, b => obl (.o2 .lt a b) k
def aO3 (cx : Cx) (s : TypeId) (x : SV) (f : Nat) (ret : SV → M) : M :=
 match cx.P.underlying s with
 | some (.struct fs) => match fs[f]? with
  | some fd => if cx.P.cellsOf fd.type = 0 then .error "fieldAddr: a field without cells" else
   match x with
   | .one (.lf (.ptr b o)) => ret (.one (.lf (.ptr b (o + fd.offset))))
   | .one (.lf (.eptr a i es o)) => ret (.one (.lf (.eptr a i es (o + fd.offset))))
   | _ => .error "fieldAddr: no address that is known"
  | none => .error "fieldAddr: no such field"
 | _ => .error "fieldAddr: no struct"
def aQ7 (cx : Cx) (S : St) (t : TypeId) (x ix : SV) (ret : SV → M) : M :=
 match ix with
 | .one (.lf (.int _ i)) =>
  match cx.P.underlying t with
  | some (.array len e) =>
   match x with
   | .one (.lf (.ptr b o)) =>
    match i with
    | .int n => if 0 ≤ n ∧ n < len ∧ cx.P.cellsOf e ≠ 0 then ret (.one (.lf (.ptr b (o + n.toNat * cx.P.cellsOf e)))) else .error "indexAddr: beyond"
    | i => if cx.P.cellsOf e = 1 then fG (.int 0) i (sD i (.int len) (ret (.one (.lf (.aptr b o i len))))) else .error "indexAddr: elements of many cells"
   | _ => .error "indexAddr: no address that is known"
  | some (.slice e) =>
   match x with
   | .one (.lf (.sl a)) => match aY a S.heap with
    | some (_, ek, L) => if ek.width = cx.P.cellsOf e ∧ cx.P.cellsOf e ≠ 0 then fG (.int 0) i (sD i (kS ek L) (ret (.one (.lf (.eptr a i ek.width 0))))) else .error "indexAddr: elements of another size"
    | none => .error "indexAddr: no such slice"
   | .one (.lf (.bsl b o n)) => if cx.P.cellsOf e = 1 then fG (.int 0) i (sD i (.int n) (ret (.one (.lf (.aptr b o i n))))) else .error "indexAddr: elements of many cells"
   | _ => .error "indexAddr: no slice that is known"
  | _ => .error "indexAddr: of what?"
 | _ => .error "indexAddr: no number"
def aQ8 (cx : Cx) (t : TypeId) (x ix : SV) (ret : SV → M) : M :=
 match ix with
 | .one (.lf (.int _ i)) =>
  match cx.P.underlying t, x with
  | some .string, .one (.lf (.str s)) => fG (.int 0) i (sD i (.o1 .slen s) (ret (.one (.lf (.int .u8 (.o2 .byte s i))))))
  | some (.array len e), .one (.agg [.ints k n L]) =>
   if n = len ∧ cx.P.cellsOf e = 1 ∧ fV cx.P e = false ∧ (cx.P.underlying e).isSome = true then fG (.int 0) i (sD i (.int len) (ret (.one (.lf (.int k (.o2 .liget L i)))))) else .error "index: of what?"
  | _, _ => .error "index: of what?"
 | _ => .error "index: no number"
def aO4 (cx : Cx) (t : TypeId) (x : SV) (f : Nat) (ret : SV → M) : M :=
 match cx.P.underlying t, x with
 | some (.struct fs), .one (.agg ps) => match fs[f]? with
  | some fd => if (cx.P.underlying fd.type).isNone || cx.P.cellsOf fd.type == 0 then .error "field: of what?" else nP (fV cx.P fd.type) (cx.P.cellsOf fd.type) fd.offset ps ret
  | none => .error "field: no such field"
 | _, _ => .error "field: of what?"
def vJ : Option SV → Tm → Except String Tm
 | none, d => .ok d
 | some (.one (.lf (.int _ i))), _ => .ok i
 | _, _ => .error "slice: no number"
def dropped (cx : Cx) (d : Option Tmp) : Bool :=
 match d with
 | some d => cx.anns.any fun a => a.key == 3000000 + d
 | none => false
def zL (cx : Cx) (S : St) (t : TypeId) (x : SV) (lo hi : Option SV) (mx drop : Bool) (k : SV → St → M) : M :=
 if mx then .error "slice: three bounds" else
 match x with
 | .one (.lf (.str s)) =>
  match cx.P.underlying t with
  | some .string => match vJ lo (.int 0), vJ hi (.o1 .slen s) with
   | .ok l, .ok h => fG l h (fG (.int 0) l (fG h (.o1 .slen s) (k (.one (.lf (.str (.o3 .ssub s l h)))) S)))
   | .error e, _ => .error e
   | _, .error e => .error e
  | _ => .error "slice: no text"
 | .one (.lf (.sl a)) =>
  match cx.P.underlying t, aY a S.heap with
  | some (.slice e), some (_, ek, L) => match vJ lo (.int 0), vJ hi (kS ek L) with
   | .ok l, .ok h =>
    if ek.width = cx.P.cellsOf e ∧ cx.P.cellsOf e ≠ 0 then
     if qY S.heap ek L then
     fG l h (fG (.int 0) l (fG h (kS ek L) (if drop then k (.one (.lf .junk)) S else aT4 { lJ ek (qZ ek L l h) S with heap := dQ a (lJ ek (qZ ek L l h) S).heap } ek (qZ ek L l h) k)))
     else .error "slice: what its elements hold isn't told"
    else .error "slice: elements of another size"
   | .error e, _ => .error e
   | _, .error e => .error e
  | _, _ => .error "slice: no such slice"
 | .one (.lf (.ptr b o)) =>
  match cx.P.underlying t, lo, hi with
  | some (.array n e), none, none => if cx.P.cellsOf e = 1 then k (.one (.lf (.bsl b o n))) S else .error "slice: an array of what?"
  | _, _, _ => .error "slice: an array's part"
 | _ => .error "slice: of what?"
def wX (cx : Cx) (S : St) (src dst : TypeId) (x : SV) (k : SV → St → M) : M :=
 match cx.P.underlying src, cx.P.underlying dst, x with
 | some _, some (.int k1), .one (.lf (.int k0 t)) => k (.one (.lf (.int k1 (if k0 = k1 then t else .o1 (.wrap k1) t)))) S
 | some _, some .string, .one (.lf (.str s)) => k (.one (.lf (.str s))) S
 | some _, some (.slice e), .one (.lf (.str s)) => match cx.P.underlying e with
  | some (.int .u8) => nR S [.int .u8] (.o1 .aC s) k
  | _ => .error "convert: a text to what?"
 | some (.slice e), some .string, .one (.lf (.sl a)) => match cx.P.underlying e, aY a S.heap with
  | some (.int .u8), some (_, ek, L) => if ek = [.int .u8] then k (.one (.lf (.str (.o1 .ofLi L)))) S else .error "convert: what to a text?"
  | _, _ => .error "convert: what to a text?"
 | some (.slice e), some .string, .one (.lf (.bsl b o n)) => match cx.P.underlying e, gQ b S.heap with
  | some (.int .u8), some ps => match pO o n ps with
   | some (kk, L) => if kk = .u8 ∧ (n : Int) ≤ dF then k (.one (.lf (.str (.o1 .ofLi L)))) S else .error "convert: no such bytes"
   | _ => .error "convert: no such bytes"
  | _, _ => .error "convert: what to a text?"
 | _, _, _ => .error "convert: what to what?"
def xB (ek : EK) (l z : Tm) : Tm := match ek with | [.int _] => Tm.o2 .lirep l z | _ => Tm.o2 .lrep l z
def aS3 (cx : Cx) (S : St) (t : TypeId) (len cap : SV) (k : SV → St → M) : M :=
 match cx.P.underlying t, len, cap with
 | some (.slice e), .one (.lf (.int .i64 l)), .one (.lf (.int .i64 c)) =>
  match aN5 cx.P 20 e, zT cx e with
  | some ek, some zs => match jH [] ek zs, cx.P.info? e with
   | some z, some i =>
    if fU ek = false then .error "makeSlice: slices in it" else
    if ek.width = i.size ∧ 0 < i.size ∧ 0 < i.bytes ∧ qE zs = i.size then
     if l = c then fG (.int 0) l (fG l (.int (140737488355328 / i.bytes)) (nR S ek (xB ek l z) k))
     else if l = .int 0 then fG (.int 0) c (fG c (.int (140737488355328 / i.bytes)) (nR S ek (lS ek) k))
     else .error "makeSlice: a length and another capacity"
    else .error "makeSlice: elements of another size"
   | _, _ => .error "makeSlice: no zero"
  | _, _ => .error "makeSlice: of what?"
 | _, _, _ => .error "makeSlice: of what?"
def bG6 (P : Program) (t : TypeId) : Bool :=
 match P.underlying t with | some (.slice _) => true | _ => false
def aL2 (cx : Cx) (S : St) (o : BinOp) (t : TypeId) (x y : SV) (ret : SV → M) : M :=
 match x, y with
 | .one (.lf (.sl a)), .one (.lf .nilsl) => match aY a S.heap with
  | some (_, ek, L) => if bG6 cx.P t then
    match o with
    | .eql => match ret (.one (.lf (.bool (.bool true)))), ret (.one (.lf (.bool (.bool false)))) with
     | .ok v1, .ok v2 => .ok (.and (.imp (.o2 .eq (kS ek L) (.int 0)) true v1) v2)
     | .error e, _ => .error e
     | _, .error e => .error e
    | .neq => match ret (.one (.lf (.bool (.bool false)))), ret (.one (.lf (.bool (.bool true)))) with
     | .ok v1, .ok v2 => .ok (.and (.imp (.o2 .eq (kS ek L) (.int 0)) true v1) v2)
     | .error e, _ => .error e
     | _, .error e => .error e
    | _ => .error "an operation on slices that isn't taken"
   else .error "no slices"
  | none => .error "binOp: no such slice"
 | _, _ => aL3 cx.P t o x y ret
def uU (cx : Cx) (S : St) (t : TypeId) (x : SV) (ret : SV → M) : M :=
 match cx.P.underlying t, x with
 | some .string, .one (.lf (.str s)) => ret (.one (.lf (.int .i64 (.o1 .slen s))))
 | some (.array n _), _ => if (n : Int) ≤ dF then ret (.one (.lf (.int .i64 (.int n)))) else .error "len: great"
 | some (.slice _), .one (.lf (.sl a)) => match aY a S.heap with
  | some (_, ek, L) => ret (.one (.lf (.int .i64 (kS ek L))))
  | none => .error "len: no such slice"
 | some (.slice _), .one (.lf (.bsl _ _ n)) => if (n : Int) ≤ dF then ret (.one (.lf (.int .i64 (.int n)))) else .error "len: great"
 | some (.pointer a), _ => match cx.P.underlying a with
  | some (.array n _) => if (n : Int) ≤ dF then ret (.one (.lf (.int .i64 (.int n)))) else .error "len: great"
  | _ => .error "len: of what?"
 | _, _ => .error "len: of what?"
def pJ (o : O2) : IntKind → Tm → List SV → Option Tm
 | _, t, [] => some t
 | k, t, .one (.lf (.int k' u)) :: r => if k' = k then pJ o k (.o2 o t u) r else none
 | _, _, _ => none
def vH (o : O2) (args : List SV) (ret : SV → M) : M :=
 match args with
 | .one (.lf (.int k t)) :: r => match pJ o k t r with
  | some u => ret (.one (.lf (.int k u)))
  | none => .error "min, max: of what?"
 | _ => .error "min, max: of what?"
def aR4 (P : Program) : Option TypeId → Bool
 | some t => match P.underlying t with | some .string => true | _ => false
 | none => false
def bS3 (i : TypeInfo) : Bool :=
 match i.zero with
 | some z => z.cells.size == i.size
 | none => false
def aK1 (cx : Cx) (S : St) (t : TypeId) (tx : Option TypeId) (s x : SV) (k : SV → St → M) : M :=
 match cx.P.underlying t, s with
 | some (.slice e), .one (.lf (.sl a)) =>
  match aY a S.heap, cx.P.info? e with
  | some (true, ek, L), some i =>
   if ek.width = i.size ∧ 0 < i.size ∧ 0 < i.bytes ∧ bS3 i = true then
    if qY S.heap ek L then
    let fin (N : Tm) : M := fG (kS ek N) (.int (140737488355328 / i.bytes)) (nR { lJ ek N S with heap := eU a (lJ ek N S).heap } ek N k)
    match x with
    | .one (.lf (.sl b)) => match aY b S.heap with
     | some (_, ek', L') => if ek' = ek ∧ tx = some t ∧ qY S.heap ek L' = true then fin (oJ ek L L') else .error "append: other elements"
     | none => .error "append: no such slice behind"
    | .one (.lf (.str z)) => if ek = [.int .u8] ∧ aR4 cx.P tx then fin (oJ ek L (.o1 .aC z)) else .error "append: a text to what?"
    | .one (.lf .nilsl) => if tx = some t then fin L else .error "append: nil of what?"
    | _ => .error "append: what?"
    else .error "append: what its elements hold isn't told"
   else .error "append: elements of another size"
  | _, _ => .error "append: to a slice that isn't its own"
 | _, _ => .error "append: to what?"
def copyS (cx : Cx) (S : St) (t tx : TypeId) (d x : SV) (k : SV → St → M) : M :=
 let src : Option Tm := match x with
  | .one (.lf (.str z)) => if aR4 cx.P (some tx) then some (.o1 .aC z) else none
  | .one (.lf (.sl b)) => match aY b S.heap with
   | some (_, [.int .u8], L) => some L
   | _ => none
  | _ => none
 match src, cx.P.underlying t with
 | some X, some (.slice e) =>
  if cx.P.cellsOf e = 1 then
  match d with
  | .one (.lf (.bsl b o n)) => match gQ b S.heap with
   | some ps => match pO o n ps with
    | some (.u8, L) =>
     let m := Tm.o2 .min (.o1 .lilen X) (.int n)
     match wH o n (.o2 .liapp (.o2 .litake X (.int n)) (.o2 .lidrop L (.o1 .lilen X))) ps with
     | some qs => k (.one (.lf (.int .i64 m))) { S with heap := jY b qs S.heap }
     | none => .error "copy: no such numbers"
    | _ => .error "copy: no such bytes"
   | none => .error "copy: no such block"
  | .one (.lf (.sl a)) => match aY a S.heap with
   | some (true, [.int .u8], L) =>
    let m := Tm.o2 .min (.o1 .lilen X) (.o1 .lilen L)
    k (.one (.lf (.int .i64 m))) { S with heap := jZ a (.o2 .liapp (.o2 .litake X (.o1 .lilen L)) (.o2 .lidrop L (.o1 .lilen X))) S.heap }
   | _ => .error "copy: into what?"
  | _ => .error "copy: into what?"
  else .error "copy: elements of many cells"
 | _, _ => .error "copy: of what?"
abbrev Bind := List (Option Tm)
def uTm (n0 : Nat) (p t : Tm) (θ : Bind) : Bind :=
 match p with
 | .at i => if i < n0 then θ else match θ.getD (i - n0) none with
  | none => θ.set (i - n0) (some t)
  | some _ => θ
 | .o1 _ p => match t with
  | .o1 _ t => uTm n0 p t θ
  | _ => θ
 | .o2 _ p _ => match t with
  | .o2 _ t _ => uTm n0 p t θ
  | _ => θ
 | _ => θ
def aJ1 (n0 : Nat) : List Tm → List Tm → Bind → Bind
 | p :: ps, t :: ts, θ => aJ1 n0 ps ts (uTm n0 p t θ)
 | _, _, θ => θ
def uLf (n0 : Nat) (p l : Lf) (θ : Bind) : Bind :=
 match p, l with
 | .int _ t, .int _ u | .bool t, .bool u | .str t, .str u | .sl t, .sl u | .mp t, .mp u | .ptr t _, .ptr u _ => uTm n0 t u θ
 | .bsl t _ _, .bsl u _ _ => uTm n0 t u θ
 | .aptr b _ i _, .aptr b' _ i' _ => uTm n0 i i' (uTm n0 b b' θ)
 | .eptr a i _ _, .eptr a' i' _ _ => uTm n0 i i' (uTm n0 a a' θ)
 | .clo _ fs cs, .clo _ fs' cs' => aJ1 n0 cs cs' (aJ1 n0 fs fs' θ)
 | _, _ => θ
def aI9 (n0 : Nat) : List Pt → List Pt → Bind → Bind
 | .lf l :: ps, .lf l' :: qs, θ => aI9 n0 ps qs (uLf n0 l l' θ)
 | .ints _ _ L :: ps, .ints _ _ L' :: qs, θ => aI9 n0 ps qs (uTm n0 L L' θ)
 | _, _, θ => θ
def uS0 (n0 : Nat) (p x : S0) (θ : Bind) : Bind :=
 match p, x with
 | .lf l, .lf l' => uLf n0 l l' θ
 | .agg ps, .agg qs => aI9 n0 ps qs θ
 | _, _ => θ
def uS0s (n0 : Nat) : List S0 → List S0 → Bind → Bind
 | x :: xs, y :: ys, θ => uS0s n0 xs ys (uS0 n0 x y θ)
 | _, _, θ => θ
def uSV (n0 : Nat) (p x : SV) (θ : Bind) : Bind :=
 match p, x with
 | .one a, .one b => uS0 n0 a b θ
 | .tup xs, .tup ys => uS0s n0 xs ys θ
 | _, _ => θ
def aJ0 (n0 : Nat) : List SV → List SV → Bind → Bind
 | x :: xs, y :: ys, θ => aJ0 n0 xs ys (uSV n0 x y θ)
 | _, _, θ => θ
def aA4 (θ : Bind) : List Tm := θ.map fun x => x.getD default
def mJ (n0 : Nat) (hs : List Ch) : List Ch → Bind → Bind
 | [], θ => θ
 | .box b ps :: cs, θ => mJ n0 hs cs (match gQ (b.subst n0 (aA4 θ)) hs with | some qs => aI9 n0 ps qs θ | none => θ)
 | .osl a _ L :: cs, θ => mJ n0 hs cs (match aY (a.subst n0 (aA4 θ)) hs with | some (_, _, L') => uTm n0 L L' θ | none => θ)
 | .rsl a _ L :: cs, θ => mJ n0 hs cs (match aY (a.subst n0 (aA4 θ)) hs with | some (_, _, L') => uTm n0 L L' θ | none => θ)
 | .abs (.deep _) _ :: cs, θ => mJ n0 hs cs θ
 | .abs _ (b :: ts) :: cs, θ => mJ n0 hs cs (match dP (b.subst n0 (aA4 θ)) hs with | some (_, _ :: ts') => aJ1 n0 ts ts' θ | _ => θ)
 | .abs _ [] :: cs, θ => mJ n0 hs cs θ
def bound : Bind → Option (List Tm)
 | [] => some []
 | some t :: r => match bound r with | some ts => some (t :: ts) | none => none
 | none :: _ => none
def zN (c : Ch) : List Ch → Option (List Ch)
 | [] => none
 | h :: hs => if h = c then some hs else match zN c hs with | some r => some (h :: r) | none => none
def iL : Ch → Bool
 | .rsl .. => true
 | .abs (.deep _) _ => true
 | _ => false
def wJ : List Ch → List Ch → Option (List Ch)
 | [], hs => some hs
 | c :: cs, hs => if iL c then wJ cs hs else match zN c hs with | some r => wJ cs r | none => none
def vV (strict : Bool) (hs : List Ch) : Ch → Bool
 | .rsl a ek L => hs.any (fun c => c = .rsl a ek L) || (!strict && hs.any (fun c => c = .osl a ek L))
 | .abs (.deep ek) [L] => fU ek || L = .lnil || hs.any (fun c => c = .abs (.deep ek) [L])
 | .abs (.deep _) _ => false
 | _ => true
def cover (strict : Bool) (pat hs : List Ch) : Option (List Ch) :=
 match wJ pat hs with
 | some r => if pat.all (vV strict r) then some r else none
 | none => none
def tK : List SV → List SV → Bool
 | [], [] => true
 | p :: ps, x :: xs => (p = x || p = .one (.lf .junk)) && tK ps xs
 | _, _ => false
def shapes (ss : List Srt) : List Tm → List Srt → Bool
 | [], [] => true
 | t :: ts, s :: r => t.shp ss = some s && shapes ss ts r
 | _, _ => false
def aD8 : Lf → List Fact
 | .int k t => [.has k t]
 | .str t => [.ssz t]
 | _ => []
def aF8 : Pt → List Fact
 | .lf l => aD8 l
 | .ints k n L => [.len L n, .allHas k L]
def aH4 : S0 → List Fact
 | .lf l => aD8 l
 | .agg ps => ps.flatMap aF8
def zM : SV → List Fact
 | .one x => aH4 x
 | .tup xs => xs.flatMap aH4
def tJ : Ch → List Fact
 | .box _ ps => ps.flatMap aF8
 | .osl _ ek L => match ek with | [.int k] => [.allHas k L] | ek => [.ekok ek L]
 | .rsl _ ek L => match ek with | [.int k] => [.allHas k L] | ek => [.ekok ek L]
 | .abs (.deep _) _ => []
 | .abs k ts => [.kd k ts]
def knows : List Fact → M → M
 | [], k => k
 | f :: fs, k => match knows fs k with | .ok v => .ok (.know f v) | .error e => .error e
def Fact.at (n : Nat) : Fact → Bool
 | .has _ (.at i) | .ssz (.at i) | .allHas _ (.at i) | .len (.at i) _ | .ekok _ (.at i) => decide (n ≤ i)
 | .kd _ ts => ts.any fun t => match t with | .at i => decide (n ≤ i) | _ => false
 | _ => false
def rO (S : St) : List Srt → (List Tm → St → M) → M
 | [], k => k [] S
 | s :: ss, k => fresh S s fun a S => rO S ss fun as S => k (a :: as) S
def uK : List Ch → List Ch → List Ch
 | [], hs => hs
 | .rsl a _ _ :: cs, hs => uK cs (dQ a hs)
 | _ :: cs, hs => uK cs hs
def rF (f : FuncId) : List (FuncId × Nat × SigR) → Option (Nat × SigR)
 | [] => none
 | (g, c, R) :: r => if g = f then some (c, R) else rF f r
def vT (cx : Cx) (f : FuncId) : Bool :=
 match rF f cx.sigs with
 | some (_, R) => R.heap.all iL
 | none => false
def bA1 (R : SigR) (θ' : List Tm) (m c : Nat) (S : St) (k : SV → St → M) : M :=
 let v := R.res.subst 0 θ'
 let hs := R.heap'.map (Ch.subst 0 θ')
 match knows ((zM v ++ hs.flatMap tJ).filter (Fact.at (S.aA.length - m))) (k v { S with heap := hs ++ S.heap }) with
 | .ok w => .ok (.post c θ' w)
 | .error e => .error e
def both (a b : M) : M :=
 match a, b with
 | .ok x, .ok y => .ok (.and x y)
 | .error e, _ => .error e
 | _, .error e => .error e
def wW (S : St) (f c : Nat) (R : SigR) (args : List SV) (k : SV → St → M) : M :=
 match bound (mJ 0 S.heap R.heap (aJ0 0 R.args args (List.replicate R.aA.length none))) with
 | none => .error ("call: a contract's words aren't bound: " ++ toString f)
 | some θ =>
  if R.args.map (SV.subst 0 θ) = args ∧ θ.all (Tm.under S.aA.length) = true then
  if shapes S.aA θ R.aA then
  let pat := R.heap.map (Ch.subst 0 θ)
  let lends := R.heap'.any iL
  let H := if lends then uK pat S.heap else S.heap
  match cover lends pat H with
  | none => .error ("call: a contract's heap isn't there: " ++ toString f)
  | some rest =>
   match rO { S with heap := rest } R.news fun as S => bA1 R (θ ++ as) as.length c S k with
   | .ok w => .ok (.pre c θ w)
   | .error e => .error e
  else .error ("call: shapes: " ++ toString f)
  else .error ("call: arguments: " ++ toString f)
def bJ5 : List SV → List SV → Bool
 | .one (.lf (.ptr _ _)) :: _, .one (.lf .nilp) :: _ => true
 | _ :: ps, _ :: xs => bJ5 ps xs
 | _, _ => false
def aA5 (cx : Cx) (S : St) (f : FuncId) (args : List SV) (k : SV → St → M) : M :=
 match rF f cx.sigs with
 | none => .error ("call: no contract of function " ++ toString f)
 | some (c, R) => if bJ5 R.args args then .ok (.obl (.bool false) .tt) else match R.second with
  | none => wW S f c R args k
  | some r => both (wW S f c R args k) (wW S f (c + 200) r args k)
def evs (cx : Cx) (S : St) : List Operand → List TypeId → Except String (List SV)
 | [], _ => .ok []
 | x :: xs, ts =>
  match evT cx S (ts.headD 0) x, evs cx S xs ts.tail with
  | .ok v, .ok r => .ok (v :: r)
  | .error e, _ => .error e
  | _, .error e => .error e
def yB (cx : Cx) : List SV → List TypeId → St → (List SV → St → M) → M
 | [], _, S, k => k [] S
 | v :: vs, ts, S, k =>
  if vs.all (SV.under S.aA.length) then rW cx (ts.headD 0) v S fun v S =>
   if v.under S.aA.length then yB cx vs ts.tail S fun vs S => k (v :: vs) S else .error "an argument that isn't known"
  else .error "an argument that isn't known"
def bZ (x : Except String SV) (k : SV → M) : M :=
 match x with | .ok v => k v | .error e => .error e
def aS1 : SV → Option Bool
 | .one (.lf (.bool (.bool b))) => some b
 | _ => none
def svLf : SV → Option Lf
 | .one (.lf l) => some l
 | _ => none
def uT (K : CK) (v : SV) : Option Tm :=
 match svLf v with
 | some l => match K with
  | .int _ | .str | .bool => iM [] K (.lf l)
  | _ => none
 | none => none
def wC (r : Tm) : Tm := .o2 .lget r (.int 1)
def vY (E : CK) (t : Tm) : Option Lf := match xX E t with | .lf l => some l | _ => none
def aP7 (kd : Kd) (L kt : Tm) : Option Lf :=
 match kd with
 | .mp _ E => vY E (wC (.o2 .mget L kt))
 | .mpp _ _ => some (.ptr (.o1 .asN (wC (.o2 .mget L kt))) 0)
 | _ => none
def aT1 (cx : Cx) (t : TypeId) : Option Lf :=
 match cx.P.underlying t with
 | some (.map _ e) => match cx.P.info? e with
  | some i => match i.zero with
   | some z => xW z
   | none => none
  | none => none
 | _ => none
def jI : Kd → CK
 | .mp K _ | .mpp K _ | .mpi K _ | .mppi K _ => K
 | .deep _ => .bool
def mapOf (cx : Cx) (S : St) (t : TypeId) (x : SV) : Except String (Kd × Tm × Tm) :=
 match x with
 | .one (.lf (.mp b)) => match dP b S.heap with
  | some (kd, ts) => match vN kd ts with
   | some (kd, b', L) => if vC cx.P t = some kd ∧ b' = b then .ok (kd, b, L) else .error "a map of another type"
   | none => .error "no such map"
  | none => .error "no such map"
 | _ => .error "no map that is known"
def aS2 (cx : Cx) (S : St) (t : TypeId) (x ix : SV) (commaOk : Bool) (ret : SV → M) : M :=
 match mapOf cx S t x with
 | .error e => .error ("lookup: " ++ e)
 | .ok (kd, _, L) => match uT (jI kd) ix with
  | none => .error "lookup: no key"
  | some kt =>
   let out (l : Lf) (b : Bool) : M := ret (if commaOk then .tup [.lf l, .lf (.bool (.bool b))] else .one (.lf l))
   match aP7 kd L kt with
   | none => .error "lookup: of what?"
   | some f => if !commaOk && (match kd with | .mpp _ _ => true | _ => false) then obl (.o2 .mhas L kt) (out f true) else match aT1 cx t with
    | some m => both (imp (.o2 .mhas L kt) true (out f true)) (imp (.o2 .mhas L kt) false (out m false))
    | none => .error "lookup: of what?"
def aS5 (cx : Cx) (S : St) (t : TypeId) (x ix v : SV) (k : St → M) : M :=
 match mapOf cx S t x with
 | .error e => .error ("mapUpdate: " ++ e)
 | .ok (kd, b, L) => match uT (jI kd) ix with
  | none => .error "mapUpdate: no key"
  | some kt => match kd with
   | .mp K E => match uT E v with
    | some vt =>
     let L' := Tm.o3 .mset L kt (.o2 .lcons kt (.o2 .lcons vt .lnil))
     fG (.o1 .llen L') (.int 1000000000) (k { S with heap := dB b (.abs (.mp K E) [b, L']) S.heap })
    | none => .error "mapUpdate: a value of another kind"
   | .mpp K ek => match v with
    | .one (.lf (.ptr pb 0)) => match gQ pb S.heap with
     | some ps => match fB [] ek ps, qO (.box pb ps) S.heap with
      | some rt, some hs =>
       let L' := Tm.o3 .mset L kt (.o2 .lcons kt (.o2 .lcons (.o1 .asN pb) rt))
       if pb.under S.aA.length && rt.under S.aA.length then
       fG (.o1 .llen L') (.int 1000000000) (k { S with heap := dB b (.abs (.mpp K ek) [b, L']) hs })
       else .error "mapUpdate: what isn't known"
      | _, _ => .error "mapUpdate: a block that can't be told"
     | none => .error "mapUpdate: no such block"
    | _ => .error "mapUpdate: no address of a block"
   | _ => .error "mapUpdate: of what?"
def aN1 (cx : Cx) (S : St) (t : TypeId) (x ix : SV) (k : SV → St → M) : M :=
 match mapOf cx S t x with
 | .error e => .error ("delete: " ++ e)
 | .ok (kd, b, L) => match uT (jI kd) ix with
  | none => .error "delete: no key"
  | some kt => k (.tup []) { S with heap := dB b (.abs kd [b, .o2 .mdel L kt]) S.heap }
def aD9 (cx : Cx) (S : St) (t : TypeId) (k : SV → St → M) : M :=
 match vC cx.P t with
 | some kd => fresh S .N fun b S => k (.one (.lf (.mp b))) { S with heap := .abs kd [b, .lnil] :: S.heap }
 | none => .error "makeMap: of what?"
def jW : Kd → Tm → Tm → Tm → Tm → Option Ch
 | .mp K E, b, L, it, s => some (.abs (.mpi K E) [b, L, it, s])
 | .mpp K ek, b, L, it, s => some (.abs (.mppi K ek) [b, L, it, s])
 | _, _, _, _, _ => none
def rangeS (cx : Cx) (S : St) (t : TypeId) (x : SV) (k : SV → St → M) : M :=
 match mapOf cx S t x with
 | .error e => .error ("range: " ++ e)
 | .ok (kd, b, L) => fresh S .N fun it S => match jW kd b L it .lnil with
  | some c => k (.one (.lf (.ptr it 0))) { S with heap := dB b c S.heap }
  | none => .error "range: of what?"
def aO8 (it : Tm) : List Ch → Option Tm
 | [] => none
 | .abs _ [b, _, it', _] :: hs => if it' = it then some b else aO8 it hs
 | _ :: hs => aO8 it hs
def aD2 (S : St) (it : Tm) : Option (Tm × Kd × Tm × Tm) :=
 match aO8 it S.heap with
 | some b => match dP b S.heap with
  | some (kd', [b', L, it', s]) => if it' = it then match vN kd' [b', L, it', s] with
    | some (kd, _, _) => some (b', kd, L, s)
    | none => none
   else none
  | _ => none
 | none => none
def aA6 (kd : Kd) (r : Tm) : Option Lf :=
 match kd with
 | .mp _ E => vY E (wC r)
 | .mpp _ _ => some (.ptr (.o1 .asN (wC r)) 0)
 | _ => none
def aD6 (f : Fact) (k : M) : M := match k with | .ok v => .ok (.know f v) | .error e => .error e
def aT5 (S : St) (x : SV) (k : SV → St → M) : M :=
 match x with
 | .one (.lf (.ptr it 0)) => match aD2 S it with
  | some (b, kd, L, s) =>
   both (aD6 (.allCame L s) (k (.tup [.lf (.bool (.bool false))]) { S with heap := dB b (.abs kd [b, L]) S.heap }))
    (fresh S .L fun r S => match vY (jI kd) (.o2 .lget r (.int 0)), aA6 kd r, jW kd b L it (.o2 .lapp s (.o2 .lcons r .lnil)) with
     | some kl, some vl, some c => aD6 (.comes L s r) (k (.tup [.lf (.bool (.bool true)), .lf kl, .lf vl]) { S with heap := dB b c S.heap })
     | _, _, _ => .error "next: of what?")
  | none => .error "next: no such iterator"
 | _ => .error "next: no iterator that is known"
def aO0 (S : St) (x : SV) (ret : SV → M) : M :=
 match x with
 | .one (.lf (.ptr it 0)) => match aD2 S it with
  | some (_, kd, _, .o2 .lapp _ (.o2 .lcons r .lnil)) => match vY (jI kd) (.o2 .lget r (.int 0)), aA6 kd r with
   | some kl, some vl => ret (.tup [.lf kl, .lf vl])
   | _, _ => .error "entry: of what?"
  | _ => .error "entry: no such iterator, or no row came"
 | _ => .error "entry: no iterator that is known"
def tH (cx : Cx) (S : St) : List Operand → Except String (List Tm)
 | [] => .ok []
 | x :: xs => match ev cx S x, tH cx S xs with
  | .ok (.one (.lf (.ptr b 0))), .ok bs => .ok (b :: bs)
  | .ok _, .ok _ => .error "makeFunc: what is bound is no address of a block"
  | .error e, _ => .error e
  | _, .error e => .error e
def yK (b : Tm) : SV := .one (.lf (.ptr b 0))
def wV (cx : Cx) (b : Builtin) (ts : List TypeId) (args : List SV) (S : St) (k : SV → St → M) : M :=
 match b, ts, args with
 | .len, [t], [x] => uU cx S t x fun v => k v S
 | .min, _, args => vH .min args fun v => k v S
 | .max, _, args => vH .max args fun v => k v S
 | .append, [t, tx], [s, x] => if x.under S.aA.length then rW cx t s S fun s S => aK1 cx S t (some tx) s x k else .error "append: of what isn't known"
 | .copy, [t, tx], [d, x] => copyS cx S t tx d x k
 | .delete, [t, _], [m, x] => aN1 cx S t m x k
 | _, _, _ => .error "a built-in function that isn't taken"
def step (cx : Cx) (o : Oper) (S : St) (k : St → M) : M :=
 let ret (v : SV) : M := k (S.put o.dst v)
 let ret' (v : SV) (S : St) : M := k (S.put o.dst v)
 match o.op with
 | .move x | .assign x => bZ (evT cx S o.type x) fun v => rW cx o.type v S ret'
 | .pick c a b => bZ (ev cx S c) fun v => match aS1 v with
  | some true => bZ (evT cx S o.type a) ret
  | some false => bZ (evT cx S o.type b) ret
  | none => .error "pick: a test that isn't told"
 | .alloc t => match zT cx t with
  | some ps => aE4 cx S t ps ret'
  | none => .error "alloc: no zero"
 | .box t x => bZ (evT cx S t x) fun v => match aI1 S.heap v with
  | some ps => aE4 cx S t ps ret'
  | none => .error "box: of what?"
 | .build t args => aL7 cx S t args.toList ret
 | .buildSlice t n args => aL8 cx S t n args.toList ret'
 | .load t a => bZ (ev cx S a) fun x => let S := aN9 S x; xZ cx S t x fun v => k (S.put o.dst v)
 | .store t a x => bZ (ev cx S a) fun p => bZ (evT cx S t x) fun v => aW6 cx S t p v fun S => k (S.put o.dst (.one (.lf .junk)))
 | .nilCheck x => bZ (ev cx S x) fun v => match v with
  | .one (.lf (.ptr ..)) | .one (.lf (.aptr ..)) | .one (.lf (.eptr ..)) => ret v
  | .one (.lf .nilp) => .ok (.obl (.bool false) .tt)
  | _ => .error "nilCheck: of what?"
 | .binOp op t x y _ => bZ (evT cx S t x) fun a => bZ (evT cx S t y) fun b => aL2 cx S op t a b ret
 | .unOp op t x => bZ (evT cx S t x) fun a => unS op a ret
 | .convert s d x => bZ (evT cx S s x) fun v => wX cx S s d v ret'
 | .makeSlice t l c => bZ (ev cx S l) fun l => bZ (ev cx S c) fun c => aS3 cx S t l c ret'
 | .slice t x lo hi mx => bZ (ev cx S x) fun v =>
   match (match lo with | none => Except.ok none | some l => (match ev cx S l with | .ok v => .ok (some v) | .error e => .error e)), (match hi with | none => Except.ok none | some l => (match ev cx S l with | .ok v => .ok (some v) | .error e => .error e)) with
   | .ok l, .ok h => zL cx S t v l h mx.isSome (dropped cx o.dst) ret'
   | .error e, _ => .error e
   | _, .error e => .error e
 | .fieldAddr t x f => bZ (ev cx S x) fun v => aO3 cx t v f ret
 | .field t x f => bZ (evT cx S t x) fun v => aO4 cx t v f ret
 | .indexAddr t x i => bZ (ev cx S x) fun v => bZ (ev cx S i) fun i => aQ7 cx S t v i ret
 | .index t x i => bZ (evT cx S t x) fun v => bZ (ev cx S i) fun i => aQ8 cx t v i ret
 | .extract x i => bZ (ev cx S x) fun v => match v with
  | .tup xs => match xs[i]? with
   | some x => ret (.one x)
   | none => .error "extract: no such result"
  | _ => .error "extract: of what?"
 | .call c => match c.callee with
  | .builtin b => match evs cx S c.args.toList c.argTypes.toList with
   | .ok args => wV cx b c.argTypes.toList args S ret'
   | .error e => .error e
  | .value f => match ev cx S f, evs cx S c.args.toList c.argTypes.toList with
   | .ok (.one (.lf (.fn g))), .ok args => yB cx args c.argTypes.toList S fun args S => aA5 cx S g args ret'
   | .ok (.one (.lf (.clo g fs cs))), .ok args => if fs.all (Tm.under S.aA.length) && cs.all (Tm.under S.aA.length) then yB cx args c.argTypes.toList S fun args S => aA5 cx S g (fs.map yK ++ args ++ cs.map yK) ret' else .error "call: what isn't known is bound"
   | .ok _, .ok _ => .error "call: of what?"
   | .error e, _ => .error e
   | _, .error e => .error e
  | _ => .error "call: through an interface"
 | .makeFunc fn first caps => match fn, tH cx S first.toList, tH cx S caps.toList with
  | .func f, .ok fs, .ok cs => ret (.one (.lf (if fs = [] ∧ cs = [] then .fn f else .clo f fs cs)))
  | .func _, .error e, _ => .error e
  | .func _, _, .error e => .error e
  | _, _, _ => .error "makeFunc: of what?"
 | .makeMap t r => match r with
  | none => aD9 cx S t ret'
  | some r => bZ (ev cx S r) fun v => match v with
   | .one (.lf (.int .i64 _)) => aD9 cx S t ret'
   | _ => .error "makeMap: no number"
 | .lookup t x i ok => bZ (ev cx S x) fun v => bZ (ev cx S i) fun i => if (cx.P.underlying t).any (fun d => match d with | .map _ _ => true | _ => false) then aS2 cx S t v i ok ret else .error "lookup: no map"
 | .mapUpdate t m x v => bZ (ev cx S m) fun m => bZ (ev cx S x) fun x => bZ (ev cx S v) fun v => aS5 cx S t m x v fun S => k (S.put o.dst (.one (.lf .junk)))
 | .range t x => bZ (ev cx S x) fun v => rangeS cx S t v ret'
 | .entry x => bZ (ev cx S x) fun v => aO0 S v ret
 | .next x isStr => if isStr then .error "next: of a text" else bZ (ev cx S x) fun v => aT5 S v ret'
 | _ => .error "an operation that isn't taken"
end Go.Vc
namespace Go.Vc
inductive KI where
 | code (c : Code)
 | ops (all : Array Oper) (rest : List Oper)
 | any (all : Array Oper) (fuel : Nat) (listed : Array Bool)
 | still (all : Array Oper) (fuel : Nat) (listed : Array Bool) (oth : List Nat)
 | blk (id : Nat)
 | wait
 | lp (j : Nat) (T : St) (n0 : Nat) (fix : List Tm)
def nK : Code → Option Nat
 | .region id _ _ => some id
 | .seq a b => match nK a with | some k => some k | none => nK b
 | .cond _ a b => match nK a with | some k => some k | none => nK b
 | .block _ c => nK c
 | .loop c => nK c
 | .scope c => nK c
 | _ => none
def dstsOf : Code → List Nat
 | .region _ ops _ => ops.toList.filterMap (·.dst)
 | .seq a b => dstsOf a ++ dstsOf b
 | .cond _ a b => dstsOf a ++ dstsOf b
 | .block _ c => dstsOf c
 | .loop c => dstsOf c
 | .scope c => dstsOf c
 | _ => []
def cF3 (all : Array Oper) (o : Oper) : List Nat :=
 o.op.operands.toList.filterMap (fun x => match x with | .tmp t => some t | _ => none) ++
  (match o.guard with | some (g, _) => ((all[g]?).bind (·.dst)).toList | none => [])
def exposed : Code → List Nat → List Nat × List Nat
 | .region _ ops _, ws => ops.toList.foldl (fun (rs, ws) o => (rs ++ (cF3 ops o).filter (fun t => !ws.contains t), o.dst.toList ++ ws)) ([], ws)
 | .seq a b, ws => let (r1, ws) := exposed a ws; let (r2, ws) := exposed b ws; (r1 ++ r2, ws)
 | .cond x a b, ws =>
  let r0 := match x with | .tmp t => if ws.contains t then [] else [t] | _ => []
  let (r1, w1) := exposed a ws; let (r2, w2) := exposed b ws; (r0 ++ r1 ++ r2, w1.filter w2.contains)
 | .block _ c, ws => exposed c ws
 | .loop c, ws => exposed c ws
 | .scope c, ws => exposed c ws
 | _, ws => ([], ws)
def xG (key : Nat) (join : Bool) : List Ann → Option Ann
 | [] => none
 | a :: r => if a.key = key ∧ a.join = join then some a else xG key join r
def hTm (s : Srt) (S : St) : Tm × St := (.at S.aA.length, { S with aA := S.aA ++ [s] })
def rD (ek : EK) : Srt := match ek with | [.int _] => .Z | _ => .L
def aG4 (a a' L' : Tm) : List Ch → List Ch
 | [] => []
 | .osl b ek L :: hs => if b = a then .osl a' ek L' :: hs else .osl b ek L :: aG4 a a' L' hs
 | .rsl b ek L :: hs => if b = a then .rsl a' ek L' :: hs else .rsl b ek L :: aG4 a a' L' hs
 | h :: hs => h :: aG4 a a' L' hs
def cI2 (ek : EK) (L L' : Tm) (c : Ch) : Ch := if fU ek then c else if c = .abs (.deep ek) [L] then .abs (.deep ek) [L'] else c
def hLf (l : Lf) (S : St) : Lf × St :=
 match l with
 | .int k _ => let (t, S) := hTm .I S; (.int k t, S)
 | .bool _ => let (t, S) := hTm .B S; (.bool t, S)
 | .str _ => let (t, S) := hTm .S S; (.str t, S)
 | .sl a => match aY a S.heap with
  | some (_, ek, L) =>
   let (a', S) := hTm .V S
   let (L', S) := hTm (rD ek) S
   (.sl a', { S with heap := (aG4 a a' L' S.heap).map (cI2 ek L L') })
  | none => (l, S)
 | .mp b => match dP b S.heap with
  | some (k, [_, _]) =>
   let (b', S) := hTm .N S
   let (L', S) := hTm .L S
   (.mp b', { S with heap := dB b (.abs k [b', L']) S.heap })
  | _ => (l, S)
 | l => (l, S)
def hPt (p : Pt) (S : St) : Pt × St :=
 match p with
 | .lf l => let (l, S) := hLf l S; (.lf l, S)
 | .ints k n _ => let (t, S) := hTm .Z S; (.ints k n t, S)
def aQ1 : List Pt → St → List Pt × St
 | [], S => ([], S)
 | p :: ps, S => let (p, S) := hPt p S; let (ps, S) := aQ1 ps S; (p :: ps, S)
def hS0 (x : S0) (S : St) : S0 × St :=
 match x with
 | .lf l => let (l, S) := hLf l S; (.lf l, S)
 | .agg ps => let (ps, S) := aQ1 ps S; (.agg ps, S)
def hSV (x : SV) (S : St) : SV × St :=
 match x with
 | .one x => let (x, S) := hS0 x S; (.one x, S)
 | .tup _ => (.one (.lf .junk), S)
def pkTm : Tm → Option Nat
 | .o1 _ (.o2 .lget (.at h) (.int _)) => some h
 | _ => none
def pkPt : Pt → Option Nat
 | .lf (.mp t) | .lf (.sl t) | .lf (.int _ t) | .lf (.str t) | .lf (.bool t) | .lf (.ptr t _) => pkTm t
 | .ints _ _ t => pkTm t
 | _ => none
def gV (a b : Nat) : Tm → Tm
 | .at i => if i = a then .at b else .at i
 | .o1 o t => .o1 o (gV a b t)
 | .o2 o t u => .o2 o (gV a b t) (gV a b u)
 | .o3 o t u v => .o3 o (gV a b t) (gV a b u) (gV a b v)
 | t => t
def swLf (a b : Nat) : Lf → Lf
 | .int k t => .int k (gV a b t) | .bool t => .bool (gV a b t) | .str t => .str (gV a b t) | .sl t => .sl (gV a b t) | .mp t => .mp (gV a b t)
 | .ptr t o => .ptr (gV a b t) o
 | l => l
def swPt (a b : Nat) : Pt → Pt
 | .lf l => .lf (swLf a b l)
 | .ints k n t => .ints k n (gV a b t)
def swCh (a b : Nat) : Ch → Ch
 | .box t ps => .box (gV a b t) (ps.map (swPt a b))
 | .osl t ek L => .osl (gV a b t) ek (gV a b L)
 | .rsl t ek L => .rsl (gV a b t) ek (gV a b L)
 | .abs k ts => .abs k (ts.map (gV a b))
def hCh (i : Nat) (S : St) : St :=
 match S.heap[i]? with
 | some (.box b ps) => match ps.findSome? pkPt with
  | some h => let (_, S) := hTm .L S; { S with heap := S.heap.map (swCh h (S.aA.length - 1)) }
  | none => let (qs, S) := aQ1 ps S; { S with heap := S.heap.set i (.box b qs) }
 | some (.osl a ek _) => let (t, S) := hTm (rD ek) S; { S with heap := S.heap.set i (.osl a ek t) }
 | some (.rsl a ek _) => let (t, S) := hTm (rD ek) S; { S with heap := S.heap.set i (.rsl a ek t) }
 | some (.abs k [b, _]) => let (t, S) := hTm .L S; { S with heap := S.heap.set i (.abs k [b, t]) }
 | some (.abs k [b, L, it, _]) => let (t, S) := hTm .L S; { S with heap := S.heap.set i (.abs k [b, L, it, t]) }
 | some (.abs _ _) => S
 | none => S
def aC6 (names : Array String) (live : List Nat) : List Nat → St → St
 | [], S => S
 | j :: js, S =>
  match S.tmps[j]? with
  | some v =>
   if (names.getD j "" = "" ∧ !live.contains j) ∨ v = .one (.lf .junk) then aC6 names live js { S with tmps := S.tmps.set j (.one (.lf .junk)) }
   else let (v, S) := hSV v S; aC6 names live js { S with tmps := S.tmps.set j v }
  | none => aC6 names live js S
def dedup : List Nat → List Nat
 | [] => []
 | x :: xs => if xs.contains x then dedup xs else x :: dedup xs
def bF9 (x : Nat) : List Nat → List Nat
 | [] => [x]
 | y :: ys => if x ≤ y then x :: y :: ys else y :: bF9 x ys
def bO7 : List Nat → List Nat
 | [] => []
 | x :: xs => bF9 x (bO7 xs)
def aP9 (S : St) : List Nat → List Ch → List Ch
 | [], hs => hs
 | j :: js, hs => match S.tmps[j]? with
  | some (.one (.lf (.sl a))) => aP9 S js (dQ a hs)
  | _ => aP9 S js hs
def hPtr (j : Nat) (S : St) : St :=
 match S.tmps[j]? with
 | some (.one (.lf (.ptr (.at b) o))) =>
  let (t, S) := hTm .N S
  { S with tmps := S.tmps.set j (.one (.lf (.ptr t o))), heap := S.heap.map (swCh b (S.aA.length - 1)) }
 | _ => S
def bY9 (i j : Nat) (S : St) : St :=
 match S.heap[i]? with
 | some (.box b ps) => match ps[j]? with
  | some p => let (p, S) := hPt p S; { S with heap := S.heap.set i (.box b (ps.set j p)) }
  | none => S
 | _ => S
def bZ0 (i : Nat) (S : St) : St := if i < 1000 then hCh i S else if i < 100000 then hPtr (i - 1000) S else bY9 ((i - 100000) / 100) (i % 100) S
def template (cx : Cx) (S : St) (c : Code) (ann : Ann) : St :=
 let S := if ann.frz then { S with heap := aP9 S (dstsOf c) S.heap } else S
 ann.havoc.foldl (fun S i => bZ0 i S) (aC6 cx.fn.tmpNames (exposed c []).1 (bO7 (dedup (dstsOf c))) S)
def bH7 : Lf → List Tm
 | .int _ t | .bool t | .str t => [t]
 | _ => []
def bL4 : Pt → List Tm
 | .lf l => bH7 l
 | .ints _ _ L => [L]
def aX8 (S : St) (j : Nat) : List Tm :=
 match S.tmps[j]? with
 | some (.one (.lf (.sl a))) => match aY a S.heap with | some (_, _, L) => [L] | none => []
 | some (.one (.lf (.ptr b _))) => match gQ b S.heap with | some ps => ps.flatMap bL4 | none => []
 | some (.one (.lf l)) => bH7 l
 | some (.one (.agg ps)) => ps.flatMap bL4
 | _ => []
def told : Srt → Bool
 | .N | .V => false
 | _ => true
def keep : List Tm → List Srt → List Tm
 | t :: ts, s :: ss => if told s then t :: keep ts ss else keep ts ss
 | _, _ => []
def atoms (n : Nat) : List Tm := (List.range n).map Tm.at
def bA4 (hs : List Ch) : String := " ".intercalate (hs.map fun c => match c with | .box _ ps => "box" ++ toString (ps.length) | .osl .. => "osl" | .rsl .. => "rsl" | .abs (.deep _) _ => "deep" | .abs (.mp ..) _ => "mp" | .abs (.mpp ..) _ => "mpp" | .abs (.mpi ..) _ => "mpi" | .abs (.mppi ..) _ => "mppi")
def fit (T : St) (n0 : Nat) (S : St) : Except String (List Tm) :=
 match bound (mJ n0 S.heap T.heap (mJ n0 S.heap T.heap (aJ0 n0 T.tmps S.tmps (List.replicate (T.aA.length - n0) none)))) with
 | none => .error "fit: not all words are bound"
 | some θ =>
  if tK (T.tmps.map (SV.subst n0 θ)) S.tmps then
  if shapes S.aA θ (T.aA.drop n0) then
  match cover false (T.heap.map (Ch.subst n0 θ)) S.heap with
  | some _ => .ok θ
  | none => .error ("fit: the heap: " ++ bA4 T.heap ++ " IN " ++ bA4 S.heap)
  else .error "fit: shapes"
  else .error "fit: slots"
def sW : List Srt → M → M
 | [], k => k
 | s :: ss, k => match sW ss k with | .ok v => .ok (.all s v) | .error e => .error e
def aH8 (n0 : Nat) (T : St) : List Fact := ((T.tmps.flatMap zM) ++ T.heap.flatMap tJ).filter (Fact.at n0)
def oZ (n0 m : Nat) : List Tm := (List.range m).map fun i => Tm.at (n0 + i)
def general (S : St) (T : St) (ann : Nat × List Tm) (body : M) : M :=
 let n0 := S.aA.length
 let news := T.aA.drop n0
 if T.aA.take n0 = S.aA ∧ T.under = true ∧ ann.2.all (Tm.under n0) = true then
 match fit T n0 S with
 | .error e => .error ("a loop's head: " ++ e)
 | .ok θ =>
  let ts := ann.2 ++ keep (oZ n0 news.length) news
  match sW news (knows (aH8 n0 T) (match body with
    | .ok v => .ok (.asm ann.1 ts v)
    | .error e => .error e)) with
  | .ok v => .ok (.inv ann.1 (ann.2 ++ keep θ news) v)
  | .error e => .error e
 else .error "a loop's head: template"
def guardOf (all : Array Oper) (S : St) (o : Oper) : Except String (Bool ⊕ (Nat × Tm × Bool)) :=
 match o.guard with
 | none => .ok (.inl true)
 | some (j, want) => match (all[j]?).bind (·.dst) with
  | none => .error "a guard without a slot"
  | some d => match S.tmps[d]? with
   | some (.one (.lf (.bool (.bool b)))) => .ok (.inl (b == want))
   | some (.one (.lf (.bool t))) => .ok (.inr (d, t, want))
   | some (.one (.lf .undef)) => .ok (.inl false)
   | _ => .error "a guard that isn't told"
def iP (o : Oper) : Bool :=
 match o.op with
 | .move _ | .assign _ | .pick .. | .binOp .. | .unOp .. | .fieldAddr .. | .extract .. | .nilCheck _ | .field .. | .build .. => true
 | _ => false
def qF (cx : Cx) (S : St) (o : Oper) : Bool :=
 iP o || (match o.op with
  | .index .. | .indexAddr .. => true
  | .slice _ x _ _ _ => match ev cx S x with
   | .ok (.one (.lf (.str _))) => true
   | _ => false
  | .convert s d x => match evT cx S s x with
   | .ok (.one (.lf (.int ..))) => true
   | .ok (.one (.lf (.str _))) => (match cx.P.underlying d with | some .string => true | _ => false)
   | _ => false
  | .call c => match c.callee, c.argTypes.toList with
   | .builtin .len, [_] => true
   | .builtin .min, _ => true
   | .builtin .max, _ => true
   | _, _ => false
  | _ => false)
def aH9 (cx : Cx) (S : St) (o : Oper) : Bool :=
 qF cx S o || (match o.op with | .load .. => true | _ => false)
def quietIn (cx : Cx) (S : St) (o : Oper) : Bool :=
 match o.op with
 | .alloc _ => true
 | .box _ _ => true
 | .call c => match c.callee with
  | .value f => match ev cx S f with
   | .ok (.one (.lf (.fn g))) => vT cx g
   | _ => false
  | _ => false
 | _ => false
def aS7 (o : Oper) : Bool :=
 iP o || (match o.op with
  | .load .. | .index .. | .indexAddr .. | .slice .. | .convert .. => true
  | .call c => match c.callee, c.argTypes.toList with
   | .builtin .len, [_] => true
   | .builtin .min, _ => true
   | .builtin .max, _ => true
   | _, _ => false
  | _ => false)
def cM3 (cx : Cx) (o : Oper) : Bool :=
 match o.op with
 | .alloc _ | .box _ _ => true
 | .slice t _ _ _ _ => (match cx.P.underlying t with | some .string => true | _ => false)
 | .convert s d _ => (match cx.P.underlying s, cx.P.underlying d with | some (.int _), some (.int _) => true | some .string, some .string => true | _, _ => false)
 | .call c => match c.callee with
  | .value (.func g) => vT cx g
  | _ => aS7 o
 | _ => aS7 o
def aF4 (cx : Cx) (all : Array Oper) : List Nat := (List.range all.size).filter fun i => match all[i]? with | some o => !cM3 cx o | none => true
def isLoad (o : Oper) : Bool := match o.op with | .load .. => true | _ => false
def cA4 (o : Oper) : Bool := match o.op with | .call c => (match c.callee with | .value _ => true | _ => false) | _ => false
def countIn (f : Oper → Bool) (all : Array Oper) (listed : Array Bool) : Nat := ((List.range all.size).filter fun i => !listed.getD i true && ((all[i]?).map f).getD false).length
def cD7 (all : Array Oper) (listed : Array Bool) : Bool :=
 let l := countIn isLoad all listed
 decide (3 ≤ l) && decide (5 ≤ l + countIn cA4 all listed)
def waits (all : Array Oper) (listed : Array Bool) (i : Nat) : Nat → Nat → Bool
 | 0, _ => false
 | n + 1, j => match all[j]? with
  | none => false
  | some o => o.after.any fun e => Region.binds .any e && (e.on == i || (!(listed.getD e.on true) && waits all listed i n e.on))
def aF5 (all : Array Oper) (listed : Array Bool) (oth : List Nat) (i : Nat) : Bool :=
 oth.all fun j => listed.getD j true || j == i || waits all listed i all.size j
def cI4 (all : Array Oper) (listed : Array Bool) : Bool :=
 (List.range all.size).all fun i => listed.getD i true || ((all[i]?).map aS7).getD false
def rM (cx : Cx) (all : Array Oper) (S : St) : List Nat → Option Nat
 | [] => none
 | i :: r => match all[i]? with
  | some o => match guardOf all S o with
   | .ok (.inl false) => some i
   | .ok (.inl true) => if aH9 cx S o then some i else rM cx all S r
   | _ => rM cx all S r
  | none => rM cx all S r
def bT2 (cx : Cx) (all : Array Oper) (S : St) (oth rs : List Nat) : Bool :=
 rs.all fun i => oth.contains i || (match all[i]? with | some o => quietIn cx S o | none => false)
def aU6 (cx : Cx) (all : Array Oper) (S : St) (i : Nat) : Bool :=
 match all[i]? with
 | some o => qF cx S o || (match guardOf all S o with | .ok (.inl false) => true | _ => false)
 | none => false
def orElse (a : M) (b : Unit → M) : M := match a with | .ok v => .ok v | .error _ => b ()
def vU (cx : Cx) (S : St) : List ResultVar → (List S0 → M) → M
 | [], k => k []
 | .tmp t :: r, k => match S.tmps[t]? with
  | some (.one x) => vU cx S r fun xs => k (x :: xs)
  | _ => .error "a result that isn't known"
 | .cell a t :: r, k => match S.tmps[a]? with
  | some (.one (.lf (.ptr b o))) => xZ cx S t (.one (.lf (.ptr b o))) fun v => match v with
   | .one x => vU cx S r fun xs => k (x :: xs)
   | _ => .error "a result of more than one value"
  | _ => .error "a result in memory that isn't known"
def bL9 : List S0 → SV
 | [x] => .one x
 | xs => .tup xs
def aG5 (S : St) (R : SigR) (v : SV) (fin : List Tm → VC) : M :=
 let n0 := R.aA.length
 match bound (mJ n0 S.heap R.heap' (uSV n0 R.res v (List.replicate R.news.length none))) with
 | none => .error "return: a result's words aren't bound"
 | some θ =>
  if R.res.subst n0 θ = v then
  if shapes S.aA θ R.news then
  match cover false (R.heap'.map (Ch.subst n0 θ)) S.heap with
  | some _ => .ok (fin (atoms n0 ++ θ))
  | none => .error "return: the heap"
  else .error "return: shapes"
  else .error "return: the result's form"
def aG6 (cx : Cx) (S : St) : M :=
 vU cx S cx.fn.results.toList fun xs =>
  let v := bL9 xs
  match aG5 S cx.own v .ret with
  | .ok x => .ok x
  | .error e => match cx.own.second with
   | none => .error e
   | some r => aG5 S r v fun ts => .pre 200 ts .tt
def behind (id : Nat) : List KI → Option (List KI)
 | [] => none
 | .blk i :: K => if id = i then some K else behind id K
 | _ :: K => behind id K
def rH (all : Array Oper) (S : St) : List Nat → Option (Nat × Tm)
 | [] => none
 | i :: r => match all[i]? with
  | some o => match guardOf all S o with
   | .ok (.inr (d, t, _)) => some (d, t)
   | _ => rH all S r
  | none => rH all S r
def rJ (cx : Cx) (all : Array Oper) (S : St) : List Nat → Option Nat
 | [] => none
 | i :: r => match all[i]? with
  | some o => match guardOf all S o with
   | .ok (.inl false) => some i
   | .ok (.inl true) => if qF cx S o then some i else rJ cx all S r
   | _ => rJ cx all S r
  | none => rJ cx all S r
def forEach (f : Nat → M) : List Nat → M
 | [] => .ok .tt
 | [i] => f i
 | i :: r => both (f i) (forEach f r)
def nX (S : St) (x : Operand) (b : Bool) : St := match x with | .tmp i => { S with tmps := S.tmps.set i (.one (.lf (.bool (.bool b)))) } | _ => S
def at_ (pos : String) (x : M) : M := match x with | .ok v => .ok v | .error e => .error (pos ++ ": " ++ e)
def nV (cx : Cx) (all : Array Oper) (i : Nat) (S : St) (next : St → M) : M :=
 match all[i]? with
 | none => .error "a region's operation"
 | some o => match guardOf all S o with
  | .error e => .error e
  | .ok (.inl true) => at_ o.pos (step cx o S next)
  | .ok (.inl false) => next (S.put o.dst (.one (.lf .undef)))
  | .ok (.inr _) => .error "a guard that isn't told, in a region that draws"
def cD1 (c : Code) (K : List KI) : List Nat := (exposed (K.foldl (fun acc ki => match ki with | .code c' => .seq acc c' | _ => acc) c) []).1 ++
 K.flatMap fun ki => match ki with | .lp _ T _ _ => (List.range T.tmps.length).filter fun j => T.tmps.getD j (.one (.lf .junk)) != .one (.lf .junk) | _ => []
def uZ : List KI → Nat
 | [] => 0
 | .lp _ T _ _ :: K => max T.aA.length (uZ K)
 | _ :: K => uZ K
def aD3 (cx : Cx) (c : Code) (K : List KI) (S : St) (jn : Ann) (rule : St → M) : M :=
 let n0 := max cx.own.aA.length (uZ K)
 match jn.tmpl with
 | none => .error ("JOINT " ++ jn.say (S.aA.take n0) S (cD1 c K))
 | some T =>
  let news := T.aA.drop n0
  if T.aA.take n0 = S.aA.take n0 ∧ n0 ≤ S.aA.length then
  match fit T n0 S with
  | .error e => .error ("a joint: " ++ e)
  | .ok θ =>
   match sW news (knows (aH8 n0 T) (match rule T with
     | .ok v => .ok (.asm jn.j (atoms n0 ++ keep (oZ n0 news.length) news) v)
     | .error e => .error e)) with
   | .ok v => .ok (.inv jn.j (atoms n0 ++ keep θ news) (.cut n0 v))
   | .error e => .error e
  else .error "a joint: its pattern"
def run (cx : Cx) : Nat → List KI → St → M
 | 0, _, _ => .error "out of fuel"
 | _ + 1, [], S => aG6 cx S
 | f + 1, .code c :: K, S =>
  match c with
  | .skip => run cx f K S
  | .label _ => run cx f K S
  | .seq a b => run cx f (.code a :: .code b :: K) S
  | .block id c =>
   run cx f (.code c :: .blk id :: K) S
  | .cond x a b =>
   match ev cx S x with
   | .error e => .error e
   | .ok v => match v with
    | .one (.lf (.bool (.bool true))) => run cx f (.code a :: K) S
    | .one (.lf (.bool (.bool false))) => run cx f (.code b :: K) S
    | .one (.lf (.bool t)) =>
     both (imp t true (run cx f (.code a :: K) (nX S x true))) (imp t false (run cx f (.code b :: K) (nX S x false)))
    | _ => .error "cond: no bool"
  | .loop c =>
   match (nK c).bind (fun k => xG k false cx.anns) with
   | some ann =>
    let rule (S : St) : M :=
     let T := template cx S c ann
     let fix := atoms cx.own.aA.length ++ ann.watch.flatMap (aX8 T)
     general S T (ann.j, fix) (run cx f (.code c :: .lp ann.j T S.aA.length fix :: K) T)
    match (nK c).bind (fun k => xG k true cx.anns) with
    | some jn => aD3 cx c K S jn rule
    | none => rule S
   | none => .error ("a loop without an invariant: " ++ toString ((nK c).getD 0))
  | .exit id => match behind id K with
   | some K => run cx f K S
   | none => .error "exit: no such block"
  | .ret => aG6 cx S
  | .region id all draw =>
   let rule (S : St) : M :=
    if draw then run cx f (.any all all.size (Array.replicate all.size false) :: K) S
    else run cx f (.ops all all.toList :: K) S
   if (xG (id + 2000000) true cx.anns).isSome then .ok (.obl (.bool false) .tt) else
   match xG (id + 1000000) true cx.anns with
   | some jn => aD3 cx (.region id all draw) K S jn (fun T => run cx f (.wait :: (if draw then .any all all.size (Array.replicate all.size false) else .ops all all.toList) :: K) T)
   | none => rule S
  | .refuse _ => .error "a statement that the model refuses"
  | _ => .error "control that isn't taken"
 | f + 1, .ops all rest :: K, S =>
  match rest with
  | [] => run cx f K S
  | o :: rest => match guardOf all S o with
   | .error e => .error e
   | .ok (.inl true) => at_ o.pos (step cx o S (fun S => run cx f (.ops all rest :: K) S))
   | .ok (.inl false) => run cx f (.ops all rest :: K) (S.put o.dst (.one (.lf .undef)))
   | .ok (.inr (d, t, _)) =>
    both (imp t true (run cx f (.ops all (o :: rest) :: K) (nX S (.tmp d) true))) (imp t false (run cx f (.ops all (o :: rest) :: K) (nX S (.tmp d) false)))
 | f + 1, .any all fuel listed :: K, S =>
  match fuel, Region.ready .any all listed with
  | _, [] => run cx f K S
  | 0, _ => .error "a region without an end"
  | fuel + 1, rs =>
   let take (i : Nat) : M := nV cx all i S (fun S => run cx f (.any all fuel (listed.setIfInBounds i true) :: K) S)
   if cD7 all listed && !cx.anns.any (fun a => a.key == 999998) then run cx f (.still all (fuel + 1) listed (aF4 cx all) :: K) S else
   orElse (if cx.anns.any (fun a => a.key == 999999) then run cx f (.still all (fuel + 1) listed (aF4 cx all) :: K) S else .error "") fun _ =>
   orElse (if cI4 all listed then run cx f (.still all (fuel + 1) listed [] :: K) S else .error "") fun _ =>
   (match rJ cx all S rs with
   | some i => if Region.noSelect all && Region.free .any all listed i then take i else forEach take rs
   | none => match rH all S rs with
    | some (d, t) =>
     both (imp t true (run cx f (.any all (fuel + 1) listed :: K) (nX S (.tmp d) true))) (imp t false (run cx f (.any all (fuel + 1) listed :: K) (nX S (.tmp d) false)))
    | none => forEach take rs)
 | f + 1, .still all fuel listed oth :: K, S =>
  match fuel, Region.ready .any all listed with
  | _, [] => run cx f K S
  | 0, _ => .error "a region without an end"
  | fuel + 1, rs =>
   match rM cx all S (rs.filter fun i => Region.noSelect all && Region.free .any all listed i && (aU6 cx all S i || aF5 all listed oth i)) with
   | some i => if Region.noSelect all && Region.free .any all listed i && (aU6 cx all S i || aF5 all listed oth i) then
      nV cx all i S (fun S => run cx f (.still all fuel (listed.setIfInBounds i true) oth :: K) S)
     else .error "a region that isn't still: what isn't free"
   | none => match rH all S rs with
    | some (d, t) =>
     both (imp t true (run cx f (.still all (fuel + 1) listed oth :: K) (nX S (.tmp d) true))) (imp t false (run cx f (.still all (fuel + 1) listed oth :: K) (nX S (.tmp d) false)))
    | none => if bT2 cx all S oth rs then forEach (fun i => nV cx all i S (fun S => run cx f (.still all fuel (listed.setIfInBounds i true) oth :: K) S)) rs
     else .error "a region that isn't still"
 | f + 1, .blk _ :: K, S => run cx f K S
 | f + 1, .wait :: K, S => if f % 1024 = 0 then run cx f K S else run cx f (.wait :: K) S
 | _ + 1, .lp j T n0 fix :: _, S =>
  match fit T n0 S with
  | .ok θ => .ok (.back j (fix ++ keep (oZ n0 (T.aA.drop n0).length) (T.aA.drop n0)) (fix ++ keep θ (T.aA.drop n0)))
  | .error e => .error ("end of a round: " ++ e)
def entry (cx : Cx) : St :=
 { tmps := cx.own.args ++ List.replicate (cx.fn.ntmps - cx.own.args.length) (.one (.lf .junk)), heap := cx.own.heap, aA := cx.own.aA }
def zO (cx : Cx) : M :=
 match cx.fn.body with
 | none => .error "no body"
 | some c =>
  let S := entry cx
  if S.under then
  sW cx.own.aA (knows (aH8 0 S) (match run cx 100000 [.code c] S with
   | .ok v => .ok (.post 0 (atoms cx.own.aA.length) v)
   | .error e => .error e))
  else .error "entry"
abbrev R64 (i : Int) : Prop := -9223372036854775808 ≤ i ∧ i < 9223372036854775808
abbrev U64 (i : Int) : Prop := 0 ≤ i ∧ i < 18446744073709551616
abbrev LD := List D
abbrev LI := List Int
abbrev BA := ByteArray
abbrev Im (a b : Prop) : Prop := a ∧ (a → b)
abbrev Bk (I : List D → Prop) (M : List D → Nat) (a b : List D) : Prop := I a ∧ M a < M b
end Go.Vc