/-
 Bits of whole numbers: plain laws, with no program in sight.
 Contracts, written short.
 Conditions made short, and read as plain statements.
 Texts as lists of bytes: plain laws.
 From a law's contract to its walk.
 Contracts whose words are parts of others: many words as one.
-/
import Derived.Test.YtdppcnngoclehaaVce
import Derived.Laws.Closers25b
set_option linter.unusedVariables false
set_option linter.unusedSimpArgs false
open _root_.Go.IntKind (wrap)
namespace Go.Vc
def bt (v : Int) (i : Nat) : Bool := decide (v / 2 ^ i % 2 = 1)
end Go.Vc
namespace Go.Vc
inductive AK where
 | i (k : IntKind) | b | s | z (k : IntKind) | l (ek : EK) | a (k : IntKind) (n : Nat)
def AK.sv (n : Nat) : AK → SV
 | .i k => .one (.lf (.int k (.at n)))
 | .b => .one (.lf (.bool (.at n)))
 | .s => .one (.lf (.str (.at n)))
 | .z _ => .one (.lf (.sl (.at n)))
 | .l _ => .one (.lf (.sl (.at n)))
 | .a k m => .one (.agg [.ints k m (.at n)])
def AK.aA : AK → List Srt
 | .i _ => [.I] | .b => [.B] | .s => [.S] | .z _ => [.V, .Z] | .l _ => [.V, .L] | .a _ _ => [.Z]
def AK.chs (own : Bool) (n : Nat) : AK → List Ch
 | .z k => [if own then .osl (.at n) [.int k] (.at (n + 1)) else .rsl (.at n) [.int k] (.at (n + 1))]
 | .l ek => (if own then .osl (.at n) ek (.at (n + 1)) else .rsl (.at n) ek (.at (n + 1))) :: (if fU ek then [] else [.abs (.deep ek) [.at (n + 1)]])
 | _ => []
def aI5 : Nat → List AK → List SV
 | _, [] => []
 | n, a :: r => a.sv n :: aI5 (n + a.aA.length) r
def mX (own : Bool) : Nat → List AK → List Ch
 | _, [] => []
 | n, a :: r => a.chs own n ++ mX own (n + a.aA.length) r
def sU : List AK → List Srt
 | [] => []
 | a :: r => a.aA ++ sU r
def cI3 : List SV → SV
 | [x] => x
 | xs => .tup (xs.map fun x => match x with | .one y => y | _ => .lf .junk)
def qM (as rs : List AK) (pre post : LD → Prop) : Sig :=
 { args := aI5 0 as, heap := mX false 0 as, aA := sU as, res := cI3 (aI5 (sU as).length rs), heap' := mX true (sU as).length rs, news := sU rs, pre := pre, post := post }
end Go.Vc
namespace Go.Vc
def VC.tidy (n : Nat) (K : List Tm) : VC → VC
 | .tt => .tt
 | .and a b => .and (a.tidy n K) (b.tidy n K)
 | .imp t p k => if p && t.under n then (if K.contains t then k.tidy n K else .imp t p (k.tidy n (t :: K))) else .imp t p (k.tidy n K)
 | .obl t k => if K.contains t then k.tidy n K else if t.under n then .obl t (k.tidy n (t :: K)) else .obl t (k.tidy n K)
 | .all s k => .all s (k.tidy (n + 1) K)
 | .know f k => .know f (k.tidy n K)
 | .pre c ts k => .pre c ts (k.tidy n K)
 | .post c ts k => .post c ts (k.tidy n K)
 | .inv j ts k => .inv j ts (k.tidy n K)
 | .asm j ts k => .asm j ts (k.tidy n K)
 | .back j a b => .back j a b
 | .ret ts => .ret ts
 | .cut m k => .cut m (k.tidy (min m n) [])
def rU (ρ : LD) (K : List Tm) : Prop := ∀ t ∈ K, t.under ρ.length = true ∧ (t.den ρ).toB = true
theorem rU.ext {ρ : LD} {K : List Tm} (h : rU ρ K) (d : D) : rU (ρ ++ [d]) K := by
 intro t ht
 obtain ⟨h1, h2⟩ := h t ht
 exact ⟨Tm.jB h1 (by simp), by rw [Tm.aV h1]; exact h2⟩
theorem rU.cons {ρ : LD} {K : List Tm} {t : Tm} (h : rU ρ K) (h1 : t.under ρ.length = true) (h2 : (t.den ρ).toB = true) : rU ρ (t :: K) := by
 intro u hu
 rcases List.mem_cons.1 hu with rfl | hu
 ·exact ⟨h1, h2⟩
 ·exact h u hu
theorem iQ {E : Env} : ∀ {v : VC} {ρ : LD} {K : List Tm}, rU ρ K → (v.tidy ρ.length K).den E ρ → v.den E ρ
 | .tt, _, _, _, _ => trivial
 | .and a b, ρ, K, hK, h => ⟨iQ hK h.1, iQ hK h.2⟩
 | .imp t p k, ρ, K, hK, h => by
  intro ht
  simp only [VC.tidy] at h
  split at h
  ·rename_i c
   simp only [Bool.and_eq_true] at c
   obtain ⟨rfl, c2⟩ := c
   split at h
   ·exact iQ hK h
   ·exact iQ (hK.cons c2 ht) (h ht)
  ·exact iQ hK (h ht)
 | .obl t k, ρ, K, hK, h => by
  simp only [VC.tidy] at h
  split at h
  ·rename_i c
   have hm : t ∈ K := by simpa using c
   exact ⟨(hK t hm).2, fun _ => iQ hK h⟩
  ·split at h
   ·rename_i c
    exact ⟨h.1, fun ht => iQ (hK.cons c ht) (h.2 ht)⟩
   ·exact ⟨h.1, fun ht => iQ hK (h.2 ht)⟩
 | .all s k, ρ, K, hK, h => by
  have e : ∀ d : D, (ρ ++ [d]).length = ρ.length + 1 := fun d => by simp
  cases s <;> (intro x; exact iQ (hK.ext _) (by rw [e]; exact h x))
 | .know f k, ρ, K, hK, h => fun hf => iQ hK (h hf)
 | .pre c ts k, ρ, K, hK, h => ⟨h.1, iQ hK h.2⟩
 | .post c ts k, ρ, K, hK, h => fun hp => iQ hK (h hp)
 | .inv j ts k, ρ, K, hK, h => ⟨h.1, iQ hK h.2⟩
 | .asm j ts k, ρ, K, hK, h => fun hp => iQ hK (h hp)
 | .back j a b, _, _, _, h => h
 | .ret ts, _, _, _, h => h
 | .cut m k, ρ, K, hK, h => by
  show k.den E (ρ.take m)
  exact iQ (ρ := ρ.take m) (K := []) (fun t ht => by cases ht) (by rw [List.length_take]; exact h)
mutual
def Tm.yes (ρ : LD) : Tm → Prop
 | .o2 .lt a b => (a.den ρ).toI < (b.den ρ).toI
 | .o2 .le a b => (a.den ρ).toI ≤ (b.den ρ).toI
 | .o2 .eq a b => (a.den ρ).toI = (b.den ρ).toI
 | .o2 .eqb a b => (a.den ρ).toB = (b.den ρ).toB
 | .o2 .eqs a b => (a.den ρ).toS = (b.den ρ).toS
 | .o2 .and a b => a.yes ρ ∧ b.yes ρ
 | .o2 .or a b => a.yes ρ ∨ b.yes ρ
 | .o1 .not a => a.no ρ
 | t => (t.den ρ).toB = true
def Tm.no (ρ : LD) : Tm → Prop
 | .o2 .lt a b => (b.den ρ).toI ≤ (a.den ρ).toI
 | .o2 .le a b => (b.den ρ).toI < (a.den ρ).toI
 | .o2 .eq a b => (a.den ρ).toI ≠ (b.den ρ).toI
 | .o2 .eqb a b => (a.den ρ).toB ≠ (b.den ρ).toB
 | .o2 .eqs a b => (a.den ρ).toS ≠ (b.den ρ).toS
 | .o2 .and a b => a.no ρ ∨ b.no ρ
 | .o2 .or a b => a.no ρ ∧ b.no ρ
 | .o1 .not a => a.yes ρ
 | t => (t.den ρ).toB = false
end
theorem bytes_eq {a b : BA} : (a.toList == b.toList) = true ↔ a = b := by
 rw [beq_iff_eq]
 constructor
 ·intro h
  rw [ByteArray.toList_eq, ByteArray.toList_eq] at h
  cases a; cases b
  simp at h
  simp [h]
 ·rintro rfl; rfl
theorem sV {ρ : LD} : ∀ (t : Tm), (t.yes ρ ↔ (t.den ρ).toB = true) ∧ (t.no ρ ↔ (t.den ρ).toB = false)
 | .at _ => ⟨Iff.rfl, Iff.rfl⟩
 | .int _ => ⟨Iff.rfl, Iff.rfl⟩
 | .bool _ => ⟨Iff.rfl, Iff.rfl⟩
 | .str _ => ⟨Iff.rfl, Iff.rfl⟩
 | .nat _ => ⟨Iff.rfl, Iff.rfl⟩
 | .lis _ => ⟨Iff.rfl, Iff.rfl⟩
 | .lnil => ⟨Iff.rfl, Iff.rfl⟩
 | .o1 o a => by
  have h := sV (ρ := ρ) a
  cases o <;> first | exact ⟨Iff.rfl, Iff.rfl⟩ | skip
  constructor
  ·simp only [Tm.yes, Tm.den, O1.den, D.toB_B, h.2, Bool.not_eq_true']
  ·simp only [Tm.no, Tm.den, O1.den, D.toB_B, h.1, Bool.not_eq_false']
 | .o2 o a b => by
  have h := sV (ρ := ρ) a
  have h' := sV (ρ := ρ) b
  cases o <;> first | exact ⟨Iff.rfl, Iff.rfl⟩ | skip
  ·constructor <;> simp [Tm.yes, Tm.no, Tm.den, O2.den]
  ·constructor <;> simp [Tm.yes, Tm.no, Tm.den, O2.den]
  ·constructor <;> simp [Tm.yes, Tm.no, Tm.den, O2.den]
  ·constructor <;> simp [Tm.yes, Tm.no, Tm.den, O2.den]
  ·constructor
   ·simp only [Tm.yes, Tm.den, O2.den, D.toB_B]; exact bytes_eq.symm
   ·simp only [Tm.no, Tm.den, O2.den, D.toB_B]
    rw [← Bool.not_eq_true]
    exact not_congr bytes_eq.symm
  ·constructor
   ·simp only [Tm.yes, Tm.den, O2.den, D.toB_B, h.1, h'.1, Bool.and_eq_true]
   ·simp only [Tm.no, Tm.den, O2.den, D.toB_B, h.2, h'.2, Bool.and_eq_false_iff]
  ·constructor
   ·simp only [Tm.yes, Tm.den, O2.den, D.toB_B, h.1, h'.1, Bool.or_eq_true]
   ·simp only [Tm.no, Tm.den, O2.den, D.toB_B, h.2, h'.2, Bool.or_eq_false_iff]
 | .o3 _ _ _ _ => ⟨Iff.rfl, Iff.rfl⟩
def IntKind.in_ (k : IntKind) (x : Int) : Prop :=
 match k with
 | .u8 => 0 ≤ x ∧ x < 256
 | .u16 => 0 ≤ x ∧ x < 65536
 | .u32 => 0 ≤ x ∧ x < 4294967296
 | .u64 => 0 ≤ x ∧ x < 18446744073709551616
 | .i8 => -128 ≤ x ∧ x < 128
 | .i16 => -32768 ≤ x ∧ x < 32768
 | .i32 => -2147483648 ≤ x ∧ x < 2147483648
 | .i64 => -9223372036854775808 ≤ x ∧ x < 9223372036854775808
theorem bZ3 {k : IntKind} {x : Int} : k.has x ↔ IntKind.in_ k x := by
 cases k <;> simp only [IntKind.has, IntKind.in_, IntKind.min, IntKind.max, IntKind.signed, IntKind.bits] <;> constructor <;> rintro ⟨h1, h2⟩ <;> constructor <;> simp at * <;> omega
def Fact.dO (ρ : LD) : Fact → Prop
 | .has .u8 t => 0 ≤ (t.den ρ).toI ∧ (t.den ρ).toI < 256
 | .has .u16 t => 0 ≤ (t.den ρ).toI ∧ (t.den ρ).toI < 65536
 | .has .u32 t => 0 ≤ (t.den ρ).toI ∧ (t.den ρ).toI < 4294967296
 | .has .u64 t => 0 ≤ (t.den ρ).toI ∧ (t.den ρ).toI < 18446744073709551616
 | .has .i8 t => -128 ≤ (t.den ρ).toI ∧ (t.den ρ).toI < 128
 | .has .i16 t => -32768 ≤ (t.den ρ).toI ∧ (t.den ρ).toI < 32768
 | .has .i32 t => -2147483648 ≤ (t.den ρ).toI ∧ (t.den ρ).toI < 2147483648
 | .has .i64 t => -9223372036854775808 ≤ (t.den ρ).toI ∧ (t.den ρ).toI < 9223372036854775808
 | .ssz t => ((t.den ρ).toS.size : Int) ≤ 9223372036854775807
 | f => f.den ρ
theorem bX6 {ρ : LD} {f : Fact} (h : f.den ρ) : f.dO ρ := by
 cases f with
 | has k t => cases k <;> exact bZ3.1 h
 | _ => exact h
def VC.dO (E : Env) : VC → LD → Prop
 | .tt, _ => True
 | .and a b, ρ => a.dO E ρ ∧ b.dO E ρ
 | .imp t true k, ρ => t.yes ρ → k.dO E ρ
 | .imp t false k, ρ => t.no ρ → k.dO E ρ
 | .obl t k, ρ => t.yes ρ ∧ (t.yes ρ → k.dO E ρ)
 | .all .I c, ρ => ∀ x : Int, c.dO E (ρ ++ [.I x])
 | .all .B c, ρ => ∀ x : Bool, c.dO E (ρ ++ [.B x])
 | .all .S c, ρ => ∀ x : BA, c.dO E (ρ ++ [.S x])
 | .all .Z c, ρ => ∀ x : LI, c.dO E (ρ ++ [.Z x])
 | .all .L c, ρ => ∀ x : LD, c.dO E (ρ ++ [.L x])
 | .all .N c, ρ => ∀ x : Nat, c.dO E (ρ ++ [.N x])
 | .all .V c, ρ => ∀ x : Value, c.dO E (ρ ++ [.V x])
 | .know f k, ρ => f.dO ρ → k.dO E ρ
 | .pre c ts k, ρ => E.pre c (ts.map (Tm.den ρ)) ∧ k.dO E ρ
 | .post c ts k, ρ => E.post c (ts.map (Tm.den ρ)) → k.dO E ρ
 | .inv j ts k, ρ => E.inv j (ts.map (Tm.den ρ)) ∧ k.dO E ρ
 | .asm j ts k, ρ => E.inv j (ts.map (Tm.den ρ)) → k.dO E ρ
 | .back j old new, ρ => E.inv j (new.map (Tm.den ρ)) ∧ E.meas j (new.map (Tm.den ρ)) < E.meas j (old.map (Tm.den ρ))
 | .ret ts, ρ => E.ret (ts.map (Tm.den ρ))
 | .cut n k, ρ => k.dO E (ρ.take n)
theorem jT {E : Env} : ∀ {v : VC} {ρ : LD}, v.dO E ρ → v.den E ρ
 | .tt, _, _ => trivial
 | .and a b, ρ, h => ⟨jT h.1, jT h.2⟩
 | .imp t true k, ρ, h => fun ht => jT (h ((sV t).1.2 ht))
 | .imp t false k, ρ, h => fun ht => jT (h ((sV t).2.2 ht))
 | .obl t k, ρ, h => ⟨(sV t).1.1 h.1, fun ht => jT (h.2 ((sV t).1.2 ht))⟩
 | .all s k, ρ, h => by cases s <;> exact fun x => jT (h x)
 | .know f k, ρ, h => fun hf => jT (h (bX6 hf))
 | .pre c ts k, ρ, h => ⟨h.1, jT h.2⟩
 | .post c ts k, ρ, h => fun hp => jT (h hp)
 | .inv j ts k, ρ, h => ⟨h.1, jT h.2⟩
 | .asm j ts k, ρ, h => fun hp => jT (h hp)
 | .back j a b, _, h => h
 | .ret ts, _, h => h
 | .cut n k, ρ, h => jT (v := k) h
def zQ (cx : Cx) : M := match zO cx with | .ok v => .ok (v.tidy 0 []) | .error e => .error e
theorem keeps {cx : Cx} {vc : VC} {f : FuncId} {own : Sig} {l : List (FuncId × Sig)} {invs : List ((LD → Prop) × (LD → Nat))} (hm : cx.P.follows .mixedOrders = true) (hf : cx.P.funcs[f]? = some cx.fn)
  (hname : (cx.fn.name == "runtime.NumGoroutine") = false) (hown : own.toSigR = cx.own) (hs : cx.sigs = nU 1 l) (hl : ∀ x ∈ l, Kept cx.P cx.G x.1 x.2) (h : zQ cx = .ok vc)
  (hd : vc.dO (fZ own (l.map (·.2)) invs) []) (hlen : l.length < 199) : Kept cx.P cx.G f own := by
 unfold zQ at h
 split at h
 ·rename_i v hv
  cases h
  exact bH0 hm hf hname hown hs hl hv (iQ (ρ := []) (K := []) (fun t ht => by cases ht) (jT hd)) hlen
 ·cases h
def VC.aD1 : VC → Bool
 | .tt => true
 | _ => false
def bare : Tm → Bool → Tm × Bool
 | .o1 .not t, p => bare t (!p)
 | t, p => (t, p)
def aI7 : Tm → Option Bool
 | .o2 .eq (.int a) (.int b) => some (a == b)
 | .o2 .lt (.int a) (.int b) => some (decide (a < b))
 | .o2 .le (.int a) (.int b) => some (decide (a ≤ b))
 | _ => none
theorem bQ6 {ρ : LD} {t : Tm} {b : Bool} (h : aI7 t = some b) : (t.den ρ).toB = b := by
 unfold aI7 at h
 split at h <;> first | (cases h; rfl) | cases h
def aI6 (K : List (Tm × Bool)) (x : Tm × Bool) : Option Bool :=
 if aI7 x.1 = some x.2 then some true else if aI7 x.1 = some (!x.2) then some false else if x.1 = .bool x.2 then some true else if x.1 = .bool (!x.2) then some false else if K.contains x then some true else if K.contains (x.1, !x.2) then some false else none
def zV (n : Nat) (x : Tm × Bool) (K : List (Tm × Bool)) : List (Tm × Bool) := if x.1.under n then x :: K else K
def VC.mk (c : VC → VC) (v : VC) : VC := if v.aD1 then .tt else c v
def VC.mkAnd (a b : VC) : VC := if a.aD1 then b else if b.aD1 then a else .and a b
def VC.fC (n : Nat) (K : List (Tm × Bool)) : VC → VC
 | .tt => .tt
 | .and a b => VC.mkAnd (a.fC n K) (b.fC n K)
 | .imp t p k => match aI6 K (bare t p) with
  | some true => k.fC n K
  | some false => .tt
  | none => VC.mk (.imp t p) (k.fC n (zV n (bare t p) K))
 | .obl t k => match aI6 K (bare t true) with
  | some true => k.fC n K
  | _ => .obl t (k.fC n (zV n (bare t true) K))
 | .all s k => VC.mk (.all s) (k.fC (n + 1) K)
 | .know f k => VC.mk (.know f) (k.fC n K)
 | .pre c ts k => .pre c ts (k.fC n K)
 | .post c ts k => VC.mk (.post c ts) (k.fC n K)
 | .inv j ts k => .inv j ts (k.fC n K)
 | .asm j ts k => VC.mk (.asm j ts) (k.fC n K)
 | .back j a b => .back j a b
 | .ret ts => .ret ts
 | .cut m k => .cut m (k.fC (min m n) [])
theorem aA3 {ρ : LD} : ∀ (t : Tm) (p : Bool), ((bare t p).1.den ρ).toB = (bare t p).2 ↔ (t.den ρ).toB = p
 | .o1 .not t, p => by
  rw [bare, aA3 t (!p)]
  show _ ↔ (!(t.den ρ).toB) = p
  cases (t.den ρ).toB <;> cases p <;> simp
 | .o1 (.wrap _) _, _ | .o1 .slen _, _ | .o1 .lilen _, _ | .o1 .llen _, _ | .o1 .ofLi _, _ | .o1 .aC _, _ | .o1 .asI _, _ | .o1 .asB _, _ | .o1 .asS _, _ | .o1 .asZ _, _ | .o1 .asL _, _ | .o1 .asV _, _ | .o1 .asN _, _ | .o1 .lines _, _ => Iff.rfl
 | .at _, _ | .int _, _ | .bool _, _ | .str _, _ | .nat _, _ | .lis _, _ | .lnil, _ | .o2 _ _ _, _ | .o3 _ _ _ _, _ => Iff.rfl
def qP (ρ : LD) (K : List (Tm × Bool)) : Prop := ∀ x ∈ K, x.1.under ρ.length = true ∧ (x.1.den ρ).toB = x.2
theorem bQ5 {ρ : LD} {K : List (Tm × Bool)} {x : Tm × Bool} {b : Bool} (hK : qP ρ K) (h : aI6 K x = some b) : decide ((x.1.den ρ).toB = x.2) = b := by
 unfold aI6 at h
 split at h
 ·rename_i c; cases h; simp [bQ6 (ρ := ρ) c]
 split at h
 ·rename_i c; cases h; rw [bQ6 (ρ := ρ) c]; cases x.2 <;> rfl
 split at h
 ·rename_i c; cases h; rw [c]; simp [Tm.den]
 ·split at h
  ·rename_i c; cases h; rw [c]; simp [Tm.den]
  ·split at h
   ·rename_i c; cases h; simpa using (hK x (by simpa using c)).2
   ·split at h
    ·rename_i c
     cases h
     have h1 : (x.1.den ρ).toB = !x.2 := (hK (x.1, !x.2) (by simpa using c)).2
     rw [h1]; cases x.2 <;> rfl
    ·cases h
theorem qP.ext {ρ : LD} {K : List (Tm × Bool)} (h : qP ρ K) (d : D) : qP (ρ ++ [d]) K := by
 intro t ht
 obtain ⟨h1, h2⟩ := h t ht
 exact ⟨Tm.jB h1 (by simp), by rw [Tm.aV h1]; exact h2⟩
theorem qP.add {ρ : LD} {K : List (Tm × Bool)} {x : Tm × Bool} (h : qP ρ K) (h2 : (x.1.den ρ).toB = x.2) : qP ρ (zV ρ.length x K) := by
 unfold zV
 split
 ·rename_i c
  intro y hy
  rcases List.mem_cons.1 hy with rfl | hy
  ·exact ⟨c, h2⟩
  ·exact h y hy
 ·exact h
theorem rQ {E : Env} {v : VC} (h : v.aD1 = true) (ρ : LD) : v.den E ρ := by
 cases v <;> first | trivial | cases h
theorem eG {E : Env} : ∀ {v : VC} {ρ : LD} {K : List (Tm × Bool)}, qP ρ K → (v.fC ρ.length K).den E ρ → v.den E ρ
 | .tt, _, _, _, _ => trivial
 | .and a b, ρ, K, hK, h => by
  simp only [VC.fC, VC.mk, VC.mkAnd] at h
  split at h
  ·rename_i c; exact ⟨eG hK (rQ c ρ), eG hK h⟩
  ·split at h
   ·rename_i c; exact ⟨eG hK h, eG hK (rQ c ρ)⟩
   ·exact ⟨eG hK h.1, eG hK h.2⟩
 | .imp t p k, ρ, K, hK, h => by
  intro ht
  have hb := (aA3 (ρ := ρ) t p).2 ht
  simp only [VC.fC, VC.mk, VC.mkAnd] at h
  split at h
  ·exact eG hK h
  ·rename_i c
   have := bQ5 hK c
   simp [hb] at this
  ·split at h
   ·rename_i c; exact eG (hK.add hb) (rQ c ρ)
   ·exact eG (hK.add hb) (h ht)
 | .obl t k, ρ, K, hK, h => by
  simp only [VC.fC, VC.mk, VC.mkAnd] at h
  split at h
  ·rename_i c
   have := bQ5 hK c
   have hb : ((bare t true).1.den ρ).toB = (bare t true).2 := by simpa using this
   exact ⟨(aA3 t true).1 hb, fun _ => eG hK h⟩
  ·exact ⟨h.1, fun ht => eG (hK.add ((aA3 t true).2 ht)) (h.2 ht)⟩
 | .all s k, ρ, K, hK, h => by
  have e : ∀ d : D, (ρ ++ [d]).length = ρ.length + 1 := fun d => by simp
  simp only [VC.fC, VC.mk, VC.mkAnd] at h
  split at h
  ·rename_i c; cases s <;> exact fun x => eG (hK.ext _) (by rw [e]; exact rQ c _)
  ·cases s <;> exact fun x => eG (hK.ext _) (by rw [e]; exact h x)
 | .know f k, ρ, K, hK, h => by
  simp only [VC.fC, VC.mk, VC.mkAnd] at h
  split at h
  ·rename_i c; exact fun _ => eG hK (rQ c _)
  ·exact fun hf => eG hK (h hf)
 | .pre c ts k, ρ, K, hK, h => ⟨h.1, eG hK h.2⟩
 | .post c ts k, ρ, K, hK, h => by
  simp only [VC.fC, VC.mk, VC.mkAnd] at h
  split at h
  ·rename_i c; exact fun _ => eG hK (rQ c _)
  ·exact fun hf => eG hK (h hf)
 | .inv j ts k, ρ, K, hK, h => ⟨h.1, eG hK h.2⟩
 | .asm j ts k, ρ, K, hK, h => by
  simp only [VC.fC, VC.mk, VC.mkAnd] at h
  split at h
  ·rename_i c; exact fun _ => eG hK (rQ c _)
  ·exact fun hf => eG hK (h hf)
 | .back j a b, _, _, _, h => h
 | .ret ts, _, _, _, h => h
 | .cut m k, ρ, K, hK, h => by
  show k.den E (ρ.take m)
  exact eG (ρ := ρ.take m) (K := []) (fun t ht => by cases ht) (by rw [List.length_take]; exact h)
def aX6 (cx : Cx) : M := match zQ cx with | .ok v => .ok (v.fC 0 []) | .error e => .error e
theorem cA7 {cx : Cx} {vc : VC} {f : FuncId} {own : Sig} {l : List (FuncId × Sig)} {invs : List ((LD → Prop) × (LD → Nat))} (hm : cx.P.follows .mixedOrders = true) (hf : cx.P.funcs[f]? = some cx.fn)
  (hname : (cx.fn.name == "runtime.NumGoroutine") = false) (hown : own.toSigR = cx.own) (hs : cx.sigs = nU 1 l) (hl : ∀ x ∈ l, Kept cx.P cx.G x.1 x.2) (h : aX6 cx = .ok vc)
  (hd : vc.dO (fZ own (l.map (·.2)) invs) []) (hlen : l.length < 199) : Kept cx.P cx.G f own := by
 unfold aX6 zQ at h
 split at h
 ·rename_i v hv
  cases h
  split at hv
  ·rename_i v0 hv0
   cases hv
   exact bH0 hm hf hname hown hs hl hv0 (iQ (ρ := []) (K := []) (fun t ht => by cases ht) (eG (ρ := []) (K := []) (fun t ht => by cases ht) (jT hd))) hlen
  ·cases hv
 ·cases h
def aB3 (cx : Cx) (E : Env) : Prop := match aX6 cx with | .ok v => v.dO E [] | .error _ => False
def aB4 (cx : Cx) (E : Env) : Prop := match zQ cx with | .ok v => v.dO E [] | .error _ => False
theorem cA6 {cx : Cx} {f : FuncId} {own : Sig} {l : List (FuncId × Sig)} {invs : List ((LD → Prop) × (LD → Nat))} {ss : List Sig} {Q : Prop} (hm : cx.P.follows .mixedOrders = true) (hf : cx.P.funcs[f]? = some cx.fn)
  (hname : (cx.fn.name == "runtime.NumGoroutine") = false) (hown : own.toSigR = cx.own) (hs : cx.sigs = nU 1 l) (hl : ∀ x ∈ l, Kept cx.P cx.G x.1 x.2)
  (hss : l.map (·.2) = ss) (hq : aB3 cx (fZ own ss invs) = Q) (q : Q) (hlen : l.length < 199) : Kept cx.P cx.G f own := by
 have hd : aB3 cx (fZ own (l.map (·.2)) invs) := by rw [hss]; exact Eq.mpr hq q
 unfold aB3 at hd
 split at hd
 ·rename_i v hv; exact cA7 hm hf hname hown hs hl hv hd hlen
 ·exact hd.elim
theorem cA8 {cx : Cx} {f : FuncId} {own : Sig} {l : List (FuncId × Sig)} {invs : List ((LD → Prop) × (LD → Nat))} {ss : List Sig} {Q : Prop} (hm : cx.P.follows .mixedOrders = true) (hf : cx.P.funcs[f]? = some cx.fn)
  (hname : (cx.fn.name == "runtime.NumGoroutine") = false) (hown : own.toSigR = cx.own) (hs : cx.sigs = nU 1 l) (hl : ∀ x ∈ l, Kept cx.P cx.G x.1 x.2)
  (hss : l.map (·.2) = ss) (hq : aB4 cx (fZ own ss invs) = Q) (q : Q) (hlen : l.length < 199) : Kept cx.P cx.G f own := by
 have hd : aB4 cx (fZ own (l.map (·.2)) invs) := by rw [hss]; exact Eq.mpr hq q
 unfold aB4 at hd
 split at hd
 ·rename_i v hv; exact keeps hm hf hname hown hs hl hv hd hlen
 ·exact hd.elim
end Go.Vc
namespace Go.Vc
end Go.Vc
namespace Go.Vc
open Go.RowKit (Below)
def yes : LD → Prop
 | l => l.getLast? = some (.B true)
theorem cF2 {l : LD} {b : Bool} (h : yes (l ++ [.B b])) : b = true := by simpa [yes] using h
theorem yH {ρ : LD} : ∀ {as : List AK} {n : Nat}, owns ρ (mX false n as) = []
 | [], _ => rfl
 | a :: as, n => by
  have h := yH (ρ := ρ) (as := as) (n := n + a.aA.length)
  rw [mX, dI, h, List.append_nil]
  cases a with
  | l ek =>
   have : ∀ b : Bool, owns ρ (Ch.rsl (.at n) ek (.at (n + 1)) :: (if b = true then [] else [.abs (.deep ek) [.at (n + 1)]])) = [] := fun b => by cases b <;> rfl
   exact this (fU ek)
  | _ => rfl
theorem cB8 {P : Program} {G : List Glob} {f : FuncId} {as : List AK} {pre : LD → Prop} (hk : Kept P G f (qM as [.b] pre yes)) {args : Array Value} {ρ : LD} {w : World}
  (hs : aP (sU as) ρ) (hp : pre ρ) (ha : aS ρ (aI5 0 as) args.toList) (hh : aH ρ (mX false 0 as) w) (hg : ∀ g ∈ G, g.holds w) :
  Calls P f args w fun e w' => e = .returned (.bool true) ∧ Below w.heap.size w w' := by
 refine (hk.holds w args ρ hs hp ha hh (fun g h => ⟨hg g h, by show _ ∉ owns ρ (mX false 0 as); rw [yH]; simp⟩)).mono ?_
 rintro e w' ⟨v, rfl, hfit⟩
 rcases hfit with hfit | ⟨r, hr, _⟩
 rotate_left
 ·cases hr
 obtain ⟨σ, hσ, hpost, hres, _, _, _, hfr⟩ := hfit
 have hfr : mQ w (owns ρ (mX false 0 as)) w' := hfr
 rw [yH] at hfr
 refine ⟨?_, hfr.below⟩
 have hσ : aP [.B] σ := hσ
 match σ, hσ with
 | [d], hd =>
  obtain ⟨b, rfl⟩ := hd.1
  have hb : b = true := cF2 hpost
  subst hb
  have hl := aX hs
  have hv : v = .bool ((ρ ++ [D.B true]).getD (sU as).length default).toB := hres
  rw [hv]
  simp [List.getD, ← hl]
theorem cA0 {ρ : LD} {k : IntKind} {n : Int} {i : Nat} (h : ρ[i]? = some (.I n)) (hw : (Lit.int k n).wf = true) : (SV.one (.lf (.int k (.at i)))).holds ρ (.int k n) := by
 have e : (Tm.den ρ (.at i)) = .I n := by simp [Tm.den, List.getD, h]
 show Value.int k n = .int k (Tm.den ρ (.at i)).toI ∧ k.has (Tm.den ρ (.at i)).toI
 rw [e]; exact ⟨rfl, aX9 hw⟩
theorem bQ0 {ρ : LD} {x : SV} {xs : List SV} {v : Value} {vs : List Value} (h : x.holds ρ v) (h' : aS ρ xs vs) : aS ρ (x :: xs) (v :: vs) := ⟨v, vs, rfl, h, h'⟩
theorem cM0 {ρ : LD} : aS ρ [] [] := rfl
end Go.Vc
namespace Go.Vc
theorem aR6 {P : Program} {G : List Glob} {f : FuncId} {s s' : Sig} (hk : Kept P G f s) (θ τ : List Tm) (ha : s.alt = none) (ha' : s'.alt = none)
  (e1 : s'.args = s.args.map (SV.subst 0 θ)) (e2 : s'.heap = s.heap.map (Ch.subst 0 θ)) (e3 : s'.res = s.res.subst 0 (θ ++ τ)) (e4 : s'.heap' = s.heap'.map (Ch.subst 0 (θ ++ τ)))
  (hu : θ.all (Tm.under s'.aA.length) = true)
  (hs : ∀ ρ, aP s'.aA ρ → s'.pre ρ → aP s.aA (θ.map (Tm.den ρ)) ∧ s.pre (θ.map (Tm.den ρ)))
  (hn : ∀ ρ σ, aP s'.aA ρ → s'.pre ρ → aP s.news σ → s.post (θ.map (Tm.den ρ) ++ σ) → ∃ σ', aP s'.news σ' ∧ τ.map (Tm.den (ρ ++ σ')) = σ ∧ s'.post (ρ ++ σ')) : Kept P G f s' := by
 refine ⟨?_, hk.body⟩
 intro w args ρ hsr hp hargs hh hg
 obtain ⟨hsr1, hp1⟩ := hs ρ hsr hp
 have hargs1 : aS (θ.map (Tm.den ρ)) s.args args.toList := by
  rw [e1] at hargs
  have := aI4 (ρ := []) (σ := ρ) (θ := θ) s.args args.toList
  rw [List.nil_append, List.nil_append, List.length_nil] at this
  rw [← this]; exact hargs
 have hh1 : aH (θ.map (Tm.den ρ)) s.heap w := by
  rw [e2] at hh
  exact aH.aE8 (ρ := []) (σ := ρ) (θ := θ) hh
 have ho : owns ρ s'.heap = owns (θ.map (Tm.den ρ)) s.heap := by
  rw [e2]; exact nS (ρ := []) (σ := ρ) (θ := θ) s.heap
 have hr : ros ρ s'.heap = ros (θ.map (Tm.den ρ)) s.heap := by
  rw [e2]; exact vW (ρ := []) (σ := ρ) (θ := θ) s.heap
 refine (hk.holds w args (θ.map (Tm.den ρ)) hsr1 hp1 hargs1 hh1 (by rw [← ho]; exact hg)).mono ?_
 rintro e w' ⟨v, rfl, hfit⟩
 rcases hfit with hfit | ⟨r, hr2, _⟩
 rotate_left
 ·unfold Sig.toSigR SigR.second at hr2
  cases hx : s.alt with
  | none => simp only [hx] at hr2; cases hr2
  | some x => rw [ha] at hx; cases hx
 obtain ⟨σ, h1, h2, h3, h4, h5, h6, h7⟩ := hfit
 obtain ⟨σ', k1, k2, k3⟩ := hn ρ σ hsr hp h1 h2
 have hρ : (θ ++ τ).map (Tm.den (ρ ++ σ')) = θ.map (Tm.den ρ) ++ σ := by
  rw [List.map_append, k2]
  refine congrArg (· ++ σ) (List.map_congr_left fun t ht => ?_)
  have hl := aX hsr
  exact Tm.aV (by rw [hl]; exact List.all_eq_true.1 hu t ht)
 have ho' : owns (ρ ++ σ') s'.heap' = owns (θ.map (Tm.den ρ) ++ σ) s.heap' := by
  rw [e4, ← hρ]; exact nS (ρ := []) (σ := ρ ++ σ') (θ := θ ++ τ) s.heap'
 have hr' : ros (ρ ++ σ') s'.heap' = ros (θ.map (Tm.den ρ) ++ σ) s.heap' := by
  rw [e4, ← hρ]; exact vW (ρ := []) (σ := ρ ++ σ') (θ := θ ++ τ) s.heap'
 refine ⟨v, rfl, .inl ⟨σ', k1, k3, ?_, ?_, ?_, ?_, ?_⟩⟩
 ·have := SV.kG (ρ := []) (σ := ρ ++ σ') (θ := θ ++ τ) s.res v
  rw [List.nil_append, List.nil_append, List.length_nil, hρ] at this
  show s'.res.holds (ρ ++ σ') v
  rw [e3, this]; exact h3
 ·show aH (ρ ++ σ') s'.heap' w'
  rw [e4]
  refine aH.bQ4 (ρ := []) (σ := ρ ++ σ') (θ := θ ++ τ) ?_
  rw [List.nil_append, List.nil_append, hρ]; exact h4
 ·intro b hb
  have hb : b ∈ owns (ρ ++ σ') s'.heap' := hb
  rw [ho'] at hb
  show b ∈ owns ρ s'.heap ∨ _
  rw [ho]; exact h5 b hb
 ·intro b hb
  have hb : b ∈ ros (ρ ++ σ') s'.heap' := hb
  rw [hr'] at hb
  show b ∈ owns ρ s'.heap ∨ _ ∨ b ∈ ros ρ s'.heap
  rw [ho, hr]; exact h6 b hb
 ·show mQ w (owns ρ s'.heap) w'
  rw [ho]; exact h7
end Go.Vc