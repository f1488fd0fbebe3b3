/-
 Bits of whole numbers: plain laws, with no program in sight.
 Contracts, written short.
 Conditions made short, and read as plain statements.
 Texts as lists of bytes: plain laws.
 From a law's contract to its walk.
 Contracts whose words are parts of others: many words as one.
-/
import Derived.Test.YtdppcnngoclehaaDoorVcg
import Derived.Laws.Closers25b
set_option linter.unusedVariables false
set_option linter.unusedSimpArgs false
open _root_.Go.IntKind (wrap)
namespace Go.Vc
theorem bF4 (v : Int) : IntKind.i64.has v ↔ -9223372036854775808 ≤ v ∧ v < 9223372036854775808 := by
 simp only [IntKind.has, IntKind.min, IntKind.max, IntKind.signed, IntKind.bits]
 constructor <;> rintro ⟨h1, h2⟩ <;> constructor <;> simp at * <;> omega
end Go.Vc
namespace Go.Vc
inductive AK where
 | i (k : IntKind) | b | s | z (k : IntKind) | l (ek : EK) | a (k : IntKind) (n : Nat)
def AK.sv (n : Nat) : AK → SV
 | .i k => .one (.lf (.int k (.at n)))
 | .b => .one (.lf (.bool (.at n)))
 | .s => .one (.lf (.str (.at n)))
 | .z _ => .one (.lf (.sl (.at n)))
 | .l _ => .one (.lf (.sl (.at n)))
 | .a k m => .one (.agg [.ints k m (.at n)])
def AK.aA : AK → List Srt
 | .i _ => [.I] | .b => [.B] | .s => [.S] | .z _ => [.V, .Z] | .l _ => [.V, .L] | .a _ _ => [.Z]
def AK.chs (own : Bool) (n : Nat) : AK → List Ch
 | .z k => [if own then .osl (.at n) [.int k] (.at (n + 1)) else .rsl (.at n) [.int k] (.at (n + 1))]
 | .l ek => (if own then .osl (.at n) ek (.at (n + 1)) else .rsl (.at n) ek (.at (n + 1))) :: (if dQ ek then [] else [.abs (.deep ek) [.at (n + 1)]])
 | _ => []
def zJ : Nat → List AK → List SV
 | _, [] => []
 | n, a :: r => a.sv n :: zJ (n + a.aA.length) r
def lY (own : Bool) : Nat → List AK → List Ch
 | _, [] => []
 | n, a :: r => a.chs own n ++ lY own (n + a.aA.length) r
def pU : List AK → List Srt
 | [] => []
 | a :: r => a.aA ++ pU r
def bK1 : List SV → SV
 | [x] => x
 | xs => .tup (xs.map fun x => match x with | .one y => y | _ => .lf .junk)
def bQ (as rs : List AK) (pre post : LD → Prop) : Sig :=
 { args := zJ 0 as, heap := lY false 0 as, aA := pU as, res := bK1 (zJ (pU as).length rs), heap' := lY true (pU as).length rs, news := pU rs, pre := pre, post := post }
end Go.Vc
namespace Go.Vc
def VC.tidy (n : Nat) (K : List Tm) : VC → VC
 | .tt => .tt
 | .and a b => .and (a.tidy n K) (b.tidy n K)
 | .imp t p k => if p && t.under n then (if K.contains t then k.tidy n K else .imp t p (k.tidy n (t :: K))) else .imp t p (k.tidy n K)
 | .obl t k => if K.contains t then k.tidy n K else if t.under n then .obl t (k.tidy n (t :: K)) else .obl t (k.tidy n K)
 | .all s k => .all s (k.tidy (n + 1) K)
 | .know f k => .know f (k.tidy n K)
 | .pre c ts k => .pre c ts (k.tidy n K)
 | .post c ts k => .post c ts (k.tidy n K)
 | .inv j ts k => .inv j ts (k.tidy n K)
 | .asm j ts k => .asm j ts (k.tidy n K)
 | .back j a b => .back j a b
 | .ret ts => .ret ts
 | .cut m k => .cut m (k.tidy (min m n) [])
def oJ (ρ : LD) (K : List Tm) : Prop := ∀ t ∈ K, t.under ρ.length = true ∧ (t.den ρ).toB = true
theorem oJ.ext {ρ : LD} {K : List Tm} (h : oJ ρ K) (d : D) : oJ (ρ ++ [d]) K := by
 intro t ht
 obtain ⟨h1, h2⟩ := h t ht
 exact ⟨Tm.gU h1 (by simp), by rw [Tm.aQ h1]; exact h2⟩
theorem oJ.cons {ρ : LD} {K : List Tm} {t : Tm} (h : oJ ρ K) (h1 : t.under ρ.length = true) (h2 : (t.den ρ).toB = true) : oJ ρ (t :: K) := by
 intro u hu
 rcases List.mem_cons.1 hu with rfl | hu
 ·exact ⟨h1, h2⟩
 ·exact h u hu
theorem fU {E : Env} : ∀ {v : VC} {ρ : LD} {K : List Tm}, oJ ρ K → (v.tidy ρ.length K).den E ρ → v.den E ρ
 | .tt, _, _, _, _ => trivial
 | .and a b, ρ, K, hK, h => ⟨fU hK h.1, fU hK h.2⟩
 | .imp t p k, ρ, K, hK, h => by
  intro ht
  simp only [VC.tidy] at h
  split at h
  ·rename_i c
   simp only [Bool.and_eq_true] at c
   obtain ⟨rfl, c2⟩ := c
   split at h
   ·exact fU hK h
   ·exact fU (hK.cons c2 ht) (h ht)
  ·exact fU hK (h ht)
 | .obl t k, ρ, K, hK, h => by
  simp only [VC.tidy] at h
  split at h
  ·rename_i c
   have hm : t ∈ K := by simpa using c
   exact ⟨(hK t hm).2, fun _ => fU hK h⟩
  ·split at h
   ·rename_i c
    exact ⟨h.1, fun ht => fU (hK.cons c ht) (h.2 ht)⟩
   ·exact ⟨h.1, fun ht => fU hK (h.2 ht)⟩
 | .all s k, ρ, K, hK, h => by
  have e : ∀ d : D, (ρ ++ [d]).length = ρ.length + 1 := fun d => by simp
  cases s <;> (intro x; exact fU (hK.ext _) (by rw [e]; exact h x))
 | .know f k, ρ, K, hK, h => fun hf => fU hK (h hf)
 | .pre c ts k, ρ, K, hK, h => ⟨h.1, fU hK h.2⟩
 | .post c ts k, ρ, K, hK, h => fun hp => fU hK (h hp)
 | .inv j ts k, ρ, K, hK, h => ⟨h.1, fU hK h.2⟩
 | .asm j ts k, ρ, K, hK, h => fun hp => fU hK (h hp)
 | .back j a b, _, _, _, h => h
 | .ret ts, _, _, _, h => h
 | .cut m k, ρ, K, hK, h => by
  show k.den E (ρ.take m)
  exact fU (ρ := ρ.take m) (K := []) (fun t ht => by cases ht) (by rw [List.length_take]; exact h)
mutual
def Tm.yes (ρ : LD) : Tm → Prop
 | .o2 .lt a b => (a.den ρ).toI < (b.den ρ).toI
 | .o2 .le a b => (a.den ρ).toI ≤ (b.den ρ).toI
 | .o2 .eq a b => (a.den ρ).toI = (b.den ρ).toI
 | .o2 .eqb a b => (a.den ρ).toB = (b.den ρ).toB
 | .o2 .eqs a b => (a.den ρ).toS = (b.den ρ).toS
 | .o2 .and a b => a.yes ρ ∧ b.yes ρ
 | .o2 .or a b => a.yes ρ ∨ b.yes ρ
 | .o1 .not a => a.no ρ
 | t => (t.den ρ).toB = true
def Tm.no (ρ : LD) : Tm → Prop
 | .o2 .lt a b => (b.den ρ).toI ≤ (a.den ρ).toI
 | .o2 .le a b => (b.den ρ).toI < (a.den ρ).toI
 | .o2 .eq a b => (a.den ρ).toI ≠ (b.den ρ).toI
 | .o2 .eqb a b => (a.den ρ).toB ≠ (b.den ρ).toB
 | .o2 .eqs a b => (a.den ρ).toS ≠ (b.den ρ).toS
 | .o2 .and a b => a.no ρ ∨ b.no ρ
 | .o2 .or a b => a.no ρ ∧ b.no ρ
 | .o1 .not a => a.yes ρ
 | t => (t.den ρ).toB = false
end
theorem bytes_eq {a b : BA} : (a.toList == b.toList) = true ↔ a = b := by
 rw [beq_iff_eq]
 constructor
 ·intro h
  rw [ByteArray.toList_eq, ByteArray.toList_eq] at h
  cases a; cases b
  simp at h
  simp [h]
 ·rintro rfl; rfl
theorem pX {ρ : LD} : ∀ (t : Tm), (t.yes ρ ↔ (t.den ρ).toB = true) ∧ (t.no ρ ↔ (t.den ρ).toB = false)
 | .at _ => ⟨Iff.rfl, Iff.rfl⟩
 | .int _ => ⟨Iff.rfl, Iff.rfl⟩
 | .bool _ => ⟨Iff.rfl, Iff.rfl⟩
 | .str _ => ⟨Iff.rfl, Iff.rfl⟩
 | .nat _ => ⟨Iff.rfl, Iff.rfl⟩
 | .lis _ => ⟨Iff.rfl, Iff.rfl⟩
 | .lnil => ⟨Iff.rfl, Iff.rfl⟩
 | .o1 o a => by
  have h := pX (ρ := ρ) a
  cases o <;> first | exact ⟨Iff.rfl, Iff.rfl⟩ | skip
  constructor
  ·simp only [Tm.yes, Tm.den, O1.den, D.toB_B, h.2, Bool.not_eq_true']
  ·simp only [Tm.no, Tm.den, O1.den, D.toB_B, h.1, Bool.not_eq_false']
 | .o2 o a b => by
  have h := pX (ρ := ρ) a
  have h' := pX (ρ := ρ) b
  cases o <;> first | exact ⟨Iff.rfl, Iff.rfl⟩ | skip
  ·constructor <;> simp [Tm.yes, Tm.no, Tm.den, O2.den]
  ·constructor <;> simp [Tm.yes, Tm.no, Tm.den, O2.den]
  ·constructor <;> simp [Tm.yes, Tm.no, Tm.den, O2.den]
  ·constructor <;> simp [Tm.yes, Tm.no, Tm.den, O2.den]
  ·constructor
   ·simp only [Tm.yes, Tm.den, O2.den, D.toB_B]; exact bytes_eq.symm
   ·simp only [Tm.no, Tm.den, O2.den, D.toB_B]
    rw [← Bool.not_eq_true]
    exact not_congr bytes_eq.symm
  ·constructor
   ·simp only [Tm.yes, Tm.den, O2.den, D.toB_B, h.1, h'.1, Bool.and_eq_true]
   ·simp only [Tm.no, Tm.den, O2.den, D.toB_B, h.2, h'.2, Bool.and_eq_false_iff]
  ·constructor
   ·simp only [Tm.yes, Tm.den, O2.den, D.toB_B, h.1, h'.1, Bool.or_eq_true]
   ·simp only [Tm.no, Tm.den, O2.den, D.toB_B, h.2, h'.2, Bool.or_eq_false_iff]
 | .o3 _ _ _ _ => ⟨Iff.rfl, Iff.rfl⟩
def IntKind.in_ (k : IntKind) (x : Int) : Prop :=
 match k with
 | .u8 => 0 ≤ x ∧ x < 256
 | .u16 => 0 ≤ x ∧ x < 65536
 | .u32 => 0 ≤ x ∧ x < 4294967296
 | .u64 => 0 ≤ x ∧ x < 18446744073709551616
 | .i8 => -128 ≤ x ∧ x < 128
 | .i16 => -32768 ≤ x ∧ x < 32768
 | .i32 => -2147483648 ≤ x ∧ x < 2147483648
 | .i64 => -9223372036854775808 ≤ x ∧ x < 9223372036854775808
theorem bE9 {k : IntKind} {x : Int} : k.has x ↔ IntKind.in_ k x := by
 cases k <;> simp only [IntKind.has, IntKind.in_, IntKind.min, IntKind.max, IntKind.signed, IntKind.bits] <;> constructor <;> rintro ⟨h1, h2⟩ <;> constructor <;> simp at * <;> omega
def Fact.cZ (ρ : LD) : Fact → Prop
 | .has .u8 t => 0 ≤ (t.den ρ).toI ∧ (t.den ρ).toI < 256
 | .has .u16 t => 0 ≤ (t.den ρ).toI ∧ (t.den ρ).toI < 65536
 | .has .u32 t => 0 ≤ (t.den ρ).toI ∧ (t.den ρ).toI < 4294967296
 | .has .u64 t => 0 ≤ (t.den ρ).toI ∧ (t.den ρ).toI < 18446744073709551616
 | .has .i8 t => -128 ≤ (t.den ρ).toI ∧ (t.den ρ).toI < 128
 | .has .i16 t => -32768 ≤ (t.den ρ).toI ∧ (t.den ρ).toI < 32768
 | .has .i32 t => -2147483648 ≤ (t.den ρ).toI ∧ (t.den ρ).toI < 2147483648
 | .has .i64 t => -9223372036854775808 ≤ (t.den ρ).toI ∧ (t.den ρ).toI < 9223372036854775808
 | .ssz t => ((t.den ρ).toS.size : Int) ≤ 9223372036854775807
 | f => f.den ρ
theorem bD8 {ρ : LD} {f : Fact} (h : f.den ρ) : f.cZ ρ := by
 cases f with
 | has k t => cases k <;> exact bE9.1 h
 | _ => exact h
def VC.cZ (E : Env) : VC → LD → Prop
 | .tt, _ => True
 | .and a b, ρ => a.cZ E ρ ∧ b.cZ E ρ
 | .imp t true k, ρ => t.yes ρ → k.cZ E ρ
 | .imp t false k, ρ => t.no ρ → k.cZ E ρ
 | .obl t k, ρ => t.yes ρ ∧ (t.yes ρ → k.cZ E ρ)
 | .all .I c, ρ => ∀ x : Int, c.cZ E (ρ ++ [.I x])
 | .all .B c, ρ => ∀ x : Bool, c.cZ E (ρ ++ [.B x])
 | .all .S c, ρ => ∀ x : BA, c.cZ E (ρ ++ [.S x])
 | .all .Z c, ρ => ∀ x : LI, c.cZ E (ρ ++ [.Z x])
 | .all .L c, ρ => ∀ x : LD, c.cZ E (ρ ++ [.L x])
 | .all .N c, ρ => ∀ x : Nat, c.cZ E (ρ ++ [.N x])
 | .all .V c, ρ => ∀ x : Value, c.cZ E (ρ ++ [.V x])
 | .know f k, ρ => f.cZ ρ → k.cZ E ρ
 | .pre c ts k, ρ => E.pre c (ts.map (Tm.den ρ)) ∧ k.cZ E ρ
 | .post c ts k, ρ => E.post c (ts.map (Tm.den ρ)) → k.cZ E ρ
 | .inv j ts k, ρ => E.inv j (ts.map (Tm.den ρ)) ∧ k.cZ E ρ
 | .asm j ts k, ρ => E.inv j (ts.map (Tm.den ρ)) → k.cZ E ρ
 | .back j old new, ρ => E.inv j (new.map (Tm.den ρ)) ∧ E.meas j (new.map (Tm.den ρ)) < E.meas j (old.map (Tm.den ρ))
 | .ret ts, ρ => E.ret (ts.map (Tm.den ρ))
 | .cut n k, ρ => k.cZ E (ρ.take n)
theorem iH {E : Env} : ∀ {v : VC} {ρ : LD}, v.cZ E ρ → v.den E ρ
 | .tt, _, _ => trivial
 | .and a b, ρ, h => ⟨iH h.1, iH h.2⟩
 | .imp t true k, ρ, h => fun ht => iH (h ((pX t).1.2 ht))
 | .imp t false k, ρ, h => fun ht => iH (h ((pX t).2.2 ht))
 | .obl t k, ρ, h => ⟨(pX t).1.1 h.1, fun ht => iH (h.2 ((pX t).1.2 ht))⟩
 | .all s k, ρ, h => by cases s <;> exact fun x => iH (h x)
 | .know f k, ρ, h => fun hf => iH (h (bD8 hf))
 | .pre c ts k, ρ, h => ⟨h.1, iH h.2⟩
 | .post c ts k, ρ, h => fun hp => iH (h hp)
 | .inv j ts k, ρ, h => ⟨h.1, iH h.2⟩
 | .asm j ts k, ρ, h => fun hp => iH (h hp)
 | .back j a b, _, h => h
 | .ret ts, _, h => h
 | .cut n k, ρ, h => iH (v := k) h
def vP (cx : Cx) : M := match vO cx with | .ok v => .ok (v.tidy 0 []) | .error e => .error e
theorem keeps {cx : Cx} {vc : VC} {f : FuncId} {own : Sig} {l : List (FuncId × Sig)} {invs : List ((LD → Prop) × (LD → Nat))} (hm : cx.P.follows .mixedOrders = true) (hf : cx.P.funcs[f]? = some cx.fn)
  (hname : (cx.fn.name == "runtime.NumGoroutine") = false) (hown : own.toSigR = cx.own) (hs : cx.sigs = jT 1 l) (hl : ∀ x ∈ l, Kept cx.P cx.G x.1 x.2) (h : vP cx = .ok vc)
  (hd : vc.cZ (dS own (l.map (·.2)) invs) []) (hlen : l.length < 199) (hit : ∀ g ∈ cx.iters, jH cx.P g := by intro g h; cases h) : Kept cx.P cx.G f own := by
 unfold vP at h
 split at h
 ·rename_i v hv
  cases h
  exact aQ0 hm hf hname hown hs hl hv (fU (ρ := []) (K := []) (fun t ht => by cases ht) (iH hd)) hlen hit
 ·cases h
def VC.wY : VC → Bool
 | .tt => true
 | _ => false
def bare : Tm → Bool → Tm × Bool
 | .o1 .not t, p => bare t (!p)
 | t, p => (t, p)
def zM : Tm → Option Bool
 | .o2 .eq (.int a) (.int b) => some (a == b)
 | .o2 .lt (.int a) (.int b) => some (decide (a < b))
 | .o2 .le (.int a) (.int b) => some (decide (a ≤ b))
 | _ => none
theorem aY7 {ρ : LD} {t : Tm} {b : Bool} (h : zM t = some b) : (t.den ρ).toB = b := by
 unfold zM at h
 split at h <;> first | (cases h; rfl) | cases h
def zL (K : List (Tm × Bool)) (x : Tm × Bool) : Option Bool :=
 if zM x.1 = some x.2 then some true else if zM x.1 = some (!x.2) then some false else if x.1 = .bool x.2 then some true else if x.1 = .bool (!x.2) then some false else if K.contains x then some true else if K.contains (x.1, !x.2) then some false else none
def vW (n : Nat) (x : Tm × Bool) (K : List (Tm × Bool)) : List (Tm × Bool) := if x.1.under n then x :: K else K
def VC.mk (c : VC → VC) (v : VC) : VC := if v.wY then .tt else c v
def VC.mkAnd (a b : VC) : VC := if a.wY then b else if b.wY then a else .and a b
def VC.dP (n : Nat) (K : List (Tm × Bool)) : VC → VC
 | .tt => .tt
 | .and a b => VC.mkAnd (a.dP n K) (b.dP n K)
 | .imp t p k => match zL K (bare t p) with
  | some true => k.dP n K
  | some false => .tt
  | none => VC.mk (.imp t p) (k.dP n (vW n (bare t p) K))
 | .obl t k => match zL K (bare t true) with
  | some true => k.dP n K
  | _ => .obl t (k.dP n (vW n (bare t true) K))
 | .all s k => VC.mk (.all s) (k.dP (n + 1) K)
 | .know f k => VC.mk (.know f) (k.dP n K)
 | .pre c ts k => .pre c ts (k.dP n K)
 | .post c ts k => VC.mk (.post c ts) (k.dP n K)
 | .inv j ts k => .inv j ts (k.dP n K)
 | .asm j ts k => VC.mk (.asm j ts) (k.dP n K)
 | .back j a b => .back j a b
 | .ret ts => .ret ts
 | .cut m k => .cut m (k.dP (min m n) [])
theorem wB {ρ : LD} : ∀ (t : Tm) (p : Bool), ((bare t p).1.den ρ).toB = (bare t p).2 ↔ (t.den ρ).toB = p
 | .o1 .not t, p => by
  rw [bare, wB t (!p)]
  show _ ↔ (!(t.den ρ).toB) = p
  cases (t.den ρ).toB <;> cases p <;> simp
 | .o1 (.wrap _) _, _ | .o1 .slen _, _ | .o1 .lilen _, _ | .o1 .llen _, _ | .o1 .ofLi _, _ | .o1 .aB _, _ | .o1 .asI _, _ | .o1 .asB _, _ | .o1 .asS _, _ | .o1 .asZ _, _ | .o1 .asL _, _ | .o1 .asV _, _ | .o1 .asN _, _ | .o1 .lines _, _ => Iff.rfl
 | .at _, _ | .int _, _ | .bool _, _ | .str _, _ | .nat _, _ | .lis _, _ | .lnil, _ | .o2 _ _ _, _ | .o3 _ _ _ _, _ => Iff.rfl
def nO (ρ : LD) (K : List (Tm × Bool)) : Prop := ∀ x ∈ K, x.1.under ρ.length = true ∧ (x.1.den ρ).toB = x.2
theorem aY6 {ρ : LD} {K : List (Tm × Bool)} {x : Tm × Bool} {b : Bool} (hK : nO ρ K) (h : zL K x = some b) : decide ((x.1.den ρ).toB = x.2) = b := by
 unfold zL at h
 split at h
 ·rename_i c; cases h; simp [aY7 (ρ := ρ) c]
 split at h
 ·rename_i c; cases h; rw [aY7 (ρ := ρ) c]; cases x.2 <;> rfl
 split at h
 ·rename_i c; cases h; rw [c]; simp [Tm.den]
 ·split at h
  ·rename_i c; cases h; rw [c]; simp [Tm.den]
  ·split at h
   ·rename_i c; cases h; simpa using (hK x (by simpa using c)).2
   ·split at h
    ·rename_i c
     cases h
     have h1 : (x.1.den ρ).toB = !x.2 := (hK (x.1, !x.2) (by simpa using c)).2
     rw [h1]; cases x.2 <;> rfl
    ·cases h
theorem nO.ext {ρ : LD} {K : List (Tm × Bool)} (h : nO ρ K) (d : D) : nO (ρ ++ [d]) K := by
 intro t ht
 obtain ⟨h1, h2⟩ := h t ht
 exact ⟨Tm.gU h1 (by simp), by rw [Tm.aQ h1]; exact h2⟩
theorem nO.add {ρ : LD} {K : List (Tm × Bool)} {x : Tm × Bool} (h : nO ρ K) (h2 : (x.1.den ρ).toB = x.2) : nO ρ (vW ρ.length x K) := by
 unfold vW
 split
 ·rename_i c
  intro y hy
  rcases List.mem_cons.1 hy with rfl | hy
  ·exact ⟨c, h2⟩
  ·exact h y hy
 ·exact h
theorem oI {E : Env} {v : VC} (h : v.wY = true) (ρ : LD) : v.den E ρ := by
 cases v <;> first | trivial | cases h
theorem dI {E : Env} : ∀ {v : VC} {ρ : LD} {K : List (Tm × Bool)}, nO ρ K → (v.dP ρ.length K).den E ρ → v.den E ρ
 | .tt, _, _, _, _ => trivial
 | .and a b, ρ, K, hK, h => by
  simp only [VC.dP, VC.mk, VC.mkAnd] at h
  split at h
  ·rename_i c; exact ⟨dI hK (oI c ρ), dI hK h⟩
  ·split at h
   ·rename_i c; exact ⟨dI hK h, dI hK (oI c ρ)⟩
   ·exact ⟨dI hK h.1, dI hK h.2⟩
 | .imp t p k, ρ, K, hK, h => by
  intro ht
  have hb := (wB (ρ := ρ) t p).2 ht
  simp only [VC.dP, VC.mk, VC.mkAnd] at h
  split at h
  ·exact dI hK h
  ·rename_i c
   have := aY6 hK c
   simp [hb] at this
  ·split at h
   ·rename_i c; exact dI (hK.add hb) (oI c ρ)
   ·exact dI (hK.add hb) (h ht)
 | .obl t k, ρ, K, hK, h => by
  simp only [VC.dP, VC.mk, VC.mkAnd] at h
  split at h
  ·rename_i c
   have := aY6 hK c
   have hb : ((bare t true).1.den ρ).toB = (bare t true).2 := by simpa using this
   exact ⟨(wB t true).1 hb, fun _ => dI hK h⟩
  ·exact ⟨h.1, fun ht => dI (hK.add ((wB t true).2 ht)) (h.2 ht)⟩
 | .all s k, ρ, K, hK, h => by
  have e : ∀ d : D, (ρ ++ [d]).length = ρ.length + 1 := fun d => by simp
  simp only [VC.dP, VC.mk, VC.mkAnd] at h
  split at h
  ·rename_i c; cases s <;> exact fun x => dI (hK.ext _) (by rw [e]; exact oI c _)
  ·cases s <;> exact fun x => dI (hK.ext _) (by rw [e]; exact h x)
 | .know f k, ρ, K, hK, h => by
  simp only [VC.dP, VC.mk, VC.mkAnd] at h
  split at h
  ·rename_i c; exact fun _ => dI hK (oI c _)
  ·exact fun hf => dI hK (h hf)
 | .pre c ts k, ρ, K, hK, h => ⟨h.1, dI hK h.2⟩
 | .post c ts k, ρ, K, hK, h => by
  simp only [VC.dP, VC.mk, VC.mkAnd] at h
  split at h
  ·rename_i c; exact fun _ => dI hK (oI c _)
  ·exact fun hf => dI hK (h hf)
 | .inv j ts k, ρ, K, hK, h => ⟨h.1, dI hK h.2⟩
 | .asm j ts k, ρ, K, hK, h => by
  simp only [VC.dP, VC.mk, VC.mkAnd] at h
  split at h
  ·rename_i c; exact fun _ => dI hK (oI c _)
  ·exact fun hf => dI hK (h hf)
 | .back j a b, _, _, _, h => h
 | .ret ts, _, _, _, h => h
 | .cut m k, ρ, K, hK, h => by
  show k.den E (ρ.take m)
  exact dI (ρ := ρ.take m) (K := []) (fun t ht => by cases ht) (by rw [List.length_take]; exact h)
def aK5 (cx : Cx) : M := match vP cx with | .ok v => .ok (v.dP 0 []) | .error e => .error e
theorem bF7 {cx : Cx} {vc : VC} {f : FuncId} {own : Sig} {l : List (FuncId × Sig)} {invs : List ((LD → Prop) × (LD → Nat))} (hm : cx.P.follows .mixedOrders = true) (hf : cx.P.funcs[f]? = some cx.fn)
  (hname : (cx.fn.name == "runtime.NumGoroutine") = false) (hown : own.toSigR = cx.own) (hs : cx.sigs = jT 1 l) (hl : ∀ x ∈ l, Kept cx.P cx.G x.1 x.2) (h : aK5 cx = .ok vc)
  (hd : vc.cZ (dS own (l.map (·.2)) invs) []) (hlen : l.length < 199) (hit : ∀ g ∈ cx.iters, jH cx.P g := by intro g h; cases h) : Kept cx.P cx.G f own := by
 unfold aK5 vP at h
 split at h
 ·rename_i v hv
  cases h
  split at hv
  ·rename_i v0 hv0
   cases hv
   exact aQ0 hm hf hname hown hs hl hv0 (fU (ρ := []) (K := []) (fun t ht => by cases ht) (dI (ρ := []) (K := []) (fun t ht => by cases ht) (iH hd))) hlen hit
  ·cases hv
 ·cases h
def tK (cx : Cx) (E : Env) : Prop := match aK5 cx with | .ok v => v.cZ E [] | .error _ => False
def wJ (cx : Cx) (E : Env) : Prop := match vP cx with | .ok v => v.cZ E [] | .error _ => False
theorem aP9 {cx : Cx} {f : FuncId} {own : Sig} {l : List (FuncId × Sig)} {invs : List ((LD → Prop) × (LD → Nat))} {ss : List Sig} {Q : Prop} (hm : cx.P.follows .mixedOrders = true) (hf : cx.P.funcs[f]? = some cx.fn)
  (hname : (cx.fn.name == "runtime.NumGoroutine") = false) (hown : own.toSigR = cx.own) (hs : cx.sigs = jT 1 l) (hl : ∀ x ∈ l, Kept cx.P cx.G x.1 x.2)
  (hss : l.map (·.2) = ss) (hq : tK cx (dS own ss invs) = Q) (q : Q) (hlen : l.length < 199) (hit : ∀ g ∈ cx.iters, jH cx.P g := by intro g h; cases h) : Kept cx.P cx.G f own := by
 have hd : tK cx (dS own (l.map (·.2)) invs) := by rw [hss]; exact Eq.mpr hq q
 unfold tK at hd
 split at hd
 ·rename_i v hv; exact bF7 hm hf hname hown hs hl hv hd hlen hit
 ·exact hd.elim
theorem bF8 {cx : Cx} {f : FuncId} {own : Sig} {l : List (FuncId × Sig)} {invs : List ((LD → Prop) × (LD → Nat))} {ss : List Sig} {Q : Prop} (hm : cx.P.follows .mixedOrders = true) (hf : cx.P.funcs[f]? = some cx.fn)
  (hname : (cx.fn.name == "runtime.NumGoroutine") = false) (hown : own.toSigR = cx.own) (hs : cx.sigs = jT 1 l) (hl : ∀ x ∈ l, Kept cx.P cx.G x.1 x.2)
  (hss : l.map (·.2) = ss) (hq : wJ cx (dS own ss invs) = Q) (q : Q) (hlen : l.length < 199) (hit : ∀ g ∈ cx.iters, jH cx.P g := by intro g h; cases h) : Kept cx.P cx.G f own := by
 have hd : wJ cx (dS own (l.map (·.2)) invs) := by rw [hss]; exact Eq.mpr hq q
 unfold wJ at hd
 split at hd
 ·rename_i v hv; exact keeps hm hf hname hown hs hl hv hd hlen hit
 ·exact hd.elim
end Go.Vc
namespace Go.Vc
theorem aA7 (s : BA) (i : Int) : byteAt s i = (bytesOf s).getD i.toNat 0 := by
 simp only [byteAt, bytesOf, List.getD, List.getElem?_map]
 cases s.data.toList[i.toNat]? <;> rfl
theorem bytesOf_length' (s : BA) : (bytesOf s).length = s.size := by simp [bytesOf]
end Go.Vc
namespace Go.Vc
open Go.RowKit (Below)
def yes : LD → Prop
 | l => l.getLast? = some (.B true)
theorem bI3 {l : LD} {b : Bool} (h : yes (l ++ [.B b])) : b = true := by simpa [yes] using h
theorem aI0 {ρ : LD} : ∀ {as : List AK} {n : Nat}, owns ρ (lY false n as) = []
 | [], _ => rfl
 | a :: as, n => by
  have h := aI0 (ρ := ρ) (as := as) (n := n + a.aA.length)
  rw [lY, bJ, h, List.append_nil]
  cases a with
  | l ek =>
   have : ∀ b : Bool, owns ρ (Ch.rsl (.at n) ek (.at (n + 1)) :: (if b = true then [] else [.abs (.deep ek) [.at (n + 1)]])) = [] := fun b => by cases b <;> rfl
   exact this (dQ ek)
  | _ => rfl
theorem aQ4 {P : Program} {G : List Glob} {f : FuncId} {as : List AK} {pre : LD → Prop} (hk : Kept P G f (bQ as [.b] pre yes)) {args : Array Value} {ρ : LD} {w : World}
  (hs : bC (pU as) ρ) (hp : pre ρ) (ha : aN ρ (zJ 0 as) args.toList) (hh : aJ ρ (lY false 0 as) w) (hg : ∀ g ∈ G, g.holds w) :
  Calls P f args w fun e w' => e = .returned (.bool true) ∧ Below w.heap.size w w' := by
 refine (hk.holds w args ρ hs hp ha hh (fun g h => ⟨hg g h, by show _ ∉ owns ρ (lY false 0 as); rw [aI0]; simp⟩)).mono ?_
 rintro e w' ⟨v, rfl, hfit⟩
 rcases hfit with hfit | ⟨r, hr, _⟩
 rotate_left
 ·cases hr
 obtain ⟨σ, hσ, hpost, hres, _, _, _, hfr⟩ := hfit
 have hfr : dJ w (owns ρ (lY false 0 as)) w' := hfr
 rw [aI0] at hfr
 refine ⟨?_, hfr.below⟩
 have hσ : bC [.B] σ := hσ
 match σ, hσ with
 | [d], hd =>
  obtain ⟨b, rfl⟩ := hd.1
  have hb : b = true := bI3 hpost
  subst hb
  have hl := bH hs
  have hv : v = .bool ((ρ ++ [D.B true]).getD (pU as).length default).toB := hres
  rw [hv]
  simp [List.getD, ← hl]
theorem xY {ρ : LD} {w : World} : aJ ρ [] w := ⟨by simp, by simp [owns], by simp⟩
theorem str_holds {ρ : LD} {s : BA} {i : Nat} (h : ρ[i]? = some (.S s)) (hs : s.size ≤ 140737488351232) : (SV.one (.lf (.str (.at i)))).holds ρ (.string s) := by
 have e : (Tm.den ρ (.at i)) = .S s := by simp [Tm.den, List.getD, h]
 show Value.string s = .string (Tm.den ρ (.at i)).toS ∧ ((Tm.den ρ (.at i)).toS.size : Int) ≤ aY
 rw [e]; refine ⟨rfl, ?_⟩
 show (s.size : Int) ≤ 9223372036854775807
 omega
theorem aJ9 {ρ : LD} {x : SV} {xs : List SV} {v : Value} {vs : List Value} (h : x.holds ρ v) (h' : aN ρ xs vs) : aN ρ (x :: xs) (v :: vs) := ⟨v, vs, rfl, h, h'⟩
theorem aX8 {ρ : LD} : aN ρ [] [] := rfl
end Go.Vc
namespace Go.Vc
end Go.Vc