/-
 Bits of whole numbers: plain laws, with no program in sight.
 Contracts, written short.
 Conditions made short, and read as plain statements.
 Texts as lists of bytes: plain laws.
 From a law's contract to its walk.
 Contracts whose words are parts of others: many words as one.
-/
import Derived.Test.YtfhmokjjjnjhjaaGreatDoorVcg
import Derived.Laws.Closers25b
set_option linter.unusedVariables false
set_option linter.unusedSimpArgs false
open _root_.Go.IntKind (wrap)
namespace Go.Vc
theorem bY1 (v : Int) : IntKind.i64.has v ↔ -9223372036854775808 ≤ v ∧ v < 9223372036854775808 := by
 simp only [IntKind.has, IntKind.min, IntKind.max, IntKind.signed, IntKind.bits]
 constructor <;> rintro ⟨h1, h2⟩ <;> constructor <;> simp at * <;> omega
theorem cK6 {v : Int} (h0 : 0 ≤ v) (h1 : v < 18446744073709551616) : IntKind.u64.wrap v = v := by
 rw [IntKind.wrap_u64]; omega
end Go.Vc
namespace Go.Vc
inductive AK where
 | i (k : IntKind) | b | s | z (k : IntKind) | l (ek : EK) | a (k : IntKind) (n : Nat)
def AK.sv (n : Nat) : AK → SV
 | .i k => .one (.lf (.int k (.at n)))
 | .b => .one (.lf (.bool (.at n)))
 | .s => .one (.lf (.str (.at n)))
 | .z _ => .one (.lf (.sl (.at n)))
 | .l _ => .one (.lf (.sl (.at n)))
 | .a k m => .one (.agg [.ints k m (.at n)])
def AK.aB : AK → List Srt
 | .i _ => [.I] | .b => [.B] | .s => [.S] | .z _ => [.V, .Z] | .l _ => [.V, .L] | .a _ _ => [.Z]
def AK.chs (own : Bool) (n : Nat) : AK → List Ch
 | .z k => [if own then .osl (.at n) [.int k] (.at (n + 1)) else .rsl (.at n) [.int k] (.at (n + 1))]
 | .l ek => (if own then .osl (.at n) ek (.at (n + 1)) else .rsl (.at n) ek (.at (n + 1))) :: (if fV ek then [] else [.abs (.deep ek) [.at (n + 1)]])
 | _ => []
def aB9 : Nat → List AK → List SV
 | _, [] => []
 | n, a :: r => a.sv n :: aB9 (n + a.aB.length) r
def aD9 (own : Bool) : Nat → List AK → List Ch
 | _, [] => []
 | n, a :: r => a.chs own n ++ aD9 own (n + a.aB.length) r
def jP : List AK → List Srt
 | [] => []
 | a :: r => a.aB ++ jP r
def cF3 : List SV → SV
 | [x] => x
 | xs => .tup (xs.map fun x => match x with | .one y => y | _ => .lf .junk)
def eX (as rs : List AK) (pre post : LD → Prop) : Sig :=
 { args := aB9 0 as, heap := aD9 false 0 as, aB := jP as, res := cF3 (aB9 (jP as).length rs), heap' := aD9 true (jP as).length rs, news := jP rs, pre := pre, post := post }
end Go.Vc
namespace Go.Vc
def VC.tidy (n : Nat) (K : List Tm) : VC → VC
 | .tt => .tt
 | .and a b => .and (a.tidy n K) (b.tidy n K)
 | .imp t p k => if p && t.under n then (if K.contains t then k.tidy n K else .imp t p (k.tidy n (t :: K))) else .imp t p (k.tidy n K)
 | .obl t k => if K.contains t then k.tidy n K else if t.under n then .obl t (k.tidy n (t :: K)) else .obl t (k.tidy n K)
 | .all s k => .all s (k.tidy (n + 1) K)
 | .know f k => .know f (k.tidy n K)
 | .pre c ts k => .pre c ts (k.tidy n K)
 | .post c ts k => .post c ts (k.tidy n K)
 | .inv j ts k => .inv j ts (k.tidy n K)
 | .asm j ts k => .asm j ts (k.tidy n K)
 | .back j a b => .back j a b
 | .ret ts => .ret ts
 | .cut m k => .cut m (k.tidy (min m n) [])
def uN (ρ : LD) (K : List Tm) : Prop := ∀ t ∈ K, t.under ρ.length = true ∧ (t.den ρ).toB = true
theorem uN.ext {ρ : LD} {K : List Tm} (h : uN ρ K) (d : D) : uN (ρ ++ [d]) K := by
 intro t ht
 obtain ⟨h1, h2⟩ := h t ht
 exact ⟨Tm.kF h1 (by simp), by rw [Tm.bH h1]; exact h2⟩
theorem uN.cons {ρ : LD} {K : List Tm} {t : Tm} (h : uN ρ K) (h1 : t.under ρ.length = true) (h2 : (t.den ρ).toB = true) : uN ρ (t :: K) := by
 intro u hu
 rcases List.mem_cons.1 hu with rfl | hu
 ·exact ⟨h1, h2⟩
 ·exact h u hu
theorem jR {E : Env} : ∀ {v : VC} {ρ : LD} {K : List Tm}, uN ρ K → (v.tidy ρ.length K).den E ρ → v.den E ρ
 | .tt, _, _, _, _ => trivial
 | .and a b, ρ, K, hK, h => ⟨jR hK h.1, jR hK h.2⟩
 | .imp t p k, ρ, K, hK, h => by
  intro ht
  simp only [VC.tidy] at h
  split at h
  ·rename_i c
   simp only [Bool.and_eq_true] at c
   obtain ⟨rfl, c2⟩ := c
   split at h
   ·exact jR hK h
   ·exact jR (hK.cons c2 ht) (h ht)
  ·exact jR hK (h ht)
 | .obl t k, ρ, K, hK, h => by
  simp only [VC.tidy] at h
  split at h
  ·rename_i c
   have hm : t ∈ K := by simpa using c
   exact ⟨(hK t hm).2, fun _ => jR hK h⟩
  ·split at h
   ·rename_i c
    exact ⟨h.1, fun ht => jR (hK.cons c ht) (h.2 ht)⟩
   ·exact ⟨h.1, fun ht => jR hK (h.2 ht)⟩
 | .all s k, ρ, K, hK, h => by
  have e : ∀ d : D, (ρ ++ [d]).length = ρ.length + 1 := fun d => by simp
  cases s <;> (intro x; exact jR (hK.ext _) (by rw [e]; exact h x))
 | .know f k, ρ, K, hK, h => fun hf => jR hK (h hf)
 | .pre c ts k, ρ, K, hK, h => ⟨h.1, jR hK h.2⟩
 | .post c ts k, ρ, K, hK, h => fun hp => jR hK (h hp)
 | .inv j ts k, ρ, K, hK, h => ⟨h.1, jR hK h.2⟩
 | .asm j ts k, ρ, K, hK, h => fun hp => jR hK (h hp)
 | .back j a b, _, _, _, h => h
 | .ret ts, _, _, _, h => h
 | .cut m k, ρ, K, hK, h => by
  show k.den E (ρ.take m)
  exact jR (ρ := ρ.take m) (K := []) (fun t ht => by cases ht) (by rw [List.length_take]; exact h)
mutual
def Tm.yes (ρ : LD) : Tm → Prop
 | .o2 .lt a b => (a.den ρ).toI < (b.den ρ).toI
 | .o2 .le a b => (a.den ρ).toI ≤ (b.den ρ).toI
 | .o2 .eq a b => (a.den ρ).toI = (b.den ρ).toI
 | .o2 .eqb a b => (a.den ρ).toB = (b.den ρ).toB
 | .o2 .eqs a b => (a.den ρ).toS = (b.den ρ).toS
 | .o2 .and a b => a.yes ρ ∧ b.yes ρ
 | .o2 .or a b => a.yes ρ ∨ b.yes ρ
 | .o1 .not a => a.no ρ
 | t => (t.den ρ).toB = true
def Tm.no (ρ : LD) : Tm → Prop
 | .o2 .lt a b => (b.den ρ).toI ≤ (a.den ρ).toI
 | .o2 .le a b => (b.den ρ).toI < (a.den ρ).toI
 | .o2 .eq a b => (a.den ρ).toI ≠ (b.den ρ).toI
 | .o2 .eqb a b => (a.den ρ).toB ≠ (b.den ρ).toB
 | .o2 .eqs a b => (a.den ρ).toS ≠ (b.den ρ).toS
 | .o2 .and a b => a.no ρ ∨ b.no ρ
 | .o2 .or a b => a.no ρ ∧ b.no ρ
 | .o1 .not a => a.yes ρ
 | t => (t.den ρ).toB = false
end
theorem bytes_eq {a b : BA} : (a.toList == b.toList) = true ↔ a = b := by
 rw [beq_iff_eq]
 constructor
 ·intro h
  rw [ByteArray.toList_eq, ByteArray.toList_eq] at h
  cases a; cases b
  simp at h
  simp [h]
 ·rintro rfl; rfl
theorem vT {ρ : LD} : ∀ (t : Tm), (t.yes ρ ↔ (t.den ρ).toB = true) ∧ (t.no ρ ↔ (t.den ρ).toB = false)
 | .at _ => ⟨Iff.rfl, Iff.rfl⟩
 | .int _ => ⟨Iff.rfl, Iff.rfl⟩
 | .bool _ => ⟨Iff.rfl, Iff.rfl⟩
 | .str _ => ⟨Iff.rfl, Iff.rfl⟩
 | .nat _ => ⟨Iff.rfl, Iff.rfl⟩
 | .lis _ => ⟨Iff.rfl, Iff.rfl⟩
 | .lnil => ⟨Iff.rfl, Iff.rfl⟩
 | .o1 o a => by
  have h := vT (ρ := ρ) a
  cases o <;> first | exact ⟨Iff.rfl, Iff.rfl⟩ | skip
  constructor
  ·simp only [Tm.yes, Tm.den, O1.den, D.toB_B, h.2, Bool.not_eq_true']
  ·simp only [Tm.no, Tm.den, O1.den, D.toB_B, h.1, Bool.not_eq_false']
 | .o2 o a b => by
  have h := vT (ρ := ρ) a
  have h' := vT (ρ := ρ) b
  cases o <;> first | exact ⟨Iff.rfl, Iff.rfl⟩ | skip
  ·constructor <;> simp [Tm.yes, Tm.no, Tm.den, O2.den]
  ·constructor <;> simp [Tm.yes, Tm.no, Tm.den, O2.den]
  ·constructor <;> simp [Tm.yes, Tm.no, Tm.den, O2.den]
  ·constructor <;> simp [Tm.yes, Tm.no, Tm.den, O2.den]
  ·constructor
   ·simp only [Tm.yes, Tm.den, O2.den, D.toB_B]; exact bytes_eq.symm
   ·simp only [Tm.no, Tm.den, O2.den, D.toB_B]
    rw [← Bool.not_eq_true]
    exact not_congr bytes_eq.symm
  ·constructor
   ·simp only [Tm.yes, Tm.den, O2.den, D.toB_B, h.1, h'.1, Bool.and_eq_true]
   ·simp only [Tm.no, Tm.den, O2.den, D.toB_B, h.2, h'.2, Bool.and_eq_false_iff]
  ·constructor
   ·simp only [Tm.yes, Tm.den, O2.den, D.toB_B, h.1, h'.1, Bool.or_eq_true]
   ·simp only [Tm.no, Tm.den, O2.den, D.toB_B, h.2, h'.2, Bool.or_eq_false_iff]
 | .o3 _ _ _ _ => ⟨Iff.rfl, Iff.rfl⟩
def IntKind.in_ (k : IntKind) (x : Int) : Prop :=
 match k with
 | .u8 => 0 ≤ x ∧ x < 256
 | .u16 => 0 ≤ x ∧ x < 65536
 | .u32 => 0 ≤ x ∧ x < 4294967296
 | .u64 => 0 ≤ x ∧ x < 18446744073709551616
 | .i8 => -128 ≤ x ∧ x < 128
 | .i16 => -32768 ≤ x ∧ x < 32768
 | .i32 => -2147483648 ≤ x ∧ x < 2147483648
 | .i64 => -9223372036854775808 ≤ x ∧ x < 9223372036854775808
theorem bX6 {k : IntKind} {x : Int} : k.has x ↔ IntKind.in_ k x := by
 cases k <;> simp only [IntKind.has, IntKind.in_, IntKind.min, IntKind.max, IntKind.signed, IntKind.bits] <;> constructor <;> rintro ⟨h1, h2⟩ <;> constructor <;> simp at * <;> omega
def Fact.dU (ρ : LD) : Fact → Prop
 | .has .u8 t => 0 ≤ (t.den ρ).toI ∧ (t.den ρ).toI < 256
 | .has .u16 t => 0 ≤ (t.den ρ).toI ∧ (t.den ρ).toI < 65536
 | .has .u32 t => 0 ≤ (t.den ρ).toI ∧ (t.den ρ).toI < 4294967296
 | .has .u64 t => 0 ≤ (t.den ρ).toI ∧ (t.den ρ).toI < 18446744073709551616
 | .has .i8 t => -128 ≤ (t.den ρ).toI ∧ (t.den ρ).toI < 128
 | .has .i16 t => -32768 ≤ (t.den ρ).toI ∧ (t.den ρ).toI < 32768
 | .has .i32 t => -2147483648 ≤ (t.den ρ).toI ∧ (t.den ρ).toI < 2147483648
 | .has .i64 t => -9223372036854775808 ≤ (t.den ρ).toI ∧ (t.den ρ).toI < 9223372036854775808
 | .ssz t => ((t.den ρ).toS.size : Int) ≤ 9223372036854775807
 | f => f.den ρ
theorem bW3 {ρ : LD} {f : Fact} (h : f.den ρ) : f.dU ρ := by
 cases f with
 | has k t => cases k <;> exact bX6.1 h
 | _ => exact h
def VC.dU (E : Env) : VC → LD → Prop
 | .tt, _ => True
 | .and a b, ρ => a.dU E ρ ∧ b.dU E ρ
 | .imp t true k, ρ => t.yes ρ → k.dU E ρ
 | .imp t false k, ρ => t.no ρ → k.dU E ρ
 | .obl t k, ρ => t.yes ρ ∧ (t.yes ρ → k.dU E ρ)
 | .all .I c, ρ => ∀ x : Int, c.dU E (ρ ++ [.I x])
 | .all .B c, ρ => ∀ x : Bool, c.dU E (ρ ++ [.B x])
 | .all .S c, ρ => ∀ x : BA, c.dU E (ρ ++ [.S x])
 | .all .Z c, ρ => ∀ x : LI, c.dU E (ρ ++ [.Z x])
 | .all .L c, ρ => ∀ x : LD, c.dU E (ρ ++ [.L x])
 | .all .N c, ρ => ∀ x : Nat, c.dU E (ρ ++ [.N x])
 | .all .V c, ρ => ∀ x : Value, c.dU E (ρ ++ [.V x])
 | .know f k, ρ => f.dU ρ → k.dU E ρ
 | .pre c ts k, ρ => E.pre c (ts.map (Tm.den ρ)) ∧ k.dU E ρ
 | .post c ts k, ρ => E.post c (ts.map (Tm.den ρ)) → k.dU E ρ
 | .inv j ts k, ρ => E.inv j (ts.map (Tm.den ρ)) ∧ k.dU E ρ
 | .asm j ts k, ρ => E.inv j (ts.map (Tm.den ρ)) → k.dU E ρ
 | .back j old new, ρ => E.inv j (new.map (Tm.den ρ)) ∧ E.meas j (new.map (Tm.den ρ)) < E.meas j (old.map (Tm.den ρ))
 | .ret ts, ρ => E.ret (ts.map (Tm.den ρ))
 | .cut n k, ρ => k.dU E (ρ.take n)
theorem kV {E : Env} : ∀ {v : VC} {ρ : LD}, v.dU E ρ → v.den E ρ
 | .tt, _, _ => trivial
 | .and a b, ρ, h => ⟨kV h.1, kV h.2⟩
 | .imp t true k, ρ, h => fun ht => kV (h ((vT t).1.2 ht))
 | .imp t false k, ρ, h => fun ht => kV (h ((vT t).2.2 ht))
 | .obl t k, ρ, h => ⟨(vT t).1.1 h.1, fun ht => kV (h.2 ((vT t).1.2 ht))⟩
 | .all s k, ρ, h => by cases s <;> exact fun x => kV (h x)
 | .know f k, ρ, h => fun hf => kV (h (bW3 hf))
 | .pre c ts k, ρ, h => ⟨h.1, kV h.2⟩
 | .post c ts k, ρ, h => fun hp => kV (h hp)
 | .inv j ts k, ρ, h => ⟨h.1, kV h.2⟩
 | .asm j ts k, ρ, h => fun hp => kV (h hp)
 | .back j a b, _, h => h
 | .ret ts, _, h => h
 | .cut n k, ρ, h => kV (v := k) h
def aC3 (cx : Cx) : M := match aC2 cx with | .ok v => .ok (v.tidy 0 []) | .error e => .error e
theorem keeps {cx : Cx} {vc : VC} {f : FuncId} {own : Sig} {l : List (FuncId × Sig)} {invs : List ((LD → Prop) × (LD → Nat))} (hm : cx.P.follows .mixedOrders = true) (hf : cx.P.funcs[f]? = some cx.fn)
  (hname : (cx.fn.name == "runtime.NumGoroutine") = false) (hown : own.toSigR = cx.own) (hs : cx.sigs = nU 1 l) (hl : ∀ x ∈ l, Kept cx.P cx.G x.1 x.2) (h : aC3 cx = .ok vc)
  (hd : vc.dU (gB own (l.map (·.2)) invs) []) (hlen : l.length < 199) (hit : ∀ g ∈ cx.iters, nC cx.P g := by intro g h; cases h) : Kept cx.P cx.G f own := by
 unfold aC3 at h
 split at h
 ·rename_i v hv
  cases h
  exact bG2 hm hf hname hown hs hl hv (jR (ρ := []) (K := []) (fun t ht => by cases ht) (kV hd)) hlen hit
 ·cases h
def VC.aG2 : VC → Bool
 | .tt => true
 | _ => false
def bare : Tm → Bool → Tm × Bool
 | .o1 .not t, p => bare t (!p)
 | t, p => (t, p)
def aL6 : Tm → Option Bool
 | .o2 .eq (.int a) (.int b) => some (a == b)
 | .o2 .lt (.int a) (.int b) => some (decide (a < b))
 | .o2 .le (.int a) (.int b) => some (decide (a ≤ b))
 | _ => none
theorem bP5 {ρ : LD} {t : Tm} {b : Bool} (h : aL6 t = some b) : (t.den ρ).toB = b := by
 unfold aL6 at h
 split at h <;> first | (cases h; rfl) | cases h
def aL5 (K : List (Tm × Bool)) (x : Tm × Bool) : Option Bool :=
 if aL6 x.1 = some x.2 then some true else if aL6 x.1 = some (!x.2) then some false else if x.1 = .bool x.2 then some true else if x.1 = .bool (!x.2) then some false else if K.contains x then some true else if K.contains (x.1, !x.2) then some false else none
def aC8 (n : Nat) (x : Tm × Bool) (K : List (Tm × Bool)) : List (Tm × Bool) := if x.1.under n then x :: K else K
def VC.mk (c : VC → VC) (v : VC) : VC := if v.aG2 then .tt else c v
def VC.mkAnd (a b : VC) : VC := if a.aG2 then b else if b.aG2 then a else .and a b
def VC.fQ (n : Nat) (K : List (Tm × Bool)) : VC → VC
 | .tt => .tt
 | .and a b => VC.mkAnd (a.fQ n K) (b.fQ n K)
 | .imp t p k => match aL5 K (bare t p) with
  | some true => k.fQ n K
  | some false => .tt
  | none => VC.mk (.imp t p) (k.fQ n (aC8 n (bare t p) K))
 | .obl t k => match aL5 K (bare t true) with
  | some true => k.fQ n K
  | _ => .obl t (k.fQ n (aC8 n (bare t true) K))
 | .all s k => VC.mk (.all s) (k.fQ (n + 1) K)
 | .know f k => VC.mk (.know f) (k.fQ n K)
 | .pre c ts k => .pre c ts (k.fQ n K)
 | .post c ts k => VC.mk (.post c ts) (k.fQ n K)
 | .inv j ts k => .inv j ts (k.fQ n K)
 | .asm j ts k => VC.mk (.asm j ts) (k.fQ n K)
 | .back j a b => .back j a b
 | .ret ts => .ret ts
 | .cut m k => .cut m (k.fQ (min m n) [])
theorem aD2 {ρ : LD} : ∀ (t : Tm) (p : Bool), ((bare t p).1.den ρ).toB = (bare t p).2 ↔ (t.den ρ).toB = p
 | .o1 .not t, p => by
  rw [bare, aD2 t (!p)]
  show _ ↔ (!(t.den ρ).toB) = p
  cases (t.den ρ).toB <;> cases p <;> simp
 | .o1 (.wrap _) _, _ | .o1 .slen _, _ | .o1 .lilen _, _ | .o1 .llen _, _ | .o1 .ofLi _, _ | .o1 .aH _, _ | .o1 .asI _, _ | .o1 .asB _, _ | .o1 .asS _, _ | .o1 .asZ _, _ | .o1 .asL _, _ | .o1 .asV _, _ | .o1 .asN _, _ | .o1 .lines _, _ | .o1 .hdr _, _ => Iff.rfl
 | .at _, _ | .int _, _ | .bool _, _ | .str _, _ | .nat _, _ | .lis _, _ | .lnil, _ | .o2 _ _ _, _ | .o3 _ _ _ _, _ => Iff.rfl
def sW (ρ : LD) (K : List (Tm × Bool)) : Prop := ∀ x ∈ K, x.1.under ρ.length = true ∧ (x.1.den ρ).toB = x.2
theorem bP4 {ρ : LD} {K : List (Tm × Bool)} {x : Tm × Bool} {b : Bool} (hK : sW ρ K) (h : aL5 K x = some b) : decide ((x.1.den ρ).toB = x.2) = b := by
 unfold aL5 at h
 split at h
 ·rename_i c; cases h; simp [bP5 (ρ := ρ) c]
 split at h
 ·rename_i c; cases h; rw [bP5 (ρ := ρ) c]; cases x.2 <;> rfl
 split at h
 ·rename_i c; cases h; rw [c]; simp [Tm.den]
 ·split at h
  ·rename_i c; cases h; rw [c]; simp [Tm.den]
  ·split at h
   ·rename_i c; cases h; simpa using (hK x (by simpa using c)).2
   ·split at h
    ·rename_i c
     cases h
     have h1 : (x.1.den ρ).toB = !x.2 := (hK (x.1, !x.2) (by simpa using c)).2
     rw [h1]; cases x.2 <;> rfl
    ·cases h
theorem sW.ext {ρ : LD} {K : List (Tm × Bool)} (h : sW ρ K) (d : D) : sW (ρ ++ [d]) K := by
 intro t ht
 obtain ⟨h1, h2⟩ := h t ht
 exact ⟨Tm.kF h1 (by simp), by rw [Tm.bH h1]; exact h2⟩
theorem sW.add {ρ : LD} {K : List (Tm × Bool)} {x : Tm × Bool} (h : sW ρ K) (h2 : (x.1.den ρ).toB = x.2) : sW ρ (aC8 ρ.length x K) := by
 unfold aC8
 split
 ·rename_i c
  intro y hy
  rcases List.mem_cons.1 hy with rfl | hy
  ·exact ⟨c, h2⟩
  ·exact h y hy
 ·exact h
theorem uM {E : Env} {v : VC} (h : v.aG2 = true) (ρ : LD) : v.den E ρ := by
 cases v <;> first | trivial | cases h
theorem fD {E : Env} : ∀ {v : VC} {ρ : LD} {K : List (Tm × Bool)}, sW ρ K → (v.fQ ρ.length K).den E ρ → v.den E ρ
 | .tt, _, _, _, _ => trivial
 | .and a b, ρ, K, hK, h => by
  simp only [VC.fQ, VC.mk, VC.mkAnd] at h
  split at h
  ·rename_i c; exact ⟨fD hK (uM c ρ), fD hK h⟩
  ·split at h
   ·rename_i c; exact ⟨fD hK h, fD hK (uM c ρ)⟩
   ·exact ⟨fD hK h.1, fD hK h.2⟩
 | .imp t p k, ρ, K, hK, h => by
  intro ht
  have hb := (aD2 (ρ := ρ) t p).2 ht
  simp only [VC.fQ, VC.mk, VC.mkAnd] at h
  split at h
  ·exact fD hK h
  ·rename_i c
   have := bP4 hK c
   simp [hb] at this
  ·split at h
   ·rename_i c; exact fD (hK.add hb) (uM c ρ)
   ·exact fD (hK.add hb) (h ht)
 | .obl t k, ρ, K, hK, h => by
  simp only [VC.fQ, VC.mk, VC.mkAnd] at h
  split at h
  ·rename_i c
   have := bP4 hK c
   have hb : ((bare t true).1.den ρ).toB = (bare t true).2 := by simpa using this
   exact ⟨(aD2 t true).1 hb, fun _ => fD hK h⟩
  ·exact ⟨h.1, fun ht => fD (hK.add ((aD2 t true).2 ht)) (h.2 ht)⟩
 | .all s k, ρ, K, hK, h => by
  have e : ∀ d : D, (ρ ++ [d]).length = ρ.length + 1 := fun d => by simp
  simp only [VC.fQ, VC.mk, VC.mkAnd] at h
  split at h
  ·rename_i c; cases s <;> exact fun x => fD (hK.ext _) (by rw [e]; exact uM c _)
  ·cases s <;> exact fun x => fD (hK.ext _) (by rw [e]; exact h x)
 | .know f k, ρ, K, hK, h => by
  simp only [VC.fQ, VC.mk, VC.mkAnd] at h
  split at h
  ·rename_i c; exact fun _ => fD hK (uM c _)
  ·exact fun hf => fD hK (h hf)
 | .pre c ts k, ρ, K, hK, h => ⟨h.1, fD hK h.2⟩
 | .post c ts k, ρ, K, hK, h => by
  simp only [VC.fQ, VC.mk, VC.mkAnd] at h
  split at h
  ·rename_i c; exact fun _ => fD hK (uM c _)
  ·exact fun hf => fD hK (h hf)
 | .inv j ts k, ρ, K, hK, h => ⟨h.1, fD hK h.2⟩
 | .asm j ts k, ρ, K, hK, h => by
  simp only [VC.fQ, VC.mk, VC.mkAnd] at h
  split at h
  ·rename_i c; exact fun _ => fD hK (uM c _)
  ·exact fun hf => fD hK (h hf)
 | .back j a b, _, _, _, h => h
 | .ret ts, _, _, _, h => h
 | .cut m k, ρ, K, hK, h => by
  show k.den E (ρ.take m)
  exact fD (ρ := ρ.take m) (K := []) (fun t ht => by cases ht) (by rw [List.length_take]; exact h)
def aY7 (cx : Cx) : M := match aC3 cx with | .ok v => .ok (v.fQ 0 []) | .error e => .error e
theorem bY5 {cx : Cx} {vc : VC} {f : FuncId} {own : Sig} {l : List (FuncId × Sig)} {invs : List ((LD → Prop) × (LD → Nat))} (hm : cx.P.follows .mixedOrders = true) (hf : cx.P.funcs[f]? = some cx.fn)
  (hname : (cx.fn.name == "runtime.NumGoroutine") = false) (hown : own.toSigR = cx.own) (hs : cx.sigs = nU 1 l) (hl : ∀ x ∈ l, Kept cx.P cx.G x.1 x.2) (h : aY7 cx = .ok vc)
  (hd : vc.dU (gB own (l.map (·.2)) invs) []) (hlen : l.length < 199) (hit : ∀ g ∈ cx.iters, nC cx.P g := by intro g h; cases h) : Kept cx.P cx.G f own := by
 unfold aY7 aC3 at h
 split at h
 ·rename_i v hv
  cases h
  split at hv
  ·rename_i v0 hv0
   cases hv
   exact bG2 hm hf hname hown hs hl hv0 (jR (ρ := []) (K := []) (fun t ht => by cases ht) (fD (ρ := []) (K := []) (fun t ht => by cases ht) (kV hd))) hlen hit
  ·cases hv
 ·cases h
def yU (cx : Cx) (E : Env) : Prop := match aY7 cx with | .ok v => v.dU E [] | .error _ => False
def aE4 (cx : Cx) (E : Env) : Prop := match aC3 cx with | .ok v => v.dU E [] | .error _ => False
theorem bG1 {cx : Cx} {f : FuncId} {own : Sig} {l : List (FuncId × Sig)} {invs : List ((LD → Prop) × (LD → Nat))} {ss : List Sig} {Q : Prop} (hm : cx.P.follows .mixedOrders = true) (hf : cx.P.funcs[f]? = some cx.fn)
  (hname : (cx.fn.name == "runtime.NumGoroutine") = false) (hown : own.toSigR = cx.own) (hs : cx.sigs = nU 1 l) (hl : ∀ x ∈ l, Kept cx.P cx.G x.1 x.2)
  (hss : l.map (·.2) = ss) (hq : yU cx (gB own ss invs) = Q) (q : Q) (hlen : l.length < 199) (hit : ∀ g ∈ cx.iters, nC cx.P g := by intro g h; cases h) : Kept cx.P cx.G f own := by
 have hd : yU cx (gB own (l.map (·.2)) invs) := by rw [hss]; exact Eq.mpr hq q
 unfold yU at hd
 split at hd
 ·rename_i v hv; exact bY5 hm hf hname hown hs hl hv hd hlen hit
 ·exact hd.elim
theorem bY6 {cx : Cx} {f : FuncId} {own : Sig} {l : List (FuncId × Sig)} {invs : List ((LD → Prop) × (LD → Nat))} {ss : List Sig} {Q : Prop} (hm : cx.P.follows .mixedOrders = true) (hf : cx.P.funcs[f]? = some cx.fn)
  (hname : (cx.fn.name == "runtime.NumGoroutine") = false) (hown : own.toSigR = cx.own) (hs : cx.sigs = nU 1 l) (hl : ∀ x ∈ l, Kept cx.P cx.G x.1 x.2)
  (hss : l.map (·.2) = ss) (hq : aE4 cx (gB own ss invs) = Q) (q : Q) (hlen : l.length < 199) (hit : ∀ g ∈ cx.iters, nC cx.P g := by intro g h; cases h) : Kept cx.P cx.G f own := by
 have hd : aE4 cx (gB own (l.map (·.2)) invs) := by rw [hss]; exact Eq.mpr hq q
 unfold aE4 at hd
 split at hd
 ·rename_i v hv; exact keeps hm hf hname hown hs hl hv hd hlen hit
 ·exact hd.elim
end Go.Vc
namespace Go.Vc
theorem bA6 (s : BA) (i : Int) : byteAt s i = (bytesOf s).getD i.toNat 0 := by
 simp only [byteAt, bytesOf, List.getD, List.getElem?_map]
 cases s.data.toList[i.toNat]? <;> rfl
theorem bytesOf_length' (s : BA) : (bytesOf s).length = s.size := by simp [bytesOf]
end Go.Vc
namespace Go.Vc
open Go.RowKit (Below)
def yes : LD → Prop
 | l => l.getLast? = some (.B true)
theorem bJ0 {ρ : LD} {w : World} : aN ρ [] w := ⟨by simp, by simp [owns], by simp⟩
theorem cO2 {ρ : LD} {k : IntKind} {n : Int} {i : Nat} (h : ρ[i]? = some (.I n)) (hw : (Lit.int k n).wf = true) : (SV.one (.lf (.int k (.at i)))).holds ρ (.int k n) := by
 have e : (Tm.den ρ (.at i)) = .I n := by simp [Tm.den, List.getD, h]
 show Value.int k n = .int k (Tm.den ρ (.at i)).toI ∧ k.has (Tm.den ρ (.at i)).toI
 rw [e]; exact ⟨rfl, cR5 hw⟩
theorem str_holds {ρ : LD} {s : BA} {i : Nat} (h : ρ[i]? = some (.S s)) (hs : s.size ≤ 140737488351232) : (SV.one (.lf (.str (.at i)))).holds ρ (.string s) := by
 have e : (Tm.den ρ (.at i)) = .S s := by simp [Tm.den, List.getD, h]
 show Value.string s = .string (Tm.den ρ (.at i)).toS ∧ ((Tm.den ρ (.at i)).toS.size : Int) ≤ bW
 rw [e]; refine ⟨rfl, ?_⟩
 show (s.size : Int) ≤ 9223372036854775807
 omega
theorem cI0 {ρ : LD} {x : SV} {xs : List SV} {v : Value} {vs : List Value} (h : x.holds ρ v) (h' : aU ρ xs vs) : aU ρ (x :: xs) (v :: vs) := ⟨v, vs, rfl, h, h'⟩
theorem cI1 {ρ : LD} : aU ρ [] [] := rfl
end Go.Vc
namespace Go.Vc
end Go.Vc