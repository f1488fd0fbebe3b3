/-
 Soundness: code within a round of a range over a function.
 A range over strings.SplitSeq's function: the law.
 Soundness: a range over strings.SplitSeq's function.
 Soundness: a range over strings.SplitSeq's function: what is asked for suffices.
-/
import Derived.Test.YtfhmokjjjnjhjaaGreatDoorVce
import Derived.OrdersIn
import Derived.RangeFuncLeaves
import Derived.TacticsIn
import Derived.RangeFuncCalls
set_option linter.unusedVariables false
set_option linter.unusedSimpArgs false
open _root_.Go.IntKind (wrap)
namespace Go.Vc
def fr : Option Nat → Fence
 | none => Fence.wide
 | some l => Fence.wide.inRound l
theorem aR1 (ro : Option Nat) (f : FuncId) : (fr ro).fn f := by cases ro <;> trivial
theorem bW8 (ro : Option Nat) : (fr ro).depth = none := by cases ro <;> rfl
theorem bW9 (ro : Option Nat) : (fr ro).round = ro := by cases ro <;> rfl
theorem bT3 {ro : Option Nat} {n : Nat} {P : Program} {f : FuncId} {args : Array Value} {w : World} {R : Ending → World → Prop} (h : Calls P f args w R) : CallsIn (fr ro) n P f args w R := by
 cases ro with
 | none => exact callsIn_wide.2 h
 | some l => exact CallsIn.inRound l (callsIn_wide.2 h)
def dS (a : Act) (ds : List Deferred) : Act := { a with defers := ds }
theorem aC5 (a : Act) (ds : List Deferred) (d : Option Tmp) (v : Value) : (dS a ds).put d v = dS (a.put d v) ds := by cases d <;> rfl
theorem bK1 {ro : Option Nat} {n : Nat} {P : Program} {o : Oper} {a : Act} {w : World} {ds : List Deferred} {K KK : Act → World → Prop} {Q : Exit → Act → World → Prop} (hn : xE o = true) (h : owp P o a w K) (hK : ∀ a' w', K a' w' → KK (dS a' ds) w') :
  o.wpIn (fr ro) n P (dS a ds) w KK Q := by
 refine ⟨fun f _ => aR1 ro f, ?_⟩
 have hs : Oper.semAt (fr ro).round (dS a ds).eval o = execOp a.eval o := by
  rw [bW9]
  cases ro with
  | none => rfl
  | some l => exact Oper.semAt_some l _ _ fun c hc => by unfold xE at hn; rw [hc] at hn; cases hn
 rw [hs]
 unfold owp at h
 generalize (execOp a.eval o).run P w = r at h ⊢
 cases r with
 | ok x w' =>
  cases x <;> first | exact h.elim | skip
  ·rw [Oper.uponIn_value, aC5]; exact hK _ _ h
  ·rw [Oper.uponIn_skip, aC5]; exact hK _ _ h
  ·rw [Oper.uponIn_enter]
   refine ⟨fun hd => (by rw [bW8] at hd; cases hd), (bT3 h).mono (fun e w'' he => ?_)⟩
   cases e <;> first | exact he.elim | skip
   show KK ((dS a ds).put o.dst _) w''
   rw [aC5]; exact hK _ _ he
 | halt x w' => exact h.elim
section
variable {E : Env} {G : List Glob} {w0 : World} {D0 R0 : List Nat} {ρ0 ρ τ : LD} {S T : St} {a : Act} {w : World} {cx : Cx} {vc : VC} {K : List KI} {ro : Option Nat} {n : Nat} {ds : List Deferred}
theorem cI2 {all : Array Oper} {i : Nat} {next : St → M} {Q : Exit → Act → World → Prop} {KK : Act → World → Prop} (hG : cx.G = G) (hsig : mZ cx E) (hr : Rel G w0 D0 R0 ρ S a w) (hn : all.all xE = true)
  (h : kC cx all i S next = .ok vc) (hd : vc.den E ρ) (hK : ∀ a' w', Nx E G w0 D0 R0 ρ next a' w' → KK (dS a' ds) w') : wpOpIn (fr ro) n cx.P all Q i KK (dS a ds) w := by
 unfold kC at h
 unfold wpOpIn
 split at h
 ·cases h
 ·rename_i o ho
  rw [ho]
  dsimp only
  have hno : xE o = true := by
   obtain ⟨hi, rfl⟩ := Array.getElem?_eq_some_iff.1 ho
   exact Array.all_eq_true.1 hn i hi
  have hw : ∀ {o' : Oper}, Region.wanted o' (yielded all (dS a ds).tmps) = Region.wanted o' (yielded all a.tmps) := rfl
  rw [hw]
  split at h
  ·cases h
  ·rename_i hg
   rw [if_pos (jG hr hg)]
   exact bK1 hno (step_ok hG hsig hr (qI h) hd (fun _ _ h => h)) hK
  ·rename_i hg
   rw [if_neg (by rw [jG hr hg]; simp)]
   refine ⟨fun f _ => aR1 ro f, ?_⟩
   rw [aC5]
   exact hK _ _ ⟨[], _, vc, h, by simpa using hd, by simpa using hr.put (x := .one (.lf .undef)) rfl⟩
  ·cases h
theorem zC {all : Array Oper} (hr : Rel G w0 D0 R0 ρ S a w) : ∀ {rs : List Nat} {d : Nat} {t : Tm}, rG all S rs = some (d, t) → a.eval (.tmp d) = .bool (t.den ρ).toB
 | [], d, t, h => by simp [rG] at h
 | j :: r, d, t, h => by
  simp only [rG] at h
  split at h
  ·rename_i o ho
   split at h
   ·rename_i hg
    cases h
    exact aR4 hr hg
   ·exact zC hr h
  ·exact zC hr h
def iD (ro : Option Nat) (n : Nat) (P : Program) (Q : Exit → Act → World → Prop) : List KI → Exit → Act → World → Prop
 | [] => Q
 | .code c :: K => Exit.then (c.wpIn (fr ro) n P (iD ro n P Q K)) (iD ro n P Q K)
 | .ops all rest :: K => Exit.then (wpListIn (fr ro) n P all (iD ro n P Q K) rest) (iD ro n P Q K)
 | .any all fuel listed :: K => Exit.then (wpAnyIn (fr ro) n P .any all (iD ro n P Q K) fuel listed) (iD ro n P Q K)
 | .blk id :: K => Exit.inBlock id (iD ro n P Q K)
 | .still .. :: K | .wait :: K | .lp .. :: K => iD ro n P Q K
theorem sO {P : Program} {Q : Exit → Act → World → Prop} : ∀ {K : List KI}, iD ro n P Q K .ret a w = Q .ret a w
 | [] => rfl
 | .code _ :: K => sO (K := K)
 | .ops .. :: K => sO (K := K)
 | .any .. :: K => sO (K := K)
 | .still .. :: K => sO (K := K)
 | .blk .. :: K => sO (K := K)
 | .wait :: K => sO (K := K)
 | .lp .. :: K => sO (K := K)
theorem rD {P : Program} {Q : Exit → Act → World → Prop} {id : Nat} : ∀ {K K' : List KI}, behind id K = some K' → ∀ a w, iD ro n P Q K' .normal a w → iD ro n P Q K (.exit id) a w
 | [], _, h => by simp [behind] at h
 | .blk i :: K, K', h => by
  simp only [behind] at h
  split at h
  ·rename_i hi
   cases h
   exact fun a w hq => by simp only [iD, Exit.inBlock, if_pos hi]; exact hq
  ·rename_i hi
   exact fun a w hq => by simp only [iD, Exit.inBlock, if_neg hi]; exact rD (K := K) h a w hq
 | .wait :: K, K', h => rD (K := K) (by simpa [behind] using h)
 | .code c :: K, K', h => rD (K := K) (by simpa [behind] using h)
 | .ops .. :: K, K', h => rD (K := K) (by simpa [behind] using h)
 | .any .. :: K, K', h => rD (K := K) (by simpa [behind] using h)
 | .still .. :: K, K', h => rD (K := K) (by simpa [behind] using h)
 | .lp .. :: K, K', h => rD (K := K) (by simpa [behind] using h)
theorem vI {Q : Exit → Act → World → Prop} {fin ret : St → M} (hG : cx.G = G) (hsig : mZ cx E) (hm : cx.P.follows .mixedOrders = true)
  (hfin : ∀ S' τ' vc' a' w', fin S' = .ok vc' → vc'.den E (ρ0 ++ τ') → Rel G w0 D0 R0 (ρ0 ++ τ') S' a' w' → Q .normal (dS a' ds) w')
  (hret : ∀ S' τ' vc' a' w', ret S' = .ok vc' → vc'.den E (ρ0 ++ τ') → Rel G w0 D0 R0 (ρ0 ++ τ') S' a' w' → Q .ret (dS a' ds) w') :
  ∀ (f : Nat) (K : List KI) (S : St) (vc : VC) (τ : LD) (a : Act) (w : World), bV cx fin ret f K S = .ok vc → vc.den E (ρ0 ++ τ) → Rel G w0 D0 R0 (ρ0 ++ τ) S a w → iD ro n cx.P Q K .normal (dS a ds) w
 | 0, K, S, vc, τ, a, w, h, _, _ => by simp [bV] at h
 | f + 1, [], S, vc, τ, a, w, h, hd, hr => by
  simp only [bV] at h
  exact hfin S τ vc a w h hd hr
 | f + 1, .code c :: K, S, vc, τ, a, w, h, hd, hr => by
  have IH := vI hG hsig hm hfin hret f
  simp only [bV] at h
  show c.wpIn (fr ro) n cx.P (iD ro n cx.P Q K) (dS a ds) w
  split at h
  ·exact wpIn_skip (IH K S vc τ a w h hd hr)
  ·exact wpIn_label (IH K S vc τ a w h hd hr)
  ·exact wpIn_seq (IH _ S vc τ a w h hd hr)
  ·exact wpIn_block (IH _ S vc τ a w h hd hr)
  ·rename_i x y z
   split at h
   ·cases h
   ·rename_i v hv
    have hx := aX hr hv
    split at h
    ·exact wpIn_cond_true (a := dS a ds) hx (IH (.code y :: K) S vc τ a w h hd hr)
    ·exact wpIn_cond_false (a := dS a ds) hx (IH (.code z :: K) S vc τ a w h hd hr)
    ·rename_i t _ _
     obtain ⟨⟨v1, e1, d1⟩, v2, e2, d2⟩ := both_ok h hd
     refine wpIn_cond_split (a := dS a ds) (t := (t.den (ρ0 ++ τ)).toB) hx (fun hb' => ?_) (fun hb' => ?_)
     ·obtain ⟨v, e3, d3⟩ := iH e1 d1 hb'
      exact IH (.code y :: K) _ v τ a w e3 d3 (lI hr hx hb')
     ·obtain ⟨v, e3, d3⟩ := iH e2 d2 hb'
      exact IH (.code z :: K) _ v τ a w e3 d3 (lI hr hx hb')
    ·cases h
  ·split at h
   ·rename_i K' hbh
    exact wpIn_exit (rD hbh _ _ (IH K' S vc τ a w h hd hr))
   ·cases h
  ·refine wpIn_ret ?_
   rw [sO]
   exact hret S τ vc a w h hd hr
  ·split at h
   ·rename_i hdraw
    subst hdraw
    exact wpIn_region_any hm (IH _ S vc τ a _ h hd (hr.ext (aE9 w)))
   ·rename_i draw hdraw
    obtain rfl : draw = false := by simpa using hdraw
    exact wpIn_region_list (IH _ S vc τ a w h hd hr)
  ·cases h
 | f + 1, .ops all rest :: K, S, vc, τ, a, w, h, hd, hr => by
  have IH := vI hG hsig hm hfin hret f
  simp only [bV] at h
  show wpListIn (fr ro) n cx.P all (iD ro n cx.P Q K) rest (dS a ds) w
  cases rest with
  | nil => exact IH K S vc τ a w h hd hr
  | cons o rest =>
   dsimp only at h
   split at h
   rotate_left
   ·cases h
   rename_i hno
   have hw : Region.wanted o (yielded all (dS a ds).tmps) = Region.wanted o (yielded all a.tmps) := rfl
   unfold wpListIn
   rw [hw]
   split at h
   ·cases h
   ·rename_i hg
    rw [if_pos (jG hr hg)]
    exact bK1 hno (step_ok hG hsig hr (qI h) hd (fun _ _ h => h)) fun a' w' ⟨σ, S', vc', h1, h2, h3⟩ => by
     rw [List.append_assoc] at h2 h3
     exact IH (.ops all rest :: K) S' vc' (τ ++ σ) a' w' h1 h2 h3
   ·rename_i hg
    rw [if_neg (by rw [jG hr hg]; simp)]
    refine ⟨fun f _ => aR1 ro f, ?_⟩
    rw [aC5]
    exact IH (.ops all rest :: K) _ vc τ _ w h hd (by simpa using hr.put (x := .one (.lf .undef)) rfl)
   ·rename_i d t _ hg
    have he := aR4 hr hg
    obtain ⟨⟨v1, e1, d1⟩, v2, e2, d2⟩ := both_ok h hd
    rw [← hw]
    cases hb' : (t.den (ρ0 ++ τ)).toB with
    | true =>
     obtain ⟨v, e3, d3⟩ := iH e1 d1 hb'
     have := IH (.ops all (o :: rest) :: K) _ v τ a w e3 d3 (lI hr he hb')
     exact this
    | false =>
     obtain ⟨v, e3, d3⟩ := iH e2 d2 hb'
     have := IH (.ops all (o :: rest) :: K) _ v τ a w e3 d3 (lI hr he hb')
     exact this
 | f + 1, .any all fuel listed :: K, S, vc, τ, a, w, h, hd, hr => by
  have IH := vI hG hsig hm hfin hret f
  simp only [bV] at h
  show wpAnyIn (fr ro) n cx.P .any all (iD ro n cx.P Q K) fuel listed (dS a ds) w
  split at h
  ·rename_i hrs
   exact wpAnyIn_done hrs (IH K S vc τ a w h hd hr) _
  ·cases h
  ·rename_i fuel hne
   split at h
   rotate_left
   ·cases h
   rename_i hno
   split at h
   ·rename_i d t ho
    have he := zC hr ho
    obtain ⟨⟨v1, e1, d1⟩, v2, e2, d2⟩ := both_ok h hd
    cases hb' : (t.den (ρ0 ++ τ)).toB with
    | true =>
     obtain ⟨v, e3, d3⟩ := iH e1 d1 hb'
     exact IH (.any all (fuel + 1) listed :: K) _ v τ a w e3 d3 (lI hr he hb')
    | false =>
     obtain ⟨v, e3, d3⟩ := iH e2 d2 hb'
     exact IH (.any all (fuel + 1) listed :: K) _ v τ a w e3 d3 (lI hr he hb')
   ·refine wpAnyIn_all rfl (fun hh => hne hh) fun i hi => ?_
    obtain ⟨v, h1, h2⟩ := zJ h hd i hi
    exact cI2 hG hsig hr hno h1 h2 fun a' w' ⟨σ, S', vc', g1, g2, g3⟩ => by
     rw [List.append_assoc] at g2 g3
     exact IH (.any all fuel (listed.setIfInBounds i true) :: K) S' vc' (τ ++ σ) a' w' g1 g2 g3
 | f + 1, .blk _ :: K, S, vc, τ, a, w, h, hd, hr => by
  simp only [bV] at h
  exact vI hG hsig hm hfin hret f K S vc τ a w h hd hr
 | f + 1, .still .. :: K, S, vc, τ, a, w, h, hd, hr => by simp [bV] at h
 | f + 1, .wait :: K, S, vc, τ, a, w, h, hd, hr => by simp [bV] at h
 | f + 1, .lp .. :: K, S, vc, τ, a, w, h, hd, hr => by simp [bV] at h
end
end Go.Vc
namespace Go.Vc
def iV (w : World) (b : Nat) (v : Value) : Prop := ∃ e fz, w.heap[b]? = some (.cells #[v] e fz) ∧ gV fz 1
def iK (b : Nat) : Value := .pointer (some ⟨b, 0, none⟩)
def nC (P : Program) (g : FuncId) : Prop :=
 (∀ args w, (callFunc g args).run P w = .ok (.enter g args) w) ∧
 ∀ (l b1 b2 b3 : Nat) (s : BA) (J Jx : List (List UInt8) → World → Prop) (W : World), b1 ≠ b2 → b1 ≠ b3 → iV W b1 (.string s) → iV W b2 (.string ⟨#[10]⟩) → iV W b3 (.int .i64 0) → (s.size : Int) ≤ bW →
  (∀ xs W W', J xs W → eY W [b1] W' → J xs W') → (∀ xs W W', Jx xs W → eY W [b1] W' → Jx xs W') →
  (∀ pre x W1, pre ++ [x] <+: aS s.data.toList → J pre W1 → ∀ m, YieldAt Fence.wide m P l #[.string ⟨x.toArray⟩] W1 fun e W' =>
   ((e = .returned (.bool true) ∧ J (pre ++ [x]) W') ∨ (e = .returned (.bool false) ∧ Jx (pre ++ [x]) W')) ∧ W1.heap.size ≤ W'.heap.size ∧ ∀ b ∈ [b1, b2, b3], W'.heap[b]? = W1.heap[b]?) →
  J [] W → Calls P g #[.func (.yield l) #[] #[], iK b2, iK b1, iK b3] W fun e W' => (∃ v, e = .returned v) ∧ (J (aS s.data.toList) W' ∨ ∃ xs, Jx xs W')
theorem eY.mono {w w' : World} {D D' : List Nat} (h : eY w D w') (hd : ∀ b ∈ D, b ∈ D') : eY w D' w' := ⟨h.os, h.tape, h.output, h.size, fun b hb hn => h.block b hb fun hm => hn (hd b hm)⟩
theorem uH {w : World} {l : Nat} {o : Obj} {D : List Nat} (h : l ∈ D) : eY w D (w.putObj l o) :=
 ⟨rfl, rfl, rfl, by simp, fun b _ hn => World.putObj_heap_other (fun e => hn (e ▸ h))⟩
theorem bD6 (w : World) (o : Obj) : eY w [] (w.alloc o) := ⟨rfl, rfl, rfl, by simp, fun b hb _ => RowKit.Below.heap_alloc w o b hb⟩
theorem lt_of_some {w : World} {b : Nat} {o : Obj} (h : w.heap[b]? = some o) : b < w.heap.size := (Array.getElem?_eq_some_iff.1 h).1
theorem cD5 {P : Program} {gf : FuncId} {g : Operand} {p : Tmp} {asg body : Code} {Q : Exit → Act → World → Prop} {a : Act} {w : World} {b1 b2 b3 : Nat} {s : BA} (hsp : nC P gf) (hg : a.eval g = .func (.func gf) #[] #[iK b2, iK b1, iK b3]) (d12 : b1 ≠ b2) (d13 : b1 ≠ b3)
  (h1 : iV w b1 (.string s)) (h2 : iV w b2 (.string ⟨#[10]⟩)) (h3 : iV w b3 (.int .i64 0)) (hsz : (s.size : Int) ≤ bW) (J Jx : List (List UInt8) → World → Prop)
  (hJ : ∀ xs W W', J xs W → eY W [b1, w.heap.size, w.heap.size + 1] W' → J xs W') (hJx : ∀ xs W W', Jx xs W → eY W [b1, w.heap.size, w.heap.size + 1] W' → Jx xs W') (h0 : J [] w)
  (hround : ∀ pre x W, pre ++ [x] <+: aS s.data.toList → J pre W → w.heap.size + 2 ≤ W.heap.size → ∀ m,
   asg.wpIn (fr (some (w.heap.size + 1))) m P (Exit.then (fun a1 W1 => (W.heap.size ≤ W1.heap.size ∧ ∀ b ∈ [b1, b2, b3, w.heap.size, w.heap.size + 1], W1.heap[b]? = W.heap[b]?) ∧
    ∀ o, body.wpIn (fr (some (w.heap.size + 1))) m P (fun e _ W' => (W1.heap.size ≤ W'.heap.size ∧ ∀ b ∈ [b1, b2, b3, w.heap.size, w.heap.size + 1], W'.heap[b]? = (W1.putObj (w.heap.size + 1) o).heap[b]?) ∧ match e with
     | .normal => J (pre ++ [x]) W'
     | .ret => Jx (pre ++ [x]) W'
     | _ => False) a1 (W1.putObj (w.heap.size + 1) o)) (fun _ _ _ => False)) { tmps := a.tmps.setIfInBounds p (.string ⟨x.toArray⟩), defers := [] } W)
  (hdone : ∀ W, J (aS s.data.toList) W → W.heap[w.heap.size]? = some (.deferred (some [])) → Q .normal (dS a ({ target := .collected w.heap.size, args := #[] } :: a.defers)) W)
  (hret : ∀ xs W, Jx xs W → W.heap[w.heap.size]? = some (.deferred (some [])) → Q .ret (dS a ({ target := .collected w.heap.size, args := #[] } :: a.defers)) W) :
  (Code.rangeFunc g #[p] asg body).wp P Q a w := by
 obtain ⟨e1, z1, g1, n1⟩ := h1
 obtain ⟨e2, z2, g2, n2⟩ := h2
 obtain ⟨e3, z3, g3, n3⟩ := h3
 have l1 := lt_of_some g1; have l2 := lt_of_some g2; have l3 := lt_of_some g3
 refine (wpIn_wide (n := 0)).1 (wpIn_rangeFunc fun fn _ => ?_)
 obtain ⟨rec, hrec⟩ : ∃ rec : LoopState → Option Code → Loop, rec = fun st pe => { state := st, pending := pe, fn, tmps := a.tmps, params := #[p], assign := asg, body, defers := w.heap.size } := ⟨_, rfl⟩
 obtain ⟨W1, hW1⟩ : ∃ W1, (w.alloc (.deferred (some []))).alloc (.loop (rec .ready none)) = W1 := ⟨_, rfl⟩
 have hL1 : W1.heap[w.heap.size + 1]? = some (.loop (rec .ready none)) := by
  rw [← hW1]; have := World.alloc_heap_new (w.alloc (.deferred (some []))) (.loop (rec .ready none)); rwa [World.size_alloc] at this
 have hK1 : W1.heap[w.heap.size]? = some (.deferred (some [])) := by
  rw [← hW1]; exact (RowKit.Below.heap_alloc _ _ _ (by simp)).trans (World.alloc_heap_new w _)
 have hfr : eY w [] W1 := by
  rw [← hW1]
  have q1 := bD6 w (.deferred (some []))
  have q2 := bD6 (w.alloc (.deferred (some []))) (.loop (rec .ready none))
  exact ⟨q2.os.trans q1.os, q2.tape.trans q1.tape, q2.output.trans q1.output, Nat.le_trans q1.size q2.size, fun b hb hn => (q2.block b (Nat.lt_of_lt_of_le hb q1.size) hn).trans (q1.block b hb hn)⟩
 have hsz1 : w.heap.size + 2 ≤ W1.heap.size := lt_of_some hL1
 refine ⟨w.heap.size + 1, [{ target := .collected w.heap.size, args := #[] }], W1, { target := .fn (.func gf) #[iK b2, iK b1, iK b3], args := #[.func (.yield (w.heap.size + 1)) #[] #[]] }, W1, gf,
  #[.func (.yield (w.heap.size + 1)) #[] #[], iK b2, iK b1, iK b3], W1, ?_, ?_, fun _ _ => trivial, ?_, fun hh => (by cases hh), ?_⟩
 ·rw [← hW1, hrec]; exact run_enterLoop_outer _ _ _ _ _
 ·simp only [resolve, hg]
  simp [go_sem]
 ·simp [invoke, go_sem, hsp.1]
 refine callsIn_wide.2 (Calls.mono (hsp.2 (w.heap.size + 1) b1 b2 b3 s
  (fun pre W => J pre W ∧ W.heap[w.heap.size + 1]? = some (.loop (rec .ready none)) ∧ W.heap[w.heap.size]? = some (.deferred (some [])))
  (fun pre W => Jx pre W ∧ W.heap[w.heap.size + 1]? = some (.loop (rec .done (some .ret))) ∧ W.heap[w.heap.size]? = some (.deferred (some []))) W1 d12 d13
  ⟨e1, z1, (hfr.block b1 l1 (by simp)).trans g1, n1⟩ ⟨e2, z2, (hfr.block b2 l2 (by simp)).trans g2, n2⟩ ⟨e3, z3, (hfr.block b3 l3 (by simp)).trans g3, n3⟩ hsz ?_ ?_ ?_ ⟨hJ _ _ _ h0 (hfr.mono (by simp)), hL1, hK1⟩) ?_)
 ·rintro xs W W' ⟨hj, hl, hk⟩ hf
  exact ⟨hJ _ _ _ hj (hf.mono (by simp)), (hf.block _ (lt_of_some hl) (by simp; omega)).trans hl, (hf.block _ (lt_of_some hk) (by simp; omega)).trans hk⟩
 ·rintro xs W W' ⟨hj, hl, hk⟩ hf
  exact ⟨hJx _ _ _ hj (hf.mono (by simp)), (hf.block _ (lt_of_some hl) (by simp; omega)).trans hl, (hf.block _ (lt_of_some hk) (by simp; omega)).trans hk⟩
 ·-- a round
  rintro pre x W hpre ⟨hj, hl, hk⟩ m
  have hlt := lt_of_some hl
  have hy := run_yield (P := P) (args := #[.string ⟨x.toArray⟩]) hl (by rw [hrec]; rfl)
  rw [hrec] at hy
  have hy : (Instr.yield (w.heap.size + 1) #[.string ⟨x.toArray⟩]).run P W = .ok (.round (w.heap.size + 1) fn (a.tmps.setIfInBounds p (.string ⟨x.toArray⟩)) asg body) W := by
   rw [hy]; simp
  refine ⟨_, _, _, _, hy, roundIn_of_wpIn trivial ?_⟩
  refine wpIn_mono (hround pre x W hpre hj (by omega) m) ?_
  rintro e a1 Wa hp
  cases e with
  | normal =>
   obtain ⟨⟨hsa, hka⟩, hbody⟩ := hp
   have hl' : Wa.heap[w.heap.size + 1]? = some (.loop (rec .ready none)) := (hka _ (by simp)).trans hl
   refine ⟨_, run_beginRound hl' (by rw [hrec]), ?_⟩
   refine wpIn_mono (hbody _) ?_
   have hl2 : (Wa.putObj (w.heap.size + 1) (.loop { rec .ready none with state := .busy })).heap[w.heap.size + 1]? = some (.loop { rec .ready none with state := .busy }) := World.putObj_heap_same (lt_of_some hl')
   have hk2 : (Wa.putObj (w.heap.size + 1) (.loop { rec .ready none with state := .busy })).heap[w.heap.size]? = some (.deferred (some [])) := (World.putObj_heap_other (by omega)).trans ((hka _ (by simp)).trans hk)
   have hbs : ∀ b ∈ [b1, b2, b3], (Wa.putObj (w.heap.size + 1) (.loop { rec .ready none with state := .busy })).heap[b]? = W.heap[b]? := fun b hb => by
    have hlt : b < w.heap.size := by
     simp only [List.mem_cons, List.not_mem_nil, or_false] at hb
     rcases hb with rfl | rfl | rfl <;> assumption
    exact (World.putObj_heap_other (by omega)).trans (hka b (by simp only [List.mem_cons, List.not_mem_nil, or_false] at hb ⊢; rcases hb with h | h | h <;> simp [h]))
   have fin : ∀ (jump : Option Code) (W3 : World), (∀ b ∈ [b1, b2, b3, w.heap.size, w.heap.size + 1], W3.heap[b]? = (Wa.putObj (w.heap.size + 1) (.loop { rec .ready none with state := .busy })).heap[b]?) →
     (Instr.endRound (w.heap.size + 1) jump).run P W3 = .ok (.bool jump.isNone) (W3.putObj (w.heap.size + 1) (.loop (rec (if jump.isNone then .ready else .done) jump))) ∧
     (W3.putObj (w.heap.size + 1) (.loop (rec (if jump.isNone then .ready else .done) jump))).heap[w.heap.size + 1]? = some (.loop (rec (if jump.isNone then .ready else .done) jump)) ∧
     (W3.putObj (w.heap.size + 1) (.loop (rec (if jump.isNone then .ready else .done) jump))).heap[w.heap.size]? = some (.deferred (some [])) ∧
     ∀ b ∈ [b1, b2, b3], (W3.putObj (w.heap.size + 1) (.loop (rec (if jump.isNone then .ready else .done) jump))).heap[b]? = W.heap[b]? := fun jump W3 hk3 => by
    have hl3 := (hk3 _ (by simp)).trans hl2
    have := run_endRound (P := P) jump hl3
    rw [hrec] at this ⊢
    refine ⟨this, World.putObj_heap_same (lt_of_some hl3), (World.putObj_heap_other (by omega)).trans ((hk3 _ (by simp)).trans hk2), fun b hb => ?_⟩
    have hlt : b < w.heap.size := by
     simp only [List.mem_cons, List.not_mem_nil, or_false] at hb
     rcases hb with rfl | rfl | rfl <;> assumption
    refine (World.putObj_heap_other (by omega)).trans ((hk3 b ?_).trans (hbs b hb))
    simp only [List.mem_cons, List.not_mem_nil, or_false] at hb ⊢; rcases hb with h | h | h <;> simp [h]
   rintro e a3 W3 ⟨⟨hs3, hk3⟩, hp⟩
   cases e with
   | normal =>
    obtain ⟨f1, f2, f3, f4⟩ := fin none W3 hk3
    exact ⟨_, _, f1, .inl ⟨rfl, hJ _ _ _ hp (uH (by simp)), f2, f3⟩, by simp; omega, f4⟩
   | ret =>
    obtain ⟨f1, f2, f3, f4⟩ := fin (some .ret) W3 hk3
    exact ⟨_, _, f1, .inr ⟨rfl, hJx _ _ _ hp (uH (by simp)), f2, f3⟩, by simp; omega, f4⟩
   | exit id => exact hp.elim
   | goto t => exact hp.elim
   | panic ch => exact hp.elim
   | outgrown => exact hp.elim
  | exit id => exact hp.elim
  | goto t => exact hp.elim
  | ret => exact hp.elim
  | panic ch => exact hp.elim
  | outgrown => exact hp.elim
 ·rintro e W2 ⟨⟨v, rfl⟩, ⟨hj, hl, hk⟩ | ⟨xs, hj, hl, hk⟩⟩
  ·exact ⟨none, _, by have := run_endLoop (P := P) hl (by rw [hrec]; simp); rw [hrec] at this; exact this, hdone _ (hJ _ _ _ hj (uH (by simp))) ((World.putObj_heap_other (by omega)).trans hk)⟩
  ·exact ⟨some .ret, _, by have := run_endLoop (P := P) hl (by rw [hrec]; simp); rw [hrec] at this; exact this, wpIn_ret (hret _ _ (hJx _ _ _ hj (uH (by simp))) ((World.putObj_heap_other (by omega)).trans hk))⟩
end Go.Vc
namespace Go.Vc
section
variable {E : Env} {G : List Glob} {w0 : World} {D0 R0 : List Nat} {ρ0 ρ τ : LD} {S T : St} {a : Act} {w : World} {cx : Cx} {vc : VC} {K : List KI}
def keepD : LD → List Srt → LD
 | d :: ds, s :: ss => if told s then d :: keepD ds ss else keepD ds ss
 | _, _ => []
theorem nN {f : Tm → D} : ∀ (ts : List Tm) (ss : List Srt), (keep ts ss).map f = keepD (ts.map f) ss
 | [], _ => by simp [keep, keepD]
 | _ :: _, [] => by simp [keep, keepD]
 | t :: ts, s :: ss => by
  simp only [keep, keepD, List.map_cons]
  split
  ·simp only [List.map_cons, nN ts ss]
  ·exact nN ts ss
theorem aK7 {n : Nat} (hr : Rel G w0 D0 R0 ρ T a w) : ∀ f ∈ yD n T, f.den ρ := by
 intro f hf
 rcases List.mem_append.1 (List.mem_filter.1 hf).1 with hf | hf
 ·exact bO3 hr.tmps f hf
 ·exact bE5 hr.heap f hf
theorem bY0 {ss ts : List Srt} {ρ σ : LD} (hT : ts.take ss.length = ss) (hσ : bY (ts.drop ss.length) σ) (hl : ρ.length = ss.length) : (ρ ++ σ).length = ts.length := by
 have h1 := cO hσ
 have h2 := congrArg List.length hT
 rw [List.length_take] at h2
 rw [List.length_drop] at h1
 rw [List.length_append]
 omega
theorem aA7 {B : List Nat} {w' : World} (hr : Rel G w0 D0 R0 ρ S a w) (hf : eY w B w') (hB : ∀ x ∈ B, x ∉ owns ρ S.heap ∧ x ∉ ros ρ S.heap ∧ (x < w0.heap.size → x ∈ D0) ∧ ∀ g ∈ G, g.g ≠ x) : Rel G w0 D0 R0 ρ S a w' := by
 refine ⟨hr.aB, hr.tmps, hr.defers, hr.heap.congr (fun b hb => ?_) hf.size, fun g hg => ⟨Glob.congr (hr.globs g hg).1 (hf.block _ (Glob.lt (hr.globs g hg).1) fun h => (hB _ h).2.2.2 g hg rfl), (hr.globs g hg).2⟩, ?_, hr.within, hr.within'⟩
 ·rcases hb with hb | hb
  ·exact hf.block _ (hr.heap.dZ hb) fun h => (hB _ h).1 hb
  ·exact hf.block _ (hr.heap.jM hb) fun h => (hB _ h).2.1 hb
 ·exact ⟨hf.os.trans hr.frame.os, hf.tape.trans hr.frame.tape, hf.output.trans hr.frame.output, Nat.le_trans hr.frame.size hf.size, fun b hb hn =>
   (hf.block b (Nat.lt_of_lt_of_le hb hr.frame.size) fun h => hn ((hB b h).2.2.1 hb)).trans (hr.frame.block b hb hn)⟩
theorem aJ3 (hr : Rel G w0 D0 R0 ρ S a w) : Rel G w (owns ρ S.heap) (ros ρ S.heap) ρ S a w :=
 ⟨hr.aB, hr.tmps, hr.defers, hr.heap, hr.globs, ⟨rfl, rfl, rfl, Nat.le_refl _, fun _ _ _ => rfl⟩, fun _ hb => .inl hb, fun _ hb => .inr (.inr hb)⟩
theorem aJ2 {S' : St} {ρ' : LD} {a' : Act} {w' : World} (hr : Rel G w0 D0 R0 ρ S a w) (h : Rel G w (owns ρ S.heap) (ros ρ S.heap) ρ' S' a' w') : Rel G w0 D0 R0 ρ' S' a' w' := by
 refine ⟨h.aB, h.tmps, h.defers, h.heap, h.globs, ?_, fun b hb => ?_, fun b hb => ?_⟩
 ·exact ⟨h.frame.os.trans hr.frame.os, h.frame.tape.trans hr.frame.tape, h.frame.output.trans hr.frame.output, Nat.le_trans hr.frame.size h.frame.size, fun b hb hn =>
   (h.frame.block b (Nat.lt_of_lt_of_le hb hr.frame.size) fun hm => (hr.within b hm).elim hn fun hh => absurd hb (by omega)).trans (hr.frame.block b hb hn)⟩
 ·rcases h.within b hb with h1 | h1
  ·exact hr.within b h1
  ·exact .inr (Nat.le_trans hr.frame.size h1)
 ·rcases h.within' b hb with h1 | h1 | h1
  ·exact (hr.within b h1).imp id .inl
  ·exact .inr (.inl (Nat.le_trans hr.frame.size h1))
  ·exact hr.within' b h1
theorem xR {S' : St} {ρ' : LD} {a' : Act} {w' : World} (h : Rel G w D0 R0 ρ' S' a' w') {x : Nat} (hx : x < w.heap.size) (h1 : x ∉ D0) (h2 : x ∉ R0) : x ∉ owns ρ' S'.heap ∧ x ∉ ros ρ' S'.heap ∧ w'.heap[x]? = w.heap[x]? :=
 ⟨fun hm => (h.within x hm).elim h1 fun hh => absurd hx (by omega), fun hm => (h.within' x hm).elim h1 fun hh => hh.elim (fun hh => absurd hx (by omega)) h2, h.frame.block x hx h1⟩
theorem vO {b : Tm} : ∀ {hs : List Ch} {ps : List Pt} {r : List Ch}, kD b hs = some (ps, r) → hs.Perm (.box b ps :: r)
 | [], _, _, h => by simp [kD] at h
 | .box b' qs :: hs, ps, r, h => by
  simp only [kD] at h
  split at h
  ·rename_i hb
   cases h; subst hb; exact .refl _
  ·cases hx : kD b hs with
   | none => rw [hx] at h; cases h
   | some x =>
    rw [hx] at h; cases h
    exact ((vO hx).cons _).trans (List.Perm.swap _ _ _)
 | .osl _ _ _ :: hs, ps, r, h => by
  simp only [kD] at h
  cases hx : kD b hs with
  | none => rw [hx] at h; cases h
  | some x => rw [hx] at h; cases h; exact ((vO hx).cons _).trans (List.Perm.swap _ _ _)
 | .rsl _ _ _ :: hs, ps, r, h => by
  simp only [kD] at h
  cases hx : kD b hs with
  | none => rw [hx] at h; cases h
  | some x => rw [hx] at h; cases h; exact ((vO hx).cons _).trans (List.Perm.swap _ _ _)
 | .abs _ _ :: hs, ps, r, h => by
  simp only [kD] at h
  cases hx : kD b hs with
  | none => rw [hx] at h; cases h
  | some x => rw [hx] at h; cases h; exact ((vO hx).cons _).trans (List.Perm.swap _ _ _)
theorem aW1 {b : Tm} {l : Lf} {r : List Ch} (hr : Rel G w0 D0 R0 ρ S a w) (h : kD b S.heap = some ([.lf l], r)) :
  Rel G w0 D0 R0 ρ { S with heap := r } a w ∧ (∃ v, iV w (b.den ρ).toN v ∧ l.holds ρ v) ∧ (b.den ρ).toN ∈ owns ρ S.heap ∧ (b.den ρ).toN ∉ owns ρ r ∧ (b.den ρ).toN ∉ ros ρ r ∧ (∀ x ∈ owns ρ r, x ∈ owns ρ S.heap) := by
 have hp := vO h
 have h1 := (qP rfl).1 (hr.heap.perm hp)
 obtain ⟨⟨cs, e, fz, g1, g2, g3⟩, h2, h3, _⟩ := h1
 have hown : ∀ x, x ∈ owns ρ r → x ∈ owns ρ S.heap := fun x hx => by rw [dQ hp, gW]; exact .inr hx
 have hro : ∀ x, x ∈ ros ρ r → x ∈ ros ρ S.heap := fun x hx => by rw [iL hp, jO]; exact .inr hx
 have hm : (b.den ρ).toN ∈ owns ρ S.heap := by rw [dQ hp, gW]; exact .inl rfl
 have hd := h3 (b.den ρ).toN rfl
 obtain ⟨v, hv, hcs⟩ : ∃ v, l.holds ρ v ∧ cs.toList = [v] := by
  simp only [aJ] at g3
  obtain ⟨v, vs, h4, h5, _, h6⟩ := g3
  subst h6
  exact ⟨v, h5, h4⟩
 have hcs' : cs = #[v] := by cases cs; simp at hcs; rw [hcs]
 refine ⟨⟨hr.aB, hr.tmps, hr.defers, h2, fun g hg => ⟨(hr.globs g hg).1, fun hx => (hr.globs g hg).2 (hown _ hx)⟩, hr.frame, fun b hb => hr.within b (hown b hb), fun b hb => hr.within' b (hro b hb)⟩, ⟨v, ⟨e, fz, by rw [g1, hcs'], by rw [hcs'] at g2; exact g2⟩, hv⟩, hm, hd.1, hd.2, hown⟩
theorem zS : ∀ {s : List UInt8} {x : List UInt8}, x ∈ aS s → x.length ≤ s.length
 | [], x, h => by simp only [aS, List.mem_singleton] at h; subst h; exact Nat.le_refl _
 | c :: r, x, h => by
  simp only [aS] at h
  split at h
  ·rcases List.mem_cons.1 h with rfl | h
   ·simp
   ·have := zS h; simp only [List.length_cons]; omega
  ·split at h
   ·rename_i y ys he
    rcases List.mem_cons.1 h with rfl | h
    ·have := zS (s := r) (x := y) (by rw [he]; simp)
     simp only [List.length_cons]; omega
    ·have := zS (s := r) (x := x) (by rw [he]; simp [h])
     simp only [List.length_cons]; omega
   ·rename_i he
    rw [List.mem_singleton] at h; subst h; simp
theorem prefix_at {α : Type} {pre l : List α} {x : α} (h : pre ++ [x] <+: l) : l[pre.length]? = some x ∧ pre.length < l.length := by
 obtain ⟨r, rfl⟩ := h
 simp
theorem cD6 {fix : List Tm} {news : List Srt} {ρ σ : LD} {i : Int} {tail : LD} (hfix : ∀ σ', fix.map (Tm.den (ρ ++ σ')) = fix.map (Tm.den ρ)) (hl : σ.length = news.length) :
  (fix ++ keep (nD ρ.length news.length) news ++ [Tm.at (ρ ++ σ).length]).map (Tm.den (ρ ++ σ ++ [D.I i] ++ tail)) = fix.map (Tm.den ρ) ++ keepD σ news ++ [D.I i] := by
 have h1 : (nD ρ.length news.length).map (Tm.den (ρ ++ σ ++ [D.I i] ++ tail)) = σ := by
  have := aD0 ρ σ ([D.I i] ++ tail)
  rw [← hl, List.append_assoc (ρ ++ σ)]; exact this
 have h2 : fix.map (Tm.den (ρ ++ σ ++ [D.I i] ++ tail)) = fix.map (Tm.den ρ) := by
  have := hfix (σ ++ [D.I i] ++ tail)
  rw [← this]; simp
 rw [List.map_append, List.map_append, nN, h1, h2]
 simp [Tm.den, List.getD]
theorem aW9 {P : Program} {Q : Exit → Act → World → Prop} {n : Nat} : ∀ {K : List KI} {B : List (Act → World → Prop)} (_ : K.all (fun k => match k with | .code _ | .blk _ => true | _ => false) = true) (e : Exit) (a : Act) (w : World), iD none n P Q K e a w → sem P Q K B e a w
 | [], _, _, _, _, _, h => h
 | .code c :: K, B, hk, e, a, w, h => by
  simp only [List.all_cons, Bool.and_eq_true] at hk
  have ih := aW9 (P := P) (Q := Q) (n := n) (K := K) (B := B) hk.2
  cases e with
  | normal => exact wp_mono (wpIn_wide.1 h) fun e a w q => ih e a w q
  | _ => exact ih _ _ _ h
 | .blk id :: K, B, hk, e, a, w, h => by
  simp only [List.all_cons, Bool.and_eq_true] at hk
  have ih := aW9 (P := P) (Q := Q) (n := n) (K := K) (B := B) hk.2
  cases e with
  | exit i =>
   by_cases hi : i = id
   ·simp only [iD, sem, Exit.inBlock, if_pos hi] at h ⊢; exact ih _ _ _ h
   ·simp only [iD, sem, Exit.inBlock, if_neg hi] at h ⊢; exact ih _ _ _ h
  | _ => exact ih _ _ _ h
 | .ops .. :: K, B, hk, e, a, w, h => by simp at hk
 | .any .. :: K, B, hk, e, a, w, h => by simp at hk
 | .still .. :: K, B, hk, e, a, w, h => by simp at hk
 | .wait :: K, B, hk, e, a, w, h => by simp at hk
 | .lp .. :: K, B, hk, e, a, w, h => by simp at hk
end
end Go.Vc
namespace Go.Vc
section
variable {E : Env} {G : List Glob} {w0 : World} {D0 R0 : List Nat} {ρ0 ρ τ : LD} {S T : St} {a : Act} {w : World} {cx : Cx} {vc : VC} {K : List KI}
def mark (d : Nat) : Deferred := { target := .collected d, args := #[] }
theorem Rel.bL1 {S' : St} {ρ' : LD} {a a' : Act} {w' : World} (h : Rel G w0 D0 R0 ρ' S' a' w') (ht : aU ρ' S.tmps a.tmps.toList) (hd : a.defers = []) : Rel G w0 D0 R0 ρ' { S' with tmps := S.tmps } a w' :=
 ⟨h.aB, ht, hd, h.heap, h.globs, h.frame, h.within, h.within'⟩
set_option maxHeartbeats 4000000 in
theorem cD4 {Q : Exit → Act → World → Prop} {f : Nat} {g : Operand} {p : Tmp} {asg body : Code} {B : List (Act → World → Prop)} (hG : cx.G = G) (hsig : mZ cx E) (hm : cx.P.follows .mixedOrders = true) (hit : ∀ g ∈ cx.iters, nC cx.P g)
  (hQ : ∀ (S' : St) (τ' : LD) (vc' : VC) (a' : Act) (W : World) (d : Nat), iZ cx S' = .ok vc' → vc'.den E (ρ0 ++ τ') → W.heap[d]? = some (.deferred (some [])) → Rel G w0 D0 R0 (ρ0 ++ τ') S' a' (W.putObj d (.deferred none)) →
   Q .ret (dS a' [mark d]) W ∧ Q .normal (dS a' [mark d]) W)
  (h : overS cx f g p asg body K S = .ok vc) (hd : vc.den E (ρ0 ++ τ)) (hr : Rel G w0 D0 R0 (ρ0 ++ τ) S a w) :
  (Code.rangeFunc g #[p] asg body).wp cx.P (sem cx.P Q K B) a w := by
 unfold overS at h
 split at h
 rotate_left
 ·cases h
 ·cases h
 ·cases h
 rename_i gf b2 b1 b3 ann hev hann
 split at h
 rotate_left
 ·cases h
 rename_i t h1 t1
 split at h
 rotate_left
 ·cases h
 rename_i u h2 t2
 split at h
 rotate_left
 ·cases h
 rename_i z h3 t3
 dsimp only at h
 generalize (ann.havoc.foldl (fun S i => aR5 i S) { S with heap := h3 }) = T0 at h
 generalize atoms cx.own.aB.length ++ ann.watch.flatMap (aC4 T0) = fix at h
 generalize ann.j = j at h
 split at h
 rotate_left
 ·cases h
 rename_i hc
 obtain ⟨c1, c2, c3, c4, c5, c6, c7, c8⟩ := hc
 split at h
 rotate_left
 ·cases h
 rename_i θ hθ
 split at h
 rotate_left
 ·cases h
 rename_i v hv
 cases h
 obtain ⟨ou, hd⟩ := hd
 obtain ⟨oz, hd⟩ := hd ou
 obtain ⟨ol, hd⟩ := hd oz
 obtain ⟨hinv, hdv⟩ := hd ol
 have hlen := cO hr.aB
 obtain ⟨r1, ⟨v1, x1, y1⟩, o1, n1, m1, s1⟩ := aW1 hr t1
 obtain ⟨r2, ⟨v2, x2, y2⟩, o2, n2, m2, s2⟩ := aW1 (S := { S with heap := h1 }) r1 t2
 obtain ⟨r3, ⟨v3, x3, y3⟩, o3, n3, m3, s3⟩ := aW1 (S := { S with heap := h2 }) r2 t3
 have hsp := hit gf (by simpa using c1)
 obtain ⟨N1, hN1⟩ : ∃ N1, N1 = (b1.den (ρ0 ++ τ)).toN := ⟨_, rfl⟩
 obtain ⟨N2, hN2⟩ : ∃ N2, N2 = (b2.den (ρ0 ++ τ)).toN := ⟨_, rfl⟩
 obtain ⟨N3, hN3⟩ : ∃ N3, N3 = (b3.den (ρ0 ++ τ)).toN := ⟨_, rfl⟩
 rw [← hN1] at x1 o1 n1 m1
 rw [← hN2] at x2 o2 n2 m2
 rw [← hN3] at x3 o3 n3 m3
 have hgv : a.eval g = .func (.func gf) #[] #[iK N2, iK N1, iK N3] := by
  have hh : a.eval g = .func (.func gf) (([] : List Tm).map fun b => Value.pointer (some ⟨(b.den (ρ0 ++ τ)).toN, 0, none⟩)).toArray ([b2, b1, b3].map fun b => Value.pointer (some ⟨(b.den (ρ0 ++ τ)).toN, 0, none⟩)).toArray := aX hr hev
  rw [hh, hN2, hN1, hN3]; rfl
 obtain ⟨y1, y1s⟩ := y1
 subst y1
 obtain ⟨y2, _⟩ := y2
 subst y2
 obtain ⟨y3, _⟩ := y3
 subst y3
 have ou' : (u.den (ρ0 ++ τ)).toS = (⟨#[10]⟩ : BA) := by
  have : ((u.den (ρ0 ++ τ)).toS.toList == (⟨#[10]⟩ : BA).toList) = true := ou
  rw [beq_iff_eq, ByteArray.toList_eq, ByteArray.toList_eq] at this
  cases hx : (u.den (ρ0 ++ τ)).toS with
  | mk arr => rw [hx] at this; exact congrArg ByteArray.mk (Array.toList_inj.1 this)
 have oz' : (z.den (ρ0 ++ τ)).toI = 0 := by
  have : ((z.den (ρ0 ++ τ)).toI == 0) = true := oz
  simpa using this
 rw [ou'] at x2
 rw [oz'] at x3
 obtain ⟨s, hs⟩ : ∃ s, s = (t.den (ρ0 ++ τ)).toS := ⟨_, rfl⟩
 rw [← hs] at x1 y1s
 -- where they lie
 have lt1 : N1 < w.heap.size := hr.heap.dZ o1
 have o2' := s1 _ o2
 have o3' := s1 _ (s2 _ o3)
 have lt2 : N2 < w.heap.size := hr.heap.dZ o2'
 have lt3 : N3 < w.heap.size := hr.heap.dZ o3'
 have d12 : N1 ≠ N2 := fun e => n1 (e ▸ o2)
 have d13 : N1 ≠ N3 := fun e => n1 (e ▸ s2 _ o3)
 have far : ∀ x ∈ [N1, w.heap.size, w.heap.size + 1], (x < w0.heap.size → x ∈ D0) ∧ ∀ g ∈ G, g.g ≠ x := fun x hx => by
  have hfs := hr.frame.size
  simp only [List.mem_cons, List.not_mem_nil, or_false] at hx
  rcases hx with rfl | rfl | rfl
  ·exact ⟨fun hlt => (hr.within _ o1).resolve_right (by omega), fun g hg e => (hr.globs g hg).2 (e ▸ o1)⟩
  ·exact ⟨fun hlt => absurd hlt (by omega), fun g hg e => by have := Glob.lt (hr.globs g hg).1; omega⟩
  ·exact ⟨fun hlt => absurd hlt (by omega), fun g hg e => by have := Glob.lt (hr.globs g hg).1; omega⟩
 have hro3 : ∀ x, x ∈ ros (ρ0 ++ τ) h3 → x ∈ ros (ρ0 ++ τ) h2 := fun x hx => by
  rw [iL (vO t3), jO]; exact .inr hx
 have hro2 : ∀ x, x ∈ ros (ρ0 ++ τ) h2 → x ∈ ros (ρ0 ++ τ) h1 := fun x hx => by
  rw [iL (vO t2), jO]; exact .inr hx
 have apart3 : ∀ x ∈ [N1, N2, N3, w.heap.size, w.heap.size + 1], x ∉ owns (ρ0 ++ τ) h3 ∧ x ∉ ros (ρ0 ++ τ) h3 := fun x hx => by
  simp only [List.mem_cons, List.not_mem_nil, or_false] at hx
  rcases hx with rfl | rfl | rfl | rfl | rfl
  ·exact ⟨fun hh => n1 (s2 _ (s3 _ hh)), fun hh => m1 (hro2 _ (hro3 _ hh))⟩
  ·exact ⟨fun hh => n2 (s3 _ hh), fun hh => m2 (hro3 _ hh)⟩
  ·exact ⟨n3, m3⟩
  ·exact ⟨fun hh => Nat.lt_irrefl _ (r3.heap.dZ hh), fun hh => Nat.lt_irrefl _ (r3.heap.jM hh)⟩
  ·exact ⟨fun hh => absurd (r3.heap.dZ hh) (by omega), fun hh => absurd (r3.heap.jM hh) (by omega)⟩
 have hfixE : ∀ σ, fix.map (Tm.den (ρ0 ++ τ ++ σ)) = fix.map (Tm.den (ρ0 ++ τ)) := fun σ => aE5 (by rw [hlen]; exact c6)
 have htE : ∀ σ, t.den (ρ0 ++ τ ++ σ) = t.den (ρ0 ++ τ) := fun σ => Tm.bH (by rw [hlen]; exact c7)
 have hSt : ∀ σ, aU (ρ0 ++ τ ++ σ) S.tmps a.tmps.toList := fun σ => by
  simp only [St.under, Bool.and_eq_true, ← hlen] at c4
  rw [aL3 c4.1]; exact hr.tmps
 have hsrt : bY (T0.aB.take S.aB.length) (ρ0 ++ τ) := by rw [c2]; exact hr.aB
 have entry := wL (ρ := ρ0 ++ τ) (τ := []) (by rw [List.append_nil]; exact r3) hlen.symm hsrt hθ
 have entryB := wL (ρ := ρ0 ++ τ) (τ := []) (by rw [List.append_nil]; exact aJ3 r3) hlen.symm hsrt hθ
 simp only [List.append_nil] at entry entryB
 obtain ⟨hσ0, hr0⟩ := entry
 have hrB0 := entryB.2
 -- what is asked for, where so many have come
 have opened : ∀ (σ : LD) (i : Int) (a1 : Act) (W : World), bY (T0.aB.drop S.aB.length) σ → Rel G w0 D0 R0 (ρ0 ++ τ ++ σ) T0 a1 W → E.inv j (fix.map (Tm.den (ρ0 ++ τ)) ++ keepD σ (T0.aB.drop S.aB.length) ++ [.I i]) →
   Rel G w0 D0 R0 (ρ0 ++ τ ++ σ ++ [.I i]) { T0 with aB := T0.aB ++ [.I] } a1 W ∧
   ∃ q1 q2, both q1 q2 = both q1 q2 ∧ q1 = imp (.o2 .and (.o2 .le (.int 0) (.at T0.aB.length)) (.o2 .lt (.at T0.aB.length) (.o1 .llen (.o1 .lines t)))) true
     (bV cx (fun S' => bV cx (fun S' => match fit T0 S.aB.length { S' with tmps := S.tmps } with
      | .ok θ => .ok (.inv j (fix ++ keep θ (T0.aB.drop S.aB.length) ++ [.o2 (.add .i64) (.at T0.aB.length) (.int 1)]) .tt)
      | .error e => .error ("end of a round: " ++ e)) (fun S' => iZ cx { S' with tmps := S.tmps }) f [.code body] S') (fun _ => .error "a return in an assignment") f [.code asg] { ({ T0 with aB := T0.aB ++ [.I] } : St) with tmps := T0.tmps.set p (.one (.lf (.str (.o1 .asS (.o2 .lget (.o1 .lines t) (.at T0.aB.length)))))) }) ∧
    q2 = imp (.o2 .eq (.at T0.aB.length) (.o1 .llen (.o1 .lines t))) true (bV cx (iZ cx) (iZ cx) f K { T0 with aB := T0.aB ++ [.I] }) ∧
    (∃ v, q1 = .ok v ∧ v.den E (ρ0 ++ τ ++ σ ++ [.I i])) ∧ ∃ v, q2 = .ok v ∧ v.den E (ρ0 ++ τ ++ σ ++ [.I i]) := by
  intro σ i a1 W q1 q2 q3
  have hrT := q2.fresh c5 (s := .I) (d := .I i) ⟨i, rfl⟩
  obtain ⟨v1, e1, d1⟩ := yI hv hdv (σ := σ ++ [.I i]) (aB7 q1 ⟨⟨i, rfl⟩, trivial⟩)
  rw [← List.append_assoc] at d1
  obtain ⟨v2, e2, d2⟩ := wR e1 d1 (show ∀ f ∈ yD S.aB.length T0, f.den _ from aK7 (n := S.aB.length) (T := { T0 with aB := T0.aB ++ [.I] }) hrT)
  split at e2
  ·rename_i v3 hv3
   cases e2
   have hT0 : (ρ0 ++ τ ++ σ).length = T0.aB.length := cO q2.aB
   have hw := cD6 (fix := fix) (news := T0.aB.drop S.aB.length) (ρ := ρ0 ++ τ) (σ := σ) (i := i) (tail := []) hfixE (cO q1)
   rw [List.append_nil, hlen, hT0] at hw
   have d3 := d2 (by rw [hw]; exact q3)
   obtain ⟨g1, g2⟩ := both_ok hv3 d3
   exact ⟨hrT, _, _, rfl, rfl, rfl, g1, g2⟩
  ·cases e2
 -- the caller's word
 refine cD5 (s := s) hsp hgv d12 d13 x1 x2 x3 y1s
  (fun pre W => ∃ σ, bY (T0.aB.drop S.aB.length) σ ∧ Rel G w0 D0 R0 (ρ0 ++ τ ++ σ) T0 a W ∧ E.inv j (fix.map (Tm.den (ρ0 ++ τ)) ++ keepD σ (T0.aB.drop S.aB.length) ++ [.I (pre.length : Nat)]) ∧
   ∀ x ∈ [N1, N2, N3, w.heap.size, w.heap.size + 1], x ∉ owns (ρ0 ++ τ ++ σ) T0.heap ∧ x ∉ ros (ρ0 ++ τ ++ σ) T0.heap)
  (fun _ W => ∃ τ' S' vc', iZ cx S' = .ok vc' ∧ vc'.den E (ρ0 ++ τ') ∧ Rel G w0 D0 R0 (ρ0 ++ τ') S' a W ∧ ∀ x ∈ [N1, N2, N3, w.heap.size, w.heap.size + 1], x ∉ owns (ρ0 ++ τ') S'.heap ∧ x ∉ ros (ρ0 ++ τ') S'.heap)
  ?_ ?_ ⟨_, hσ0, hr0, ?_, fun x hx => ?_⟩ ?_ ?_ ?_
 ·rintro xs W W' ⟨σ, q1, q2, q3, q4⟩ hf
  exact ⟨σ, q1, aA7 q2 hf fun x hx => ⟨(q4 x (by simp at hx ⊢; rcases hx with h | h | h <;> simp [h])).1, (q4 x (by simp at hx ⊢; rcases hx with h | h | h <;> simp [h])).2, far x hx⟩, q3, q4⟩
 ·rintro xs W W' ⟨τ', S', vc', q0, q1, q2, q4⟩ hf
  exact ⟨τ', S', vc', q0, q1, aA7 q2 hf fun x hx => ⟨(q4 x (by simp at hx ⊢; rcases hx with h | h | h <;> simp [h])).1, (q4 x (by simp at hx ⊢; rcases hx with h | h | h <;> simp [h])).2, far x hx⟩, q4⟩
 ·rw [List.map_append, List.map_append, nN] at hinv
  exact hinv
 ·by_cases hlt : x < w.heap.size
  ·have := xR hrB0 hlt (apart3 x hx).1 (apart3 x hx).2
   exact ⟨this.1, this.2.1⟩
  ·exact ⟨fun hh => hlt (hr0.heap.dZ hh), fun hh => hlt (hr0.heap.jM hh)⟩
 ·-- a round
  rintro px x W hpre ⟨σ, q1, q2, q3, q4⟩ hsz m
  obtain ⟨hxi, hxl⟩ := prefix_at hpre
  obtain ⟨hrT, k1, k2, _, hk1, _, ⟨va, ha1, ha2⟩, _⟩ := opened σ px.length a W q1 q2 q3
  have hT0 : (ρ0 ++ τ ++ σ).length = T0.aB.length := cO q2.aB
  have hat : ∀ tl, (Tm.at T0.aB.length).den (ρ0 ++ τ ++ σ ++ [.I px.length] ++ tl) = .I px.length := fun tl => by
   show (ρ0 ++ τ ++ σ ++ [D.I px.length] ++ tl).getD T0.aB.length default = _
   rw [← hT0, List.getD]; simp
  have hxs : ∀ tl, (Tm.o1 .lines t).den (ρ0 ++ τ ++ σ ++ [.I px.length] ++ tl) = .L (dG s) := fun tl => by
   show D.L (dG (t.den _).toS) = _
   rw [List.append_assoc, List.append_assoc, htE, hs]
  have hllen : ((dG s).length : Int) = (aS s.data.toList).length := by rw [dG, List.length_map]
  rw [hk1] at ha1
  obtain ⟨vb, hb1, hb2⟩ := iH ha1 ha2 (by
   show (decide ((0 : Int) ≤ ((Tm.at T0.aB.length).den (ρ0 ++ τ ++ σ ++ [.I px.length])).toI) && decide (((Tm.at T0.aB.length).den (ρ0 ++ τ ++ σ ++ [.I px.length])).toI < (((Tm.o1 .lines t).den (ρ0 ++ τ ++ σ ++ [.I px.length])).toL.length : Nat))) = true
   have e1 := hat []
   have e2 := hxs []
   rw [List.append_nil] at e1 e2
   rw [e1, e2]
   show (decide ((0 : Int) ≤ (px.length : Nat)) && decide (((px.length : Nat) : Int) < ((dG s).length : Nat))) = true
   rw [hllen]
   simp; omega)
  have hxh : (SV.one (.lf (.str (.o1 .asS (.o2 .lget (.o1 .lines t) (.at T0.aB.length)))))).holds (ρ0 ++ τ ++ σ ++ [.I px.length]) (.string ⟨x.toArray⟩) := by
   have e1 := hat []
   have e2 := hxs []
   rw [List.append_nil] at e1 e2
   have e3 : ((Tm.o1 .asS (.o2 .lget (.o1 .lines t) (.at T0.aB.length))).den (ρ0 ++ τ ++ σ ++ [.I px.length])).toS = ⟨x.toArray⟩ := by
    show ((((Tm.o1 .lines t).den (ρ0 ++ τ ++ σ ++ [.I px.length])).toL).getD ((Tm.at T0.aB.length).den (ρ0 ++ τ ++ σ ++ [.I px.length])).toI.toNat default).toS = _
    rw [e1, e2]
    show ((dG s).getD px.length default).toS = _
    rw [dG, List.getD, List.getElem?_map, hxi]; rfl
   refine ⟨by rw [e3], ?_⟩
   rw [e3]
   have := zS (List.mem_of_getElem? hxi)
   have e4 : (⟨x.toArray⟩ : BA).size = x.length := rfl
   have e5 : s.size = s.data.toList.length := rfl
   rw [e4]; omega
  have hrP := hrT.put (d := some p) hxh
  have hact : (a.put (some p) (.string ⟨x.toArray⟩)) = ({ tmps := a.tmps.setIfInBounds p (.string ⟨x.toArray⟩), defers := [] } : Act) := by
   show ({ tmps := _, defers := a.defers } : Act) = _
   rw [hr.defers]
  rw [hact] at hrP
  simp only [St.under, Bool.and_eq_true, ← hT0] at c5
  have hown : ∀ tl, owns (ρ0 ++ τ ++ σ ++ tl) T0.heap = owns (ρ0 ++ τ ++ σ) T0.heap := fun tl => rW c5.2
  have hros : ∀ tl, ros (ρ0 ++ τ ++ σ ++ tl) T0.heap = ros (ρ0 ++ τ ++ σ) T0.heap := fun tl => xX c5.2
  have ltW : ∀ b ∈ [N1, N2, N3, w.heap.size, w.heap.size + 1], b < W.heap.size := fun b hb => by
   simp only [List.mem_cons, List.not_mem_nil, or_false] at hb
   rcases hb with rfl | rfl | rfl | rfl | rfl <;> omega
  have hmL : w.heap.size + 1 ∈ [N1, N2, N3, w.heap.size, w.heap.size + 1] := by simp
  have := vI (ro := some (w.heap.size + 1)) (n := m) (ds := []) (Q := Exit.then (fun a1 W1 => (W.heap.size ≤ W1.heap.size ∧ ∀ b ∈ [N1, N2, N3, w.heap.size, w.heap.size + 1], W1.heap[b]? = W.heap[b]?) ∧
    ∀ o, body.wpIn (fr (some (w.heap.size + 1))) m cx.P (fun e _ W' => (W1.heap.size ≤ W'.heap.size ∧ ∀ b ∈ [N1, N2, N3, w.heap.size, w.heap.size + 1], W'.heap[b]? = (W1.putObj (w.heap.size + 1) o).heap[b]?) ∧ match e with
     | .normal => ∃ σ, bY (T0.aB.drop S.aB.length) σ ∧ Rel G w0 D0 R0 (ρ0 ++ τ ++ σ) T0 a W' ∧ E.inv j (fix.map (Tm.den (ρ0 ++ τ)) ++ keepD σ (T0.aB.drop S.aB.length) ++ [.I ((px ++ [x]).length : Nat)]) ∧
       ∀ x ∈ [N1, N2, N3, w.heap.size, w.heap.size + 1], x ∉ owns (ρ0 ++ τ ++ σ) T0.heap ∧ x ∉ ros (ρ0 ++ τ ++ σ) T0.heap
     | .ret => ∃ τ' S' vc', iZ cx S' = .ok vc' ∧ vc'.den E (ρ0 ++ τ') ∧ Rel G w0 D0 R0 (ρ0 ++ τ') S' a W' ∧ ∀ x ∈ [N1, N2, N3, w.heap.size, w.heap.size + 1], x ∉ owns (ρ0 ++ τ') S'.heap ∧ x ∉ ros (ρ0 ++ τ') S'.heap
     | _ => False) a1 (W1.putObj (w.heap.size + 1) o)) (fun _ _ _ => False)) (ρ0 := ρ0 ++ τ ++ σ ++ [.I px.length]) hG hsig hm ?_ (fun _ _ _ _ _ hh => by cases hh) f [.code asg] _ vb [] _ W hb1 (by rw [List.append_nil]; exact hb2) (by rw [List.append_nil]; exact aJ3 hrP)
  ·exact this
  -- behind the assignment
  rintro S1 τ1 vc1 a1 W1 f1 f2 f3
  have hr1 := aJ2 hrP f3
  have ap1 : ∀ b ∈ [N1, N2, N3, w.heap.size, w.heap.size + 1], b ∉ owns (ρ0 ++ τ ++ σ ++ [.I px.length] ++ τ1) S1.heap ∧ b ∉ ros (ρ0 ++ τ ++ σ ++ [.I px.length] ++ τ1) S1.heap ∧ W1.heap[b]? = W.heap[b]? := fun b hb =>
   xR f3 (ltW b hb) (by show b ∉ owns _ T0.heap; rw [hown]; exact (q4 b hb).1) (by show b ∉ ros _ T0.heap; rw [hros]; exact (q4 b hb).2)
  refine ⟨⟨f3.frame.size, fun b hb => (ap1 b hb).2.2⟩, fun o => ?_⟩
  have hr2 := aA7 hr1 (uH (l := w.heap.size + 1) (o := o) (D := [w.heap.size + 1]) (by simp)) fun y hy => by
   rw [List.mem_singleton] at hy; subst hy
   exact ⟨(ap1 _ hmL).1, (ap1 _ hmL).2.1, far _ (by simp)⟩
  have ltB : ∀ b ∈ [N1, N2, N3, w.heap.size, w.heap.size + 1], b < (W1.putObj (w.heap.size + 1) o).heap.size := fun b hb => by
   have := ltW b hb; have := f3.frame.size; simp; omega
  have := vI (ro := some (w.heap.size + 1)) (n := m) (ds := []) (Q := fun e _ W' => (W1.heap.size ≤ W'.heap.size ∧ ∀ b ∈ [N1, N2, N3, w.heap.size, w.heap.size + 1], W'.heap[b]? = (W1.putObj (w.heap.size + 1) o).heap[b]?) ∧ match e with
     | .normal => ∃ σ, bY (T0.aB.drop S.aB.length) σ ∧ Rel G w0 D0 R0 (ρ0 ++ τ ++ σ) T0 a W' ∧ E.inv j (fix.map (Tm.den (ρ0 ++ τ)) ++ keepD σ (T0.aB.drop S.aB.length) ++ [.I ((px ++ [x]).length : Nat)]) ∧
       ∀ x ∈ [N1, N2, N3, w.heap.size, w.heap.size + 1], x ∉ owns (ρ0 ++ τ ++ σ) T0.heap ∧ x ∉ ros (ρ0 ++ τ ++ σ) T0.heap
     | .ret => ∃ τ' S' vc', iZ cx S' = .ok vc' ∧ vc'.den E (ρ0 ++ τ') ∧ Rel G w0 D0 R0 (ρ0 ++ τ') S' a W' ∧ ∀ x ∈ [N1, N2, N3, w.heap.size, w.heap.size + 1], x ∉ owns (ρ0 ++ τ') S'.heap ∧ x ∉ ros (ρ0 ++ τ') S'.heap
     | _ => False) (ρ0 := ρ0 ++ τ ++ σ ++ [.I px.length]) hG hsig hm ?_ ?_ f [.code body] S1 vc1 τ1 a1 _ f1 f2 (aJ3 hr2)
  ·exact this
  ·-- the round goes on
   rintro S2 τ2 vc2 a2 W2 g1 g2 g3
   have hk : ∀ b ∈ [N1, N2, N3, w.heap.size, w.heap.size + 1], _ := fun b hb => xR g3 (ltB b hb) (ap1 b hb).1 (ap1 b hb).2.1
   split at g1
   ·rename_i θ2 hθ2
    cases g1
    have ht2 : aU (ρ0 ++ τ ++ σ ++ [.I px.length] ++ τ2) S.tmps a.tmps.toList := by
     have := hSt (σ ++ [.I px.length] ++ τ2); simpa using this
    have g4 := Rel.bL1 (S := S) g3 ht2 hr.defers
    have e0 : ρ0 ++ τ ++ σ ++ [.I px.length] ++ τ2 = ρ0 ++ τ ++ (σ ++ [.I px.length] ++ τ2) := by simp
    have g4' := g4
    rw [e0] at g4'
    obtain ⟨u1, u2⟩ := wL (ρ := ρ0 ++ τ) (τ := σ ++ [.I px.length] ++ τ2) g4' hlen.symm hsrt hθ2
    refine ⟨⟨by have := g3.frame.size; simp at this; exact this, fun b hb => (hk b hb).2.2⟩, _, u1, aJ2 hr2 u2, ?_, fun b hb => ?_⟩
    ·have g5 := g2.1
     rw [List.map_append, List.map_append, nN] at g5
     have e1 : fix.map (Tm.den (ρ0 ++ τ ++ σ ++ [.I px.length] ++ τ2)) = fix.map (Tm.den (ρ0 ++ τ)) := by rw [e0, hfixE]
     have e2 : [Tm.o2 (.add .i64) (.at T0.aB.length) (.int 1)].map (Tm.den (ρ0 ++ τ ++ σ ++ [.I px.length] ++ τ2)) = [D.I ((px ++ [x]).length : Nat)] := by
      show [D.I (IntKind.i64.wrap (((Tm.at T0.aB.length).den (ρ0 ++ τ ++ σ ++ [.I px.length] ++ τ2)).toI + 1))] = _
      rw [hat]
      have : ((((Tm.o1 .lines t).den (ρ0 ++ τ)).toL.length : Nat) : Int) ≤ 4611686018427387904 := of_decide_eq_true ol
      have e3 : (Tm.o1 .lines t).den (ρ0 ++ τ) = .L (dG s) := by show D.L (dG (t.den _).toS) = _; rw [hs]
      rw [e3] at this
      have this : ((dG s).length : Int) ≤ 4611686018427387904 := this
      rw [hllen] at this
      have hw : IntKind.i64.wrap ((px.length : Int) + 1) = ((px ++ [x]).length : Nat) := by
       rw [IntKind.wrap_i64, List.length_append]
       have h1 : [x].length = 1 := rfl
       omega
      exact congrArg (fun n => [D.I n]) hw
     rw [e1, e2, e0] at g5
     exact g5
    ·have := xR u2 (ltB b hb) (ap1 b hb).1 (ap1 b hb).2.1
     exact ⟨this.1, this.2.1⟩
   ·cases g1
  ·-- it leaves
   rintro S2 τ2 vc2 a2 W2 g1 g2 g3
   have hk : ∀ b ∈ [N1, N2, N3, w.heap.size, w.heap.size + 1], _ := fun b hb => xR g3 (ltB b hb) (ap1 b hb).1 (ap1 b hb).2.1
   have ht2 : aU (ρ0 ++ τ ++ σ ++ [.I px.length] ++ τ2) S.tmps a.tmps.toList := by
    have := hSt (σ ++ [.I px.length] ++ τ2); simpa using this
   have g4 := aJ2 hr2 (Rel.bL1 (S := S) g3 ht2 hr.defers)
   have e0 : ρ0 ++ τ ++ σ ++ [.I px.length] ++ τ2 = ρ0 ++ (τ ++ σ ++ [.I px.length] ++ τ2) := by simp
   refine ⟨⟨by have := g3.frame.size; simp at this; exact this, fun b hb => (hk b hb).2.2⟩, τ ++ σ ++ [.I px.length] ++ τ2, { S2 with tmps := S.tmps }, vc2, g1, by rw [← e0]; exact g2, by rw [← e0]; exact g4, fun b hb => ?_⟩
   rw [← e0]
   exact ⟨(hk b hb).1, (hk b hb).2.1⟩
 ·-- behind all of them
  rintro W ⟨σ, q1, q2, q3, q4⟩ hk
  obtain ⟨hrT, k1, k2, _, _, hk2, _, ⟨va, ha1, ha2⟩⟩ := opened σ _ a W q1 q2 q3
  have hT0 : (ρ0 ++ τ ++ σ).length = T0.aB.length := cO q2.aB
  rw [hk2] at ha1
  obtain ⟨vb, hb1, hb2⟩ := iH ha1 ha2 (by
   show (((Tm.at T0.aB.length).den (ρ0 ++ τ ++ σ ++ [.I (aS s.data.toList).length])).toI == (((Tm.o1 .lines t).den (ρ0 ++ τ ++ σ ++ [.I (aS s.data.toList).length])).toL.length : Nat)) = true
   have e1 : (Tm.at T0.aB.length).den (ρ0 ++ τ ++ σ ++ [.I (aS s.data.toList).length]) = .I (aS s.data.toList).length := by
    show (ρ0 ++ τ ++ σ ++ [D.I (aS s.data.toList).length]).getD T0.aB.length default = _
    rw [← hT0, List.getD]; simp
   have e2 : (Tm.o1 .lines t).den (ρ0 ++ τ ++ σ ++ [.I (aS s.data.toList).length]) = .L (dG s) := by
    show D.L (dG (t.den _).toS) = _
    rw [List.append_assoc, htE, hs]
   rw [e1, e2]
   show (((aS s.data.toList).length : Int) == ((dG s).length : Nat)) = true
   rw [dG, List.length_map]; simp)
  simp only [St.under, Bool.and_eq_true, ← hT0] at c5
  have hown : ∀ tl, owns (ρ0 ++ τ ++ σ ++ tl) T0.heap = owns (ρ0 ++ τ ++ σ) T0.heap := fun tl => rW c5.2
  have hros : ∀ tl, ros (ρ0 ++ τ ++ σ ++ tl) T0.heap = ros (ρ0 ++ τ ++ σ) T0.heap := fun tl => xX c5.2
  have hmD : w.heap.size ∈ [N1, N2, N3, w.heap.size, w.heap.size + 1] := by simp
  have fin : ∀ (S' : St) (τ' : LD) (vc' : VC) (a' : Act) (W' : World), iZ cx S' = .ok vc' → vc'.den E (ρ0 ++ τ ++ σ ++ [.I (aS s.data.toList).length] ++ τ') →
    Rel G W (owns (ρ0 ++ τ ++ σ ++ [.I (aS s.data.toList).length]) T0.heap) (ros (ρ0 ++ τ ++ σ ++ [.I (aS s.data.toList).length]) T0.heap) (ρ0 ++ τ ++ σ ++ [.I (aS s.data.toList).length] ++ τ') S' a' W' →
    Q .ret (dS a' [mark w.heap.size]) W' ∧ Q .normal (dS a' [mark w.heap.size]) W' := fun S' τ' vc' a' W' g1 g2 g3 => by
   have hn := xR g3 (lt_of_some hk) (by rw [hown]; exact (q4 _ hmD).1) (by rw [hros]; exact (q4 _ hmD).2)
   have g4 := aJ2 hrT g3
   have e0 : ρ0 ++ τ ++ σ ++ [.I (aS s.data.toList).length] ++ τ' = ρ0 ++ (τ ++ σ ++ [.I (aS s.data.toList).length] ++ τ') := by simp
   have g5 := aA7 g4 (uH (l := w.heap.size) (o := .deferred none) (D := [w.heap.size]) (by simp)) fun y hy => by
    rw [List.mem_singleton] at hy; subst hy
    exact ⟨hn.1, hn.2.1, far _ (by simp)⟩
   rw [e0] at g2 g5
   exact hQ S' _ vc' a' W' w.heap.size g1 g2 (hn.2.2.trans hk) g5
  rw [hr.defers]
  exact aW9 (n := 0) c8 _ _ _ (vI (ro := none) (n := 0) (ds := [mark w.heap.size]) (Q := Q) (ρ0 := ρ0 ++ τ ++ σ ++ [.I (aS s.data.toList).length]) hG hsig hm
   (fun S' τ' vc' a' W' g1 g2 g3 => (fin S' τ' vc' a' W' g1 g2 g3).2) (fun S' τ' vc' a' W' g1 g2 g3 => (fin S' τ' vc' a' W' g1 g2 g3).1) f K _ vb [] a W hb1 (by rw [List.append_nil]; exact hb2) (by rw [List.append_nil]; exact aJ3 hrT))
 ·rintro xs W ⟨τ', S', vc', q0, q1, q2, q4⟩ hk
  rw [qY, hr.defers]
  exact (hQ S' τ' vc' a W _ q0 q1 hk (aA7 q2 (uH (l := w.heap.size) (D := [w.heap.size]) (by simp)) fun x hx => by
   rw [List.mem_singleton] at hx; subst hx
   exact ⟨(q4 _ (by simp)).1, (q4 _ (by simp)).2, far _ (by simp)⟩)).1
end
end Go.Vc