/-
 Soundness: one operation.
 Soundness: the whole.
 Soundness: running through the code.
 Use: contracts by list, what is kept.
-/
import Derived.Test.YtdppcnngoclehaaVcc
import Derived.OrdersHeld
import GoSem.Claim
set_option linter.unusedVariables false
set_option linter.unusedSimpArgs false
open _root_.Go.IntKind (wrap)
namespace Go.Vc
section
variable {E : Env} {G : List Glob} {w0 : World} {D0 R0 : List Nat} {ρ : LD} {S : St} {a : Act} {w : World} {cx : Cx} {vc : VC} {o : Oper} {k : St → M} {K : Act → World → Prop} {Q : Exit → Act → World → Prop}
def Nx (E : Env) (G : List Glob) (w0 : World) (D0 R0 : List Nat) (ρ : LD) (k : St → M) (a' : Act) (w' : World) : Prop :=
 ∃ σ S' vc', k S' = .ok vc' ∧ vc'.den E (ρ ++ σ) ∧ Rel G w0 D0 R0 (ρ ++ σ) S' a' w'
theorem lZ (hr : Rel G w0 D0 R0 ρ S a w) {d : Option Tmp} {z : Value} (h : Met E ρ (fun v => k (S.put d v)) z) : Nx E G w0 D0 R0 ρ k (a.put d z) w := by
 obtain ⟨x, vc, h1, h2, h3⟩ := h
 exact ⟨[], _, vc, h1, by simpa using h2, by simpa using hr.put h3⟩
theorem sF {d : Option Tmp} {run : Result Value} (h : Out E G w0 D0 R0 ρ a (fun v S => k (S.put d v)) run) : ∃ z w', run = .ok z w' ∧ Nx E G w0 D0 R0 ρ k (a.put d z) w' := by
 obtain ⟨σ, x, S', vc, v, w', h1, h2, h3, h4, h5⟩ := h
 exact ⟨v, w', h5, σ, _, vc, h1, h2, h4.put h3⟩
def owp (P : Program) (o : Oper) (a : Act) (w : World) (K : Act → World → Prop) : Prop :=
 match (execOp a.eval o).run P w with
 | .ok (.value z) w' => K (a.put o.dst z) w'
 | .ok .skip w' => K (a.put o.dst undef) w'
 | .ok (.enter f args) w' => Calls P f args w' fun
  | .returned v, w'' => K (a.put o.dst v) w''
  | _, _ => False
 | _ => False
theorem owp.wp {P : Program} (h : owp P o a w K) : o.wp P a w K Q := by
 unfold owp at h
 unfold Oper.wp
 generalize (execOp a.eval o).run P w = r at h ⊢
 cases r with
 | ok x w' =>
  cases x <;> first | exact h | exact h.elim | skip
  exact Calls.mono h (fun e w'' he => by cases e <;> first | exact he | exact he.elim)
 | halt x w' => exact h.elim
theorem oC {z : Value} {w' : World} (he : (execOp a.eval o).run cx.P w = .ok (.value z) w') (h : K (a.put o.dst z) w') : owp cx.P o a w K := by
 unfold owp; rw [he]; exact h
theorem nZ {s : Sem Value} (he : execOp a.eval o = (do pure (Next.value (← s)))) (h : Out E G w0 D0 R0 ρ a (fun v S => k (S.put o.dst v)) (s.run cx.P w))
  (hK : ∀ a' w', Nx E G w0 D0 R0 ρ k a' w' → K a' w') : owp cx.P o a w K := by
 obtain ⟨z, w', h1, h2⟩ := sF h
 exact oC (z := z) (w' := w') (by rw [he]; simp [h1]) (hK _ _ h2)
theorem bR5 {s : Sem Value} (hr : Rel G w0 D0 R0 ρ S a w) (he : execOp a.eval o = (do pure (Next.value (← s)))) (h : ∃ z, Met E ρ (fun v => k (S.put o.dst v)) z ∧ s.run cx.P w = .ok z w)
  (hK : ∀ a' w', Nx E G w0 D0 R0 ρ k a' w' → K a' w') : owp cx.P o a w K := by
 obtain ⟨z, h1, h2⟩ := h
 exact oC (z := z) (w' := w) (by rw [he]; simp [h2]) (hK _ _ (lZ hr h1))
theorem bK {x : Except String SV} {f : SV → M} (h : bZ x f = .ok vc) : ∃ v, x = .ok v ∧ f v = .ok vc := by
 unfold bZ at h
 split at h
 ·exact ⟨_, rfl, h⟩
 ·cases h
theorem tZ (hr : Rel G w0 D0 R0 ρ S a w) : ∀ {xs : List Operand} {ts : List TypeId} {vs : List SV}, evs cx S xs ts = .ok vs → aS ρ vs (xs.map a.eval)
 | [], ts, vs, h => by simp only [evs] at h; cases h; exact rfl
 | x :: xs, ts, vs, h => by
  simp only [evs] at h
  split at h
  ·rename_i v r hv hrr
   cases h
   exact ⟨_, _, rfl, aT hr hv, tZ hr hrr⟩
  ·cases h
  ·cases h
theorem aE1 : ∀ {args : List SV} {ts : List TypeId} {S : St} {ρ : LD} {k : List SV → St → M} {vc : VC} {vals : List Value}, Rel G w0 D0 R0 ρ S a w → yB cx args ts S k = .ok vc → vc.den E ρ → aS ρ args vals →
  ∃ σ args' S' vc', k args' S' = .ok vc' ∧ vc'.den E (ρ ++ σ) ∧ aS (ρ ++ σ) args' vals ∧ Rel G w0 D0 R0 (ρ ++ σ) S' a w
 | [], ts, S, ρ, k, vc, vals, hr, h, hd, hv => ⟨[], [], S, vc, h, by simpa using hd, by simpa using hv, by simpa using hr⟩
 | v :: args, ts, S, ρ, k, vc, vals, hr, h, hd, hv => by
  obtain ⟨u, r, rfl, h1, h2⟩ := hv
  simp only [yB] at h
  split at h
  ·rename_i hu
   rw [← aX hr.aA] at hu
   obtain ⟨σ, v', S', vc', e1, e2, e3, e4, e5⟩ := aE2 hr h hd h1
   split at e1
   ·rename_i hv'
    rw [← aX e4.aA] at hv'
    obtain ⟨σ', args', S'', vc'', f1, f2, f3, f4⟩ := aE1 e4 e1 e2 (vals := r) (by rw [aX0 hu]; exact h2)
    refine ⟨σ ++ σ', v' :: args', S'', vc'', f1, by rw [← List.append_assoc]; exact f2, ?_, by rw [← List.append_assoc]; exact f4⟩
    rw [← List.append_assoc]
    exact ⟨u, r, rfl, by rw [SV.kV hv']; exact e3, f3⟩
   ·cases e1
  ·cases h
theorem aV8 {P : Program} {f : FuncId} {fn : Func} {c : Code} (hf : P.funcs[f]? = some fn) (hname : (fn.name == "runtime.NumGoroutine") = false) (hb : fn.body = some c) (args : Array Value) (w : World) :
  (callFunc f args).run P w = .ok (.enter f args) w := by
 have h1 : fn.name ≠ "runtime.NumGoroutine" := by simpa using hname
 simp [callFunc, hf, h1, hb]
theorem cF0 {x : Value} {v : SV} (h : (match v with | .one (.lf (.ptr ..)) | .one (.lf (.aptr ..)) | .one (.lf (.eptr ..)) => true | _ => false) = true) (hv : v.holds ρ x) : ∃ ad, x = .pointer (some ad) := by
 split at h
 ·exact ⟨_, hv⟩
 ·exact ⟨_, hv.1⟩
 ·obtain ⟨ad, n, c, _, _, _, _, rfl⟩ := hv; exact ⟨_, rfl⟩
 ·cases h
theorem pure_ok (hr : Rel G w0 D0 R0 ρ S a w) (hp : iP o = true) (h : step cx o S k = .ok vc) (hd : vc.den E ρ) :
  ∃ z, Nx E G w0 D0 R0 ρ k (a.put o.dst z) w ∧ ∀ w', (execOp a.eval o).run cx.P w' = .ok (.value z) w' := by
 have met : ∀ {s : Sem Value}, execOp a.eval o = (do pure (Next.value (← s))) → (∃ z, Met E ρ (fun v => k (S.put o.dst v)) z ∧ ∀ w', s.run cx.P w' = .ok z w') →
   ∃ z, Nx E G w0 D0 R0 ρ k (a.put o.dst z) w ∧ ∀ w', (execOp a.eval o).run cx.P w' = .ok (.value z) w' := by
  rintro s he ⟨z, h1, h2⟩
  exact ⟨z, lZ hr h1, fun w' => by rw [he]; simp [h2]⟩
 have mv : ∀ (x : Operand), execOp a.eval o = pure (.value (a.eval x)) → bZ (evT cx S o.type x) (fun v => rW cx o.type v S fun v S => k (S.put o.dst v)) = .ok vc →
   ∃ z, Nx E G w0 D0 R0 ρ k (a.put o.dst z) w ∧ ∀ w', (execOp a.eval o).run cx.P w' = .ok (.value z) w' := by
  intro x he h
  obtain ⟨v, h1, h2⟩ := bK h
  obtain ⟨σ, v', S', vc', e1, e2, e3, e4, e5⟩ := aE2 hr h2 hd (aT hr h1)
  exact ⟨a.eval x, ⟨σ, _, vc', e1, e2, e4.put e3⟩, fun w' => by rw [he]; rfl⟩
 unfold iP at hp
 unfold step at h
 dsimp only at h
 split at hp <;> try (cases hp; done)
 all_goals (rename_i heq; rw [heq] at h; dsimp only at h)
 ·exact mv _ (by unfold execOp; rw [heq]) h
 ·exact mv _ (by unfold execOp; rw [heq]) h
 ·rename_i c x y
  obtain ⟨v, h1, h2⟩ := bK h
  have hv := aT hr h1
  split at h2
  ·rename_i hb
   obtain ⟨u, h3, h4⟩ := bK h2
   have he : ∀ c a' b', a.eval c = .bool true → ((do pure (Next.value (if ← asBool (a.eval c) then a' else b')) : Sem Next)) = pure (.value a') := by
    intro c a' b' hc; rw [hc]; rfl
   have hc : a.eval c = .bool true := by
    unfold aS1 at hb
    split at hb
    ·cases hb; exact hv
    ·cases hb
   refine ⟨_, lZ hr ⟨_, vc, h4, hd, aT hr h3⟩, fun w' => ?_⟩
   unfold execOp; rw [heq]; dsimp only; rw [he _ _ _ hc]; rfl
  ·rename_i hb
   obtain ⟨u, h3, h4⟩ := bK h2
   have he : ∀ c a' b', a.eval c = .bool false → ((do pure (Next.value (if ← asBool (a.eval c) then a' else b')) : Sem Next)) = pure (.value b') := by
    intro c a' b' hc; rw [hc]; rfl
   have hc : a.eval c = .bool false := by
    unfold aS1 at hb
    split at hb
    ·cases hb; exact hv
    ·cases hb
   refine ⟨_, lZ hr ⟨_, vc, h4, hd, aT hr h3⟩, fun w' => ?_⟩
   unfold execOp; rw [heq]; dsimp only; rw [he _ _ _ hc]; rfl
  ·cases h2
 ·obtain ⟨u, h1, h2⟩ := bK h
  obtain ⟨v, h3, h4⟩ := bK h2
  exact met (by unfold execOp; rw [heq]) (bU5 hr h4 hd (aT hr h1) (aT hr h3) _ _)
 ·obtain ⟨u, h1, h2⟩ := bK h
  exact met (by unfold execOp; rw [heq]) (cM6 h2 hd (aT hr h1))
 ·obtain ⟨u, h1, h2⟩ := bK h
  exact met (by unfold execOp; rw [heq]) (bX9 h2 hd (aT hr h1))
 ·obtain ⟨u, h1, h2⟩ := bK h
  have hu := aT hr h1
  split at h2
  ·rename_i xs
   split at h2
   ·rename_i x hx
    obtain ⟨z, g1, g2⟩ := bX5 (P := cx.P) hx hu
    exact met (by unfold execOp; rw [heq]) ⟨z, ⟨_, vc, h2, hd, g1⟩, g2⟩
   ·cases h2
  ·cases h2
 ·obtain ⟨u, h1, h2⟩ := bK h
  have hu := aT hr h1
  by_cases hnil : u = .one (.lf .nilp)
  ·subst hnil
   cases h2
   exact absurd hd.1 (by simp [Tm.den])
  obtain ⟨ad, had⟩ : ∃ ad, a.eval ‹Operand› = .pointer (some ad) := by
   refine cF0 (v := u) ?_ hu
   split at h2 <;> first | rfl | exact absurd rfl hnil | cases h2
  have h3 : k (S.put o.dst u) = .ok vc := by split at h2 <;> first | exact h2 | exact absurd rfl hnil | cases h2
  refine ⟨_, lZ hr ⟨_, vc, h3, hd, hu⟩, fun w' => ?_⟩
  unfold execOp; rw [heq]; dsimp only; rw [had]; rfl
 ·obtain ⟨u, h1, h2⟩ := bK h
  exact met (by unfold execOp; rw [heq]) (bY0 h2 hd (aT hr h1))
 ·exact met (by unfold execOp; rw [heq]) (bV0 hr h hd)
theorem cN6 (hr : Rel G w0 D0 R0 ρ S a w) (hp : iP o = true) (h : step cx o S k = .ok vc) (hd : vc.den E ρ) (hK : ∀ a' w', Nx E G w0 D0 R0 ρ k a' w' → K a' w') : owp cx.P o a w K := by
 obtain ⟨z, h1, h2⟩ := pure_ok hr hp h hd
 exact oC (h2 w) (hK _ _ h1)
theorem aF3 (hr : Rel G w0 D0 R0 ρ S a w) {x : Option Operand} {v : Option SV} (h : (match x with | none => Except.ok none | some l => (match ev cx S l with | .ok v => .ok (some v) | .error e => .error e)) = .ok v) : vI ρ v (x.map a.eval) := by
 cases x with
 | none => cases h; trivial
 | some l =>
  dsimp only at h
  split at h
  ·rename_i u hu; cases h; exact aT hr hu
  ·cases h
theorem bV3 {b : Builtin} {ts : Array TypeId} {args : List SV} {vals : Array Value} {cs : Array Bool} {k : SV → St → M} {ty : TypeId} (hr : Rel G w0 D0 R0 ρ S a w) (h : wV cx b ts.toList args S k = .ok vc) (hd : vc.den E ρ) (ha : aS ρ args vals.toList) :
  ∃ s : Sem Value, builtin b ts ty cs vals = (do pure (Next.value (← s))) ∧ Out E G w0 D0 R0 ρ a k (s.run cx.P w) := by
 have met : ∀ {s : Sem Value}, (∃ z, Met E ρ (fun v => k v S) z ∧ s.run cx.P w = .ok z w) → Out E G w0 D0 R0 ρ a k (s.run cx.P w) := by
  rintro s ⟨z, ⟨x, vc, h1, h2, h3⟩, h4⟩
  exact ⟨[], x, S, vc, z, w, h1, by simpa using h2, by simpa using h3, by simpa using hr, h4⟩
 have arr1 : ∀ {α : Type} {xs : Array α} {x : α}, xs.toList = [x] → xs = #[x] := fun h => Array.toList_inj.1 (by rw [h])
 have arr2 : ∀ {α : Type} {xs : Array α} {x y : α}, xs.toList = [x, y] → xs = #[x, y] := fun h => Array.toList_inj.1 (by rw [h])
 unfold wV at h
 split at h
 ·rename_i t x hts
  obtain ⟨v, r, hv, h1, hn⟩ := ha
  simp only [aS] at hn; subst hn
  rw [arr1 hts, arr1 hv]
  obtain ⟨z, m1, m2⟩ := bH5 hr h hd h1 ty
  exact ⟨_, rfl, met ⟨z, m1, m2 w⟩⟩
 ·refine ⟨_, rfl, met ?_⟩
  obtain ⟨z, m1, m2⟩ := bJ1 (cx := cx) (w := w) h hd ha ts ty
  exact ⟨z, m1, by simpa using m2 w⟩
 ·refine ⟨_, rfl, met ?_⟩
  obtain ⟨z, m1, m2⟩ := bI9 (cx := cx) (w := w) h hd ha ts ty
  exact ⟨z, m1, by simpa using m2 w⟩
 ·rename_i t tx s x hts
  obtain ⟨u, r, hv, h1, v, r', rfl, h2, hn⟩ := ha
  simp only [aS] at hn; subst hn
  rw [arr2 hts, arr2 hv]
  refine ⟨_, rfl, ?_⟩
  split at h
  ·rename_i hu
   rw [← aX hr.aA] at hu
   obtain ⟨σ, s', S', vc', e1, e2, e3, e4, e5⟩ := aE2 hr h hd h1
   obtain ⟨σ', x', S'', vc'', v', w', f1, f2, f3, f4, f5⟩ := bT7 (ty := ty) e4 e1 e2 e3 (v := v) (by rw [SV.kV hu]; exact h2)
   exact ⟨σ ++ σ', x', S'', vc'', v', w', f1, by rw [← List.append_assoc]; exact f2, by rw [← List.append_assoc]; exact f3, by rw [← List.append_assoc]; exact f4, f5⟩
  ·cases h
 ·rename_i t tx d x hts
  obtain ⟨u, r, hv, h1, v, r', rfl, h2, hn⟩ := ha
  simp only [aS] at hn; subst hn
  rw [arr2 hts, arr2 hv]
  exact ⟨_, rfl, bV9 hr h hd h1 h2⟩
 ·rename_i t t' m x hts
  obtain ⟨u, r, hv, h1, v, r', rfl, h2, hn⟩ := ha
  simp only [aS] at hn; subst hn
  rw [arr2 hts, arr2 hv]
  exact ⟨_, rfl, bW3 hr h hd h1 h2⟩
 ·cases h
theorem step_ok (hG : cx.G = G) (hsig : qU cx E) (hr : Rel G w0 D0 R0 ρ S a w) (h : step cx o S k = .ok vc) (hd : vc.den E ρ) (hK : ∀ a' w', Nx E G w0 D0 R0 ρ k a' w' → K a' w') : owp cx.P o a w K := by
 by_cases hp : iP o = true
 ·exact cN6 hr hp h hd hK
 unfold step at h
 dsimp only at h
 split at h
 ·rename_i heq; exfalso; apply hp; unfold iP; rw [heq]
 ·rename_i heq; exfalso; apply hp; unfold iP; rw [heq]
 ·rename_i heq; exfalso; apply hp; unfold iP; rw [heq]
 ·-- alloc
  rename_i t heq
  split at h
  ·rename_i ps hz
   obtain ⟨i, z, hi, hz, hv⟩ := zU (ρ := ρ) hz
   obtain ⟨u, w', h1, h2⟩ := sF (aE5 (u := z) hr h hd hv)
   refine oC (z := u) (w' := w') ?_ (hK _ _ h2)
   unfold execOp; rw [heq]; dsimp only
   simp only [Sem.run_bind] at h1 ⊢
   simp [Instr.alloc, zeroValue, typeInfo, hi, hz] at h1 ⊢
   rw [h1]; rfl
  ·cases h
 ·-- box
  rename_i t x heq
  obtain ⟨v, h1, h2⟩ := bK h
  split at h2
  ·rename_i ps hps
   exact nZ (s := Instr.box t (a.eval x)) (by unfold execOp; rw [heq]) (aE5 (u := a.eval x) hr h2 hd (aW8 hr.heap hps (aT hr h1))) hK
  ·cases h2
 ·rename_i heq; exfalso; apply hp; unfold iP; rw [heq]
 ·-- buildSlice
  rename_i t n args heq
  exact nZ (by unfold execOp; rw [heq]) (bV1 hr h hd) hK
 ·-- load
  rename_i t x heq
  obtain ⟨u, h1, h2⟩ := bK h
  have hr' := bC7 hr (aT hr h1)
  obtain ⟨z, h3, h4⟩ := bI4 hG hr' h2 hd (aT hr h1)
  refine oC (z := z) (w' := w) (by unfold execOp; rw [heq]; dsimp only; simp [h4]) (hK _ _ (lZ hr' h3))
 ·-- store
  rename_i t x y heq
  obtain ⟨u, h1, h2⟩ := bK h
  obtain ⟨v, h3, h4⟩ := bK h2
  obtain ⟨σ, S', vc', w', e1, e2, e3, e4⟩ := cL6 hr h1 h3 h4 hd
  unfold owp execOp
  rw [heq]
  dsimp only
  simp only [Sem.run_bind, e4, Result.andThen_ok]
  exact hK _ _ ⟨σ, _, vc', e1, e2, e3.put (x := .one (.lf .junk)) trivial⟩
 ·rename_i heq; exfalso; apply hp; unfold iP; rw [heq]
 ·rename_i heq; exfalso; apply hp; unfold iP; rw [heq]
 ·rename_i heq; exfalso; apply hp; unfold iP; rw [heq]
 ·-- convert
  rename_i s d x heq
  obtain ⟨u, h1, h2⟩ := bK h
  exact nZ (by unfold execOp; rw [heq]) (bV8 hr h2 hd (aT hr h1)) hK
 ·-- makeSlice
  rename_i t l c heq
  obtain ⟨u, h1, h2⟩ := bK h
  obtain ⟨v, h3, h4⟩ := bK h2
  exact nZ (by unfold execOp; rw [heq]) (cD6 hr h4 hd (aT hr h1) (aT hr h3)) hK
 ·-- slice
  rename_i t x lo hi mx heq
  obtain ⟨u, h1, h2⟩ := bK h
  split at h2
  ·rename_i l hh hl hhh
   refine nZ (by unfold execOp; rw [heq]) (cL0 (mx := mx.map a.eval) (drop := dropped cx o.dst) hr (by rw [Option.isSome_map]; exact h2) hd (aT hr h1) (aF3 hr hl) (aF3 hr hhh)) hK
  ·cases h2
  ·cases h2
 ·rename_i heq; exfalso; apply hp; unfold iP; rw [heq]
 ·rename_i heq; exfalso; apply hp; unfold iP; rw [heq]
 ·-- indexAddr
  rename_i t x i heq
  obtain ⟨u, h1, h2⟩ := bK h
  obtain ⟨v, h3, h4⟩ := bK h2
  exact bR5 hr (by unfold execOp; rw [heq]) ((bF6 hr h4 hd (aT hr h1) (aT hr h3)).imp fun _ h => ⟨h.1, h.2 w⟩) hK
 ·-- index
  rename_i t x i heq
  obtain ⟨u, h1, h2⟩ := bK h
  obtain ⟨v, h3, h4⟩ := bK h2
  exact bR5 hr (by unfold execOp; rw [heq]) ((bF7 h4 hd (aT hr h1) (aT hr h3)).imp fun _ h => ⟨h.1, h.2 w⟩) hK
 ·rename_i heq; exfalso; apply hp; unfold iP; rw [heq]
 ·-- call
  rename_i c heq
  split at h
  ·rename_i b hb
   split at h
   ·rename_i args hargs
    have ha := tZ hr hargs
    rw [← Array.toList_map] at ha
    obtain ⟨s, e1, e2⟩ := bV3 (ty := o.type) (cs := c.args.map fun | .const _ => true | _ => false) hr h hd ha
    refine nZ (s := s) ?_ e2 hK
    unfold execOp; rw [heq]; dsimp only
    unfold resolve; rw [hb]; dsimp only
    rw [← e1]; rfl
   ·cases h
  ·rename_i f hf
   split at h
   ·rename_i g args hg hargs
    have ha := tZ hr hargs
    rw [← Array.toList_map] at ha
    have hgv : a.eval f = .func (.func g) #[] #[] := aT hr hg
    obtain ⟨σ, args', S', vc', e1, e2, e3, e4⟩ := aE1 hr h hd ha
    obtain ⟨⟨fn, b, hf1, hf2, hf3⟩, hcalls⟩ := aM1 hG hsig e4 e1 e2 e3
    have he : (execOp a.eval o).run cx.P w = .ok (.enter g (c.args.map a.eval)) w := by
     unfold execOp; rw [heq]; dsimp only
     unfold resolve; rw [hf]; dsimp only
     rw [hgv]
     have := aV8 (P := cx.P) hf1 hf2 hf3 (c.args.map a.eval) w
     simpa [Deferred.ofValue, invoke] using this
    unfold owp
    rw [he]
    refine Calls.mono hcalls ?_
    rintro e w' ⟨v, rfl, hout, -⟩
    obtain ⟨z, w'', h1, σ', S'', vc'', f1, f2, f3⟩ := sF hout
    cases h1
    exact hK _ _ ⟨σ ++ σ', S'', vc'', f1, by rw [← List.append_assoc]; exact f2, by rw [← List.append_assoc]; exact f3⟩
   ·rename_i g fs cs args hg hargs
    split at h
    ·rename_i hund
     have ha := tZ hr hargs
     rw [← Array.toList_map] at ha
     have hgv : a.eval f = .func (.func g) (fs.map fun b => Value.pointer (some ⟨(b.den ρ).toN, 0, none⟩)).toArray (cs.map fun b => Value.pointer (some ⟨(b.den ρ).toN, 0, none⟩)).toArray := aT hr hg
     obtain ⟨σ, args', S', vc', e1, e2, e3, e4⟩ := aE1 hr h hd ha
     simp only [Bool.and_eq_true, ← aX hr.aA] at hund
     have hfs : ∀ {xs : List Tm}, xs.all (Tm.under ρ.length) = true → (xs.map fun b => Value.pointer (some ⟨(b.den (ρ ++ σ)).toN, 0, none⟩)) = xs.map fun b => Value.pointer (some ⟨(b.den ρ).toN, 0, none⟩) := fun {xs} hx =>
      List.map_congr_left fun b hb => by rw [Tm.aV (List.all_eq_true.1 hx b hb)]
     have e5 := aI2 (aI2 (aW9 (ρ := ρ ++ σ) fs) e3) (aW9 (ρ := ρ ++ σ) cs)
     rw [hfs hund.1, hfs hund.2] at e5
     generalize hX : ((fs.map fun b => Value.pointer (some ⟨(b.den ρ).toN, 0, none⟩)).toArray ++ c.args.map a.eval ++ (cs.map fun b => Value.pointer (some ⟨(b.den ρ).toN, 0, none⟩)).toArray) = X
     have e6 : aS (ρ ++ σ) (fs.map yK ++ args' ++ cs.map yK) X.toList := by rw [← hX]; simpa using e5
     obtain ⟨⟨fn, b, hf1, hf2, hf3⟩, hcalls⟩ := aM1 hG hsig e4 e1 e2 e6
     have he : (execOp a.eval o).run cx.P w = .ok (.enter g X) w := by
      unfold execOp; rw [heq]; dsimp only
      unfold resolve; rw [hf]; dsimp only
      rw [hgv]
      have := aV8 (P := cx.P) hf1 hf2 hf3 X w
      simpa [Deferred.ofValue, invoke, hX] using this
     unfold owp
     rw [he]
     refine Calls.mono hcalls ?_
     rintro e w' ⟨v, rfl, hout, -⟩
     obtain ⟨z, w'', h1, σ', S'', vc'', f1, f2, f3⟩ := sF hout
     cases h1
     exact hK _ _ ⟨σ ++ σ', S'', vc'', f1, by rw [← List.append_assoc]; exact f2, by rw [← List.append_assoc]; exact f3⟩
    ·cases h
   ·cases h
   ·cases h
   ·cases h
  ·cases h
 ·-- makeFunc
  rename_i fn first caps heq
  split at h
  ·rename_i f fs cs hfs hcs
   have h1 := aL5 hr hfs
   have h2 := aL5 hr hcs
   rw [← Array.toList_map] at h1 h2
   refine oC (z := .func (.func f) (first.map a.eval) (caps.map a.eval)) (w' := w) (by unfold execOp; rw [heq]; rfl) (hK _ _ (lZ hr ⟨_, vc, h, hd, ?_⟩))
   have g1 : first.map a.eval = (fs.map fun b => Value.pointer (some ⟨(b.den ρ).toN, 0, none⟩)).toArray := Array.toList_inj.1 (by rw [h1])
   have g2 : caps.map a.eval = (cs.map fun b => Value.pointer (some ⟨(b.den ρ).toN, 0, none⟩)).toArray := Array.toList_inj.1 (by rw [h2])
   rw [g1, g2]
   split
   ·rename_i hn; obtain ⟨rfl, rfl⟩ := hn; rfl
   ·rfl
  ·cases h
  ·cases h
  ·cases h
 ·-- makeMap
  rename_i t r heq
  split at h
  ·refine nZ (s := Instr.makeMap t none) (by unfold execOp; rw [heq]; rfl) (bI8 hr h hd (fun _ h => by cases h)) hK
  ·rename_i r
   obtain ⟨v, h1, h2⟩ := bK h
   have hv := aT hr h1
   split at h2
   ·refine nZ (s := Instr.makeMap t (some (a.eval r))) (by unfold execOp; rw [heq]; rfl) (bI8 hr h2 hd (fun x hx => by cases hx; exact ⟨_, hv.1⟩)) hK
   ·cases h2
 ·-- lookup
  rename_i t x i ok heq
  obtain ⟨u, h1, h2⟩ := bK h
  obtain ⟨v, h3, h4⟩ := bK h2
  split at h4
  ·obtain ⟨z, h5, h6⟩ := cD4 hr h4 hd (aT hr h1) (aT hr h3)
   refine oC (z := z) (w' := w) (by unfold execOp; rw [heq]; dsimp only; simp [h6 w (Same.refl w)]) (hK _ _ (lZ hr h5))
  ·cases h4
 ·-- mapUpdate
  rename_i t m x v heq
  obtain ⟨u1, h1, h2⟩ := bK h
  obtain ⟨u2, h3, h4⟩ := bK h2
  obtain ⟨u3, h5, h6⟩ := bK h4
  obtain ⟨S', vc', w', e1, e2, e3, e4⟩ := cD8 hr h6 hd (aT hr h1) (aT hr h3) (aT hr h5)
  unfold owp execOp
  rw [heq]
  dsimp only
  simp only [Sem.run_bind, e4, Result.andThen_ok]
  exact hK _ _ ⟨[], _, vc', e1, by simpa using e2, by simpa using e3.put (x := .one (.lf .junk)) trivial⟩
 ·-- range
  rename_i t x heq
  obtain ⟨v, h1, h2⟩ := bK h
  exact nZ (by unfold execOp; rw [heq]) (cI1 hr h2 hd (aT hr h1)) hK
 ·-- entry
  rename_i x heq
  obtain ⟨v, h1, h2⟩ := bK h
  obtain ⟨z, h5, h6⟩ := bX1 (cx := cx) hr h2 hd (aT hr h1)
  refine oC (z := z) (w' := w) (by unfold execOp; rw [heq]; dsimp only; simp [h6 w (Same.refl w)]) (hK _ _ (lZ hr h5))
 ·-- next
  rename_i x isStr heq
  split at h
  ·cases h
  ·rename_i hs
   obtain ⟨v, h1, h2⟩ := bK h
   exact nZ (s := Instr.next (a.eval x) isStr o.type) (by unfold execOp; rw [heq]) (by rw [show isStr = false from by simpa using hs]; exact cE8 hr h2 hd (aT hr h1)) hK
 ·cases h
theorem bV2 {b : Builtin} {ts : Array TypeId} {args : List SV} {vals : Array Value} {cs : Array Bool} {k : SV → St → M} {ty : TypeId} (hr : Rel G w0 D0 R0 ρ S a w)
  (hp : (match Callee.builtin b, ts.toList with | .builtin .len, [_] => true | .builtin .min, _ => true | .builtin .max, _ => true | _, _ => false) = true)
  (h : wV cx b ts.toList args S k = .ok vc) (hd : vc.den E ρ) (ha : aS ρ args vals.toList) :
  ∃ s : Sem Value, builtin b ts ty cs vals = (do pure (Next.value (← s))) ∧ ∃ z, Met E ρ (fun v => k v S) z ∧ ∀ w, s.run cx.P w = .ok z w := by
 have arr1 : ∀ {α : Type} {xs : Array α} {x : α}, xs.toList = [x] → xs = #[x] := fun h => Array.toList_inj.1 (by rw [h])
 unfold wV at h
 split at h
 ·rename_i t x hts
  obtain ⟨v, r, hv, h1, hn⟩ := ha
  simp only [aS] at hn; subst hn
  rw [arr1 hts, arr1 hv]
  exact ⟨_, rfl, bH5 hr h hd h1 ty⟩
 ·refine ⟨_, rfl, ?_⟩
  have := bJ1 (cx := cx) (w := w) h hd ha ts ty
  simpa using this
 ·refine ⟨_, rfl, ?_⟩
  have := bI9 (cx := cx) (w := w) h hd ha ts ty
  simpa using this
 ·cases hp
 ·cases hp
 ·cases hp
 ·cases h
theorem aU7 (hr : Rel G w0 D0 R0 ρ S a w) (hp : qF cx S o = true) (h : step cx o S k = .ok vc) (hd : vc.den E ρ) :
  ∃ z, Nx E G w0 D0 R0 ρ k (a.put o.dst z) w ∧ ∀ w', (execOp a.eval o).run cx.P w' = .ok (.value z) w' := by
 by_cases hp0 : iP o = true
 ·exact pure_ok hr hp0 h hd
 have met : ∀ {s : Sem Value}, execOp a.eval o = (do pure (Next.value (← s))) → (∃ z, Met E ρ (fun v => k (S.put o.dst v)) z ∧ ∀ w', s.run cx.P w' = .ok z w') →
   ∃ z, Nx E G w0 D0 R0 ρ k (a.put o.dst z) w ∧ ∀ w', (execOp a.eval o).run cx.P w' = .ok (.value z) w' := by
  rintro s he ⟨z, h1, h2⟩
  exact ⟨z, lZ hr h1, fun w' => by rw [he]; simp [h2]⟩
 simp only [qF, hp0, Bool.false_or] at hp
 unfold step at h
 dsimp only at h
 split at hp
 ·rename_i t x i heq
  rw [heq] at h; dsimp only at h
  obtain ⟨u, h1, h2⟩ := bK h
  obtain ⟨v, h3, h4⟩ := bK h2
  exact met (by unfold execOp; rw [heq]) (bF7 h4 hd (aT hr h1) (aT hr h3))
 ·rename_i t x i heq
  rw [heq] at h; dsimp only at h
  obtain ⟨u, h1, h2⟩ := bK h
  obtain ⟨v, h3, h4⟩ := bK h2
  exact met (by unfold execOp; rw [heq]) (bF6 hr h4 hd (aT hr h1) (aT hr h3))
 ·rename_i t x lo hi mx heq
  rw [heq] at h; dsimp only at h
  split at hp
  ·rename_i s hs
   obtain ⟨u, h1, h2⟩ := bK h
   rw [hs] at h1; cases h1
   split at h2
   ·rename_i l hh hl hhh
    exact met (by unfold execOp; rw [heq]) (cK9 (mx := mx.map a.eval) (by rw [Option.isSome_map]; exact h2) hd (aT hr hs) (aF3 hr hl) (aF3 hr hhh))
   ·cases h2
   ·cases h2
  ·cases hp
 ·rename_i s d x heq
  rw [heq] at h; dsimp only at h
  obtain ⟨u, h1, h2⟩ := bK h
  split at hp
  ·rename_i kk t hx
   rw [hx] at h1; cases h1
   exact met (by unfold execOp; rw [heq]) (bB4 h2 hd (aT hr hx) (.inl ⟨_, _, rfl⟩))
  ·rename_i t hx
   rw [hx] at h1; cases h1
   split at hp
   ·rename_i hdst
    exact met (by unfold execOp; rw [heq]) (bB4 h2 hd (aT hr hx) (.inr ⟨_, rfl, hdst⟩))
   ·cases hp
  ·cases hp
 ·rename_i c heq
  rw [heq] at h; dsimp only at h
  split at h
  ·rename_i b hb
   split at h
   ·rename_i args hargs
    have ha := tZ hr hargs
    rw [← Array.toList_map] at ha
    obtain ⟨s, e1, e2⟩ := bV2 (ty := o.type) (cs := c.args.map fun | .const _ => true | _ => false) hr (by rw [hb] at hp; exact hp) h hd ha
    refine met (s := s) ?_ e2
    unfold execOp; rw [heq]; dsimp only
    unfold resolve; rw [hb]; dsimp only
    rw [← e1]; rfl
   ·cases h
  ·rename_i f hf
   rw [hf] at hp
   dsimp only at hp
   cases hp
  ·cases h
 ·cases hp
theorem cL5 (hG : cx.G = G) (hr : Rel G w0 D0 R0 ρ S a w) (hp : aH9 cx S o = true) (h : step cx o S k = .ok vc) (hd : vc.den E ρ) :
  ∃ z, Nx E G w0 D0 R0 ρ k (a.put o.dst z) w ∧ ∀ w', Same w w' → (execOp a.eval o).run cx.P w' = .ok (.value z) w' := by
 by_cases hp0 : qF cx S o = true
 ·obtain ⟨z, h1, h2⟩ := aU7 hr hp0 h hd
  exact ⟨z, h1, fun w' _ => h2 w'⟩
 simp only [aH9, hp0, Bool.false_or] at hp
 unfold step at h
 dsimp only at h
 split at hp
 ·rename_i t x heq
  rw [heq] at h; dsimp only at h
  obtain ⟨u, h1, h2⟩ := bK h
  have hr' := bC7 hr (aT hr h1)
  obtain ⟨z, h3, h4⟩ := bI5 hG hr' h2 hd (aT hr h1)
  refine ⟨z, lZ hr' h3, fun w' hs => ?_⟩
  unfold execOp; rw [heq]; dsimp only
  simp [h4 w' hs]
 ·cases hp
theorem cI0 {K : Act → World → Prop} (hG : cx.G = G) (hsig : qU cx E) (hr : Rel G w0 D0 R0 ρ S a w) (hp : quietIn cx S o = true) (h : step cx o S k = .ok vc) (hd : vc.den E ρ)
  (hK : ∀ a' w', Nx E G w0 D0 R0 ρ k a' w' → Same w w' → K a' w') : owp cx.P o a w K := by
 unfold quietIn at hp
 unfold step at h
 dsimp only at h
 have same : ∀ {t : TypeId} {u z : Value} {w' : World}, (do pure (.pointer (some (← newVar t u))) : Sem Value).run cx.P w = .ok z w' → Same w w' := by
  intro t u z w' h1
  have h2 : (do pure (.pointer (some (← newVar t u))) : Sem Value).run cx.P w = .ok (.pointer (some ⟨w.heap.size, 0, none⟩)) (w.alloc (.cells u.cells t)) := rfl
  rw [h2] at h1
  cases h1
  exact ⟨(jU w _).size, (jU w _).block⟩
 split at hp
 ·rename_i t heq
  rw [heq] at h; dsimp only at h
  split at h
  ·rename_i ps hz
   obtain ⟨i, z, hi, hz, hv⟩ := zU (ρ := ρ) hz
   obtain ⟨u, w', h1, h2⟩ := sF (aE5 (u := z) hr h hd hv)
   refine oC (z := u) (w' := w') ?_ (hK _ _ h2 (same h1))
   unfold execOp; rw [heq]; dsimp only
   simp only [Sem.run_bind] at h1 ⊢
   simp [Instr.alloc, zeroValue, typeInfo, hi, hz] at h1 ⊢
   rw [h1]; rfl
  ·cases h
 ·rename_i t x heq
  rw [heq] at h; dsimp only at h
  obtain ⟨v, h1, h2⟩ := bK h
  split at h2
  ·rename_i ps hps
   obtain ⟨z, w', h3, h4⟩ := sF (aE5 (u := a.eval x) hr h2 hd (aW8 hr.heap hps (aT hr h1)))
   refine oC (z := z) (w' := w') ?_ (hK _ _ h4 (same h3))
   have he : execOp a.eval o = (do pure (Next.value (← Instr.box t (a.eval x)))) := by unfold execOp; rw [heq]
   rw [he]
   have h5 : (Instr.box t (a.eval x)).run cx.P w = .ok z w' := h3
   simp [h5]
  ·cases h2
 ·rename_i c heq
  rw [heq] at h; dsimp only at h
  split at h
  ·rename_i b hb
   rw [hb] at hp; cases hp
  ·rename_i f hf
   rw [hf] at hp; dsimp only at hp
   split at h
   ·rename_i g args hg hargs
    rw [hg] at hp; dsimp only at hp
    have ha := tZ hr hargs
    rw [← Array.toList_map] at ha
    have hgv : a.eval f = .func (.func g) #[] #[] := aT hr hg
    obtain ⟨σ, args', S', vc', e1, e2, e3, e4⟩ := aE1 hr h hd ha
    obtain ⟨⟨fn, b, hf1, hf2, hf3⟩, hcalls⟩ := aM1 hG hsig e4 e1 e2 e3
    have he : (execOp a.eval o).run cx.P w = .ok (.enter g (c.args.map a.eval)) w := by
     unfold execOp; rw [heq]; dsimp only
     unfold resolve; rw [hf]; dsimp only
     rw [hgv]
     have := aV8 (P := cx.P) hf1 hf2 hf3 (c.args.map a.eval) w
     simpa [Deferred.ofValue, invoke] using this
    unfold owp
    rw [he]
    refine Calls.mono hcalls ?_
    rintro e w' ⟨v, rfl, hout, hsame⟩
    obtain ⟨z, w'', h1, σ', S'', vc'', f1, f2, f3⟩ := sF hout
    cases h1
    exact hK _ _ ⟨σ ++ σ', S'', vc'', f1, by rw [← List.append_assoc]; exact f2, by rw [← List.append_assoc]; exact f3⟩ (hsame hp)
   ·rename_i g fs cs args hg hargs
    rw [hg] at hp; cases hp
   ·cases h
   ·cases h
   ·cases h
  ·cases h
 ·cases hp
end
end Go.Vc
namespace Go.Vc
def Good (cx : Cx) (E : Env) (w0 : World) (ρ0 : LD) (v : Value) (w' : World) : Prop :=
 Fit E.ret cx.own ρ0 w0 v w' ∨ ∃ r, cx.own.second = some r ∧ Fit (E.pre 200) r ρ0 w0 v w'
def Q0 (cx : Cx) (E : Env) (w0 : World) (ρ0 : LD) : Exit → Act → World → Prop :=
 bodyPost cx.P cx.fn fun e w' => ∃ v, e = .returned v ∧ Good cx E w0 ρ0 v w'
theorem aA2 (ρ τ : LD) : (atoms ρ.length).map (Tm.den (ρ ++ τ)) = ρ := by
 apply List.ext_getElem?
 intro i
 simp only [atoms, List.map_map, List.getElem?_map]
 by_cases h : i < ρ.length
 ·rw [List.getElem?_range h]
  simp [Tm.den, List.getD, List.getElem?_append_left h, List.getElem?_eq_getElem h]
 ·rw [List.getElem?_eq_none (by simpa using h), List.getElem?_eq_none (by simpa using h)]
  rfl
theorem aK6 (ρ σ τ : LD) : (oZ ρ.length σ.length).map (Tm.den (ρ ++ σ ++ τ)) = σ := by
 apply List.ext_getElem?
 intro i
 simp only [oZ, List.map_map, List.getElem?_map]
 by_cases h : i < σ.length
 ·rw [List.getElem?_range h]
  simp only [Option.map_some, Function.comp_apply, Tm.den, List.getD]
  rw [List.getElem?_append_left (by simp; omega), List.getElem?_append_right (by omega)]
  simp [List.getElem?_eq_getElem h]
 ·rw [List.getElem?_eq_none (by simpa using h), List.getElem?_eq_none (by simpa using h)]
  rfl
section
variable {E : Env} {G : List Glob} {w0 : World} {D0 R0 : List Nat} {ρ0 ρ τ : LD} {S T : St} {a : Act} {w : World} {cx : Cx} {vc : VC} {K : List KI}
theorem aP2 {n0 : Nat} {θ : List Tm} (hr : Rel G w0 D0 R0 (ρ ++ τ) S a w) (hn : n0 = ρ.length) (hT : aP (T.aA.take n0) ρ) (h : fit T n0 S = .ok θ) :
  aP (T.aA.drop n0) (θ.map (Tm.den (ρ ++ τ))) ∧ Rel G w0 D0 R0 (ρ ++ θ.map (Tm.den (ρ ++ τ))) T a w := by
 subst hn
 unfold fit at h
 split at h
 ·cases h
 ·rename_i θ' _
  split at h
  ·rename_i hc
   split at h
   ·rename_i hs
    split at h
    ·rename_i rest hcov
     cases h
     have hss := aH6 hr.aA hs
     obtain ⟨h1, hperm, h2⟩ := aM6 hcov hr.heap
     have hto : aS (ρ ++ θ.map (Tm.den (ρ ++ τ))) T.tmps a.tmps.toList := by
      rw [← aI4]; exact bP5 hc hr.tmps
     have hown : ∀ b ∈ owns (ρ ++ θ.map (Tm.den (ρ ++ τ))) T.heap, b ∈ owns (ρ ++ τ) S.heap := by
      intro b hb
      rw [← nS, ← sG] at hb
      rw [dR hperm, dI]; exact List.mem_append.2 (.inl hb)
     refine ⟨hss, ?_, hto, hr.defers, aH.aE8 h1, fun g hg => ⟨(hr.globs g hg).1, fun hm => (hr.globs g hg).2 (hown _ hm)⟩, hr.frame, fun b hb => hr.within b (hown b hb), fun b hb => ?_⟩
     ·have := aW4 hT hss
      rwa [List.take_append_drop] at this
     ·rw [← vW] at hb
      rcases h2 b hb with h3 | ⟨_, h3⟩
      ·exact hr.within' b (by rw [jA hperm, sN]; exact List.mem_append.2 (.inr h3))
      ·exact (hr.within b (by rw [dR hperm, dI]; exact List.mem_append.2 (.inr h3))).imp id .inl
    ·cases h
   ·cases h
  ·cases h
def zD (tmps : Array Value) : ResultVar → Sem Value
 | .tmp t => pure (tmps.getD t undef)
 | .cell a t => do loadVar t (← asAddr (tmps.getD a undef))
theorem aV1 (hG : cx.G = G) (hr : Rel G w0 D0 R0 ρ S a w) : ∀ {rs : List ResultVar} {k : List S0 → M} {vc : VC}, vU cx S rs k = .ok vc → vc.den E ρ →
  ∃ vs xs vc', (rs.mapM (zD a.tmps) : Sem (List Value)).run cx.P w = .ok vs w ∧ jL ρ xs vs ∧ k xs = .ok vc' ∧ vc'.den E ρ
 | [], k, vc, h, hd => ⟨[], [], vc, rfl, rfl, h, hd⟩
 | .tmp t :: r, k, vc, h, hd => by
  simp only [vU] at h
  split at h
  ·rename_i x hx
   obtain ⟨vs, xs, vc', h1, h2, h3, h4⟩ := aV1 hG hr h hd
   refine ⟨a.tmps.getD t undef :: vs, x :: xs, vc', ?_, ⟨_, _, rfl, hr.slot hx, h2⟩, h3, h4⟩
   simp only [List.mapM_cons, zD, Sem.run_bind, Sem.run_pure, Result.andThen_ok, h1]
  ·cases h
 | .cell ad t :: r, k, vc, h, hd => by
  simp only [vU] at h
  split at h
  ·rename_i b o hx
   have hs : (SV.one (.lf (.ptr b o))).holds ρ (a.tmps.getD ad undef) := hr.slot hx
   obtain ⟨z, ⟨sv, vc1, h5, h6, h7⟩, hrun⟩ := bI4 hG hr h hd hs
   dsimp only at h5
   split at h5
   ·rename_i x
    obtain ⟨vs, xs, vc', h1, h2, h3, h4⟩ := aV1 hG hr h5 h6
    have hp : a.tmps.getD ad undef = .pointer (some ⟨(b.den ρ).toN, o, none⟩) := hs
    refine ⟨z :: vs, x :: xs, vc', ?_, ⟨_, _, rfl, h7, h2⟩, h3, h4⟩
    rw [hp] at hrun
    have e : (zD a.tmps (.cell ad t)).run cx.P w = .ok z w := by
     simp only [zD, hp]
     exact hrun
    simp only [List.mapM_cons, Sem.run_bind, e, Sem.run_pure, Result.andThen_ok, h1]
   ·cases h5
  ·cases h
theorem bM1 {R : SigR} {x : SV} {u : Value} {fin : List Tm → VC} {post : LD → Prop} (hr : Rel G w0 (owns ρ0 R.heap) (ros ρ0 R.heap) (ρ0 ++ τ) S a w) (hn : R.aA.length = ρ0.length) (h : aG5 S R x fin = .ok vc) (hd : vc.den E (ρ0 ++ τ))
  (hfin : ∀ ts, (fin ts).den E (ρ0 ++ τ) → post (ts.map (Tm.den (ρ0 ++ τ)))) (hx : x.holds (ρ0 ++ τ) u) : Fit post R ρ0 w0 u w := by
 unfold aG5 at h
 dsimp only at h
 split at h
 ·cases h
 rename_i θ hθ
 rw [hn] at h
 split at h
 ·rename_i hres
  split at h
  ·rename_i hsh
   split at h
   ·rename_i rest hcov
    cases h
    refine ⟨θ.map (Tm.den (ρ0 ++ τ)), aH6 hr.aA hsh, ?_, ?_, ?_⟩
    ·have := hfin _ hd
     simp only [List.map_append, aA2] at this
     exact this
    ·rw [← SV.kG, hres]; exact hx
    obtain ⟨c1, hperm, c2⟩ := aM6 hcov hr.heap
    have hown : ∀ b ∈ owns (ρ0 ++ θ.map (Tm.den (ρ0 ++ τ))) R.heap', b ∈ owns (ρ0 ++ τ) S.heap := by
     intro b hb
     rw [← nS, ← sG] at hb
     rw [dR hperm, dI]; exact List.mem_append.2 (.inl hb)
    refine ⟨aH.aE8 c1, fun b hb => hr.within b (hown b hb), fun b hb => ?_, hr.frame⟩
    rw [← vW] at hb
    rcases c2 b hb with h3 | ⟨_, h3⟩
    ·exact hr.within' b (by rw [jA hperm, sN]; exact List.mem_append.2 (.inr h3))
    ·exact (hr.within b (by rw [dR hperm, dI]; exact List.mem_append.2 (.inr h3))).imp id .inl
   ·cases h
  ·cases h
 ·cases h
theorem bM2 (hG : cx.G = G) (hr : Rel G w0 (owns ρ0 cx.own.heap) (ros ρ0 cx.own.heap) (ρ0 ++ τ) S a w) (hn : cx.own.aA.length = ρ0.length) (h : aG6 cx S = .ok vc) (hd : vc.den E (ρ0 ++ τ)) :
  a.defers = [] ∧ ∃ v, (results cx.fn a.tmps).run cx.P w = .ok v w ∧ Good cx E w0 ρ0 v w := by
 refine ⟨hr.defers, ?_⟩
 unfold aG6 at h
 obtain ⟨vs, xs, vc', h1, h2, h, hd⟩ := aV1 hG hr h hd
 dsimp only at h
 have hrun : (results cx.fn a.tmps).run cx.P w = .ok (if h : vs.length = 1 then vs[0] else .tuple vs.toArray) w := by
  have e0 : results cx.fn a.tmps = (do let vs ← cx.fn.results.mapM (zD a.tmps); pure (if h : vs.size = 1 then vs[0] else .tuple vs)) := rfl
  rw [e0]
  have e : ∀ (f : ResultVar → Sem Value), (cx.fn.results.mapM f : Sem (Array Value)) = (do let vs ← cx.fn.results.toList.mapM f; pure vs.toArray) := by
   intro f
   rw [Array.mapM_eq_mapM_toList]
   rfl
  rw [e]
  simp only [Sem.run_bind]
  rw [h1]
  simp
 have hv : (bL9 xs).holds (ρ0 ++ τ) (if h : vs.length = 1 then vs[0] else .tuple vs.toArray) := by
  have hl : ∀ {xs : List S0} {vs : List Value}, jL (ρ0 ++ τ) xs vs → vs.length = xs.length := by
   intro xs
   induction xs with
   | nil => intro vs h; simp only [jL] at h; subst h; rfl
   | cons x xs ih => intro vs h; obtain ⟨v, r, rfl, _, h⟩ := h; simp [ih h]
  have hlen := hl h2
  rcases xs with _ | ⟨x, _ | ⟨y, ys⟩⟩
  ·simp only [jL] at h2; subst h2; exact ⟨#[], rfl, rfl⟩
  ·obtain ⟨v, r, rfl, h3, h4⟩ := h2
   simp only [jL] at h4; subst h4
   exact h3
  ·rw [dif_neg (by rw [hlen]; simp)]
   exact ⟨vs.toArray, rfl, by simpa using h2⟩
 refine ⟨_, hrun, ?_⟩
 split at h
 ·rename_i x hx
  cases h
  exact .inl (bM1 hr hn hx hd (fun ts ht => ht) hv)
 ·split at h
  ·cases h
  ·rename_i r hsec
   have hrr : r.heap = cx.own.heap ∧ r.aA = cx.own.aA := by
    unfold SigR.second at hsec
    split at hsec
    ·cases hsec; exact ⟨rfl, rfl⟩
    ·cases hsec
   exact .inr ⟨r, hsec, bM1 (R := r) (by rw [hrr.1]; exact hr) (by rw [hrr.2]; exact hn) h hd (fun ts ht => ht.1) hv⟩
def nY (P : Program) (ops : Array Oper) (Q : Exit → Act → World → Prop) (oth : List Nat) : Nat → Array Bool → Act → World → Prop
 | 0, listed, a, w => Region.ready .any ops listed = [] ∧ Q .normal a w
 | fuel + 1, listed, a, w =>
  (Region.ready .any ops listed = [] → Q .normal a w) ∧
  ∀ i ∈ Region.ready .any ops listed, wpOp P ops Q i (fun a' w' => (oth.contains i = false → Same w w') ∧ nY P ops Q oth fuel (listed.setIfInBounds i true) a' w') a w
section
variable {P : Program} {ops : Array Oper} {Q : Exit → Act → World → Prop} {oth : List Nat}
theorem aJ2 : ∀ (fuel : Nat) (listed : Array Bool) (a : Act) (w : World), nY P ops Q oth fuel listed a w → wpAny P .any ops Q fuel listed a w
 | 0, _, _, _, h => h
 | fuel + 1, _, _, _, h => ⟨h.1, fun i hi => wpOp_mono (fun a' w' h' => aJ2 fuel _ a' w' h'.2) (h.2 i hi)⟩
theorem cN4 {listed : Array Bool} {a : Act} {w : World} (hr : Region.ready .any ops listed = []) (h : Q .normal a w) : ∀ fuel, nY P ops Q oth fuel listed a w
 | 0 => ⟨hr, h⟩
 | _ + 1 => ⟨fun _ => h, by rw [hr]; simp⟩
theorem aQ0 {listed : Array Bool} {i : Nat} (h : listed.getD i true = false) : listed.getD i false = false := by
 rcases Nat.lt_or_ge i listed.size with h' | h'
 ·simp [h'] at h ⊢; exact h
 ·simp [Array.getElem?_eq_none h'] at h
theorem bR4 {listed : Array Bool} {i j n : Nat} (hw : waits ops listed i n j = true) (hi : listed.getD i true = false) : j ∉ Region.ready .any ops listed := by
 intro hj
 obtain ⟨_, o, ho, hall⟩ := mem_ready.1 hj
 cases n with
 | zero => simp [waits] at hw
 | succ n =>
  simp only [waits, ho, Array.any_eq_true'] at hw
  obtain ⟨e, he, hw⟩ := hw
  simp only [Bool.and_eq_true, Bool.or_eq_true, beq_iff_eq, Bool.not_eq_true'] at hw
  obtain ⟨hb, hw⟩ := hw
  have h1 := hall e he hb
  rcases hw with rfl | ⟨h2, _⟩
  ·rw [aQ0 hi] at h1; cases h1
  ·rw [aQ0 h2] at h1; cases h1
theorem aX7 {listed : Array Bool} {i k : Nat} (hi : listed.getD i true = false) (hk : k ∈ Region.ready .any ops listed) : ∀ (n j : Nat), waits ops listed i n j = true → waits ops (listed.setIfInBounds k true) i n j = true
 | 0, _, h => by simp [waits] at h
 | n + 1, j, h => by
  simp only [waits] at h ⊢
  split at h
  ·cases h
  ·rename_i o ho
   simp only [Array.any_eq_true'] at h ⊢
   obtain ⟨e, he, hw⟩ := h
   refine ⟨e, he, ?_⟩
   simp only [Bool.and_eq_true, Bool.or_eq_true, beq_iff_eq, Bool.not_eq_true'] at hw ⊢
   obtain ⟨hb, hw⟩ := hw
   refine ⟨hb, hw.imp id fun ⟨h1, h2⟩ => ?_⟩
   have hne : k ≠ e.on := fun h => bR4 h2 hi (h ▸ hk)
   exact ⟨by rw [getD_set_ne true hne]; exact h1, aX7 hi hk n e.on h2⟩
theorem cN5 {i n : Nat} {oi : Oper} {v : Value} {T : World → Prop} (hi : ops[i]? = some oi) (hsel : ∀ (j : Nat) (o : Oper) cs b, ops[j]? = some o → o.op ≠ .select cs b)
  (hQ : ∀ c a w, Q (.panic c) (a.put oi.dst v) w → Q (.panic c) a w) (hTs : ∀ w w', T w → Same w w' → T w') :
  ∀ (fuel : Nat) (listed : Array Bool) (a : Act) (w : World),
   (∀ j oj, ops[j]? = some oj → j ≠ i → listed.getD j true = false → (∀ e ∈ oj.after, Region.binds .any e = true → e.on ≠ i) → oi.apart ops oj = true) →
   i ∈ Region.ready .any ops listed → YieldsIf P ops T oi v a → T w →
   ((∀ w, T w) ∨ ∀ j ∈ oth, listed.getD j true = false → j ≠ i → waits ops listed i n j = true) →
   nY P ops Q oth fuel (listed.setIfInBounds i true) (a.put oi.dst v) w → nY P ops Q oth (fuel + 1) listed a w := by
 intro fuel
 induction fuel with
 | zero =>
  intro listed a w _ hr hy hT _ H
  refine ⟨fun h => (by rw [h] at hr; cases hr), fun j hj => ?_⟩
  by_cases hji : j = i
  ·subst hji; exact hy.wpOp hi hT ⟨fun _ => Same.refl w, H⟩
  ·have := ready_mono hj hji
   rw [H.1] at this
   cases this
 | succ fuel ih =>
  intro listed a w hfree hr hy hT hwt H
  refine ⟨fun h => (by rw [h] at hr; cases hr), fun j hj => ?_⟩
  by_cases hji : j = i
  ·subst hji; exact hy.wpOp hi hT ⟨fun _ => Same.refl w, H⟩
  ·have h1 := H.2 j (ready_mono hj hji)
   obtain ⟨hjun, oj, hoj, hall⟩ := mem_ready.1 hj
   have hiun := (mem_ready.1 hr).1
   have hnot : ∀ e ∈ oj.after, Region.binds .any e = true → e.on ≠ i := fun e he hb heq => by
    have h1 := hall e he hb
    rw [heq, aQ0 hiun] at h1; cases h1
   have h2 := wpOp_putIf hoj (hfree j oj hoj hji hjun hnot) (fun cs b => hsel i oi cs b hi) (fun cs b => hsel j oj cs b hoj) hQ hy h1
   have hfree' : ∀ k ok, ops[k]? = some ok → k ≠ i → (listed.setIfInBounds j true).getD k true = false →
     (∀ e ∈ ok.after, Region.binds .any e = true → e.on ≠ i) → oi.apart ops ok = true := fun k ok hk hki hun hno => by
    refine hfree k ok hk hki ?_ hno
    by_cases hjk : j = k
    ·subst hjk; exact hjun
    ·rw [getD_set_ne true hjk] at hun; exact hun
   refine wpOp_mono (fun a' w' h3 => ⟨h3.2.1, ih (listed.setIfInBounds j true) a' w' hfree' (ready_mono hr (Ne.symm hji)) h3.1 ?_ ?_ ?_⟩) h2
   ·rcases hwt with hall | hwt
    ·exact hall w'
    ·refine hTs w w' hT (h3.2.1 ?_)
     cases hc : oth.contains j with
     | false => rfl
     | true => exact absurd hj (bR4 (hwt j (by simpa using hc) hjun hji) hiun)
   ·rcases hwt with hall | hwt
    ·exact .inl hall
    ·refine .inr fun k hk hun hki => ?_
     by_cases hjk : j = k
     ·subst hjk; exact aX7 hiun hj n j (hwt j hk hjun hji)
     ·rw [getD_set_ne true hjk] at hun
      exact aX7 hiun hj n k (hwt k hk hun hki)
   ·rw [Array.setIfInBounds_comm _ _ hji]
    exact h3.2.2
end
def sem (P : Program) (Q : Exit → Act → World → Prop) : List KI → List (Act → World → Prop) → Exit → Act → World → Prop
 | [], _ => Q
 | .code c :: K, B => Exit.then (c.wp P (sem P Q K B)) (sem P Q K B)
 | .ops all rest :: K, B => Exit.then (wpList P all (sem P Q K B) rest) (sem P Q K B)
 | .any all fuel listed :: K, B => Exit.then (wpAny P .any all (sem P Q K B) fuel listed) (sem P Q K B)
 | .still all fuel listed oth :: K, B => Exit.then (nY P all (sem P Q K B) oth fuel listed) (sem P Q K B)
 | .blk id :: K, B => Exit.inBlock id (sem P Q K B)
 | .wait :: K, B => sem P Q K B
 | .lp .. :: K, B => Exit.then (B.headD (fun _ _ => True)) (sem P Q K B.tail)
def bOk (E : Env) (G : List Glob) (w0 : World) (D0 R0 : List Nat) (ρ : LD) : List KI → List (Act → World → Prop) → Prop
 | [], _ => True
 | .lp j T n0 fix :: K, B => (∃ b B' ρb τb, B = b :: B' ∧ ρ = ρb ++ τb ∧ ρb.length = T.aA.length ∧ ∀ τ S' a w θ, Rel G w0 D0 R0 (ρb ++ τ) S' a w → fit T n0 S' = .ok θ →
   E.inv j ((fix ++ keep θ (T.aA.drop n0)).map (Tm.den (ρb ++ τ))) →
   E.meas j ((fix ++ keep θ (T.aA.drop n0)).map (Tm.den (ρb ++ τ))) < E.meas j ((fix ++ keep (oZ n0 (T.aA.drop n0).length) (T.aA.drop n0)).map (Tm.den (ρb ++ τ))) → b a w) ∧ bOk E G w0 D0 R0 ρ K B.tail
 | _ :: K, B => bOk E G w0 D0 R0 ρ K B
theorem lK : ∀ {K : List KI} {B : List (Act → World → Prop)}, bOk E G w0 D0 R0 ρ K B → bOk E G w0 D0 R0 (ρ ++ τ) K B
 | [], _, _ => trivial
 | .lp j T n0 fix :: K, B, h => by
  obtain ⟨⟨b, B', ρb, τb, rfl, he, hl, h1⟩, h2⟩ := h
  exact ⟨⟨b, B', ρb, τb ++ τ, rfl, by rw [he, List.append_assoc], hl, h1⟩, lK h2⟩
 | .code c :: K, B, h => lK (K := K) h
 | .ops .. :: K, B, h => lK (K := K) h
 | .any .. :: K, B, h => lK (K := K) h
 | .still .. :: K, B, h => lK (K := K) h
 | .blk .. :: K, B, h => lK (K := K) h
 | .wait :: K, B, h => lK (K := K) h
theorem qL {P : Program} {Q : Exit → Act → World → Prop} : ∀ {K : List KI} {B : List (Act → World → Prop)}, sem P Q K B .ret a w = Q .ret a w
 | [], _ => rfl
 | .code c :: K, B => qL (K := K)
 | .ops .. :: K, B => qL (K := K)
 | .any .. :: K, B => qL (K := K)
 | .still .. :: K, B => qL (K := K)
 | .blk .. :: K, B => qL (K := K)
 | .wait :: K, B => qL (K := K) (B := B)
 | .lp .. :: K, B => qL (K := K)
theorem oV {P : Program} {Q : Exit → Act → World → Prop} {ch : List PanicEntry} : ∀ {K : List KI} {B : List (Act → World → Prop)}, sem P Q K B (.panic ch) a w = Q (.panic ch) a w
 | [], _ => rfl
 | .code c :: K, B => oV (K := K)
 | .ops .. :: K, B => oV (K := K)
 | .any .. :: K, B => oV (K := K)
 | .still .. :: K, B => oV (K := K)
 | .blk .. :: K, B => oV (K := K)
 | .wait :: K, B => oV (K := K) (B := B)
 | .lp .. :: K, B => oV (K := K)
theorem pG {P : Program} {Q : Exit → Act → World → Prop} {id : Nat} : ∀ {K K' : List KI} {B : List (Act → World → Prop)}, behind id K = some K' → bOk E G w0 D0 R0 ρ K B →
  ∃ B', bOk E G w0 D0 R0 ρ K' B' ∧ ∀ a w, sem P Q K' B' .normal a w → sem P Q K B (.exit id) a w
 | [], _, _, h, _ => by simp [behind] at h
 | .blk i :: K, K', B, h, hb => by
  simp only [behind] at h
  split at h
  ·rename_i hi
   cases h
   exact ⟨B, hb, fun a w hq => by simp only [sem, Exit.inBlock, if_pos hi]; exact hq⟩
  ·rename_i hi
   obtain ⟨B', h1, h2⟩ := pG (P := P) (Q := Q) (K := K) (B := B) h hb
   exact ⟨B', h1, fun a w hq => by simp only [sem, Exit.inBlock, if_neg hi]; exact h2 a w hq⟩
 | .wait :: K, K', B, h, hb => by
  obtain ⟨B', h1, h2⟩ := pG (P := P) (Q := Q) (K := K) (B := B) (by simpa [behind] using h) hb
  exact ⟨B', h1, h2⟩
 | .code c :: K, K', B, h, hb => by
  obtain ⟨B', h1, h2⟩ := pG (P := P) (Q := Q) (K := K) (B := B) (by simpa [behind] using h) hb
  exact ⟨B', h1, h2⟩
 | .ops .. :: K, K', B, h, hb => by
  obtain ⟨B', h1, h2⟩ := pG (P := P) (Q := Q) (K := K) (B := B) (by simpa [behind] using h) hb
  exact ⟨B', h1, h2⟩
 | .any .. :: K, K', B, h, hb => by
  obtain ⟨B', h1, h2⟩ := pG (P := P) (Q := Q) (K := K) (B := B) (by simpa [behind] using h) hb
  exact ⟨B', h1, h2⟩
 | .still .. :: K, K', B, h, hb => by
  obtain ⟨B', h1, h2⟩ := pG (P := P) (Q := Q) (K := K) (B := B) (by simpa [behind] using h) hb
  exact ⟨B', h1, h2⟩
 | .lp .. :: K, K', B, h, hb => by
  obtain ⟨B', h1, h2⟩ := pG (P := P) (Q := Q) (K := K) (B := B.tail) (by simpa [behind] using h) hb.2
  exact ⟨B', h1, h2⟩
theorem aP6 {f : Nat → M} : ∀ {l : List Nat} {vc : VC}, forEach f l = .ok vc → vc.den E ρ → ∀ i ∈ l, ∃ v, f i = .ok v ∧ v.den E ρ
 | [], vc, h, hd, i, hi => by cases hi
 | [x], vc, h, hd, i, hi => by simp only [List.mem_singleton] at hi; subst hi; exact ⟨vc, h, hd⟩
 | x :: y :: l, vc, h, hd, i, hi => by
  simp only [forEach] at h
  obtain ⟨h1, v, h2, h3⟩ := both_ok h hd
  rcases List.mem_cons.1 hi with rfl | hi
  ·exact h1
  ·exact aP6 (l := y :: l) h2 h3 i hi
theorem sZ {pos : String} {x : M} (h : at_ pos x = .ok vc) : x = .ok vc := by
 unfold at_ at h
 split at h
 ·exact h
 ·cases h
theorem aA0 : ∀ {ss : List Srt} {k : M} {vc : VC} {ρ σ : LD}, sW ss k = .ok vc → vc.den E ρ → aP ss σ → ∃ v, k = .ok v ∧ v.den E (ρ ++ σ)
 | [], k, vc, ρ, σ, h, hd, hs => by
  cases σ with
  | nil => exact ⟨vc, h, by simpa using hd⟩
  | cons => exact hs.elim
 | s :: ss, k, vc, ρ, σ, h, hd, hs => by
  cases σ with
  | nil => exact hs.elim
  | cons d σ =>
   simp only [sW] at h
   split at h
   ·rename_i v hv
    cases h
    obtain ⟨v', h1, h2⟩ := aA0 hv (VC.bB9 hd hs.1) hs.2
    exact ⟨v', h1, by simpa using h2⟩
   ·cases h
theorem bP9 {ρ : LD} : ∀ {xs : List SV} {vs : List Value} {i : Nat} {x : SV}, aS ρ xs vs → (∀ v, vs[i]? = some v → x.holds ρ v) → aS ρ (xs.set i x) vs
 | [], vs, i, x, h, _ => by simpa using h
 | y :: xs, vs, i, x, h, hx => by
  obtain ⟨v, r, rfl, h1, h2⟩ := h
  cases i with
  | zero => exact ⟨v, r, rfl, hx v rfl, h2⟩
  | succ i => exact ⟨v, r, rfl, h1, bP9 h2 (fun u hu => hx u (by simpa using hu))⟩
theorem qQ {x : Operand} {t : Tm} {b : Bool} (hr : Rel G w0 D0 R0 ρ S a w) (hx : a.eval x = .bool (t.den ρ).toB) (hb : (t.den ρ).toB = b) : Rel G w0 D0 R0 ρ (nX S x b) a w := by
 unfold nX
 split
 ·rename_i i
  refine ⟨hr.aA, bP9 hr.tmps (fun v hv => ?_), hr.defers, hr.heap, hr.globs, hr.frame, hr.within, hr.within'⟩
  have : a.tmps.getD i undef = v := by rw [Array.getD_eq_getD_getElem?, ← Array.getElem?_toList, hv]; rfl
  simp only [Act.eval] at hx
  rw [← this, hx, hb]; rfl
 ·exact hr
def bU9 : Value → Option Bool
 | .bool b => some b
 | _ => none
theorem bR7 {all : Array Oper} {j d : Nat} {v : Value} (hj : (all[j]?).bind (·.dst) = some d) (hv : a.tmps[d]? = some v) : yielded all a.tmps j = bU9 v := by
 unfold yielded
 rw [hj]
 simp only [Option.bind_some, hv]
 cases v <;> rfl
theorem lW {all : Array Oper} {o : Oper} {b : Bool} (hr : Rel G w0 D0 R0 ρ S a w) (h : guardOf all S o = .ok (.inl b)) : Region.wanted o (yielded all a.tmps) = b := by
 unfold guardOf at h
 unfold Region.wanted
 split at h
 ·rename_i hg; cases h; rw [hg]
 ·rename_i j want hg
  rw [hg]
  dsimp only
  split at h
  ·cases h
  ·rename_i d hj
   split at h
   ·rename_i b' hs
    cases h
    obtain ⟨v, hv, hh⟩ := aI3 hr.tmps hs
    rw [bR7 hj (by simpa using hv), show v = .bool b' from hh]
    rfl
   ·cases h
   ·rename_i hs
    cases h
    obtain ⟨v, hv, hh⟩ := aI3 hr.tmps hs
    rw [bR7 hj (by simpa using hv), show v = undef from hh]
    rfl
   ·cases h
theorem bE7 {all : Array Oper} {o : Oper} {d : Nat} {t : Tm} {want : Bool} (hr : Rel G w0 D0 R0 ρ S a w) (h : guardOf all S o = .ok (.inr (d, t, want))) : a.eval (.tmp d) = .bool (t.den ρ).toB := by
 unfold guardOf at h
 split at h
 ·cases h
 ·split at h
  ·cases h
  ·split at h
   ·cases h
   ·rename_i hs
    cases h
    exact hr.slot hs
   ·cases h
   ·cases h
end
end Go.Vc
namespace Go.Vc
section
variable {E : Env} {G : List Glob} {w0 : World} {D0 R0 : List Nat} {ρ0 ρ τ : LD} {S T : St} {a : Act} {w : World} {cx : Cx} {vc : VC} {K : List KI}
def keepD : LD → List Srt → LD
 | d :: ds, s :: ss => if told s then d :: keepD ds ss else keepD ds ss
 | _, _ => []
theorem pR {f : Tm → D} : ∀ (ts : List Tm) (ss : List Srt), (keep ts ss).map f = keepD (ts.map f) ss
 | [], _ => by simp [keep, keepD]
 | _ :: _, [] => by simp [keep, keepD]
 | t :: ts, s :: ss => by
  simp only [keep, keepD, List.map_cons]
  split
  ·simp only [List.map_cons, pR ts ss]
  ·exact pR ts ss
theorem aW5 {n : Nat} (hr : Rel G w0 D0 R0 ρ T a w) : ∀ f ∈ aH8 n T, f.den ρ := by
 intro f hf
 rcases List.mem_append.1 (List.mem_filter.1 hf).1 with hf | hf
 ·exact bP4 hr.tmps f hf
 ·exact bF3 hr.heap f hf
theorem bQ1 {all : Array Oper} {i : Nat} {next : St → M} {Q : Exit → Act → World → Prop} {KK : Act → World → Prop} (hG : cx.G = G) (hsig : qU cx E) (hr : Rel G w0 D0 R0 ρ S a w)
  (h : nV cx all i S next = .ok vc) (hd : vc.den E ρ) (hK : ∀ a' w', Nx E G w0 D0 R0 ρ next a' w' → KK a' w') : wpOp cx.P all Q i KK a w := by
 unfold nV at h
 unfold wpOp
 split at h
 ·cases h
 ·rename_i o ho
  rw [ho]
  dsimp only
  split at h
  ·cases h
  ·rename_i hg
   rw [if_pos (lW hr hg)]
   exact .inl (step_ok hG hsig hr (sZ h) hd hK).wp
  ·rename_i hg
   rw [if_neg (by rw [lW hr hg]; simp)]
   exact hK _ _ ⟨[], _, vc, h, by simpa using hd, by simpa using hr.put (x := .one (.lf .undef)) rfl⟩
  ·cases h
theorem aC1 {all : Array Oper} : ∀ {rs : List Nat} {i : Nat}, rM cx all S rs = some i → i ∈ rs ∧ ∃ o, all[i]? = some o ∧ (guardOf all S o = .ok (.inl true) → aH9 cx S o = true)
 | [], i, h => by simp [rM] at h
 | j :: r, i, h => by
  simp only [rM] at h
  split at h
  ·rename_i o ho
   split at h
   ·rename_i hg
    cases h
    exact ⟨by simp, o, ho, fun hg' => by rw [hg] at hg'; cases hg'⟩
   ·split at h
    ·rename_i hc
     cases h
     exact ⟨by simp, o, ho, fun _ => hc⟩
    ·obtain ⟨h1, h2⟩ := aC1 h
     exact ⟨List.mem_cons_of_mem _ h1, h2⟩
   ·obtain ⟨h1, h2⟩ := aC1 h
    exact ⟨List.mem_cons_of_mem _ h1, h2⟩
  ·obtain ⟨h1, h2⟩ := aC1 h
   exact ⟨List.mem_cons_of_mem _ h1, h2⟩
theorem cM2 {all : Array Oper} {i : Nat} {next : St → M} {Q : Exit → Act → World → Prop} {KK : Act → World → Prop} (hG : cx.G = G) (hsig : qU cx E) (hr : Rel G w0 D0 R0 ρ S a w)
  (hq : ∀ o, all[i]? = some o → quietIn cx S o = true)
  (h : nV cx all i S next = .ok vc) (hd : vc.den E ρ) (hK : ∀ a' w', Nx E G w0 D0 R0 ρ next a' w' → Same w w' → KK a' w') : wpOp cx.P all Q i KK a w := by
 unfold nV at h
 unfold wpOp
 split at h
 ·cases h
 ·rename_i o ho
  rw [ho]
  dsimp only
  split at h
  ·cases h
  ·rename_i hg
   rw [if_pos (lW hr hg)]
   exact .inl (cI0 hG hsig hr (hq o ho) (sZ h) hd hK).wp
  ·rename_i hg
   rw [if_neg (by rw [lW hr hg]; simp)]
   exact hK _ _ ⟨[], _, vc, h, by simpa using hd, by simpa using hr.put (x := .one (.lf .undef)) rfl⟩ (Same.refl w)
  ·cases h
theorem bK3 {x : M} {y : Unit → M} (h : orElse x y = .ok vc) : x = .ok vc ∨ y () = .ok vc := by
 unfold orElse at h
 split at h
 ·exact .inl h
 ·exact .inr h
theorem aC0 {all : Array Oper} : ∀ {rs : List Nat} {i : Nat}, rJ cx all S rs = some i → i ∈ rs ∧ ∃ o, all[i]? = some o ∧ (guardOf all S o = .ok (.inl true) → qF cx S o = true)
 | [], i, h => by simp [rJ] at h
 | j :: r, i, h => by
  simp only [rJ] at h
  split at h
  ·rename_i o ho
   split at h
   ·rename_i hg
    cases h
    exact ⟨by simp, o, ho, fun hg' => by rw [hg] at hg'; cases hg'⟩
   ·split at h
    ·rename_i hc
     cases h
     exact ⟨by simp, o, ho, fun _ => hc⟩
    ·obtain ⟨h1, h2⟩ := aC0 h
     exact ⟨List.mem_cons_of_mem _ h1, h2⟩
   ·obtain ⟨h1, h2⟩ := aC0 h
    exact ⟨List.mem_cons_of_mem _ h1, h2⟩
  ·obtain ⟨h1, h2⟩ := aC0 h
   exact ⟨List.mem_cons_of_mem _ h1, h2⟩
theorem aB9 {all : Array Oper} (hr : Rel G w0 D0 R0 ρ S a w) : ∀ {rs : List Nat} {d : Nat} {t : Tm}, rH all S rs = some (d, t) → a.eval (.tmp d) = .bool (t.den ρ).toB
 | [], d, t, h => by simp [rH] at h
 | j :: r, d, t, h => by
  simp only [rH] at h
  split at h
  ·rename_i o ho
   split at h
   ·rename_i hg
    cases h
    exact bE7 hr hg
   ·exact aB9 hr h
  ·exact aB9 hr h
theorem pF {G : List Glob} {ρ σ : LD} {n : Nat} : ∀ {K : List KI} {B : List (Act → World → Prop)}, uZ K ≤ n → bOk E G w0 D0 R0 ρ K B → bOk E G w0 D0 R0 (ρ.take n ++ σ) K B
 | [], _, _, _ => trivial
 | .lp j T n0 fix :: K, B, hn, h => by
  obtain ⟨⟨b, B', ρb, τb, rfl, he, hl, h1⟩, h2⟩ := h
  simp only [uZ] at hn
  refine ⟨⟨b, B', ρb, τb.take (n - ρb.length) ++ σ, rfl, ?_, hl, h1⟩, pF (by omega) h2⟩
  rw [he, List.take_append, List.take_of_length_le (by omega), List.append_assoc]
 | .code c :: K, B, hn, h => pF (K := K) hn h
 | .ops .. :: K, B, hn, h => pF (K := K) hn h
 | .any .. :: K, B, hn, h => pF (K := K) hn h
 | .still .. :: K, B, hn, h => pF (K := K) hn h
 | .blk .. :: K, B, hn, h => pF (K := K) hn h
 | .wait :: K, B, hn, h => pF (K := K) hn h
theorem bP1 : ∀ {n : Nat} {ss : List Srt} {ds : LD}, aP ss ds → aP (ss.take n) (ds.take n)
 | 0, _, _, _ => by simp [aP]
 | _ + 1, [], [], _ => by simp [aP]
 | _ + 1, [], _ :: _, h => h.elim
 | _ + 1, _ :: _, [], h => h.elim
 | n + 1, s :: ss, d :: ds, h => ⟨h.1, bP1 h.2⟩
theorem bG8 {c : Code} {K : List KI} {jn : Ann} {rule : St → M} {τ : LD} {B : List (Act → World → Prop)} (hn : cx.own.aA.length = ρ0.length) (hr : Rel G w0 D0 R0 (ρ0 ++ τ) S a w) (hb : bOk E G w0 D0 R0 (ρ0 ++ τ) K B)
  (h : aD3 cx c K S jn rule = .ok vc) (hd : vc.den E (ρ0 ++ τ)) : ∃ T σ v, rule T = .ok v ∧ v.den E (ρ0 ++ σ) ∧ Rel G w0 D0 R0 (ρ0 ++ σ) T a w ∧ bOk E G w0 D0 R0 (ρ0 ++ σ) K B := by
 unfold aD3 at h
 dsimp only at h
 generalize hn0 : max cx.own.aA.length (uZ K) = n0 at h
 split at h
 ·cases h
 ·rename_i T _
  split at h
  ·rename_i hc
   obtain ⟨hT, hS⟩ := hc
   split at h
   ·cases h
   ·rename_i θ hθ
    split at h
    ·rename_i v hv
     cases h
     obtain ⟨hinv, hdv⟩ := hd
     have hlen := aX hr.aA
     obtain ⟨ρ1, τ1, he, hl1, hpre⟩ : ∃ ρ1 τ1, ρ0 ++ τ = ρ1 ++ τ1 ∧ n0 = ρ1.length ∧ ∃ x, ρ1 = ρ0 ++ x := by
      refine ⟨(ρ0 ++ τ).take n0, (ρ0 ++ τ).drop n0, (List.take_append_drop _ _).symm, by rw [List.length_take]; omega, τ.take (n0 - ρ0.length), ?_⟩
      rw [List.take_append, List.take_of_length_le (by omega)]
     obtain ⟨x, rfl⟩ := hpre
     have hs0 : aP (T.aA.take n0) (ρ0 ++ x) := by
      have := bP1 (n := n0) hr.aA
      rw [he, List.take_left' hl1.symm] at this
      rw [hT]; exact this
     rw [he] at hr hdv hinv hb
     obtain ⟨hσ, hr0⟩ := aP2 hr hl1 hs0 hθ
     simp only [VC.den] at hdv
     rw [List.take_left' hl1.symm] at hdv
     obtain ⟨v1, e1, d1⟩ := aA0 hv hdv hσ
     obtain ⟨v2, e2, d2⟩ := xU e1 d1 (aW5 hr0)
     split at e2
     ·rename_i v3 hv3
      cases e2
      have hbt := pF (n := n0) (σ := θ.map (Tm.den (ρ0 ++ x ++ τ1))) (by omega) hb
      rw [List.take_left' hl1.symm, List.append_assoc] at hbt
      refine ⟨T, x ++ θ.map (Tm.den (ρ0 ++ x ++ τ1)), v3, hv3, ?_, by rw [← List.append_assoc]; exact hr0, hbt⟩
      rw [← List.append_assoc]
      apply d2
      have hσl := aX hσ
      rw [List.map_append, pR, hl1, aA2] at hinv
      rw [List.map_append, pR, hl1, aA2, ← hl1, ← hσl, hl1]
      have := aK6 (ρ0 ++ x) (θ.map (Tm.den (ρ0 ++ x ++ τ1))) []
      rw [List.append_nil] at this
      rw [this, ← hl1]
      rw [← hl1] at hinv
      exact hinv
     ·cases e2
    ·cases h
  ·cases h
theorem bZ8 {ss ts : List Srt} {ρ σ : LD} (hT : ts.take ss.length = ss) (hσ : aP (ts.drop ss.length) σ) (hl : ρ.length = ss.length) : (ρ ++ σ).length = ts.length := by
 have h1 := aX hσ
 have h2 := congrArg List.length hT
 rw [List.length_take] at h2
 rw [List.length_drop] at h1
 rw [List.length_append]
 omega
theorem cD5 {c : Code} {ann : Ann} {f : Nat} {K : List KI} {B : List (Act → World → Prop)} {a : Act} {w : World} 
  (IH : ∀ (K : List KI) (S : St) (vc : VC) (τ : LD) (a : Act) (w : World) (B : List (Act → World → Prop)), run cx f K S = .ok vc → vc.den E (ρ0 ++ τ) →
   Rel G w0 (owns ρ0 cx.own.heap) (ros ρ0 cx.own.heap) (ρ0 ++ τ) S a w → bOk E G w0 (owns ρ0 cx.own.heap) (ros ρ0 cx.own.heap) (ρ0 ++ τ) K B → sem cx.P (Q0 cx E w0 ρ0) K B .normal a w) :
  ∀ (S : St) (vc : VC) (τ : LD), (let T := template cx S c ann; let fix := atoms cx.own.aA.length ++ ann.watch.flatMap (aX8 T); general S T (ann.j, fix) (run cx f (.code c :: .lp ann.j T S.aA.length fix :: K) T)) = .ok vc →
      vc.den E (ρ0 ++ τ) → Rel G w0 (owns ρ0 cx.own.heap) (ros ρ0 cx.own.heap) (ρ0 ++ τ) S a w → bOk E G w0 (owns ρ0 cx.own.heap) (ros ρ0 cx.own.heap) (ρ0 ++ τ) K B → (Code.loop c).wp cx.P (sem cx.P (Q0 cx E w0 ρ0) K B) a w := by
 intro S vc τ h hd hr hb
 dsimp only at h
 generalize template cx S c ann = T at h
 generalize atoms cx.own.aA.length ++ ann.watch.flatMap (aX8 T) = fix at h
 generalize ann.j = j at h
 unfold general at h
 dsimp only at h
 split at h
 ·rename_i hc
  obtain ⟨hT, hTu, hfix⟩ := hc
  have hlen := aX hr.aA
  split at h
  ·cases h
  ·rename_i θ hθ
   split at h
   ·rename_i v hv
    cases h
    obtain ⟨hinv, hdv⟩ := hd
    obtain ⟨hσ0, hr0⟩ := aP2 (ρ := ρ0 ++ τ) (τ := []) (by simpa using hr) hlen.symm (by rw [hT]; exact hr.aA) hθ
    simp only [List.append_nil] at hσ0 hr0
    -- the pattern's words in a longer payload
    have hfixE : ∀ σ, fix.map (Tm.den (ρ0 ++ τ ++ σ)) = fix.map (Tm.den (ρ0 ++ τ)) := fun σ => aN2 (by rw [hlen]; exact hfix)
    refine wp_loop_ghost (fun n a w => ∃ σ, aP (T.aA.drop S.aA.length) σ ∧ Rel G w0 (owns ρ0 cx.own.heap) (ros ρ0 cx.own.heap) (ρ0 ++ τ ++ σ) T a w ∧
     E.inv j (fix.map (Tm.den (ρ0 ++ τ)) ++ keepD σ (T.aA.drop S.aA.length)) ∧ n = E.meas j (fix.map (Tm.den (ρ0 ++ τ)) ++ keepD σ (T.aA.drop S.aA.length))) _
     ⟨_, hσ0, hr0, by rw [List.map_append, pR] at hinv; exact hinv, rfl⟩ ?_
    rintro n a1 w1 ⟨σ, hσ, hr1, hi1, rfl⟩
    obtain ⟨v1, e1, d1⟩ := aA0 hv hdv hσ
    obtain ⟨v2, e2, d2⟩ := xU e1 d1 (aW5 hr1)
    split at e2
    ·rename_i v3 hv3
     cases e2
     have hσl := aX hσ
     have hw : (fix ++ keep (oZ S.aA.length (T.aA.drop S.aA.length).length) (T.aA.drop S.aA.length)).map (Tm.den (ρ0 ++ τ ++ σ)) = fix.map (Tm.den (ρ0 ++ τ)) ++ keepD σ (T.aA.drop S.aA.length) := by
      rw [List.map_append, hfixE, pR, ← hσl, ← hlen]
      have := aK6 (ρ0 ++ τ) σ []
      rw [List.append_nil] at this
      rw [this]
     have d3 := d2 (by rw [hw]; exact hi1)
     have hh := IH (.code c :: .lp j T S.aA.length fix :: K) T v3 (τ ++ σ) a1 w1
      ((fun a' w' => ∃ n', n' < E.meas j (fix.map (Tm.den (ρ0 ++ τ)) ++ keepD σ (T.aA.drop S.aA.length)) ∧ ∃ σ, aP (T.aA.drop S.aA.length) σ ∧ Rel G w0 (owns ρ0 cx.own.heap) (ros ρ0 cx.own.heap) (ρ0 ++ τ ++ σ) T a' w' ∧
        E.inv j (fix.map (Tm.den (ρ0 ++ τ)) ++ keepD σ (T.aA.drop S.aA.length)) ∧ n' = E.meas j (fix.map (Tm.den (ρ0 ++ τ)) ++ keepD σ (T.aA.drop S.aA.length))) :: B)
      hv3 (by rw [← List.append_assoc]; exact d3) (by rw [← List.append_assoc]; exact hr1) ?_
     ·exact hh
     ·refine ⟨⟨_, B, ρ0 ++ (τ ++ σ), [], rfl, (List.append_nil _).symm, ?_, fun τ' S' a' w' θ' hr' hf' hi' hm' => ?_⟩, ?_⟩
      ·rw [← List.append_assoc]; exact bZ8 hT hσ hlen
      ·obtain ⟨g1, g2⟩ := aP2 (ρ := ρ0 ++ τ) (τ := σ ++ τ') (by simpa using hr') hlen.symm (by rw [hT]; exact hr.aA) hf'
       have hdrop : ∀ {x : LD}, ρ0 ++ (τ ++ σ) ++ τ' = ρ0 ++ τ ++ (σ ++ τ') := by simp
       rw [@hdrop []] at hi' hm'
       rw [List.map_append, hfixE, pR] at hi' hm'
       have hold : (fix ++ keep (oZ S.aA.length (T.aA.drop S.aA.length).length) (T.aA.drop S.aA.length)).map (Tm.den (ρ0 ++ τ ++ (σ ++ τ'))) = fix.map (Tm.den (ρ0 ++ τ)) ++ keepD σ (T.aA.drop S.aA.length) := by
        rw [List.map_append, hfixE, pR, ← hσl, ← hlen, ← List.append_assoc (ρ0 ++ τ), aK6]
       rw [hold] at hm'
       exact ⟨_, hm', _, g1, g2, hi', rfl⟩
      ·rw [← List.append_assoc]; exact lK (K := K) hb
    ·cases e2
   ·cases h
 ·cases h
theorem sO (hG : cx.G = G) (hsig : qU cx E) (hm : cx.P.follows .mixedOrders = true) (hn : cx.own.aA.length = ρ0.length) :
  ∀ (f : Nat) (K : List KI) (S : St) (vc : VC) (τ : LD) (a : Act) (w : World) (B : List (Act → World → Prop)), run cx f K S = .ok vc → vc.den E (ρ0 ++ τ) →
   Rel G w0 (owns ρ0 cx.own.heap) (ros ρ0 cx.own.heap) (ρ0 ++ τ) S a w → bOk E G w0 (owns ρ0 cx.own.heap) (ros ρ0 cx.own.heap) (ρ0 ++ τ) K B → sem cx.P (Q0 cx E w0 ρ0) K B .normal a w
 | 0, K, S, vc, τ, a, w, B, h, _, _, _ => by simp [run] at h
 | f + 1, [], S, vc, τ, a, w, B, h, hd, hr, _ => by
  simp only [run] at h
  obtain ⟨h1, v, h2, h3⟩ := bM2 hG hr hn h hd
  exact ⟨h1, v, h2, v, rfl, h3⟩
 | f + 1, .still all fuel listed oth :: K, S, vc, τ, a, w, B, h, hd, hr, hb => by
  have IH := sO hG hsig hm hn f
  simp only [run] at h
  show nY cx.P all (sem cx.P (Q0 cx E w0 ρ0) K B) oth fuel listed a w
  split at h
  ·rename_i hrs
   exact cN4 hrs (IH K S vc τ a w B h hd hr hb) _
  ·cases h
  ·rename_i fuel hne
   have hnx : ∀ i a' w', Nx E G w0 (owns ρ0 cx.own.heap) (ros ρ0 cx.own.heap) (ρ0 ++ τ) (fun S => run cx f (.still all fuel (listed.setIfInBounds i true) oth :: K) S) a' w' →
     nY cx.P all (sem cx.P (Q0 cx E w0 ρ0) K B) oth fuel (listed.setIfInBounds i true) a' w' := by
    rintro i a' w' ⟨σ, S', vc', h1, h2, h3⟩
    rw [List.append_assoc] at h2 h3
    exact IH (.still all fuel (listed.setIfInBounds i true) oth :: K) S' vc' (τ ++ σ) a' w' B h1 h2 h3 (by rw [← List.append_assoc]; exact lK (K := K) hb)
   split at h
   ·rename_i i hft
    obtain ⟨hmem, o, ho, hstill⟩ := aC1 hft
    replace hmem := (List.mem_filter.1 hmem).1
    split at h
    ·rename_i hc
     simp only [Bool.and_eq_true] at hc
     obtain ⟨⟨hns, hfree⟩, hcase⟩ := hc
     have hQ : ∀ z, ∀ c a' w', sem cx.P (Q0 cx E w0 ρ0) K B (.panic c) (a'.put o.dst z) w' → sem cx.P (Q0 cx E w0 ρ0) K B (.panic c) a' w' := by
      intro z c a' w' hq
      rw [oV] at hq ⊢
      exact ⟨by rw [← Act.aU8 a' o.dst z]; exact hq.1, hq.2⟩
     have first : ∀ {z : Value} {T : World → Prop}, (∀ w w', T w → Same w w' → T w') → YieldsIf cx.P all T o z a → T w → ((∀ w, T w) ∨ aF5 all listed oth i = true) →
       nY cx.P all (sem cx.P (Q0 cx E w0 ρ0) K B) oth fuel (listed.setIfInBounds i true) (a.put o.dst z) w → nY cx.P all (sem cx.P (Q0 cx E w0 ρ0) K B) oth (fuel + 1) listed a w := by
      intro z T hTs hy hT hor H
      refine cN5 (n := all.size) ho (Region.noSelect_spec hns) (hQ z) hTs fuel listed a w (Region.free_spec ho hfree) hmem hy hT (hor.imp id fun hw j hj hun hji => ?_) H
      have := List.all_eq_true.1 hw j hj
      simp only [hun, Bool.false_or, Bool.or_eq_true, beq_iff_eq] at this
      exact this.resolve_left hji
     simp only [Bool.or_eq_true] at hcase
     have hp := hcase.imp_left (fun hp => by simpa [aU6, ho] using hp)
     unfold nV at h
     rw [ho] at h
     dsimp only at h
     split at h
     ·cases h
     ·rename_i hg
      have hcase : qF cx S o = true ∨ aF5 all listed oth i = true := by
       refine hp.imp (fun hp => ?_) id
       rcases hp with hp | hp
       ·exact hp
       ·rw [hg] at hp; simp at hp
      rcases hcase with hpu | hw
      ·obtain ⟨z, hz, hy⟩ := aU7 hr hpu (sZ h) hd
       exact first (T := fun _ => True) (fun _ _ _ _ => trivial) (.inl ⟨lW hr hg, fun w' _ => hy w'⟩) trivial (.inl fun _ => trivial) (hnx i _ _ hz)
      ·obtain ⟨z, hz, hy⟩ := cL5 hG hr (hstill hg) (sZ h) hd
       exact first (T := Same w) (fun _ _ h1 h2 => h1.trans h2) (.inl ⟨lW hr hg, hy⟩) (Same.refl w) (.inr hw) (hnx i _ _ hz)
     ·rename_i hg
      exact first (T := fun _ => True) (fun _ _ _ _ => trivial) (.inr ⟨lW hr hg, rfl⟩) trivial (.inl fun _ => trivial)
       (hnx i _ _ ⟨[], _, vc, h, by simpa using hd, by simpa using hr.put (x := .one (.lf .undef)) rfl⟩)
     ·cases h
    ·cases h
   ·split at h
    ·rename_i d t hfo
     have he := aB9 hr hfo
     obtain ⟨⟨v1, e1, d1⟩, v2, e2, d2⟩ := both_ok h hd
     cases hb' : (t.den (ρ0 ++ τ)).toB with
     | true =>
      obtain ⟨v, e3, d3⟩ := lX e1 d1 hb'
      exact IH (.still all (fuel + 1) listed oth :: K) _ v τ a w B e3 d3 (qQ hr he hb') hb
     | false =>
      obtain ⟨v, e3, d3⟩ := lX e2 d2 hb'
      exact IH (.still all (fuel + 1) listed oth :: K) _ v τ a w B e3 d3 (qQ hr he hb') hb
    ·split at h
     ·rename_i hquiet
      refine ⟨fun hh => absurd hh hne, fun i hi => ?_⟩
      obtain ⟨v, h1, h2⟩ := aP6 h hd i hi
      have hq := List.all_eq_true.1 hquiet i hi
      cases hc : oth.contains i with
      | true => exact bQ1 hG hsig hr h1 h2 (fun a' w' hn => ⟨fun hf => Bool.noConfusion hf, hnx i a' w' hn⟩)
      | false =>
       rw [hc, Bool.false_or] at hq
       refine cM2 hG hsig hr (fun o ho => ?_) h1 h2 (fun a' w' hn hs => ⟨fun _ => hs, hnx i a' w' hn⟩)
       rw [ho] at hq; exact hq
     ·cases h
 | f + 1, .blk id :: K, S, vc, τ, a, w, B, h, hd, hr, hb => by
  simp only [run] at h
  exact sO hG hsig hm hn f K S vc τ a w B h hd hr hb
 | f + 1, .wait :: K, S, vc, τ, a, w, B, h, hd, hr, hb => by
  have IH := sO hG hsig hm hn f
  simp only [run] at h
  split at h
  ·exact IH K S vc τ a w B h hd hr hb
  ·exact IH (.wait :: K) S vc τ a w B h hd hr hb
 | f + 1, .lp j T n0 fix :: K, S, vc, τ, a, w, B, h, hd, hr, hb => by
  simp only [run] at h
  split at h
  ·rename_i θ hθ
   cases h
   obtain ⟨⟨b, B', ρb, τb, hB, he, _, h1⟩, _⟩ := hb
   subst hB
   simp only [VC.den] at hd
   rw [he] at hr hd
   exact h1 τb S a w θ hr hθ hd.1 hd.2
  ·cases h
 | f + 1, .ops all rest :: K, S, vc, τ, a, w, B, h, hd, hr, hb => by
  have IH := sO hG hsig hm hn f
  simp only [run] at h
  show wpList cx.P all (sem cx.P (Q0 cx E w0 ρ0) K B) rest a w
  split at h
  ·exact IH K S vc τ a w B h hd hr hb
  ·rename_i o rest
   have hnx : ∀ a' w', Nx E G w0 (owns ρ0 cx.own.heap) (ros ρ0 cx.own.heap) (ρ0 ++ τ) (fun S => run cx f (.ops all rest :: K) S) a' w' → wpList cx.P all (sem cx.P (Q0 cx E w0 ρ0) K B) rest a' w' := by
    rintro a' w' ⟨σ, S', vc', h1, h2, h3⟩
    rw [List.append_assoc] at h2 h3
    exact IH (.ops all rest :: K) S' vc' (τ ++ σ) a' w' B h1 h2 h3 (by rw [← List.append_assoc]; exact lK (K := K) hb)
   unfold wpList
   split at h
   ·cases h
   ·rename_i hg
    rw [if_pos (lW hr hg)]
    exact .inl (step_ok hG hsig hr (sZ h) hd hnx).wp
   ·rename_i hg
    rw [if_neg (by rw [lW hr hg]; simp)]
    exact hnx _ _ ⟨[], _, vc, h, by simpa using hd, by simpa using hr.put (x := .one (.lf .undef)) rfl⟩
   ·rename_i d t want hg
    have he := bE7 hr hg
    obtain ⟨⟨v1, e1, d1⟩, v2, e2, d2⟩ := both_ok h hd
    cases hb' : (t.den (ρ0 ++ τ)).toB with
    | true =>
     obtain ⟨v, e3, d3⟩ := lX e1 d1 hb'
     exact IH (.ops all (o :: rest) :: K) _ v τ a w B e3 d3 (qQ hr he hb') hb
    | false =>
     obtain ⟨v, e3, d3⟩ := lX e2 d2 hb'
     exact IH (.ops all (o :: rest) :: K) _ v τ a w B e3 d3 (qQ hr he hb') hb
 | f + 1, .any all fuel listed :: K, S, vc, τ, a, w, B, h, hd, hr, hb => by
  have IH := sO hG hsig hm hn f
  simp only [run] at h
  show wpAny cx.P .any all (sem cx.P (Q0 cx E w0 ρ0) K B) fuel listed a w
  split at h
  ·rename_i hrs
   exact wpAny_done hrs (IH K S vc τ a w B h hd hr hb) _
  ·cases h
  ·rename_i fuel hne
   have hnx : ∀ i a' w', Nx E G w0 (owns ρ0 cx.own.heap) (ros ρ0 cx.own.heap) (ρ0 ++ τ) (fun S => run cx f (.any all fuel (listed.setIfInBounds i true) :: K) S) a' w' →
     wpAny cx.P .any all (sem cx.P (Q0 cx E w0 ρ0) K B) fuel (listed.setIfInBounds i true) a' w' := by
    rintro i a' w' ⟨σ, S', vc', h1, h2, h3⟩
    rw [List.append_assoc] at h2 h3
    exact IH (.any all fuel (listed.setIfInBounds i true) :: K) S' vc' (τ ++ σ) a' w' B h1 h2 h3 (by rw [← List.append_assoc]; exact lK (K := K) hb)
   have every : ∀ {vc : VC}, forEach (fun i => nV cx all i S (fun S => run cx f (.any all fuel (listed.setIfInBounds i true) :: K) S)) (Region.ready .any all listed) = .ok vc → vc.den E (ρ0 ++ τ) →
     wpAny cx.P .any all (sem cx.P (Q0 cx E w0 ρ0) K B) (fuel + 1) listed a w := by
    intro vc h hd
    refine wpAny_all rfl (fun hh => hne hh) (fun i hi => ?_)
    obtain ⟨v, h1, h2⟩ := aP6 h hd i hi
    exact bQ1 hG hsig hr h1 h2 (hnx i)
   split at h
   ·exact aJ2 _ _ _ _ (IH (.still all (fuel + 1) listed (aF4 cx all) :: K) S vc τ a w B h hd hr hb)
   rcases bK3 h with hst | h
   ·split at hst
    ·exact aJ2 _ _ _ _ (IH (.still all (fuel + 1) listed (aF4 cx all) :: K) S vc τ a w B hst hd hr hb)
    ·cases hst
   rcases bK3 h with hst | h
   ·split at hst
    ·exact aJ2 _ _ _ _ (IH (.still all (fuel + 1) listed [] :: K) S vc τ a w B hst hd hr hb)
    ·cases hst
   split at h
   ·rename_i i hfp
    obtain ⟨hmem, o, ho, hpure⟩ := aC0 hfp
    split at h
    ·rename_i hc
     simp only [Bool.and_eq_true] at hc
     have hQ : ∀ z, ∀ c a' w', sem cx.P (Q0 cx E w0 ρ0) K B (.panic c) (a'.put o.dst z) w' → sem cx.P (Q0 cx E w0 ρ0) K B (.panic c) a' w' := by
      intro z c a' w' hq
      rw [oV] at hq ⊢
      exact ⟨by rw [← Act.aU8 a' o.dst z]; exact hq.1, hq.2⟩
     unfold nV at h
     rw [ho] at h
     dsimp only at h
     split at h
     ·cases h
     ·rename_i hg
      obtain ⟨z, hz, hy⟩ := aU7 hr (hpure hg) (sZ h) hd
      exact wpAny_take ho hc.1 hc.2 (by simpa using hmem) (hQ z) (.inl ⟨lW hr hg, hy⟩) (hnx i _ _ hz)
     ·rename_i hg
      exact wpAny_take ho hc.1 hc.2 (by simpa using hmem) (hQ undef) (.inr ⟨lW hr hg, rfl⟩)
       (hnx i _ _ ⟨[], _, vc, h, by simpa using hd, by simpa using hr.put (x := .one (.lf .undef)) rfl⟩)
     ·cases h
    ·exact every h hd
   ·split at h
    ·rename_i d t hfo
     have he := aB9 hr hfo
     obtain ⟨⟨v1, e1, d1⟩, v2, e2, d2⟩ := both_ok h hd
     cases hb' : (t.den (ρ0 ++ τ)).toB with
     | true =>
      obtain ⟨v, e3, d3⟩ := lX e1 d1 hb'
      exact IH (.any all (fuel + 1) listed :: K) _ v τ a w B e3 d3 (qQ hr he hb') hb
     | false =>
      obtain ⟨v, e3, d3⟩ := lX e2 d2 hb'
      exact IH (.any all (fuel + 1) listed :: K) _ v τ a w B e3 d3 (qQ hr he hb') hb
    ·exact every h hd
 | f + 1, .code c :: K, S, vc, τ, a, w, B, h, hd, hr, hb => by
  have IH := sO hG hsig hm hn f
  simp only [run] at h
  show c.wp cx.P (sem cx.P (Q0 cx E w0 ρ0) K B) a w
  split at h
  ·exact wp_skip (IH K S vc τ a w B h hd hr hb)
  ·exact wp_label (IH K S vc τ a w B h hd hr hb)
  ·rename_i x y
   exact wp_seq (IH (.code x :: .code y :: K) S vc τ a w B h hd hr hb)
  ·rename_i id c
   exact wp_block (IH (.code c :: .blk id :: K) S vc τ a w B h hd hr hb)
  ·rename_i x y z
   split at h
   ·cases h
   ·rename_i v hv
    have hx := aT hr hv
    split at h
    ·exact wp_cond_true hx (IH (.code y :: K) S vc τ a w B h hd hr hb)
    ·exact wp_cond_false hx (IH (.code z :: K) S vc τ a w B h hd hr hb)
    ·rename_i t _ _
     obtain ⟨⟨v1, e1, d1⟩, v2, e2, d2⟩ := both_ok h hd
     refine wp_cond_split (t := (t.den (ρ0 ++ τ)).toB) hx (fun hb' => ?_) (fun hb' => ?_)
     ·obtain ⟨v, e3, d3⟩ := lX e1 d1 hb'
      exact IH (.code y :: K) _ v τ a w B e3 d3 (qQ hr hx hb') hb
     ·obtain ⟨v, e3, d3⟩ := lX e2 d2 hb'
      exact IH (.code z :: K) _ v τ a w B e3 d3 (qQ hr hx hb') hb
    ·cases h
  ·rename_i c
   split at h
   ·rename_i ann hann
    have rule := fun (S : St) (vc : VC) (τ : LD) => cD5 (c := c) (ann := ann) (K := K) (B := B) (a := a) (w := w) IH S vc τ
    split at h
    ·obtain ⟨T, σ, v, h1, h2, h3, h4⟩ := bG8 (K := K) (B := B) hn hr hb h hd
     exact rule T v σ h1 h2 h3 h4
    ·exact rule S vc τ h hd hr hb
   ·cases h
  ·rename_i id
   split at h
   ·rename_i K' hbh
    obtain ⟨B', hb', hsem⟩ := pG (P := cx.P) (Q := Q0 cx E w0 ρ0) hbh hb
    exact wp_exit (hsem a w (IH K' S vc τ a w B' h hd hr hb'))
   ·cases h
  ·refine wp_ret ?_
   rw [qL]
   obtain ⟨h1, v, h2, h3⟩ := bM2 hG hr hn h hd
   exact ⟨h1, v, h2, v, rfl, h3⟩
  ·rename_i id all draw
   have rule : ∀ (S : St) (vc : VC) (τ : LD), (if draw then run cx f (.any all all.size (Array.replicate all.size false) :: K) S else run cx f (.ops all all.toList :: K) S) = .ok vc →
     vc.den E (ρ0 ++ τ) → Rel G w0 (owns ρ0 cx.own.heap) (ros ρ0 cx.own.heap) (ρ0 ++ τ) S a w → bOk E G w0 (owns ρ0 cx.own.heap) (ros ρ0 cx.own.heap) (ρ0 ++ τ) K B → (Code.region id all draw).wp cx.P (sem cx.P (Q0 cx E w0 ρ0) K B) a w := by
    intro S1 vc1 τ1 g1 g2 g3 g4
    split at g1
    ·rename_i hdraw
     clear h
     subst hdraw
     exact wp_region_any hm (IH (.any all all.size (Array.replicate all.size false) :: K) S1 vc1 τ1 a _ B g1 g2 (g3.ext (bD1 w)) g4)
    ·rename_i hdraw
     have hdraw : draw = false := by simpa using hdraw
     clear h
     subst hdraw
     exact wp_region_list (IH (.ops all all.toList :: K) S1 vc1 τ1 a w B g1 g2 g3 g4)
   split at h
   ·cases h
    exact absurd hd.1 (by simp [Tm.den])
   split at h
   ·obtain ⟨T, σ, v, h1, h2, h3, h4⟩ := bG8 (K := K) (B := B) hn hr hb h hd
    cases draw with
    | true => exact wp_region_any hm (IH (.wait :: .any all all.size (Array.replicate all.size false) :: K) T v σ a _ B h1 h2 (h3.ext (bD1 w)) h4)
    | false => exact wp_region_list (IH (.wait :: .ops all all.toList :: K) T v σ a w B h1 h2 h3 h4)
   ·exact rule S vc τ h hd hr hb
  ·cases h
  ·cases h
theorem cN3 {f : FuncId} {s : Sig} (hsig : qU cx E) (hm : cx.P.follows .mixedOrders = true) (hf : cx.P.funcs[f]? = some cx.fn) (hs : s.toSigR = cx.own) (hpre : s.pre = E.post 0) (hpost : s.post = E.ret) (hpost2 : s.post2 = E.pre 200)
  (h : zO cx = .ok vc) (hd : vc.den E []) : s.Holds cx.P cx.G f := by
 obtain ⟨R, pre, post, post2⟩ := s
 dsimp only at hs hpre hpost hpost2
 subst hs hpre hpost hpost2
 intro w args ρ hρ hp ha hh hg
 dsimp only at hρ hp ha hh hg
 unfold zO at h
 split at h
 ·cases h
 rename_i c hc
 dsimp only at h
 split at h
 ·rename_i hu
  obtain ⟨v1, e1, d1⟩ := aA0 (ρ := []) h hd hρ
  simp only [List.nil_append] at d1
  have hargs : args.size = cx.own.args.length := by rw [← bP7 ha]; simp
  have hlen := aX hρ
  have hr : Rel cx.G w (owns ρ cx.own.heap) (ros ρ cx.own.heap) ρ (entry cx) { tmps := args ++ Array.replicate (cx.fn.ntmps - args.size) undef, defers := [] } w := by
   refine ⟨hρ, ?_, rfl, hh, hg, ⟨rfl, rfl, rfl, Nat.le_refl _, fun _ _ _ => rfl⟩, fun b hb => .inl hb, fun b hb => .inr (.inr hb)⟩
   simp only [entry, Array.toList_append, Array.toList_replicate]
   refine aI2 ha ?_
   have := bP6 (ρ := ρ) (List.replicate (cx.fn.ntmps - args.size) undef)
   rw [List.length_replicate, hargs] at this
   rw [hargs]; exact this
  obtain ⟨v2, e2, d2⟩ := xU e1 d1 (aW5 hr)
  split at e2
  ·rename_i v3 hv3
   cases e2
   have hat : (atoms cx.own.aA.length).map (Tm.den ρ) = ρ := by
    have := aA2 ρ []
    rw [List.append_nil, hlen] at this; exact this
   have d3 := d2 (by rw [hat]; exact hp)
   have := sO (ρ0 := ρ) (w0 := w) rfl hsig hm hlen.symm 100000 [.code c] (entry cx) v3 [] _ w [] hv3 (by simpa using d3) (by simpa using hr) trivial
   refine Calls.mono (calls_of_wp hf hc (R := fun e w' => ∃ v, e = .returned v ∧ Good cx E w ρ v w') this) ?_
   rintro e w' ⟨v, rfl, g | g⟩
   ·exact ⟨v, rfl, .inl g⟩
   ·exact ⟨v, rfl, .inr g⟩
  ·cases e2
 ·cases h
end
end Go.Vc
namespace Go.Vc
def Sig.none : Sig := { args := [], heap := [], aA := [], res := .tup [], heap' := [], news := [], pre := fun _ => False, post := fun _ => True }
def fZ (own : Sig) (cs : List Sig) (invs : List ((LD → Prop) × (LD → Nat))) : Env where
 pre c := if c < 200 then (match c with | 0 => fun _ => False | c + 1 => (cs.getD c Sig.none).pre) else (match c - 200 with | 0 => own.post2 | c + 1 => (cs.getD c Sig.none).pre)
 post c := if c < 200 then (match c with | 0 => own.pre | c + 1 => (cs.getD c Sig.none).post) else (match c - 200 with | 0 => fun _ => True | c + 1 => (cs.getD c Sig.none).post2)
 inv j := (invs.getD j (fun _ => True, fun _ => 0)).1
 meas j := (invs.getD j (fun _ => True, fun _ => 0)).2
 ret := own.post
theorem cE2 {own : Sig} {cs : List Sig} {invs : List ((LD → Prop) × (LD → Nat))} : own.pre = (fZ own cs invs).post 0 := by
 simp only [fZ]
 rw [if_pos (by decide)]
theorem cE3 {own : Sig} {cs : List Sig} {invs : List ((LD → Prop) × (LD → Nat))} : own.post2 = (fZ own cs invs).pre 200 := by
 simp only [fZ]
 rw [if_neg (by decide)]
 rfl
def nU : Nat → List (FuncId × Sig) → List (FuncId × Nat × SigR)
 | _, [] => []
 | n, (f, s) :: r => (f, n, s.toSigR) :: nU (n + 1) r
structure Kept (P : Program) (G : List Glob) (f : FuncId) (s : Sig) : Prop where
 holds : s.Holds P G f
 body : ∃ fn b, P.funcs[f]? = some fn ∧ (fn.name == "runtime.NumGoroutine") = false ∧ fn.body = some b
theorem bD7 {f c : Nat} {R : SigR} : ∀ {l : List (FuncId × Sig)} {n : Nat}, rF f (nU n l) = some (c, R) → ∃ i s, l[i]? = some (f, s) ∧ c = n + i ∧ s.toSigR = R
 | [], n, h => by simp [nU, rF] at h
 | (g, s) :: l, n, h => by
  simp only [nU, rF] at h
  split at h
  ·rename_i e; cases h; subst e; exact ⟨0, s, rfl, rfl, rfl⟩
  ·obtain ⟨i, s', h1, h2, h3⟩ := bD7 h
   exact ⟨i + 1, s', h1, by omega, h3⟩
theorem bH0 {cx : Cx} {vc : VC} {f : FuncId} {own : Sig} {l : List (FuncId × Sig)} {invs : List ((LD → Prop) × (LD → Nat))} (hm : cx.P.follows .mixedOrders = true) (hf : cx.P.funcs[f]? = some cx.fn)
  (hname : (cx.fn.name == "runtime.NumGoroutine") = false) (hown : own.toSigR = cx.own) (hs : cx.sigs = nU 1 l) (hl : ∀ x ∈ l, Kept cx.P cx.G x.1 x.2) (h : zO cx = .ok vc)
  (hd : vc.den (fZ own (l.map (·.2)) invs) []) (hlen : l.length < 199) : Kept cx.P cx.G f own := by
 have e0 : own.pre = (fZ own (l.map (·.2)) invs).post 0 := cE2
 have e1 : own.post = (fZ own (l.map (·.2)) invs).ret := rfl
 have e2 : own.post2 = (fZ own (l.map (·.2)) invs).pre 200 := cE3
 generalize hE : fZ own (l.map (·.2)) invs = E at *
 refine ⟨cN3 (E := E) (fun g c R hg => ?_) hm hf hown e0 e1 e2 h hd, ?_⟩
 ·rw [hs] at hg
  obtain ⟨i, s, h1, h2, h3⟩ := bD7 hg
  have hk := hl _ (List.mem_of_getElem? h1)
  have hi : (l.map (·.2)).getD i Sig.none = s := by simp [List.getD, h1]
  have hil : i < l.length := (List.getElem?_eq_some_iff.1 h1).1
  refine ⟨s, h3, ?_, ?_, ?_, hk.holds, hk.body⟩
  ·rw [h2, Nat.add_comm]
   rw [← hE]
   simp only [fZ]
   rw [if_pos (by omega), hi]
  ·rw [h2, Nat.add_comm]
   rw [← hE]
   simp only [fZ]
   rw [if_pos (by omega), hi]
  ·rw [h2, ← hE]
   simp only [fZ]
   rw [if_neg (by omega), show 1 + i + 200 - 200 = i + 1 from by omega]
   show s.post2 = ((l.map (·.2)).getD i Sig.none).post2
   rw [hi]
 ·unfold zO at h
  split at h
  ·cases h
  ·rename_i c hc
   exact ⟨cx.fn, c, hf, hname, hc⟩
theorem mQ.below {w w' : World} (h : mQ w [] w') : RowKit.Below w.heap.size w w' := ⟨h.os, h.tape, h.output, h.size, fun b hb => h.block b hb (by simp)⟩
def eY (a b : Int) : Int := if b > a then b else a
theorem aX9 {k : IntKind} {n : Int} (h : (Lit.int k n).wf = true) : k.has n := by
 simp only [Lit.wf, Bool.and_eq_true, decide_eq_true_eq] at h
 exact h
end Go.Vc