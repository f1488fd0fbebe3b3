/-
 Soundness: one operation.
 Soundness: the whole.
-/
import Derived.Test.YtfhmokjjjnjhjaaGreatDoorVcc
import Derived.OrdersHeld
set_option linter.unusedVariables false
set_option linter.unusedSimpArgs false
open _root_.Go.IntKind (wrap)
namespace Go.Vc
section
variable {E : Env} {G : List Glob} {w0 : World} {D0 R0 : List Nat} {ρ : LD} {S : St} {a : Act} {w : World} {cx : Cx} {vc : VC} {o : Oper} {k : St → M} {K : Act → World → Prop} {Q : Exit → Act → World → Prop}
def Nx (E : Env) (G : List Glob) (w0 : World) (D0 R0 : List Nat) (ρ : LD) (k : St → M) (a' : Act) (w' : World) : Prop :=
 ∃ σ S' vc', k S' = .ok vc' ∧ vc'.den E (ρ ++ σ) ∧ Rel G w0 D0 R0 (ρ ++ σ) S' a' w'
theorem nR (hr : Rel G w0 D0 R0 ρ S a w) {d : Option Tmp} {z : Value} (h : Met E ρ (fun v => k (S.put d v)) z) : Nx E G w0 D0 R0 ρ k (a.put d z) w := by
 obtain ⟨x, vc, h1, h2, h3⟩ := h
 exact ⟨[], _, vc, h1, by simpa using h2, by simpa using hr.put h3⟩
theorem uX {d : Option Tmp} {run : Result Value} (h : Out E G w0 D0 R0 ρ a (fun v S => k (S.put d v)) run) : ∃ z w', run = .ok z w' ∧ Nx E G w0 D0 R0 ρ k (a.put d z) w' := by
 obtain ⟨σ, x, S', vc, v, w', h1, h2, h3, h4, h5⟩ := h
 exact ⟨v, w', h5, σ, _, vc, h1, h2, h4.put h3⟩
def owp (P : Program) (o : Oper) (a : Act) (w : World) (K : Act → World → Prop) : Prop :=
 match (execOp a.eval o).run P w with
 | .ok (.value z) w' => K (a.put o.dst z) w'
 | .ok .skip w' => K (a.put o.dst undef) w'
 | .ok (.enter f args) w' => Calls P f args w' fun
  | .returned v, w'' => K (a.put o.dst v) w''
  | _, _ => False
 | _ => False
theorem owp.wp {P : Program} (h : owp P o a w K) : o.wp P a w K Q := by
 unfold owp at h
 unfold Oper.wp
 generalize (execOp a.eval o).run P w = r at h ⊢
 cases r with
 | ok x w' =>
  cases x <;> first | exact h | exact h.elim | skip
  exact Calls.mono h (fun e w'' he => by cases e <;> first | exact he | exact he.elim)
 | halt x w' => exact h.elim
theorem pX {z : Value} {w' : World} (he : (execOp a.eval o).run cx.P w = .ok (.value z) w') (h : K (a.put o.dst z) w') : owp cx.P o a w K := by
 unfold owp; rw [he]; exact h
theorem pW {s : Sem Value} (he : execOp a.eval o = (do pure (Next.value (← s)))) (h : Out E G w0 D0 R0 ρ a (fun v S => k (S.put o.dst v)) (s.run cx.P w))
  (hK : ∀ a' w', Nx E G w0 D0 R0 ρ k a' w' → K a' w') : owp cx.P o a w K := by
 obtain ⟨z, w', h1, h2⟩ := uX h
 exact pX (z := z) (w' := w') (by rw [he]; simp [h1]) (hK _ _ h2)
theorem bP9 {s : Sem Value} (hr : Rel G w0 D0 R0 ρ S a w) (he : execOp a.eval o = (do pure (Next.value (← s)))) (h : ∃ z, Met E ρ (fun v => k (S.put o.dst v)) z ∧ s.run cx.P w = .ok z w)
  (hK : ∀ a' w', Nx E G w0 D0 R0 ρ k a' w' → K a' w') : owp cx.P o a w K := by
 obtain ⟨z, h1, h2⟩ := h
 exact pX (z := z) (w' := w) (by rw [he]; simp [h2]) (hK _ _ (nR hr h1))
theorem bM {x : Except String SV} {f : SV → M} (h : cZ x f = .ok vc) : ∃ v, x = .ok v ∧ f v = .ok vc := by
 unfold cZ at h
 split at h
 ·exact ⟨_, rfl, h⟩
 ·cases h
theorem wG (hr : Rel G w0 D0 R0 ρ S a w) : ∀ {xs : List Operand} {ts : List TypeId} {vs : List SV}, evs cx S xs ts = .ok vs → aU ρ vs (xs.map a.eval)
 | [], ts, vs, h => by simp only [evs] at h; cases h; exact rfl
 | x :: xs, ts, vs, h => by
  simp only [evs] at h
  split at h
  ·rename_i v r hv hrr
   cases h
   exact ⟨_, _, rfl, aX hr hv, wG hr hrr⟩
  ·cases h
  ·cases h
theorem aH1 : ∀ {args : List SV} {ts : List TypeId} {S : St} {ρ : LD} {k : List SV → St → M} {vc : VC} {vals : List Value}, Rel G w0 D0 R0 ρ S a w → zW cx args ts S k = .ok vc → vc.den E ρ → aU ρ args vals →
  ∃ σ args' S' vc', k args' S' = .ok vc' ∧ vc'.den E (ρ ++ σ) ∧ aU (ρ ++ σ) args' vals ∧ Rel G w0 D0 R0 (ρ ++ σ) S' a w
 | [], ts, S, ρ, k, vc, vals, hr, h, hd, hv => ⟨[], [], S, vc, h, by simpa using hd, by simpa using hv, by simpa using hr⟩
 | v :: args, ts, S, ρ, k, vc, vals, hr, h, hd, hv => by
  obtain ⟨u, r, rfl, h1, h2⟩ := hv
  simp only [zW] at h
  split at h
  ·rename_i hu
   rw [← cO hr.aB] at hu
   obtain ⟨σ, v', S', vc', e1, e2, e3, e4, e5⟩ := aH2 hr h hd h1
   split at e1
   ·rename_i hv'
    rw [← cO e4.aB] at hv'
    obtain ⟨σ', args', S'', vc'', f1, f2, f3, f4⟩ := aH1 e4 e1 e2 (vals := r) (by rw [aL3 hu]; exact h2)
    refine ⟨σ ++ σ', v' :: args', S'', vc'', f1, by rw [← List.append_assoc]; exact f2, ?_, by rw [← List.append_assoc]; exact f4⟩
    rw [← List.append_assoc]
    exact ⟨u, r, rfl, by rw [SV.nK hv']; exact e3, f3⟩
   ·cases e1
  ·cases h
theorem aW7 {P : Program} {f : FuncId} {fn : Func} {c : Code} (hf : P.funcs[f]? = some fn) (hname : (fn.name == "runtime.NumGoroutine") = false) (hb : fn.body = some c) (args : Array Value) (w : World) :
  (callFunc f args).run P w = .ok (.enter f args) w := by
 have h1 : fn.name ≠ "runtime.NumGoroutine" := by simpa using hname
 simp [callFunc, hf, h1, hb]
theorem cC5 {x : Value} {v : SV} (h : (match v with | .one (.lf (.ptr ..)) | .one (.lf (.aptr ..)) | .one (.lf (.eptr ..)) => true | _ => false) = true) (hv : v.holds ρ x) : ∃ ad, x = .pointer (some ad) := by
 split at h
 ·exact ⟨_, hv⟩
 ·exact ⟨_, hv.1⟩
 ·obtain ⟨ad, n, c, _, _, _, _, rfl⟩ := hv; exact ⟨_, rfl⟩
 ·cases h
theorem pure_ok (hr : Rel G w0 D0 R0 ρ S a w) (hp : jJ o = true) (h : step cx o S k = .ok vc) (hd : vc.den E ρ) :
  ∃ z, Nx E G w0 D0 R0 ρ k (a.put o.dst z) w ∧ ∀ w', (execOp a.eval o).run cx.P w' = .ok (.value z) w' := by
 have met : ∀ {s : Sem Value}, execOp a.eval o = (do pure (Next.value (← s))) → (∃ z, Met E ρ (fun v => k (S.put o.dst v)) z ∧ ∀ w', s.run cx.P w' = .ok z w') →
   ∃ z, Nx E G w0 D0 R0 ρ k (a.put o.dst z) w ∧ ∀ w', (execOp a.eval o).run cx.P w' = .ok (.value z) w' := by
  rintro s he ⟨z, h1, h2⟩
  exact ⟨z, nR hr h1, fun w' => by rw [he]; simp [h2]⟩
 have mv : ∀ (x : Operand), execOp a.eval o = pure (.value (a.eval x)) → cZ (evT cx S o.type x) (fun v => uQ cx o.type v S fun v S => k (S.put o.dst v)) = .ok vc →
   ∃ z, Nx E G w0 D0 R0 ρ k (a.put o.dst z) w ∧ ∀ w', (execOp a.eval o).run cx.P w' = .ok (.value z) w' := by
  intro x he h
  obtain ⟨v, h1, h2⟩ := bM h
  obtain ⟨σ, v', S', vc', e1, e2, e3, e4, e5⟩ := aH2 hr h2 hd (aX hr h1)
  exact ⟨a.eval x, ⟨σ, _, vc', e1, e2, e4.put e3⟩, fun w' => by rw [he]; rfl⟩
 unfold jJ at hp
 unfold step at h
 dsimp only at h
 split at hp <;> try (cases hp; done)
 all_goals (rename_i heq; rw [heq] at h; dsimp only at h)
 ·exact mv _ (by unfold execOp; rw [heq]) h
 ·exact mv _ (by unfold execOp; rw [heq]) h
 ·rename_i c x y
  obtain ⟨v, h1, h2⟩ := bM h
  have hv := aX hr h1
  split at h2
  ·rename_i hb
   obtain ⟨u, h3, h4⟩ := bM h2
   have he : ∀ c a' b', a.eval c = .bool true → ((do pure (Next.value (if ← asBool (a.eval c) then a' else b')) : Sem Next)) = pure (.value a') := by
    intro c a' b' hc; rw [hc]; rfl
   have hc : a.eval c = .bool true := by
    unfold aT3 at hb
    split at hb
    ·cases hb; exact hv
    ·cases hb
   refine ⟨_, nR hr ⟨_, vc, h4, hd, aX hr h3⟩, fun w' => ?_⟩
   unfold execOp; rw [heq]; dsimp only; rw [he _ _ _ hc]; rfl
  ·rename_i hb
   obtain ⟨u, h3, h4⟩ := bM h2
   have he : ∀ c a' b', a.eval c = .bool false → ((do pure (Next.value (if ← asBool (a.eval c) then a' else b')) : Sem Next)) = pure (.value b') := by
    intro c a' b' hc; rw [hc]; rfl
   have hc : a.eval c = .bool false := by
    unfold aT3 at hb
    split at hb
    ·cases hb; exact hv
    ·cases hb
   refine ⟨_, nR hr ⟨_, vc, h4, hd, aX hr h3⟩, fun w' => ?_⟩
   unfold execOp; rw [heq]; dsimp only; rw [he _ _ _ hc]; rfl
  ·cases h2
 ·obtain ⟨u, h1, h2⟩ := bM h
  obtain ⟨v, h3, h4⟩ := bM h2
  exact met (by unfold execOp; rw [heq]) (bS0 hr h4 hd (aX hr h1) (aX hr h3) _ _)
 ·obtain ⟨u, h1, h2⟩ := bM h
  exact met (by unfold execOp; rw [heq]) (cJ7 h2 hd (aX hr h1))
 ·obtain ⟨u, h1, h2⟩ := bM h
  exact met (by unfold execOp; rw [heq]) (bW4 h2 hd (aX hr h1))
 ·obtain ⟨u, h1, h2⟩ := bM h
  have hu := aX hr h1
  split at h2
  ·rename_i xs
   split at h2
   ·rename_i x hx
    obtain ⟨z, g1, g2⟩ := bW2 (P := cx.P) hx hu
    exact met (by unfold execOp; rw [heq]) ⟨z, ⟨_, vc, h2, hd, g1⟩, g2⟩
   ·cases h2
  ·cases h2
 ·obtain ⟨u, h1, h2⟩ := bM h
  have hu := aX hr h1
  by_cases hnil : u = .one (.lf .nilp)
  ·subst hnil
   cases h2
   exact absurd hd.1 (by simp [Tm.den])
  obtain ⟨ad, had⟩ : ∃ ad, a.eval ‹Operand› = .pointer (some ad) := by
   refine cC5 (v := u) ?_ hu
   split at h2 <;> first | rfl | exact absurd rfl hnil | cases h2
  have h3 : k (S.put o.dst u) = .ok vc := by split at h2 <;> first | exact h2 | exact absurd rfl hnil | cases h2
  refine ⟨_, nR hr ⟨_, vc, h3, hd, hu⟩, fun w' => ?_⟩
  unfold execOp; rw [heq]; dsimp only; rw [had]; rfl
 ·obtain ⟨u, h1, h2⟩ := bM h
  exact met (by unfold execOp; rw [heq]) (bW5 h2 hd (aX hr h1))
 ·exact met (by unfold execOp; rw [heq]) (bS8 hr h hd)
theorem cK4 (hr : Rel G w0 D0 R0 ρ S a w) (hp : jJ o = true) (h : step cx o S k = .ok vc) (hd : vc.den E ρ) (hK : ∀ a' w', Nx E G w0 D0 R0 ρ k a' w' → K a' w') : owp cx.P o a w K := by
 obtain ⟨z, h1, h2⟩ := pure_ok hr hp h hd
 exact pX (h2 w) (hK _ _ h1)
theorem aI0 (hr : Rel G w0 D0 R0 ρ S a w) {x : Option Operand} {v : Option SV} (h : (match x with | none => Except.ok none | some l => (match ev cx S l with | .ok v => .ok (some v) | .error e => .error e)) = .ok v) : xH ρ v (x.map a.eval) := by
 cases x with
 | none => cases h; trivial
 | some l =>
  dsimp only at h
  split at h
  ·rename_i u hu; cases h; exact aX hr hu
  ·cases h
theorem bT1 {b : Builtin} {ts : Array TypeId} {args : List SV} {vals : Array Value} {cs : Array Bool} {k : SV → St → M} {ty : TypeId} (hr : Rel G w0 D0 R0 ρ S a w) (h : yO cx b ts.toList args S k = .ok vc) (hd : vc.den E ρ) (ha : aU ρ args vals.toList) :
  ∃ s : Sem Value, builtin b ts ty cs vals = (do pure (Next.value (← s))) ∧ Out E G w0 D0 R0 ρ a k (s.run cx.P w) := by
 have met : ∀ {s : Sem Value}, (∃ z, Met E ρ (fun v => k v S) z ∧ s.run cx.P w = .ok z w) → Out E G w0 D0 R0 ρ a k (s.run cx.P w) := by
  rintro s ⟨z, ⟨x, vc, h1, h2, h3⟩, h4⟩
  exact ⟨[], x, S, vc, z, w, h1, by simpa using h2, by simpa using h3, by simpa using hr, h4⟩
 have arr1 : ∀ {α : Type} {xs : Array α} {x : α}, xs.toList = [x] → xs = #[x] := fun h => Array.toList_inj.1 (by rw [h])
 have arr2 : ∀ {α : Type} {xs : Array α} {x y : α}, xs.toList = [x, y] → xs = #[x, y] := fun h => Array.toList_inj.1 (by rw [h])
 unfold yO at h
 split at h
 ·rename_i t x hts
  obtain ⟨v, r, hv, h1, hn⟩ := ha
  simp only [aU] at hn; subst hn
  rw [arr1 hts, arr1 hv]
  obtain ⟨z, m1, m2⟩ := bG8 hr h hd h1 ty
  exact ⟨_, rfl, met ⟨z, m1, m2 w⟩⟩
 ·refine ⟨_, rfl, met ?_⟩
  obtain ⟨z, m1, m2⟩ := bI5 (cx := cx) (w := w) h hd ha ts ty
  exact ⟨z, m1, by simpa using m2 w⟩
 ·refine ⟨_, rfl, met ?_⟩
  obtain ⟨z, m1, m2⟩ := bI4 (cx := cx) (w := w) h hd ha ts ty
  exact ⟨z, m1, by simpa using m2 w⟩
 ·rename_i t tx s x hts
  obtain ⟨u, r, hv, h1, v, r', rfl, h2, hn⟩ := ha
  simp only [aU] at hn; subst hn
  rw [arr2 hts, arr2 hv]
  refine ⟨_, rfl, ?_⟩
  split at h
  ·rename_i hu
   rw [← cO hr.aB] at hu
   obtain ⟨σ, s', S', vc', e1, e2, e3, e4, e5⟩ := aH2 hr h hd h1
   obtain ⟨σ', x', S'', vc'', v', w', f1, f2, f3, f4, f5⟩ := bQ9 (ty := ty) e4 e1 e2 e3 (v := v) (by rw [SV.nK hu]; exact h2)
   exact ⟨σ ++ σ', x', S'', vc'', v', w', f1, by rw [← List.append_assoc]; exact f2, by rw [← List.append_assoc]; exact f3, by rw [← List.append_assoc]; exact f4, f5⟩
  ·cases h
 ·rename_i t tx d x hts
  obtain ⟨u, r, hv, h1, v, r', rfl, h2, hn⟩ := ha
  simp only [aU] at hn; subst hn
  rw [arr2 hts, arr2 hv]
  exact ⟨_, rfl, bU1 hr h hd h1 h2⟩
 ·rename_i t t' m x hts
  obtain ⟨u, r, hv, h1, v, r', rfl, h2, hn⟩ := ha
  simp only [aU] at hn; subst hn
  rw [arr2 hts, arr2 hv]
  exact ⟨_, rfl, bU4 hr h hd h1 h2⟩
 ·cases h
theorem step_ok (hG : cx.G = G) (hsig : mZ cx E) (hr : Rel G w0 D0 R0 ρ S a w) (h : step cx o S k = .ok vc) (hd : vc.den E ρ) (hK : ∀ a' w', Nx E G w0 D0 R0 ρ k a' w' → K a' w') : owp cx.P o a w K := by
 by_cases hp : jJ o = true
 ·exact cK4 hr hp h hd hK
 unfold step at h
 dsimp only at h
 split at h
 ·rename_i heq; exfalso; apply hp; unfold jJ; rw [heq]
 ·rename_i heq; exfalso; apply hp; unfold jJ; rw [heq]
 ·rename_i heq; exfalso; apply hp; unfold jJ; rw [heq]
 ·-- alloc
  rename_i t heq
  split at h
  ·rename_i ps hz
   obtain ⟨i, z, hi, hz, hv⟩ := aC7 (ρ := ρ) hz
   obtain ⟨u, w', h1, h2⟩ := uX (aH5 (u := z) hr h hd hv)
   refine pX (z := u) (w' := w') ?_ (hK _ _ h2)
   unfold execOp; rw [heq]; dsimp only
   simp only [Sem.run_bind] at h1 ⊢
   simp [Instr.alloc, zeroValue, typeInfo, hi, hz] at h1 ⊢
   rw [h1]; rfl
  ·cases h
 ·-- box
  rename_i t x heq
  obtain ⟨v, h1, h2⟩ := bM h
  split at h2
  ·rename_i ps hps
   exact pW (s := Instr.box t (a.eval x)) (by unfold execOp; rw [heq]) (aH5 (u := a.eval x) hr h2 hd (aX6 hr.heap hps (aX hr h1))) hK
  ·cases h2
 ·rename_i heq; exfalso; apply hp; unfold jJ; rw [heq]
 ·-- buildSlice
  rename_i t n args heq
  exact pW (by unfold execOp; rw [heq]) (bS9 hr h hd) hK
 ·-- load
  rename_i t x heq
  obtain ⟨S, vc, h, hd, hr⟩ := bD4 hr h hd
  obtain ⟨u, h1, h2⟩ := bM h
  have hx' := bE4 (cx := cx) (S := S) (aX hr h1)
  have hr' := bC5 hr hx'
  obtain ⟨z, h3, h4⟩ := bI0 hG hr' h2 hd hx'
  replace h3 := aZ3 h3
  refine pX (z := z) (w' := w) (by unfold execOp; rw [heq]; dsimp only; simp [h4]) (hK _ _ (nR hr' h3))
 ·-- store
  rename_i t x y heq
  obtain ⟨u, h1, h2⟩ := bM h
  obtain ⟨v, h3, h4⟩ := bM h2
  obtain ⟨σ, S', vc', w', e1, e2, e3, e4⟩ := cH8 hr h1 h3 h4 hd
  unfold owp execOp
  rw [heq]
  dsimp only
  simp only [Sem.run_bind, e4, Result.andThen_ok]
  exact hK _ _ ⟨σ, _, vc', e1, e2, e3.put (x := .one (.lf .junk)) trivial⟩
 ·rename_i heq; exfalso; apply hp; unfold jJ; rw [heq]
 ·rename_i heq; exfalso; apply hp; unfold jJ; rw [heq]
 ·rename_i heq; exfalso; apply hp; unfold jJ; rw [heq]
 ·-- convert
  rename_i s d x heq
  obtain ⟨u, h1, h2⟩ := bM h
  exact pW (by unfold execOp; rw [heq]) (bU0 hr h2 hd (aX hr h1)) hK
 ·-- makeSlice
  rename_i t l c heq
  obtain ⟨u, h1, h2⟩ := bM h
  obtain ⟨v, h3, h4⟩ := bM h2
  exact pW (by unfold execOp; rw [heq]) (cB4 hr h4 hd (aX hr h1) (aX hr h3)) hK
 ·-- slice
  rename_i t x lo hi mx heq
  obtain ⟨u, h1, h2⟩ := bM h
  split at h2
  ·rename_i l hh hl hhh
   refine pW (by unfold execOp; rw [heq]) (cH3 (mx := mx.map a.eval) (drop := dropped cx o.dst) hr (by rw [Option.isSome_map]; exact h2) hd (aX hr h1) (aI0 hr hl) (aI0 hr hhh)) hK
  ·cases h2
  ·cases h2
 ·rename_i heq; exfalso; apply hp; unfold jJ; rw [heq]
 ·rename_i heq; exfalso; apply hp; unfold jJ; rw [heq]
 ·-- indexAddr
  rename_i t x i heq
  obtain ⟨u, h1, h2⟩ := bM h
  obtain ⟨v, h3, h4⟩ := bM h2
  exact bP9 hr (by unfold execOp; rw [heq]) ((bE9 hr h4 hd (aX hr h1) (aX hr h3)).imp fun _ h => ⟨h.1, h.2 w⟩) hK
 ·-- index
  rename_i t x i heq
  obtain ⟨u, h1, h2⟩ := bM h
  obtain ⟨v, h3, h4⟩ := bM h2
  exact bP9 hr (by unfold execOp; rw [heq]) ((bF0 h4 hd (aX hr h1) (aX hr h3)).imp fun _ h => ⟨h.1, h.2 w⟩) hK
 ·rename_i heq; exfalso; apply hp; unfold jJ; rw [heq]
 ·-- call
  rename_i c heq
  split at h
  ·rename_i b hb
   split at h
   ·rename_i args hargs
    have ha := wG hr hargs
    rw [← Array.toList_map] at ha
    obtain ⟨s, e1, e2⟩ := bT1 (ty := o.type) (cs := c.args.map fun | .const _ => true | _ => false) hr h hd ha
    refine pW (s := s) ?_ e2 hK
    unfold execOp; rw [heq]; dsimp only
    unfold resolve; rw [hb]; dsimp only
    rw [← e1]; rfl
   ·cases h
  ·rename_i f hf
   split at h
   ·rename_i g args hg hargs
    have ha := wG hr hargs
    rw [← Array.toList_map] at ha
    have hgv : a.eval f = .func (.func g) #[] #[] := aX hr hg
    obtain ⟨σ, args', S', vc', e1, e2, e3, e4⟩ := aH1 hr h hd ha
    obtain ⟨⟨fn, b, hf1, hf2, hf3⟩, hcalls⟩ := aO2 hG hsig e4 e1 e2 e3
    have he : (execOp a.eval o).run cx.P w = .ok (.enter g (c.args.map a.eval)) w := by
     unfold execOp; rw [heq]; dsimp only
     unfold resolve; rw [hf]; dsimp only
     rw [hgv]
     have := aW7 (P := cx.P) hf1 hf2 hf3 (c.args.map a.eval) w
     simpa [Deferred.ofValue, invoke] using this
    unfold owp
    rw [he]
    refine Calls.mono hcalls ?_
    rintro e w' ⟨v, rfl, hout, -⟩
    obtain ⟨z, w'', h1, σ', S'', vc'', f1, f2, f3⟩ := uX hout
    cases h1
    exact hK _ _ ⟨σ ++ σ', S'', vc'', f1, by rw [← List.append_assoc]; exact f2, by rw [← List.append_assoc]; exact f3⟩
   ·rename_i g fs cs args hg hargs
    split at h
    ·rename_i hund
     have ha := wG hr hargs
     rw [← Array.toList_map] at ha
     have hgv : a.eval f = .func (.func g) (fs.map fun b => Value.pointer (some ⟨(b.den ρ).toN, 0, none⟩)).toArray (cs.map fun b => Value.pointer (some ⟨(b.den ρ).toN, 0, none⟩)).toArray := aX hr hg
     obtain ⟨σ, args', S', vc', e1, e2, e3, e4⟩ := aH1 hr h hd ha
     simp only [Bool.and_eq_true, ← cO hr.aB] at hund
     have hfs : ∀ {xs : List Tm}, xs.all (Tm.under ρ.length) = true → (xs.map fun b => Value.pointer (some ⟨(b.den (ρ ++ σ)).toN, 0, none⟩)) = xs.map fun b => Value.pointer (some ⟨(b.den ρ).toN, 0, none⟩) := fun {xs} hx =>
      List.map_congr_left fun b hb => by rw [Tm.bH (List.all_eq_true.1 hx b hb)]
     have e5 := aL1 (aL1 (aX8 (ρ := ρ ++ σ) fs) e3) (aX8 (ρ := ρ ++ σ) cs)
     rw [hfs hund.1, hfs hund.2] at e5
     generalize hX : ((fs.map fun b => Value.pointer (some ⟨(b.den ρ).toN, 0, none⟩)).toArray ++ c.args.map a.eval ++ (cs.map fun b => Value.pointer (some ⟨(b.den ρ).toN, 0, none⟩)).toArray) = X
     have e6 : aU (ρ ++ σ) (fs.map aA3 ++ args' ++ cs.map aA3) X.toList := by rw [← hX]; simpa using e5
     obtain ⟨⟨fn, b, hf1, hf2, hf3⟩, hcalls⟩ := aO2 hG hsig e4 e1 e2 e6
     have he : (execOp a.eval o).run cx.P w = .ok (.enter g X) w := by
      unfold execOp; rw [heq]; dsimp only
      unfold resolve; rw [hf]; dsimp only
      rw [hgv]
      have := aW7 (P := cx.P) hf1 hf2 hf3 X w
      simpa [Deferred.ofValue, invoke, hX] using this
     unfold owp
     rw [he]
     refine Calls.mono hcalls ?_
     rintro e w' ⟨v, rfl, hout, -⟩
     obtain ⟨z, w'', h1, σ', S'', vc'', f1, f2, f3⟩ := uX hout
     cases h1
     exact hK _ _ ⟨σ ++ σ', S'', vc'', f1, by rw [← List.append_assoc]; exact f2, by rw [← List.append_assoc]; exact f3⟩
    ·cases h
   ·cases h
   ·cases h
   ·cases h
  ·cases h
 ·-- makeFunc
  rename_i fn first caps heq
  split at h
  ·rename_i f fs cs hfs hcs
   have h1 := aN5 hr hfs
   have h2 := aN5 hr hcs
   rw [← Array.toList_map] at h1 h2
   refine pX (z := .func (.func f) (first.map a.eval) (caps.map a.eval)) (w' := w) (by unfold execOp; rw [heq]; rfl) (hK _ _ (nR hr ⟨_, vc, h, hd, ?_⟩))
   have g1 : first.map a.eval = (fs.map fun b => Value.pointer (some ⟨(b.den ρ).toN, 0, none⟩)).toArray := Array.toList_inj.1 (by rw [h1])
   have g2 : caps.map a.eval = (cs.map fun b => Value.pointer (some ⟨(b.den ρ).toN, 0, none⟩)).toArray := Array.toList_inj.1 (by rw [h2])
   rw [g1, g2]
   split
   ·rename_i hn; obtain ⟨rfl, rfl⟩ := hn; rfl
   ·rfl
  ·cases h
  ·cases h
  ·cases h
 ·-- makeMap
  rename_i t r heq
  split at h
  ·refine pW (s := Instr.makeMap t none) (by unfold execOp; rw [heq]; rfl) (bI3 hr h hd (fun _ h => by cases h)) hK
  ·rename_i r
   obtain ⟨v, h1, h2⟩ := bM h
   have hv := aX hr h1
   split at h2
   ·refine pW (s := Instr.makeMap t (some (a.eval r))) (by unfold execOp; rw [heq]; rfl) (bI3 hr h2 hd (fun x hx => by cases hx; exact ⟨_, hv.1⟩)) hK
   ·cases h2
 ·-- lookup
  rename_i t x i ok heq
  obtain ⟨u, h1, h2⟩ := bM h
  obtain ⟨v, h3, h4⟩ := bM h2
  split at h4
  ·obtain ⟨z, h5, h6⟩ := cA8 hr h4 hd (aX hr h1) (aX hr h3)
   refine pX (z := z) (w' := w) (by unfold execOp; rw [heq]; dsimp only; simp [h6 w (Same.refl w)]) (hK _ _ (nR hr h5))
  ·cases h4
 ·-- mapUpdate
  rename_i t m x v heq
  obtain ⟨u1, h1, h2⟩ := bM h
  obtain ⟨u2, h3, h4⟩ := bM h2
  obtain ⟨u3, h5, h6⟩ := bM h4
  obtain ⟨S', vc', w', e1, e2, e3, e4⟩ := cB6 hr h6 hd (aX hr h1) (aX hr h3) (aX hr h5)
  unfold owp execOp
  rw [heq]
  dsimp only
  simp only [Sem.run_bind, e4, Result.andThen_ok]
  exact hK _ _ ⟨[], _, vc', e1, by simpa using e2, by simpa using e3.put (x := .one (.lf .junk)) trivial⟩
 ·-- range
  rename_i t x heq
  obtain ⟨v, h1, h2⟩ := bM h
  exact pW (by unfold execOp; rw [heq]) (cF0 hr h2 hd (aX hr h1)) hK
 ·-- entry
  rename_i x heq
  obtain ⟨v, h1, h2⟩ := bM h
  obtain ⟨z, h5, h6⟩ := bV5 (cx := cx) hr h2 hd (aX hr h1)
  refine pX (z := z) (w' := w) (by unfold execOp; rw [heq]; dsimp only; simp [h6 w (Same.refl w)]) (hK _ _ (nR hr h5))
 ·-- next
  rename_i x isStr heq
  split at h
  ·cases h
  ·rename_i hs
   obtain ⟨v, h1, h2⟩ := bM h
   exact pW (s := Instr.next (a.eval x) isStr o.type) (by unfold execOp; rw [heq]) (by rw [show isStr = false from by simpa using hs]; exact cC4 hr h2 hd (aX hr h1)) hK
 ·cases h
theorem bT0 {b : Builtin} {ts : Array TypeId} {args : List SV} {vals : Array Value} {cs : Array Bool} {k : SV → St → M} {ty : TypeId} (hr : Rel G w0 D0 R0 ρ S a w)
  (hp : (match Callee.builtin b, ts.toList with | .builtin .len, [_] => true | .builtin .min, _ => true | .builtin .max, _ => true | _, _ => false) = true)
  (h : yO cx b ts.toList args S k = .ok vc) (hd : vc.den E ρ) (ha : aU ρ args vals.toList) :
  ∃ s : Sem Value, builtin b ts ty cs vals = (do pure (Next.value (← s))) ∧ ∃ z, Met E ρ (fun v => k v S) z ∧ ∀ w, s.run cx.P w = .ok z w := by
 have arr1 : ∀ {α : Type} {xs : Array α} {x : α}, xs.toList = [x] → xs = #[x] := fun h => Array.toList_inj.1 (by rw [h])
 unfold yO at h
 split at h
 ·rename_i t x hts
  obtain ⟨v, r, hv, h1, hn⟩ := ha
  simp only [aU] at hn; subst hn
  rw [arr1 hts, arr1 hv]
  exact ⟨_, rfl, bG8 hr h hd h1 ty⟩
 ·refine ⟨_, rfl, ?_⟩
  have := bI5 (cx := cx) (w := w) h hd ha ts ty
  simpa using this
 ·refine ⟨_, rfl, ?_⟩
  have := bI4 (cx := cx) (w := w) h hd ha ts ty
  simpa using this
 ·cases hp
 ·cases hp
 ·cases hp
 ·cases h
theorem aI8 (hr : Rel G w0 D0 R0 ρ S a w) (hp : sD cx S o = true) (h : step cx o S k = .ok vc) (hd : vc.den E ρ) :
  ∃ z, Nx E G w0 D0 R0 ρ k (a.put o.dst z) w ∧ ∀ w', (execOp a.eval o).run cx.P w' = .ok (.value z) w' := by
 by_cases hp0 : jJ o = true
 ·exact pure_ok hr hp0 h hd
 have met : ∀ {s : Sem Value}, execOp a.eval o = (do pure (Next.value (← s))) → (∃ z, Met E ρ (fun v => k (S.put o.dst v)) z ∧ ∀ w', s.run cx.P w' = .ok z w') →
   ∃ z, Nx E G w0 D0 R0 ρ k (a.put o.dst z) w ∧ ∀ w', (execOp a.eval o).run cx.P w' = .ok (.value z) w' := by
  rintro s he ⟨z, h1, h2⟩
  exact ⟨z, nR hr h1, fun w' => by rw [he]; simp [h2]⟩
 simp only [sD, hp0, Bool.false_or] at hp
 unfold step at h
 dsimp only at h
 split at hp
 ·rename_i t x i heq
  rw [heq] at h; dsimp only at h
  obtain ⟨u, h1, h2⟩ := bM h
  obtain ⟨v, h3, h4⟩ := bM h2
  exact met (by unfold execOp; rw [heq]) (bF0 h4 hd (aX hr h1) (aX hr h3))
 ·rename_i t x i heq
  rw [heq] at h; dsimp only at h
  obtain ⟨u, h1, h2⟩ := bM h
  obtain ⟨v, h3, h4⟩ := bM h2
  exact met (by unfold execOp; rw [heq]) (bE9 hr h4 hd (aX hr h1) (aX hr h3))
 ·rename_i t x lo hi mx heq
  rw [heq] at h; dsimp only at h
  split at hp
  ·rename_i s hs
   obtain ⟨u, h1, h2⟩ := bM h
   rw [hs] at h1; cases h1
   split at h2
   ·rename_i l hh hl hhh
    exact met (by unfold execOp; rw [heq]) (cH2 (mx := mx.map a.eval) (by rw [Option.isSome_map]; exact h2) hd (aX hr hs) (aI0 hr hl) (aI0 hr hhh))
   ·cases h2
   ·cases h2
  ·cases hp
 ·rename_i s d x heq
  rw [heq] at h; dsimp only at h
  obtain ⟨u, h1, h2⟩ := bM h
  split at hp
  ·rename_i kk t hx
   rw [hx] at h1; cases h1
   exact met (by unfold execOp; rw [heq]) (bB5 h2 hd (aX hr hx) (.inl ⟨_, _, rfl⟩))
  ·rename_i t hx
   rw [hx] at h1; cases h1
   split at hp
   ·rename_i hdst
    exact met (by unfold execOp; rw [heq]) (bB5 h2 hd (aX hr hx) (.inr ⟨_, rfl, hdst⟩))
   ·cases hp
  ·cases hp
 ·rename_i c heq
  rw [heq] at h; dsimp only at h
  split at h
  ·rename_i b hb
   split at h
   ·rename_i args hargs
    have ha := wG hr hargs
    rw [← Array.toList_map] at ha
    obtain ⟨s, e1, e2⟩ := bT0 (ty := o.type) (cs := c.args.map fun | .const _ => true | _ => false) hr (by rw [hb] at hp; exact hp) h hd ha
    refine met (s := s) ?_ e2
    unfold execOp; rw [heq]; dsimp only
    unfold resolve; rw [hb]; dsimp only
    rw [← e1]; rfl
   ·cases h
  ·rename_i f hf
   rw [hf] at hp
   dsimp only at hp
   cases hp
  ·cases h
 ·cases hp
theorem cH7 (hG : cx.G = G) (hr : Rel G w0 D0 R0 ρ S a w) (hp : aK8 cx S o = true) (h : step cx o S k = .ok vc) (hd : vc.den E ρ) :
  ∃ z, Nx E G w0 D0 R0 ρ k (a.put o.dst z) w ∧ ∀ w', Same w w' → (execOp a.eval o).run cx.P w' = .ok (.value z) w' := by
 by_cases hp0 : sD cx S o = true
 ·obtain ⟨z, h1, h2⟩ := aI8 hr hp0 h hd
  exact ⟨z, h1, fun w' _ => h2 w'⟩
 simp only [aK8, hp0, Bool.false_or] at hp
 unfold step at h
 dsimp only at h
 split at hp
 ·rename_i t x heq
  rw [heq] at h; dsimp only at h
  obtain ⟨S, vc, h, hd, hr⟩ := bD4 hr h hd
  obtain ⟨u, h1, h2⟩ := bM h
  have hx' := bE4 (cx := cx) (S := S) (aX hr h1)
  have hr' := bC5 hr hx'
  obtain ⟨z, h3, h4⟩ := bI1 hG hr' h2 hd hx'
  replace h3 := aZ3 h3
  refine ⟨z, nR hr' h3, fun w' hs => ?_⟩
  unfold execOp; rw [heq]; dsimp only
  simp [h4 w' hs]
 ·cases hp
theorem cE9 {K : Act → World → Prop} (hG : cx.G = G) (hsig : mZ cx E) (hr : Rel G w0 D0 R0 ρ S a w) (hp : quietIn cx S o = true) (h : step cx o S k = .ok vc) (hd : vc.den E ρ)
  (hK : ∀ a' w', Nx E G w0 D0 R0 ρ k a' w' → Same w w' → K a' w') : owp cx.P o a w K := by
 unfold quietIn at hp
 unfold step at h
 dsimp only at h
 have same : ∀ {t : TypeId} {u z : Value} {w' : World}, (do pure (.pointer (some (← newVar t u))) : Sem Value).run cx.P w = .ok z w' → Same w w' := by
  intro t u z w' h1
  have h2 : (do pure (.pointer (some (← newVar t u))) : Sem Value).run cx.P w = .ok (.pointer (some ⟨w.heap.size, 0, none⟩)) (w.alloc (.cells u.cells t)) := rfl
  rw [h2] at h1
  cases h1
  exact ⟨(kX w _).size, (kX w _).block⟩
 split at hp
 ·rename_i t heq
  rw [heq] at h; dsimp only at h
  split at h
  ·rename_i ps hz
   obtain ⟨i, z, hi, hz, hv⟩ := aC7 (ρ := ρ) hz
   obtain ⟨u, w', h1, h2⟩ := uX (aH5 (u := z) hr h hd hv)
   refine pX (z := u) (w' := w') ?_ (hK _ _ h2 (same h1))
   unfold execOp; rw [heq]; dsimp only
   simp only [Sem.run_bind] at h1 ⊢
   simp [Instr.alloc, zeroValue, typeInfo, hi, hz] at h1 ⊢
   rw [h1]; rfl
  ·cases h
 ·rename_i t x heq
  rw [heq] at h; dsimp only at h
  obtain ⟨v, h1, h2⟩ := bM h
  split at h2
  ·rename_i ps hps
   obtain ⟨z, w', h3, h4⟩ := uX (aH5 (u := a.eval x) hr h2 hd (aX6 hr.heap hps (aX hr h1)))
   refine pX (z := z) (w' := w') ?_ (hK _ _ h4 (same h3))
   have he : execOp a.eval o = (do pure (Next.value (← Instr.box t (a.eval x)))) := by unfold execOp; rw [heq]
   rw [he]
   have h5 : (Instr.box t (a.eval x)).run cx.P w = .ok z w' := h3
   simp [h5]
  ·cases h2
 ·rename_i c heq
  rw [heq] at h; dsimp only at h
  split at h
  ·rename_i b hb
   rw [hb] at hp; cases hp
  ·rename_i f hf
   rw [hf] at hp; dsimp only at hp
   split at h
   ·rename_i g args hg hargs
    rw [hg] at hp; dsimp only at hp
    have ha := wG hr hargs
    rw [← Array.toList_map] at ha
    have hgv : a.eval f = .func (.func g) #[] #[] := aX hr hg
    obtain ⟨σ, args', S', vc', e1, e2, e3, e4⟩ := aH1 hr h hd ha
    obtain ⟨⟨fn, b, hf1, hf2, hf3⟩, hcalls⟩ := aO2 hG hsig e4 e1 e2 e3
    have he : (execOp a.eval o).run cx.P w = .ok (.enter g (c.args.map a.eval)) w := by
     unfold execOp; rw [heq]; dsimp only
     unfold resolve; rw [hf]; dsimp only
     rw [hgv]
     have := aW7 (P := cx.P) hf1 hf2 hf3 (c.args.map a.eval) w
     simpa [Deferred.ofValue, invoke] using this
    unfold owp
    rw [he]
    refine Calls.mono hcalls ?_
    rintro e w' ⟨v, rfl, hout, hsame⟩
    obtain ⟨z, w'', h1, σ', S'', vc'', f1, f2, f3⟩ := uX hout
    cases h1
    exact hK _ _ ⟨σ ++ σ', S'', vc'', f1, by rw [← List.append_assoc]; exact f2, by rw [← List.append_assoc]; exact f3⟩ (hsame hp)
   ·rename_i g fs cs args hg hargs
    rw [hg] at hp; cases hp
   ·cases h
   ·cases h
   ·cases h
  ·cases h
 ·cases hp
end
end Go.Vc
namespace Go.Vc
def Good (cx : Cx) (E : Env) (w0 : World) (ρ0 : LD) (v : Value) (w' : World) : Prop :=
 Fit E.ret cx.own ρ0 w0 v w' ∨ ∃ r, cx.own.second = some r ∧ Fit (E.pre 200) r ρ0 w0 v w'
theorem aD1 (ρ τ : LD) : (atoms ρ.length).map (Tm.den (ρ ++ τ)) = ρ := by
 apply List.ext_getElem?
 intro i
 simp only [atoms, List.map_map, List.getElem?_map]
 by_cases h : i < ρ.length
 ·rw [List.getElem?_range h]
  simp [Tm.den, List.getD, List.getElem?_append_left h, List.getElem?_eq_getElem h]
 ·rw [List.getElem?_eq_none (by simpa using h), List.getElem?_eq_none (by simpa using h)]
  rfl
theorem aD0 (ρ σ τ : LD) : (nD ρ.length σ.length).map (Tm.den (ρ ++ σ ++ τ)) = σ := by
 apply List.ext_getElem?
 intro i
 simp only [nD, List.map_map, List.getElem?_map]
 by_cases h : i < σ.length
 ·rw [List.getElem?_range h]
  simp only [Option.map_some, Function.comp_apply, Tm.den, List.getD]
  rw [List.getElem?_append_left (by simp; omega), List.getElem?_append_right (by omega)]
  simp [List.getElem?_eq_getElem h]
 ·rw [List.getElem?_eq_none (by simpa using h), List.getElem?_eq_none (by simpa using h)]
  rfl
section
variable {E : Env} {G : List Glob} {w0 : World} {D0 R0 : List Nat} {ρ0 ρ τ : LD} {S T : St} {a : Act} {w : World} {cx : Cx} {vc : VC} {K : List KI}
theorem wL {n0 : Nat} {θ : List Tm} (hr : Rel G w0 D0 R0 (ρ ++ τ) S a w) (hn : n0 = ρ.length) (hT : bY (T.aB.take n0) ρ) (h : fit T n0 S = .ok θ) :
  bY (T.aB.drop n0) (θ.map (Tm.den (ρ ++ τ))) ∧ Rel G w0 D0 R0 (ρ ++ θ.map (Tm.den (ρ ++ τ))) T a w := by
 subst hn
 unfold fit at h
 split at h
 ·cases h
 ·rename_i θ' _
  split at h
  ·rename_i hc
   split at h
   ·rename_i hs
    split at h
    ·rename_i rest hcov
     cases h
     have hss := aK4 hr.aB hs
     obtain ⟨h1, hperm, h2⟩ := aO6 hcov hr.heap
     have hto : aU (ρ ++ θ.map (Tm.den (ρ ++ τ))) T.tmps a.tmps.toList := by
      rw [← aX9]; exact aX7 hc hr.tmps
     have hown : ∀ b ∈ owns (ρ ++ θ.map (Tm.den (ρ ++ τ))) T.heap, b ∈ owns (ρ ++ τ) S.heap := by
      intro b hb
      rw [← rV, ← uY] at hb
      rw [dQ hperm, dI]; exact List.mem_append.2 (.inl hb)
     refine ⟨hss, ?_, hto, hr.defers, aN.aV3 h1, fun g hg => ⟨(hr.globs g hg).1, fun hm => (hr.globs g hg).2 (hown _ hm)⟩, hr.frame, fun b hb => hr.within b (hown b hb), fun b hb => ?_⟩
     ·have := aB7 hT hss
      rwa [List.take_append_drop] at this
     ·rw [← aJ5] at hb
      rcases h2 b hb with h3 | ⟨_, h3⟩
      ·exact hr.within' b (by rw [iL hperm, vF]; exact List.mem_append.2 (.inr h3))
      ·exact (hr.within b (by rw [dQ hperm, dI]; exact List.mem_append.2 (.inr h3))).imp id .inl
    ·cases h
   ·cases h
  ·cases h
def aA8 (tmps : Array Value) : ResultVar → Sem Value
 | .tmp t => pure (tmps.getD t undef)
 | .cell a t => do loadVar t (← asAddr (tmps.getD a undef))
theorem aW2 (hG : cx.G = G) (hr : Rel G w0 D0 R0 ρ S a w) : ∀ {rs : List ResultVar} {k : List S0 → M} {vc : VC}, xU cx S rs k = .ok vc → vc.den E ρ →
  ∃ vs xs vc', (rs.mapM (aA8 a.tmps) : Sem (List Value)).run cx.P w = .ok vs w ∧ kP ρ xs vs ∧ k xs = .ok vc' ∧ vc'.den E ρ
 | [], k, vc, h, hd => ⟨[], [], vc, rfl, rfl, h, hd⟩
 | .tmp t :: r, k, vc, h, hd => by
  simp only [xU] at h
  split at h
  ·rename_i x hx
   obtain ⟨vs, xs, vc', h1, h2, h3, h4⟩ := aW2 hG hr h hd
   refine ⟨a.tmps.getD t undef :: vs, x :: xs, vc', ?_, ⟨_, _, rfl, hr.slot hx, h2⟩, h3, h4⟩
   simp only [List.mapM_cons, aA8, Sem.run_bind, Sem.run_pure, Result.andThen_ok, h1]
  ·cases h
 | .cell ad t :: r, k, vc, h, hd => by
  simp only [xU] at h
  split at h
  ·rename_i b o hx
   have hs : (SV.one (.lf (.ptr b o))).holds ρ (a.tmps.getD ad undef) := hr.slot hx
   obtain ⟨z, ⟨sv, vc1, h5, h6, h7⟩, hrun⟩ := bI0 hG hr h hd hs
   dsimp only at h5
   split at h5
   ·rename_i x
    obtain ⟨vs, xs, vc', h1, h2, h3, h4⟩ := aW2 hG hr h5 h6
    have hp : a.tmps.getD ad undef = .pointer (some ⟨(b.den ρ).toN, o, none⟩) := hs
    refine ⟨z :: vs, x :: xs, vc', ?_, ⟨_, _, rfl, h7, h2⟩, h3, h4⟩
    rw [hp] at hrun
    have e : (aA8 a.tmps (.cell ad t)).run cx.P w = .ok z w := by
     simp only [aA8, hp]
     exact hrun
    simp only [List.mapM_cons, Sem.run_bind, e, Sem.run_pure, Result.andThen_ok, h1]
   ·cases h5
  ·cases h
theorem bL0 {R : SigR} {x : SV} {u : Value} {fin : List Tm → VC} {post : LD → Prop} (hr : Rel G w0 (owns ρ0 R.heap) (ros ρ0 R.heap) (ρ0 ++ τ) S a w) (hn : R.aB.length = ρ0.length) (h : aJ4 S R x fin = .ok vc) (hd : vc.den E (ρ0 ++ τ))
  (hfin : ∀ ts, (fin ts).den E (ρ0 ++ τ) → post (ts.map (Tm.den (ρ0 ++ τ)))) (hx : x.holds (ρ0 ++ τ) u) : Fit post R ρ0 w0 u w := by
 unfold aJ4 at h
 dsimp only at h
 split at h
 ·cases h
 rename_i θ hθ
 rw [hn] at h
 split at h
 ·rename_i hres
  split at h
  ·rename_i hsh
   split at h
   ·rename_i rest hcov
    cases h
    refine ⟨θ.map (Tm.den (ρ0 ++ τ)), aK4 hr.aB hsh, ?_, ?_, ?_⟩
    ·have := hfin _ hd
     simp only [List.map_append, aD1] at this
     exact this
    ·rw [← SV.mO, hres]; exact hx
    obtain ⟨c1, hperm, c2⟩ := aO6 hcov hr.heap
    have hown : ∀ b ∈ owns (ρ0 ++ θ.map (Tm.den (ρ0 ++ τ))) R.heap', b ∈ owns (ρ0 ++ τ) S.heap := by
     intro b hb
     rw [← rV, ← uY] at hb
     rw [dQ hperm, dI]; exact List.mem_append.2 (.inl hb)
    refine ⟨aN.aV3 c1, fun b hb => hr.within b (hown b hb), fun b hb => ?_, hr.frame⟩
    rw [← aJ5] at hb
    rcases c2 b hb with h3 | ⟨_, h3⟩
    ·exact hr.within' b (by rw [iL hperm, vF]; exact List.mem_append.2 (.inr h3))
    ·exact (hr.within b (by rw [dQ hperm, dI]; exact List.mem_append.2 (.inr h3))).imp id .inl
   ·cases h
  ·cases h
 ·cases h
theorem cF5 (hG : cx.G = G) (hr : Rel G w0 (owns ρ0 cx.own.heap) (ros ρ0 cx.own.heap) (ρ0 ++ τ) S a w) (hn : cx.own.aB.length = ρ0.length) (h : iZ cx S = .ok vc) (hd : vc.den E (ρ0 ++ τ)) :
  a.defers = [] ∧ ∃ v, (results cx.fn a.tmps).run cx.P w = .ok v w ∧ Good cx E w0 ρ0 v w := by
 refine ⟨hr.defers, ?_⟩
 unfold iZ at h
 obtain ⟨vs, xs, vc', h1, h2, h, hd⟩ := aW2 hG hr h hd
 dsimp only at h
 have hrun : (results cx.fn a.tmps).run cx.P w = .ok (if h : vs.length = 1 then vs[0] else .tuple vs.toArray) w := by
  have e0 : results cx.fn a.tmps = (do let vs ← cx.fn.results.mapM (aA8 a.tmps); pure (if h : vs.size = 1 then vs[0] else .tuple vs)) := rfl
  rw [e0]
  have e : ∀ (f : ResultVar → Sem Value), (cx.fn.results.mapM f : Sem (Array Value)) = (do let vs ← cx.fn.results.toList.mapM f; pure vs.toArray) := by
   intro f
   rw [Array.mapM_eq_mapM_toList]
   rfl
  rw [e]
  simp only [Sem.run_bind]
  rw [h1]
  simp
 have hv : (bK9 xs).holds (ρ0 ++ τ) (if h : vs.length = 1 then vs[0] else .tuple vs.toArray) := by
  have hl : ∀ {xs : List S0} {vs : List Value}, kP (ρ0 ++ τ) xs vs → vs.length = xs.length := by
   intro xs
   induction xs with
   | nil => intro vs h; simp only [kP] at h; subst h; rfl
   | cons x xs ih => intro vs h; obtain ⟨v, r, rfl, _, h⟩ := h; simp [ih h]
  have hlen := hl h2
  rcases xs with _ | ⟨x, _ | ⟨y, ys⟩⟩
  ·simp only [kP] at h2; subst h2; exact ⟨#[], rfl, rfl⟩
  ·obtain ⟨v, r, rfl, h3, h4⟩ := h2
   simp only [kP] at h4; subst h4
   exact h3
  ·rw [dif_neg (by rw [hlen]; simp)]
   exact ⟨vs.toArray, rfl, by simpa using h2⟩
 refine ⟨_, hrun, ?_⟩
 split at h
 ·rename_i x hx
  cases h
  exact .inl (bL0 hr hn hx hd (fun ts ht => ht) hv)
 ·split at h
  ·cases h
  ·rename_i r hsec
   have hrr : r.heap = cx.own.heap ∧ r.aB = cx.own.aB := by
    unfold SigR.second at hsec
    split at hsec
    ·cases hsec; exact ⟨rfl, rfl⟩
    ·cases hsec
   exact .inr ⟨r, hsec, bL0 (R := r) (by rw [hrr.1]; exact hr) (by rw [hrr.2]; exact hn) h hd (fun ts ht => ht.1) hv⟩
def pV (P : Program) (ops : Array Oper) (Q : Exit → Act → World → Prop) (oth : List Nat) : Nat → Array Bool → Act → World → Prop
 | 0, listed, a, w => Region.ready .any ops listed = [] ∧ Q .normal a w
 | fuel + 1, listed, a, w =>
  (Region.ready .any ops listed = [] → Q .normal a w) ∧
  ∀ i ∈ Region.ready .any ops listed, wpOp P ops Q i (fun a' w' => (oth.contains i = false → Same w w') ∧ pV P ops Q oth fuel (listed.setIfInBounds i true) a' w') a w
section
variable {P : Program} {ops : Array Oper} {Q : Exit → Act → World → Prop} {oth : List Nat}
theorem aM1 : ∀ (fuel : Nat) (listed : Array Bool) (a : Act) (w : World), pV P ops Q oth fuel listed a w → wpAny P .any ops Q fuel listed a w
 | 0, _, _, _, h => h
 | fuel + 1, _, _, _, h => ⟨h.1, fun i hi => wpOp_mono (fun a' w' h' => aM1 fuel _ a' w' h'.2) (h.2 i hi)⟩
theorem cK2 {listed : Array Bool} {a : Act} {w : World} (hr : Region.ready .any ops listed = []) (h : Q .normal a w) : ∀ fuel, pV P ops Q oth fuel listed a w
 | 0 => ⟨hr, h⟩
 | _ + 1 => ⟨fun _ => h, by rw [hr]; simp⟩
theorem aR3 {listed : Array Bool} {i : Nat} (h : listed.getD i true = false) : listed.getD i false = false := by
 rcases Nat.lt_or_ge i listed.size with h' | h'
 ·simp [h'] at h ⊢; exact h
 ·simp [Array.getElem?_eq_none h'] at h
theorem bP8 {listed : Array Bool} {i j n : Nat} (hw : waits ops listed i n j = true) (hi : listed.getD i true = false) : j ∉ Region.ready .any ops listed := by
 intro hj
 obtain ⟨_, o, ho, hall⟩ := mem_ready.1 hj
 cases n with
 | zero => simp [waits] at hw
 | succ n =>
  simp only [waits, ho, Array.any_eq_true'] at hw
  obtain ⟨e, he, hw⟩ := hw
  simp only [Bool.and_eq_true, Bool.or_eq_true, beq_iff_eq, Bool.not_eq_true'] at hw
  obtain ⟨hb, hw⟩ := hw
  have h1 := hall e he hb
  rcases hw with rfl | ⟨h2, _⟩
  ·rw [aR3 hi] at h1; cases h1
  ·rw [aR3 h2] at h1; cases h1
theorem aY8 {listed : Array Bool} {i k : Nat} (hi : listed.getD i true = false) (hk : k ∈ Region.ready .any ops listed) : ∀ (n j : Nat), waits ops listed i n j = true → waits ops (listed.setIfInBounds k true) i n j = true
 | 0, _, h => by simp [waits] at h
 | n + 1, j, h => by
  simp only [waits] at h ⊢
  split at h
  ·cases h
  ·rename_i o ho
   simp only [Array.any_eq_true'] at h ⊢
   obtain ⟨e, he, hw⟩ := h
   refine ⟨e, he, ?_⟩
   simp only [Bool.and_eq_true, Bool.or_eq_true, beq_iff_eq, Bool.not_eq_true'] at hw ⊢
   obtain ⟨hb, hw⟩ := hw
   refine ⟨hb, hw.imp id fun ⟨h1, h2⟩ => ?_⟩
   have hne : k ≠ e.on := fun h => bP8 h2 hi (h ▸ hk)
   exact ⟨by rw [getD_set_ne true hne]; exact h1, aY8 hi hk n e.on h2⟩
theorem cK3 {i n : Nat} {oi : Oper} {v : Value} {T : World → Prop} (hi : ops[i]? = some oi) (hsel : ∀ (j : Nat) (o : Oper) cs b, ops[j]? = some o → o.op ≠ .select cs b)
  (hQ : ∀ c a w, Q (.panic c) (a.put oi.dst v) w → Q (.panic c) a w) (hTs : ∀ w w', T w → Same w w' → T w') :
  ∀ (fuel : Nat) (listed : Array Bool) (a : Act) (w : World),
   (∀ j oj, ops[j]? = some oj → j ≠ i → listed.getD j true = false → (∀ e ∈ oj.after, Region.binds .any e = true → e.on ≠ i) → oi.apart ops oj = true) →
   i ∈ Region.ready .any ops listed → YieldsIf P ops T oi v a → T w →
   ((∀ w, T w) ∨ ∀ j ∈ oth, listed.getD j true = false → j ≠ i → waits ops listed i n j = true) →
   pV P ops Q oth fuel (listed.setIfInBounds i true) (a.put oi.dst v) w → pV P ops Q oth (fuel + 1) listed a w := by
 intro fuel
 induction fuel with
 | zero =>
  intro listed a w _ hr hy hT _ H
  refine ⟨fun h => (by rw [h] at hr; cases hr), fun j hj => ?_⟩
  by_cases hji : j = i
  ·subst hji; exact hy.wpOp hi hT ⟨fun _ => Same.refl w, H⟩
  ·have := ready_mono hj hji
   rw [H.1] at this
   cases this
 | succ fuel ih =>
  intro listed a w hfree hr hy hT hwt H
  refine ⟨fun h => (by rw [h] at hr; cases hr), fun j hj => ?_⟩
  by_cases hji : j = i
  ·subst hji; exact hy.wpOp hi hT ⟨fun _ => Same.refl w, H⟩
  ·have h1 := H.2 j (ready_mono hj hji)
   obtain ⟨hjun, oj, hoj, hall⟩ := mem_ready.1 hj
   have hiun := (mem_ready.1 hr).1
   have hnot : ∀ e ∈ oj.after, Region.binds .any e = true → e.on ≠ i := fun e he hb heq => by
    have h1 := hall e he hb
    rw [heq, aR3 hiun] at h1; cases h1
   have h2 := wpOp_putIf hoj (hfree j oj hoj hji hjun hnot) (fun cs b => hsel i oi cs b hi) (fun cs b => hsel j oj cs b hoj) hQ hy h1
   have hfree' : ∀ k ok, ops[k]? = some ok → k ≠ i → (listed.setIfInBounds j true).getD k true = false →
     (∀ e ∈ ok.after, Region.binds .any e = true → e.on ≠ i) → oi.apart ops ok = true := fun k ok hk hki hun hno => by
    refine hfree k ok hk hki ?_ hno
    by_cases hjk : j = k
    ·subst hjk; exact hjun
    ·rw [getD_set_ne true hjk] at hun; exact hun
   refine wpOp_mono (fun a' w' h3 => ⟨h3.2.1, ih (listed.setIfInBounds j true) a' w' hfree' (ready_mono hr (Ne.symm hji)) h3.1 ?_ ?_ ?_⟩) h2
   ·rcases hwt with hall | hwt
    ·exact hall w'
    ·refine hTs w w' hT (h3.2.1 ?_)
     cases hc : oth.contains j with
     | false => rfl
     | true => exact absurd hj (bP8 (hwt j (by simpa using hc) hjun hji) hiun)
   ·rcases hwt with hall | hwt
    ·exact .inl hall
    ·refine .inr fun k hk hun hki => ?_
     by_cases hjk : j = k
     ·subst hjk; exact aY8 hiun hj n j (hwt j hk hjun hji)
     ·rw [getD_set_ne true hjk] at hun
      exact aY8 hiun hj n k (hwt k hk hun hki)
   ·rw [Array.setIfInBounds_comm _ _ hji]
    exact h3.2.2
end
def sem (P : Program) (Q : Exit → Act → World → Prop) : List KI → List (Act → World → Prop) → Exit → Act → World → Prop
 | [], _ => Q
 | .code c :: K, B => Exit.then (c.wp P (sem P Q K B)) (sem P Q K B)
 | .ops all rest :: K, B => Exit.then (wpList P all (sem P Q K B) rest) (sem P Q K B)
 | .any all fuel listed :: K, B => Exit.then (wpAny P .any all (sem P Q K B) fuel listed) (sem P Q K B)
 | .still all fuel listed oth :: K, B => Exit.then (pV P all (sem P Q K B) oth fuel listed) (sem P Q K B)
 | .blk id :: K, B => Exit.inBlock id (sem P Q K B)
 | .wait :: K, B => sem P Q K B
 | .lp .. :: K, B => Exit.then (B.headD (fun _ _ => True)) (sem P Q K B.tail)
def bOk (E : Env) (G : List Glob) (w0 : World) (D0 R0 : List Nat) (ρ : LD) : List KI → List (Act → World → Prop) → Prop
 | [], _ => True
 | .lp j T n0 fix :: K, B => (∃ b B' ρb τb, B = b :: B' ∧ ρ = ρb ++ τb ∧ ρb.length = T.aB.length ∧ ∀ τ S' a w θ, Rel G w0 D0 R0 (ρb ++ τ) S' a w → fit T n0 S' = .ok θ →
   E.inv j ((fix ++ keep θ (sel T n0)).map (Tm.den (ρb ++ τ))) →
   E.meas j ((fix ++ keep θ (sel T n0)).map (Tm.den (ρb ++ τ))) < E.meas j ((fix ++ keep (nD n0 (T.aB.drop n0).length) (sel T n0)).map (Tm.den (ρb ++ τ))) → b a w) ∧ bOk E G w0 D0 R0 ρ K B.tail
 | _ :: K, B => bOk E G w0 D0 R0 ρ K B
theorem mD : ∀ {K : List KI} {B : List (Act → World → Prop)}, bOk E G w0 D0 R0 ρ K B → bOk E G w0 D0 R0 (ρ ++ τ) K B
 | [], _, _ => trivial
 | .lp j T n0 fix :: K, B, h => by
  obtain ⟨⟨b, B', ρb, τb, rfl, he, hl, h1⟩, h2⟩ := h
  exact ⟨⟨b, B', ρb, τb ++ τ, rfl, by rw [he, List.append_assoc], hl, h1⟩, mD h2⟩
 | .code c :: K, B, h => mD (K := K) h
 | .ops .. :: K, B, h => mD (K := K) h
 | .any .. :: K, B, h => mD (K := K) h
 | .still .. :: K, B, h => mD (K := K) h
 | .blk .. :: K, B, h => mD (K := K) h
 | .wait :: K, B, h => mD (K := K) h
theorem qY {P : Program} {Q : Exit → Act → World → Prop} : ∀ {K : List KI} {B : List (Act → World → Prop)}, sem P Q K B .ret a w = Q .ret a w
 | [], _ => rfl
 | .code c :: K, B => qY (K := K)
 | .ops .. :: K, B => qY (K := K)
 | .any .. :: K, B => qY (K := K)
 | .still .. :: K, B => qY (K := K)
 | .blk .. :: K, B => qY (K := K)
 | .wait :: K, B => qY (K := K) (B := B)
 | .lp .. :: K, B => qY (K := K)
theorem pJ {P : Program} {Q : Exit → Act → World → Prop} {ch : List PanicEntry} : ∀ {K : List KI} {B : List (Act → World → Prop)}, sem P Q K B (.panic ch) a w = Q (.panic ch) a w
 | [], _ => rfl
 | .code c :: K, B => pJ (K := K)
 | .ops .. :: K, B => pJ (K := K)
 | .any .. :: K, B => pJ (K := K)
 | .still .. :: K, B => pJ (K := K)
 | .blk .. :: K, B => pJ (K := K)
 | .wait :: K, B => pJ (K := K) (B := B)
 | .lp .. :: K, B => pJ (K := K)
theorem rE {P : Program} {Q : Exit → Act → World → Prop} {id : Nat} : ∀ {K K' : List KI} {B : List (Act → World → Prop)}, behind id K = some K' → bOk E G w0 D0 R0 ρ K B →
  ∃ B', bOk E G w0 D0 R0 ρ K' B' ∧ ∀ a w, sem P Q K' B' .normal a w → sem P Q K B (.exit id) a w
 | [], _, _, h, _ => by simp [behind] at h
 | .blk i :: K, K', B, h, hb => by
  simp only [behind] at h
  split at h
  ·rename_i hi
   cases h
   exact ⟨B, hb, fun a w hq => by simp only [sem, Exit.inBlock, if_pos hi]; exact hq⟩
  ·rename_i hi
   obtain ⟨B', h1, h2⟩ := rE (P := P) (Q := Q) (K := K) (B := B) h hb
   exact ⟨B', h1, fun a w hq => by simp only [sem, Exit.inBlock, if_neg hi]; exact h2 a w hq⟩
 | .wait :: K, K', B, h, hb => by
  obtain ⟨B', h1, h2⟩ := rE (P := P) (Q := Q) (K := K) (B := B) (by simpa [behind] using h) hb
  exact ⟨B', h1, h2⟩
 | .code c :: K, K', B, h, hb => by
  obtain ⟨B', h1, h2⟩ := rE (P := P) (Q := Q) (K := K) (B := B) (by simpa [behind] using h) hb
  exact ⟨B', h1, h2⟩
 | .ops .. :: K, K', B, h, hb => by
  obtain ⟨B', h1, h2⟩ := rE (P := P) (Q := Q) (K := K) (B := B) (by simpa [behind] using h) hb
  exact ⟨B', h1, h2⟩
 | .any .. :: K, K', B, h, hb => by
  obtain ⟨B', h1, h2⟩ := rE (P := P) (Q := Q) (K := K) (B := B) (by simpa [behind] using h) hb
  exact ⟨B', h1, h2⟩
 | .still .. :: K, K', B, h, hb => by
  obtain ⟨B', h1, h2⟩ := rE (P := P) (Q := Q) (K := K) (B := B) (by simpa [behind] using h) hb
  exact ⟨B', h1, h2⟩
 | .lp .. :: K, K', B, h, hb => by
  obtain ⟨B', h1, h2⟩ := rE (P := P) (Q := Q) (K := K) (B := B.tail) (by simpa [behind] using h) hb.2
  exact ⟨B', h1, h2⟩
theorem zJ {f : Nat → M} : ∀ {l : List Nat} {vc : VC}, forEach f l = .ok vc → vc.den E ρ → ∀ i ∈ l, ∃ v, f i = .ok v ∧ v.den E ρ
 | [], vc, h, hd, i, hi => by cases hi
 | [x], vc, h, hd, i, hi => by simp only [List.mem_singleton] at hi; subst hi; exact ⟨vc, h, hd⟩
 | x :: y :: l, vc, h, hd, i, hi => by
  simp only [forEach] at h
  obtain ⟨h1, v, h2, h3⟩ := both_ok h hd
  rcases List.mem_cons.1 hi with rfl | hi
  ·exact h1
  ·exact zJ (l := y :: l) h2 h3 i hi
theorem qI {pos : String} {x : M} (h : at_ pos x = .ok vc) : x = .ok vc := by
 unfold at_ at h
 split at h
 ·exact h
 ·cases h
theorem yI : ∀ {ss : List Srt} {k : M} {vc : VC} {ρ σ : LD}, tN ss k = .ok vc → vc.den E ρ → bY ss σ → ∃ v, k = .ok v ∧ v.den E (ρ ++ σ)
 | [], k, vc, ρ, σ, h, hd, hs => by
  cases σ with
  | nil => exact ⟨vc, h, by simpa using hd⟩
  | cons => exact hs.elim
 | s :: ss, k, vc, ρ, σ, h, hd, hs => by
  cases σ with
  | nil => exact hs.elim
  | cons d σ =>
   simp only [tN] at h
   split at h
   ·rename_i v hv
    cases h
    obtain ⟨v', h1, h2⟩ := yI hv (VC.bB6 hd hs.1) hs.2
    exact ⟨v', h1, by simpa using h2⟩
   ·cases h
theorem bO7 {ρ : LD} : ∀ {xs : List SV} {vs : List Value} {i : Nat} {x : SV}, aU ρ xs vs → (∀ v, vs[i]? = some v → x.holds ρ v) → aU ρ (xs.set i x) vs
 | [], vs, i, x, h, _ => by simpa using h
 | y :: xs, vs, i, x, h, hx => by
  obtain ⟨v, r, rfl, h1, h2⟩ := h
  cases i with
  | zero => exact ⟨v, r, rfl, hx v rfl, h2⟩
  | succ i => exact ⟨v, r, rfl, h1, bO7 h2 (fun u hu => hx u (by simpa using hu))⟩
theorem lI {x : Operand} {t : Tm} {b : Bool} (hr : Rel G w0 D0 R0 ρ S a w) (hx : a.eval x = .bool (t.den ρ).toB) (hb : (t.den ρ).toB = b) : Rel G w0 D0 R0 ρ (kE S x b) a w := by
 unfold kE
 split
 ·rename_i i
  refine ⟨hr.aB, bO7 hr.tmps (fun v hv => ?_), hr.defers, hr.heap, hr.globs, hr.frame, hr.within, hr.within'⟩
  have : a.tmps.getD i undef = v := by rw [Array.getD_eq_getD_getElem?, ← Array.getElem?_toList, hv]; rfl
  simp only [Act.eval] at hx
  rw [← this, hx, hb]; rfl
 ·exact hr
def bS7 : Value → Option Bool
 | .bool b => some b
 | _ => none
theorem bQ1 {all : Array Oper} {j d : Nat} {v : Value} (hj : (all[j]?).bind (·.dst) = some d) (hv : a.tmps[d]? = some v) : yielded all a.tmps j = bS7 v := by
 unfold yielded
 rw [hj]
 simp only [Option.bind_some, hv]
 cases v <;> rfl
theorem jG {all : Array Oper} {o : Oper} {b : Bool} (hr : Rel G w0 D0 R0 ρ S a w) (h : guardOf all S o = .ok (.inl b)) : Region.wanted o (yielded all a.tmps) = b := by
 unfold guardOf at h
 unfold Region.wanted
 split at h
 ·rename_i hg; cases h; rw [hg]
 ·rename_i j want hg
  rw [hg]
  dsimp only
  split at h
  ·cases h
  ·rename_i d hj
   split at h
   ·rename_i b' hs
    cases h
    obtain ⟨v, hv, hh⟩ := aL2 hr.tmps hs
    rw [bQ1 hj (by simpa using hv), show v = .bool b' from hh]
    rfl
   ·cases h
   ·rename_i hs
    cases h
    obtain ⟨v, hv, hh⟩ := aL2 hr.tmps hs
    rw [bQ1 hj (by simpa using hv), show v = undef from hh]
    rfl
   ·cases h
theorem aR4 {all : Array Oper} {o : Oper} {d : Nat} {t : Tm} {want : Bool} (hr : Rel G w0 D0 R0 ρ S a w) (h : guardOf all S o = .ok (.inr (d, t, want))) : a.eval (.tmp d) = .bool (t.den ρ).toB := by
 unfold guardOf at h
 split at h
 ·cases h
 ·split at h
  ·cases h
  ·split at h
   ·cases h
   ·rename_i hs
    cases h
    exact hr.slot hs
   ·cases h
   ·cases h
end
end Go.Vc