/-
 Laws on reified states.
 Laws on heaps.
 Soundness of what only reckons.
 Soundness: parts and elements.
 Soundness of the operations that make no memory.
 Soundness of loads and stores.
 Soundness of stores, and of new memory.
 Soundness: stores, new blocks, new slices.
 Soundness: indexes, fields, parts of texts and slices, conversions, built-in functions.
-/
import Derived.Test.YtfhmokjjjnjhjaaGreatDoorVca
import Derived.Laws.Small
import Derived.Laws.StructEq
import Derived.ChangeKeysEq
import Derived.Laws.BytesString
import Derived.Lib.ConvBytes
set_option linter.unusedVariables false
set_option linter.unusedSimpArgs false
open _root_.Go.IntKind (wrap)
namespace Go.Vc
theorem aO9 {ρ σ : LD} {ts : List Tm} (h : ts.all (Tm.under ρ.length) = true) : ts.map (Tm.den (ρ ++ σ)) = ts.map (Tm.den ρ) :=
 List.map_congr_left fun t ht => Tm.bH (List.all_eq_true.1 h t ht)
theorem bK7 {ρ σ : LD} {ts : List Tm} (h : ts.all (Tm.under ρ.length) = true) :
  ts.map (fun b => Value.pointer (some ⟨(b.den (ρ ++ σ)).toN, 0, none⟩)) = ts.map (fun b => Value.pointer (some ⟨(b.den ρ).toN, 0, none⟩)) :=
 List.map_congr_left fun t ht => by rw [Tm.bH (List.all_eq_true.1 h t ht)]
theorem Lf.nK {ρ σ : LD} {l : Lf} (h : l.under ρ.length = true) (v : Value) : l.holds (ρ ++ σ) v = l.holds ρ v := by
 cases l <;> simp only [Lf.under, Bool.and_eq_true] at h <;> simp only [Lf.holds]
 case int k t => rw [Tm.bH h]
 case bool t => rw [Tm.bH h]
 case str t => rw [Tm.bH h]
 case ptr b o => rw [Tm.bH h]
 case aptr b o i n => rw [Tm.bH h.1, Tm.bH h.2]
 case eptr a i es o => rw [Tm.bH h.1, Tm.bH h.2]
 case bsl b o n => rw [Tm.bH h]
 case sl a => rw [Tm.bH h]
 case mp b => rw [Tm.bH h]
 case clo f fs cs => rw [bK7 h.1, bK7 h.2]
theorem Lf.kF {n m : Nat} {l : Lf} (h : l.under n = true) (hm : n ≤ m) : l.under m = true := by
 have all : ∀ {ts : List Tm}, ts.all (Tm.under n) = true → ts.all (Tm.under m) = true := fun h => List.all_eq_true.2 fun t ht => Tm.kF (List.all_eq_true.1 h t ht) hm
 cases l <;> simp only [Lf.under, Bool.and_eq_true] at h ⊢ <;> first | exact ⟨all h.1, all h.2⟩ | exact ⟨Tm.kF h.1 hm, Tm.kF h.2 hm⟩ | exact Tm.kF h hm
theorem rY {ρ σ : LD} : ∀ {ps : List Pt}, ps.all (Pt.under ρ.length) = true → ∀ vs, aJ (ρ ++ σ) ps vs = aJ ρ ps vs
 | [], _, _ => rfl
 | .lf l :: ps, h, vs => by
  simp only [List.all_cons, Bool.and_eq_true, Pt.under] at h
  simp only [aJ, Lf.nK h.1, rY h.2]
 | .ints k n L :: ps, h, vs => by
  simp only [List.all_cons, Bool.and_eq_true, Pt.under] at h
  simp only [aJ, Tm.bH h.1, rY h.2]
theorem S0.nK {ρ σ : LD} {x : S0} (h : x.under ρ.length = true) (v : Value) : x.holds (ρ ++ σ) v = x.holds ρ v := by
 cases x with
 | lf l => exact Lf.nK h v
 | agg ps => simp only [S0.holds, rY (ps := ps) h]
theorem bM9 {ρ σ : LD} : ∀ {xs : List S0}, xs.all (S0.under ρ.length) = true → ∀ vs, kP (ρ ++ σ) xs vs = kP ρ xs vs
 | [], _, _ => rfl
 | x :: xs, h, vs => by
  simp only [List.all_cons, Bool.and_eq_true] at h
  simp only [kP, S0.nK h.1, bM9 h.2]
theorem SV.nK {ρ σ : LD} {x : SV} (h : x.under ρ.length = true) (v : Value) : x.holds (ρ ++ σ) v = x.holds ρ v := by
 cases x with
 | one x => exact S0.nK h v
 | tup xs => simp only [SV.holds, bM9 (xs := xs) h]
theorem aL3 {ρ σ : LD} : ∀ {xs : List SV}, xs.all (SV.under ρ.length) = true → ∀ vs, aU (ρ ++ σ) xs vs = aU ρ xs vs
 | [], _, _ => rfl
 | x :: xs, h, vs => by
  simp only [List.all_cons, Bool.and_eq_true] at h
  simp only [aU, SV.nK h.1, aL3 h.2]
theorem Ch.nK {ρ σ : LD} {c : Ch} (h : c.under ρ.length = true) (w : World) : c.holds (ρ ++ σ) w = c.holds ρ w := by
 cases c with
 | box b ps =>
  simp only [Ch.under, Bool.and_eq_true] at h
  simp only [Ch.holds, Tm.bH h.1, rY h.2]
 | osl a ek L =>
  simp only [Ch.under, Bool.and_eq_true] at h
  simp only [Ch.holds, Tm.bH h.1, Tm.bH h.2]
 | rsl a ek L =>
  simp only [Ch.under, Bool.and_eq_true] at h
  simp only [Ch.holds, Tm.bH h.1, Tm.bH h.2]
 | abs k ts =>
  simp only [Ch.under] at h
  simp only [Ch.holds, aO9 h]
theorem Ch.aV8 {ρ σ : LD} {c : Ch} (h : c.under ρ.length = true) : c.own (ρ ++ σ) = c.own ρ := by
 cases c with
 | abs k ts => simp only [Ch.under] at h; simp only [Ch.own, aO9 h]
 | box b ps => simp only [Ch.under, Bool.and_eq_true] at h; simp only [Ch.own, Tm.bH h.1]
 | osl a ek L => simp only [Ch.under, Bool.and_eq_true] at h; simp only [Ch.own, Tm.bH h.1]
 | rsl a ek L => rfl
theorem Ch.bL3 {ρ σ : LD} {c : Ch} (h : c.under ρ.length = true) : c.ro (ρ ++ σ) = c.ro ρ := by
 cases c with
 | abs k ts => simp only [Ch.under] at h; simp only [Ch.ro, aO9 h]
 | box b ps => rfl
 | osl a ek L => rfl
 | rsl a ek L => simp only [Ch.under, Bool.and_eq_true] at h; simp only [Ch.ro, Tm.bH h.1]
theorem Ch.bX3 {ρ σ : LD} {c : Ch} (h : c.under ρ.length = true) {b : Nat} : c.fK (ρ ++ σ) b ↔ c.fK ρ b := by
 rw [← Ch.uS, ← Ch.uS, Ch.bL3 h]
theorem zF {α β : Type} {f g : α → List β} : ∀ {l : List α}, (∀ x ∈ l, f x = g x) → l.flatMap f = l.flatMap g
 | [], _ => rfl
 | x :: l, h => by
  simp only [List.flatMap_cons, h x (by simp), zF (l := l) fun y hy => h y (by simp [hy])]
theorem rW {ρ σ : LD} {hs : List Ch} (h : hs.all (Ch.under ρ.length) = true) : owns (ρ ++ σ) hs = owns ρ hs :=
 zF fun c hc => Ch.aV8 (List.all_eq_true.1 h c hc)
theorem xX {ρ σ : LD} {hs : List Ch} (h : hs.all (Ch.under ρ.length) = true) : ros (ρ ++ σ) hs = ros ρ hs :=
 zF fun c hc => Ch.bL3 (List.all_eq_true.1 h c hc)
theorem aN.under {ρ σ : LD} {hs : List Ch} {w : World} (h : hs.all (Ch.under ρ.length) = true) (hh : aN ρ hs w) : aN (ρ ++ σ) hs w := by
 have hu := List.all_eq_true.1 h
 refine ⟨fun c hc => by rw [Ch.nK (hu c hc)]; exact hh.holds c hc, by rw [rW h]; exact hh.nodup, fun c hc b hb => ?_⟩
 rw [rW h]
 rw [Ch.bX3 (hu c hc)] at hb
 exact hh.ro c hc b hb
theorem cO : ∀ {ss : List Srt} {ds : LD}, bY ss ds → ds.length = ss.length
 | [], [], _ => rfl
 | _ :: ss, _ :: ds, h => by simp [cO (ss := ss) (ds := ds) h.2]
 | [], _ :: _, h => h.elim
 | _ :: _, [], h => h.elim
theorem aB7 : ∀ {ss : List Srt} {ds : LD} {ss' : List Srt} {ds' : LD}, bY ss ds → bY ss' ds' → bY (ss ++ ss') (ds ++ ds')
 | [], [], _, _, _, h => h
 | _ :: _, _ :: _, _, _, h, h' => ⟨h.1, aB7 h.2 h'⟩
 | [], _ :: _, _, _, h, _ => h.elim
 | _ :: _, [], _, _, h, _ => h.elim
theorem bN8 : ∀ {ss : List Srt} {ds : LD} {i : Nat} {s : Srt}, bY ss ds → ss[i]? = some s → s.ok (ds.getD i default)
 | [], _, _, _, _, h => by simp at h
 | _ :: _, [], _, _, h, _ => h.elim
 | s :: ss, d :: ds, 0, _, h, h' => by simp at h'; subst h'; exact h.1
 | _ :: ss, _ :: ds, i + 1, _, h, h' => by
  have := bN8 (ss := ss) (ds := ds) (i := i) h.2 (by simpa using h')
  simpa using this
theorem Tm.cG8 {ss : List Srt} {ρ : LD} (hs : bY ss ρ) : ∀ {t : Tm} {s : Srt}, t.shp ss = some s → s.ok (t.den ρ)
 | .at i, s, h => bN8 hs h
 | .int n, s, h => by simp [Tm.shp] at h; subst h; exact ⟨_, rfl⟩
 | .bool n, s, h => by simp [Tm.shp] at h; subst h; exact ⟨_, rfl⟩
 | .str n, s, h => by simp [Tm.shp] at h; subst h; exact ⟨_, rfl⟩
 | .nat n, s, h => by simp [Tm.shp] at h; subst h; exact ⟨_, rfl⟩
 | .lis n, s, h => by simp [Tm.shp] at h; subst h; exact ⟨_, rfl⟩
 | .lnil, s, h => by simp [Tm.shp] at h; subst h; exact ⟨_, rfl⟩
 | .o1 o a, s, h => by
  cases o <;> (simp [Tm.shp] at h; subst h; exact ⟨_, rfl⟩)
 | .o2 o a b, s, h => by
  cases o <;> first | (simp [Tm.shp] at h; subst h; exact ⟨_, rfl⟩) | (simp [Tm.shp] at h)
 | .o3 o a b c, s, h => by
  cases o <;> (simp [Tm.shp] at h; subst h; exact ⟨_, rfl⟩)
theorem aK4 {ss : List Srt} {ρ : LD} (hs : bY ss ρ) : ∀ {ts : List Tm} {rs : List Srt}, shapes ss ts rs = true → bY rs (ts.map (Tm.den ρ))
 | [], [], _ => trivial
 | t :: ts, r :: rs, h => by
  simp only [shapes, Bool.and_eq_true, decide_eq_true_eq] at h
  exact ⟨Tm.cG8 hs h.1, aK4 hs h.2⟩
 | [], _ :: _, h => by simp [shapes] at h
 | _ :: _, [], h => by simp [shapes] at h
theorem Lf.mO {ρ σ : LD} {θ : List Tm} (l : Lf) (v : Value) :
  (l.subst ρ.length θ).holds (ρ ++ σ) v = l.holds (ρ ++ θ.map (Tm.den (ρ ++ σ))) v := by
 cases l <;> simp only [Lf.subst, Lf.holds, Tm.nG, List.map_map, Function.comp_def]
theorem aI7 {ρ σ : LD} {θ : List Tm} : ∀ (ps : List Pt) (vs : List Value),
  aJ (ρ ++ σ) (ps.map (Pt.subst ρ.length θ)) vs = aJ (ρ ++ θ.map (Tm.den (ρ ++ σ))) ps vs
 | [], _ => rfl
 | .lf l :: ps, vs => by simp only [List.map_cons, Pt.subst, aJ, Lf.mO, aI7 ps]
 | .ints k n L :: ps, vs => by simp only [List.map_cons, Pt.subst, aJ, Tm.nG, aI7 ps]
theorem S0.mO {ρ σ : LD} {θ : List Tm} (x : S0) (v : Value) :
  (x.subst ρ.length θ).holds (ρ ++ σ) v = x.holds (ρ ++ θ.map (Tm.den (ρ ++ σ))) v := by
 cases x with
 | lf l => exact Lf.mO l v
 | agg ps => simp only [S0.subst, S0.holds, aI7]
theorem bM8 {ρ σ : LD} {θ : List Tm} : ∀ (xs : List S0) (vs : List Value),
  kP (ρ ++ σ) (xs.map (S0.subst ρ.length θ)) vs = kP (ρ ++ θ.map (Tm.den (ρ ++ σ))) xs vs
 | [], _ => rfl
 | x :: xs, vs => by simp only [List.map_cons, kP, S0.mO, bM8 xs]
theorem SV.mO {ρ σ : LD} {θ : List Tm} (x : SV) (v : Value) :
  (x.subst ρ.length θ).holds (ρ ++ σ) v = x.holds (ρ ++ θ.map (Tm.den (ρ ++ σ))) v := by
 cases x with
 | one x => exact S0.mO x v
 | tup xs => simp only [SV.subst, SV.holds, bM8]
theorem aX9 {ρ σ : LD} {θ : List Tm} : ∀ (xs : List SV) (vs : List Value),
  aU (ρ ++ σ) (xs.map (SV.subst ρ.length θ)) vs = aU (ρ ++ θ.map (Tm.den (ρ ++ σ))) xs vs
 | [], _ => rfl
 | x :: xs, vs => by simp only [List.map_cons, aU, SV.mO, aX9 xs]
theorem Ch.mO {ρ σ : LD} {θ : List Tm} (c : Ch) (w : World) :
  (c.subst ρ.length θ).holds (ρ ++ σ) w = c.holds (ρ ++ θ.map (Tm.den (ρ ++ σ))) w := by
 cases c <;> simp only [Ch.subst, Ch.holds, Tm.nG, aI7, List.map_map, Function.comp_def]
theorem Ch.cD8 {ρ σ : LD} {θ : List Tm} (c : Ch) : (c.subst ρ.length θ).own (ρ ++ σ) = c.own (ρ ++ θ.map (Tm.den (ρ ++ σ))) := by
 cases c <;> simp only [Ch.subst, Ch.own, Tm.nG, List.map_map, Function.comp_def]
theorem Ch.bL2 {ρ σ : LD} {θ : List Tm} (c : Ch) : (c.subst ρ.length θ).ro (ρ ++ σ) = c.ro (ρ ++ θ.map (Tm.den (ρ ++ σ))) := by
 cases c <;> simp only [Ch.subst, Ch.ro, Tm.nG, List.map_map, Function.comp_def]
theorem Ch.bE2 {ρ σ : LD} {θ : List Tm} (c : Ch) {b : Nat} : (c.subst ρ.length θ).fK (ρ ++ σ) b ↔ c.fK (ρ ++ θ.map (Tm.den (ρ ++ σ))) b := by
 rw [← Ch.uS, ← Ch.uS, Ch.bL2]
theorem rV {ρ σ : LD} {θ : List Tm} (hs : List Ch) : owns (ρ ++ σ) (hs.map (Ch.subst ρ.length θ)) = owns (ρ ++ θ.map (Tm.den (ρ ++ σ))) hs := by
 simp only [owns, List.flatMap_map]
 exact zF fun c _ => Ch.cD8 c
theorem aJ5 {ρ σ : LD} {θ : List Tm} (hs : List Ch) : ros (ρ ++ σ) (hs.map (Ch.subst ρ.length θ)) = ros (ρ ++ θ.map (Tm.den (ρ ++ σ))) hs := by
 simp only [ros, List.flatMap_map]
 exact zF fun c _ => Ch.bL2 c
theorem aN.aV3 {ρ σ : LD} {θ : List Tm} {hs : List Ch} {w : World} (h : aN (ρ ++ σ) (hs.map (Ch.subst ρ.length θ)) w) :
  aN (ρ ++ θ.map (Tm.den (ρ ++ σ))) hs w := by
 refine ⟨fun c hc => ?_, ?_, fun c hc b hb => ?_⟩
 ·have := h.holds _ (List.mem_map_of_mem (f := Ch.subst ρ.length θ) hc)
  rwa [Ch.mO] at this
 ·have := h.nodup
  rwa [rV] at this
 ·have := h.ro _ (List.mem_map_of_mem (f := Ch.subst ρ.length θ) hc) b (by rw [Ch.bE2]; exact hb)
  rwa [rV] at this
theorem aN.cJ1 {ρ σ : LD} {θ : List Tm} {hs : List Ch} {w : World} (h : aN (ρ ++ θ.map (Tm.den (ρ ++ σ))) hs w) :
  aN (ρ ++ σ) (hs.map (Ch.subst ρ.length θ)) w := by
 refine ⟨fun c hc => ?_, ?_, fun c hc b hb => ?_⟩
 ·obtain ⟨c', hc', rfl⟩ := List.mem_map.1 hc
  rw [Ch.mO]; exact h.holds _ hc'
 ·rw [rV]; exact h.nodup
 ·obtain ⟨c', hc', rfl⟩ := List.mem_map.1 hc
  rw [rV]; exact h.ro _ hc' b (by rw [← Ch.bE2]; exact hb)
theorem bO5 : ∀ {ρ : LD} {xs : List SV} {vs : List Value}, aU ρ xs vs → vs.length = xs.length
 | _, [], _, h => by simp only [aU] at h; subst h; rfl
 | _, _ :: xs, _, h => by obtain ⟨v, r, rfl, _, h⟩ := h; simp [bO5 h]
theorem aL2 : ∀ {ρ : LD} {xs : List SV} {vs : List Value} {i : Nat} {x : SV}, aU ρ xs vs → xs[i]? = some x → ∃ v, vs[i]? = some v ∧ x.holds ρ v
 | _, [], _, _, _, _, h => by simp at h
 | _, y :: xs, _, 0, x, h, hx => by obtain ⟨v, r, rfl, hv, _⟩ := h; simp at hx; subst hx; exact ⟨v, rfl, hv⟩
 | _, y :: xs, _, i + 1, x, h, hx => by
  obtain ⟨v, r, rfl, _, h⟩ := h
  obtain ⟨u, hu, hh⟩ := aL2 h (by simpa using hx)
  exact ⟨u, by simpa using hu, hh⟩
theorem bO6 : ∀ {ρ : LD} {xs : List SV} {vs : List Value} {i : Nat} {x : SV} {v : Value}, aU ρ xs vs → x.holds ρ v → aU ρ (xs.set i x) (vs.set i v)
 | _, [], _, _, _, _, h, _ => by simp only [aU] at h; subst h; simp [aU]
 | _, y :: xs, _, 0, x, v, h, hx => by obtain ⟨u, r, rfl, _, h⟩ := h; exact ⟨v, r, rfl, hx, h⟩
 | _, y :: xs, _, i + 1, x, v, h, hx => by
  obtain ⟨u, r, rfl, hu, h⟩ := h
  exact ⟨u, r.set i v, rfl, hu, bO6 h hx⟩
theorem aL1 : ∀ {ρ : LD} {xs ys : List SV} {vs us : List Value}, aU ρ xs vs → aU ρ ys us → aU ρ (xs ++ ys) (vs ++ us)
 | _, [], _, _, _, h, h' => by simp only [aU] at h; subst h; exact h'
 | _, x :: xs, _, _, _, h, h' => by obtain ⟨v, r, rfl, hv, h⟩ := h; exact ⟨v, _, rfl, hv, aL1 h h'⟩
theorem bO4 {ρ : LD} : ∀ (vs : List Value), aU ρ (List.replicate vs.length (.one (.lf .junk))) vs
 | [] => rfl
 | v :: vs => ⟨v, vs, rfl, trivial, bO4 vs⟩
theorem aX7 {ρ : LD} : ∀ {ps xs : List SV} {vs : List Value}, tV ps xs = true → aU ρ xs vs → aU ρ ps vs
 | [], [], _, _, h => h
 | p :: ps, x :: xs, _, hc, h => by
  simp only [tV, Bool.and_eq_true, Bool.or_eq_true, decide_eq_true_eq] at hc
  obtain ⟨v, r, rfl, hv, h⟩ := h
  refine ⟨v, r, rfl, ?_, aX7 hc.2 h⟩
  rcases hc.1 with rfl | rfl
  ·exact hv
  ·trivial
 | [], _ :: _, _, h, _ => by simp [tV] at h
 | _ :: _, [], _, h, _ => by simp [tV] at h
theorem Act.cE8 (a : Act) (d : Option Tmp) (v : Value) : (a.put d v).tmps.toList = match d with | some d => a.tmps.toList.set d v | none => a.tmps.toList := by
 cases d with
 | none => rfl
 | some d => simp [Act.put]
theorem cJ0 {ρ : LD} {S : St} {a : Act} {d : Option Tmp} {x : SV} {v : Value} (h : aU ρ S.tmps a.tmps.toList) (hx : x.holds ρ v) :
  aU ρ (S.put d x).tmps (a.put d v).tmps.toList := by
 rw [Act.cE8]
 cases d with
 | none => exact h
 | some d => exact bO6 h hx
theorem St.aJ0 (S : St) (d : Option Tmp) (x : SV) : (S.put d x).heap = S.heap := by cases d <;> rfl
theorem St.cE7 (S : St) (d : Option Tmp) (x : SV) : (S.put d x).aB = S.aB := by cases d <;> rfl
theorem Act.cE6 (a : Act) (d : Option Tmp) (v : Value) : (a.put d v).defers = a.defers := by cases d <;> rfl
section
variable {G : List Glob} {w0 : World} {D0 R0 : List Nat} {ρ : LD} {S : St} {a : Act} {w : World}
theorem Rel.put (h : Rel G w0 D0 R0 ρ S a w) {d : Option Tmp} {x : SV} {v : Value} (hx : x.holds ρ v) : Rel G w0 D0 R0 ρ (S.put d x) (a.put d v) w :=
 ⟨by rw [St.cE7]; exact h.aB, cJ0 h.tmps hx, by rw [Act.cE6]; exact h.defers, by rw [St.aJ0]; exact h.heap,
  by rw [St.aJ0]; exact h.globs, h.frame, by rw [St.aJ0]; exact h.within, by rw [St.aJ0]; exact h.within'⟩
theorem Rel.slot (h : Rel G w0 D0 R0 ρ S a w) {i : Nat} {x : SV} (hx : S.tmps[i]? = some x) : x.holds ρ (a.eval (.tmp i)) := by
 obtain ⟨v, hv, hh⟩ := aL2 h.tmps hx
 have : a.tmps.getD i undef = v := by
  rw [Array.getD_eq_getD_getElem?, ← Array.getElem?_toList, hv]; rfl
 simp only [Act.eval, this]; exact hh
theorem Rel.fresh (h : Rel G w0 D0 R0 ρ S a w) (hu : S.under = true) {s : Srt} {d : D} (hd : s.ok d) :
  Rel G w0 D0 R0 (ρ ++ [d]) { S with aB := S.aB ++ [s] } a w := by
 have hn : ρ.length = S.aB.length := cO h.aB
 simp only [St.under, Bool.and_eq_true, ← hn] at hu
 refine ⟨aB7 h.aB ⟨hd, trivial⟩, by rw [aL3 hu.1]; exact h.tmps, h.defers, h.heap.under hu.2, ?_, h.frame, ?_, ?_⟩
 ·simp only [rW hu.2]; exact h.globs
 ·simp only [rW hu.2]; exact h.within
 ·simp only [xX hu.2]; exact h.within'
end
end Go.Vc
namespace Go.Vc
theorem fE.congr {w w' : World} {v : Value} {es m : Nat} {xs : List Value} (hb : ∀ b, v.ownBlock = some b → w'.heap[b]? = w.heap[b]?) (h : fE w v es m xs) : fE w' v es m xs := by
 rcases h with h | ⟨g, cap, cur, e, fz, rfl, hg, h⟩
 ·exact .inl h
 ·exact .inr ⟨g, cap, cur, e, fz, rfl, by rw [hb g rfl]; exact hg, h⟩
theorem fA.congr {w w' : World} {v : Value} {es m : Nat} {xs : List Value} (hb : ∀ b, roB v = some b → w'.heap[b]? = w.heap[b]?) (hs : w.heap.size ≤ w'.heap.size) (h : fA w v es m xs) : fA w' v es m xs := by
 rcases h with h | h | ⟨ad, cap, rfl, h1, h2, h3, h4, h5, h6⟩
 ·exact .inl h
 ·exact .inr (.inl h)
 ·refine .inr (.inr ⟨ad, cap, rfl, h1, by omega, h3, h4, h5, fun j u hu => ?_⟩)
  rw [World.cell?_of_block (w := w)]
  ·exact h6 j u hu
  ·have hbl : (ad.add j).block = ad.block := by unfold Addr.add; split <;> rfl
   rw [hbl]
   match m with
   | 0 => have := (List.getElem?_eq_some_iff.1 hu).1; omega
   | n + 1 => exact hb ad.block rfl
theorem fE.lt {w : World} {v : Value} {es m : Nat} {xs : List Value} (h : fE w v es m xs) {b : Nat} (hb : v.ownBlock = some b) : b < w.heap.size := by
 rcases h with ⟨rfl, _⟩ | ⟨g, cap, cur, e, fz, rfl, hg, h⟩
 ·cases hb
 ·cases hb
  exact (Array.getElem?_eq_some_iff.1 hg).1
theorem fA.lt {w : World} {v : Value} {es m : Nat} {xs : List Value} (h : fA w v es m xs) {b : Nat} (hb : roB v = some b) : b < w.heap.size := by
 rcases h with ⟨rfl, _⟩ | ⟨ad, cap, rfl, _⟩ | ⟨ad, cap, rfl, h1, h2, _⟩
 ·cases hb
 ·cases hb
 ·cases aA9 hb; exact h2
theorem fE.rd {w : World} {v : Value} {es m : Nat} {xs : List Value} (h : fE w v es m xs) : fA w v es m xs := by
 rcases h with h | ⟨g, cap, cur, e, fz, rfl, hg, hfz, h1, h2, h3, h4, h5⟩
 ·exact .inl h
 ·refine .inr (.inr ⟨⟨g, 0, none⟩, cap, rfl, rfl, (Array.getElem?_eq_some_iff.1 hg).1, h1, h2, h4, fun j u hu => ?_⟩)
  have hj : j < m * es := by rw [← h4]; exact (List.getElem?_eq_some_iff.1 hu).1
  have : cur.toList[j]? = some u := by
   rw [← h5, List.getElem?_take] at hu
   simpa [hj] using hu
  have hc : cur[j]? = some u := by simpa using this
  unfold Addr.add
  split
  ·rename_i hj0; subst hj0; simp [World.cell?, hg, hc]
  ·simp [World.cell?, hg, hc]
mutual
theorem CK.bU3 {w w' : World} (hs : w.heap.size ≤ w'.heap.size) : ∀ {c : CK} {d : D}, (∀ b ∈ c.blks d, w'.heap[b]? = w.heap[b]?) → c.deep w d → c.deep w' d
 | .int _, _, _, _ => trivial
 | .ints _ _, _, _, _ => trivial
 | .bool, _, _, _ => trivial
 | .str, _, _, _ => trivial
 | .sl ek, d, hb, h =>
  ⟨h.1.congr (fun b hbb => hb b (List.mem_append.2 (.inl (by simp [hbb])))) hs, fun x hx => aO7 hs (fun b hbb => hb b (List.mem_append.2 (.inr (List.mem_flatMap.2 ⟨x, hx, hbb⟩)))) (h.2 x hx)⟩
theorem aO7 {w w' : World} (hs : w.heap.size ≤ w'.heap.size) : ∀ {cs : List CK} {ds : LD}, (∀ b ∈ jD cs ds, w'.heap[b]? = w.heap[b]?) → oQ w cs ds → oQ w' cs ds
 | [], _, _, _ => trivial
 | _ :: _, [], _, _ => trivial
 | c :: cs, d :: ds, hb, h =>
  ⟨CK.bU3 hs (fun b hbb => hb b (List.mem_append.2 (.inl hbb))) h.1, aO7 hs (fun b hbb => hb b (List.mem_append.2 (.inr hbb))) h.2⟩
end
theorem bU2 {w w' : World} (hs : w.heap.size ≤ w'.heap.size) {ek : List CK} {d : D} (hb : ∀ b ∈ fF ek d, w'.heap[b]? = w.heap[b]?) (h : jU w ek d) : jU w' ek d :=
 fun x hx => aO7 hs (fun b hbb => hb b (List.mem_flatMap.2 ⟨x, hx, hbb⟩)) (h x hx)
mutual
theorem CK.bS6 {w : World} : ∀ {c : CK} {d : D}, c.deep w d → ∀ b ∈ c.blks d, b < w.heap.size
 | .int _, _, _, b, hb => by cases hb
 | .ints _ _, _, _, b, hb => by cases hb
 | .bool, _, _, b, hb => by cases hb
 | .str, _, _, b, hb => by cases hb
 | .sl ek, d, h, b, hb => by
  rcases List.mem_append.1 hb with hb | hb
  ·exact h.1.lt (by simpa using hb)
  ·obtain ⟨x, hx, hb⟩ := List.mem_flatMap.1 hb
   exact aN4 (h.2 x hx) b hb
theorem aN4 {w : World} : ∀ {cs : List CK} {ds : LD}, oQ w cs ds → ∀ b ∈ jD cs ds, b < w.heap.size
 | [], _, _, b, hb => by cases hb
 | _ :: _, [], _, b, hb => by cases hb
 | c :: cs, d :: ds, h, b, hb => by
  rcases List.mem_append.1 hb with hb | hb
  ·exact CK.bS6 h.1 b hb
  ·exact aN4 h.2 b hb
end
theorem bS5 {w : World} {ek : List CK} {d : D} (h : jU w ek d) : ∀ b ∈ fF ek d, b < w.heap.size := by
 intro b hb
 obtain ⟨x, hx, hb⟩ := List.mem_flatMap.1 hb
 exact aN4 (h x hx) b hb
theorem dR.congr {w w' : World} {b : Nat} {es : List MapEntry} {clock : Nat} (hb : w'.heap[b]? = w.heap[b]?) (h : dR w b es clock) : dR w' b es clock := ⟨hb.trans h.1, h.2⟩
theorem dR.lt {w : World} {b : Nat} {es : List MapEntry} {clock : Nat} (h : dR w b es clock) : b < w.heap.size := (Array.getElem?_eq_some_iff.1 h.1).1
theorem aJ7 {w w' : World} {K : CK} {ek : EK} : ∀ {es : List MapEntry} {L : LD}, (∀ b ∈ aY L, w'.heap[b]? = w.heap[b]?) → lD w K ek es L → lD w' K ek es L
 | [], [], _, _ => trivial
 | [], _ :: _, _, h => h.elim
 | _ :: _, [], _, h => h.elim
 | e :: es, r :: L, hb, ⟨⟨h1, h2, h3, h4, h5, cs, t, fz, h6, h7⟩, hr⟩ =>
  ⟨⟨h1, h2, h3, h4, h5, cs, t, fz, (hb _ (by simp [aY])).trans h6, h7⟩, aJ7 (fun b hbb => hb b (by simp only [aY, List.map_cons, List.mem_cons] at hbb ⊢; exact .inr hbb)) hr⟩
theorem aW4 {w : World} {K : CK} {ek : EK} : ∀ {es : List MapEntry} {L : LD}, lD w K ek es L → ∀ b ∈ aY L, b < w.heap.size
 | [], [], _, b, hb => by cases hb
 | [], _ :: _, h, _, _ => h.elim
 | _ :: _, [], h, _, _ => h.elim
 | e :: es, r :: L, ⟨⟨h1, h2, h3, h4, h5, cs, t, fz, h6, h7⟩, hr⟩, b, hb => by
  simp only [aY, List.map_cons, List.mem_cons] at hb
  rcases hb with rfl | hb
  ·exact (Array.getElem?_eq_some_iff.1 h6).1
  ·exact aW4 hr b hb
theorem oJ.congr {w w' : World} {b m : Nat} {es : List MapEntry} {clock : Nat} {L S : LD} (hb : w'.heap[b]? = w.heap[b]?) (h : oJ w b m es clock L S) : oJ w' b m es clock L S := by
 obtain ⟨seen, h1, h2⟩ := h
 exact ⟨seen, hb.trans h1, h2⟩
theorem oJ.lt {w : World} {b m : Nat} {es : List MapEntry} {clock : Nat} {L S : LD} (h : oJ w b m es clock L S) : b < w.heap.size := by
 obtain ⟨seen, h1, h2⟩ := h
 exact (Array.getElem?_eq_some_iff.1 h1).1
theorem Kd.aS0 {w w' : World} {k : Kd} {ds : LD} (hb : ∀ b, b ∈ k.own ds ∨ b ∈ k.ro ds → w'.heap[b]? = w.heap[b]?) (hs : w.heap.size ≤ w'.heap.size) (h : k.holds w ds) : k.holds w' ds := by
 cases k with
 | deep ek => exact bU2 hs (fun b hbb => hb b (.inr hbb)) h
 | mp K E =>
  obtain ⟨es, clock, h1, h2⟩ := h
  exact ⟨es, clock, h1.congr (hb _ (.inl (by simp [Kd.own]))), h2⟩
 | mpp K ek =>
  obtain ⟨es, clock, h1, h2, h3⟩ := h
  exact ⟨es, clock, h1.congr (hb _ (.inl (by simp [Kd.own]))), aJ7 (fun b hbb => hb b (.inl (by simp [Kd.own, hbb]))) h2, h3⟩
 | mpi K E =>
  obtain ⟨es, clock, h1, h2, h3, h4⟩ := h
  exact ⟨es, clock, h1.congr (hb _ (.inl (by simp [Kd.own]))), h2, h3, h4.congr (hb _ (.inl (by simp [Kd.own])))⟩
 | mppi K ek =>
  obtain ⟨es, clock, h1, h2, h3, h4⟩ := h
  exact ⟨es, clock, h1.congr (hb _ (.inl (by simp [Kd.own]))), aJ7 (fun b hbb => hb b (.inl (by simp [Kd.own, hbb]))) h2, h3, h4.congr (hb _ (.inl (by simp [Kd.own])))⟩
theorem Kd.dZ {w : World} {k : Kd} {ds : LD} (h : k.holds w ds) {b : Nat} (hb : b ∈ k.own ds) : b < w.heap.size := by
 cases k with
 | deep ek => cases hb
 | mp K E =>
  obtain ⟨es, clock, h1, h2⟩ := h
  simp only [Kd.own, List.mem_singleton] at hb
  rw [hb]; exact h1.lt
 | mpp K ek =>
  obtain ⟨es, clock, h1, h2, h3⟩ := h
  simp only [Kd.own, List.mem_cons] at hb
  rcases hb with rfl | hb
  ·exact h1.lt
  ·exact aW4 h2 b hb
 | mpi K E =>
  obtain ⟨es, clock, h1, h2, h3, h4⟩ := h
  simp only [Kd.own, List.mem_cons, List.not_mem_nil, or_false] at hb
  rcases hb with rfl | rfl
  ·exact h1.lt
  ·exact h4.lt
 | mppi K ek =>
  obtain ⟨es, clock, h1, h2, h3, h4⟩ := h
  simp only [Kd.own, List.mem_cons] at hb
  rcases hb with rfl | rfl | hb
  ·exact h1.lt
  ·exact h4.lt
  ·exact aW4 h2 b hb
theorem Kd.jM {w : World} {k : Kd} {ds : LD} (h : k.holds w ds) {b : Nat} (hb : b ∈ k.ro ds) : b < w.heap.size := by
 cases k with
 | deep ek => exact bS5 h b hb
 | _ => cases hb
theorem Ch.aS0 {ρ : LD} {c : Ch} {w w' : World} (hb : ∀ b, c.fJ ρ b ∨ c.fK ρ b → w'.heap[b]? = w.heap[b]?) (hs : w.heap.size ≤ w'.heap.size) (h : c.holds ρ w) : c.holds ρ w' := by
 cases c with
 | box b ps =>
  obtain ⟨cs, e, fz, hg, h⟩ := h
  exact ⟨cs, e, fz, by rw [hb _ (.inl rfl)]; exact hg, h⟩
 | osl a ek L => exact ⟨h.1.congr fun b h => hb b (.inl h), h.2⟩
 | rsl a ek L => exact ⟨h.1.congr (fun b h => hb b (.inr h)) hs, h.2⟩
 | abs k ts => exact Kd.aS0 (fun b h => hb b h) hs h
theorem Ch.dZ {ρ : LD} {c : Ch} {w : World} (h : c.holds ρ w) {b : Nat} (hb : c.fJ ρ b) : b < w.heap.size := by
 cases c with
 | box a ps =>
  obtain ⟨cs, e, fz, hg, _⟩ := h
  cases hb
  exact (Array.getElem?_eq_some_iff.1 hg).1
 | osl a ek L => exact h.1.lt hb
 | rsl a ek L => cases hb
 | abs k ts => exact Kd.dZ h hb
theorem Ch.jM {ρ : LD} {c : Ch} {w : World} (h : c.holds ρ w) {b : Nat} (hb : c.fK ρ b) : b < w.heap.size := by
 cases c with
 | box a ps => cases hb
 | osl a ek L => cases hb
 | rsl a ek L => exact h.1.lt hb
 | abs k ts => exact Kd.jM h hb
theorem Kd.aV7 {k : Kd} {ds : LD} {b b' : Nat} (h : b ∈ k.own ds) : b' ∉ k.ro ds := by
 cases k with
 | deep ek => cases h
 | _ => intro h'; cases h'
theorem Ch.aV7 {ρ : LD} {c : Ch} {b b' : Nat} (h : c.fJ ρ b) (h' : c.fK ρ b') : False := by
 cases c with
 | abs k ts => exact Kd.aV7 h h'
 | box _ _ => cases h'
 | osl _ _ _ => cases h'
 | rsl _ _ _ => cases h
theorem kM {ρ : LD} {hs : List Ch} {b : Nat} : b ∈ owns ρ hs ↔ ∃ c ∈ hs, c.fJ ρ b := by simp [owns, Ch.wZ]
theorem fM {ρ : LD} {hs : List Ch} {b : Nat} : b ∈ ros ρ hs ↔ ∃ c ∈ hs, c.fK ρ b := by simp [ros, Ch.uS]
theorem aN.dZ {ρ : LD} {hs : List Ch} {w : World} (h : aN ρ hs w) {b : Nat} (hb : b ∈ owns ρ hs) : b < w.heap.size := by
 obtain ⟨c, hc, hb⟩ := kM.1 hb
 exact Ch.dZ (h.holds c hc) hb
theorem aN.jM {ρ : LD} {hs : List Ch} {w : World} (h : aN ρ hs w) {b : Nat} (hb : b ∈ ros ρ hs) : b < w.heap.size := by
 obtain ⟨c, hc, hb⟩ := fM.1 hb
 exact Ch.jM (h.holds c hc) hb
theorem aN.perm {ρ : LD} {hs hs' : List Ch} {w : World} (p : hs.Perm hs') (h : aN ρ hs w) : aN ρ hs' w := by
 have po : (owns ρ hs).Perm (owns ρ hs') := p.flatMap_right _
 exact ⟨fun c hc => h.holds c (p.mem_iff.2 hc), po.nodup_iff.1 h.nodup, fun c hc b hb hm => h.ro c (p.mem_iff.2 hc) b hb (po.mem_iff.2 hm)⟩
theorem bE6 {ρ : LD} {w : World} : aN ρ [] w := ⟨fun _ h => by simp at h, by simp [owns], fun _ h => by simp at h⟩
theorem aR9 {ρ : LD} {c : Ch} {hs : List Ch} {w : World} : aN ρ (c :: hs) w ↔
  c.holds ρ w ∧ aN ρ hs w ∧ (c.own ρ).Nodup ∧ (∀ b, c.fJ ρ b → b ∉ owns ρ hs ∧ b ∉ ros ρ hs) ∧ (∀ b, c.fK ρ b → b ∉ owns ρ hs) := by
 constructor
 ·intro h
  have hnd := h.nodup
  simp only [owns, List.flatMap_cons] at hnd
  obtain ⟨n1, n2, n3⟩ := List.nodup_append.1 hnd
  refine ⟨h.holds c (by simp), ⟨fun x hx => h.holds x (by simp [hx]), n2, fun x hx b hb hm => h.ro x (by simp [hx]) b hb ?_⟩, n1, fun b hb => ⟨fun hm => ?_, fun hm => ?_⟩, fun b hb hm => h.ro c (by simp) b hb ?_⟩
  ·obtain ⟨y, hy, hb'⟩ := kM.1 hm; exact kM.2 ⟨y, by simp [hy], hb'⟩
  ·exact n3 b (Ch.wZ.2 hb) b hm rfl
  ·obtain ⟨y, hy, hb'⟩ := fM.1 hm
   exact h.ro y (by simp [hy]) b hb' (kM.2 ⟨c, by simp, hb⟩)
  ·obtain ⟨y, hy, hb'⟩ := kM.1 hm; exact kM.2 ⟨y, by simp [hy], hb'⟩
 ·rintro ⟨h1, h2, h0, h3, h4⟩
  refine ⟨fun x hx => ?_, ?_, fun x hx b hb hm => ?_⟩
  ·rcases List.mem_cons.1 hx with rfl | hx
   ·exact h1
   ·exact h2.holds x hx
  ·simp only [owns, List.flatMap_cons]
   exact List.nodup_append.2 ⟨h0, h2.nodup, fun a ha b hb he => (h3 a (Ch.wZ.1 ha)).1 (he ▸ hb)⟩
  ·obtain ⟨y, hy, hb'⟩ := kM.1 hm
   rcases List.mem_cons.1 hx with rfl | hx
   ·rcases List.mem_cons.1 hy with rfl | hy
    ·exact Ch.aV7 hb' hb
    ·exact h4 b hb (kM.2 ⟨y, hy, hb'⟩)
   ·rcases List.mem_cons.1 hy with h0 | hy
    ·rw [h0] at hb'; exact (h3 b hb').2 (fM.2 ⟨x, hx, hb⟩)
    ·exact h2.ro x hx b hb (kM.2 ⟨y, hy, hb'⟩)
def Ch.single : Ch → Bool
 | .abs _ _ => false
 | _ => true
theorem Ch.bK0 {ρ : LD} {c : Ch} (h : c.single = true) : (c.own ρ).Nodup := by
 cases c with
 | box b ps => simp [Ch.own]
 | osl a ek L => simp only [Ch.own]; cases (a.den ρ).toV.ownBlock <;> simp
 | rsl a ek L => simp [Ch.own]
 | abs k ts => cases h
theorem qP {ρ : LD} {c : Ch} {hs : List Ch} {w : World} (h1 : c.single = true) : aN ρ (c :: hs) w ↔
  c.holds ρ w ∧ aN ρ hs w ∧ (∀ b, c.fJ ρ b → b ∉ owns ρ hs ∧ b ∉ ros ρ hs) ∧ (∀ b, c.fK ρ b → b ∉ owns ρ hs) := by
 rw [aR9]
 exact ⟨fun h => ⟨h.1, h.2.1, h.2.2.2⟩, fun h => ⟨h.1, h.2.1, Ch.bK0 h1, h.2.2⟩⟩
theorem wP {ρ : LD} {c : Ch} {hs : List Ch} {w : World} (h : aN ρ (c :: hs) w) :
  c.holds ρ w ∧ aN ρ hs w ∧ (∀ b, c.fJ ρ b → b ∉ owns ρ hs ∧ b ∉ ros ρ hs) ∧ (∀ b, c.fK ρ b → b ∉ owns ρ hs) := by
 have h := aR9.1 h
 exact ⟨h.1, h.2.1, h.2.2.2⟩
theorem gW {ρ : LD} {c : Ch} {hs : List Ch} {b : Nat} : b ∈ owns ρ (c :: hs) ↔ c.fJ ρ b ∨ b ∈ owns ρ hs := by
 simp only [kM, List.mem_cons, exists_eq_or_imp]
theorem jO {ρ : LD} {c : Ch} {hs : List Ch} {b : Nat} : b ∈ ros ρ (c :: hs) ↔ c.fK ρ b ∨ b ∈ ros ρ hs := by
 simp only [fM, List.mem_cons, exists_eq_or_imp]
theorem dI {ρ : LD} {hs hs' : List Ch} : owns ρ (hs ++ hs') = owns ρ hs ++ owns ρ hs' := by simp [owns]
theorem vF {ρ : LD} {hs hs' : List Ch} : ros ρ (hs ++ hs') = ros ρ hs ++ ros ρ hs' := by simp [ros]
theorem dQ {ρ : LD} {hs hs' : List Ch} (p : hs.Perm hs') {b : Nat} : b ∈ owns ρ hs ↔ b ∈ owns ρ hs' := (p.flatMap_right _).mem_iff
theorem iL {ρ : LD} {hs hs' : List Ch} (p : hs.Perm hs') {b : Nat} : b ∈ ros ρ hs ↔ b ∈ ros ρ hs' := (p.flatMap_right _).mem_iff
theorem aN.congr {ρ : LD} {hs : List Ch} {w w' : World} (h : aN ρ hs w) (hb : ∀ b, b ∈ owns ρ hs ∨ b ∈ ros ρ hs → w'.heap[b]? = w.heap[b]?) (hs' : w.heap.size ≤ w'.heap.size) : aN ρ hs w' :=
 ⟨fun c hc => Ch.aS0 (fun b hbb => hb b (hbb.imp (fun h => kM.2 ⟨c, hc, h⟩) (fun h => fM.2 ⟨c, hc, h⟩))) hs' (h.holds c hc), h.nodup, h.ro⟩
structure Ext (w w' : World) : Prop where
 size : w.heap.size ≤ w'.heap.size
 block : ∀ b, b < w.heap.size → w'.heap[b]? = w.heap[b]?
 os : w'.os = w.os
 tape : w'.tape = w.tape
 output : w'.output = w.output
theorem Ext.refl (w : World) : Ext w w := ⟨Nat.le_refl _, fun _ _ => rfl, rfl, rfl, rfl⟩
theorem Ext.trans {a b c : World} (h : Ext a b) (k : Ext b c) : Ext a c :=
 ⟨Nat.le_trans h.size k.size, fun i hi => (k.block i (Nat.lt_of_lt_of_le hi h.size)).trans (h.block i hi), k.os.trans h.os, k.tape.trans h.tape, k.output.trans h.output⟩
theorem aN.ext {ρ : LD} {hs : List Ch} {w w' : World} (h : aN ρ hs w) (e : Ext w w') : aN ρ hs w' :=
 h.congr (fun b hb => e.block b (hb.elim h.dZ h.jM)) e.size
theorem eY.ext {w0 : World} {D0 : List Nat} {w w' : World} (h : eY w0 D0 w) (e : Ext w w') : eY w0 D0 w' :=
 ⟨e.os.trans h.os, e.tape.trans h.tape, e.output.trans h.output, Nat.le_trans h.size e.size, fun b hb hn => (e.block b (Nat.lt_of_lt_of_le hb h.size)).trans (h.block b hb hn)⟩
theorem Glob.lt {g : Glob} {w : World} (h : g.holds w) : g.g < w.heap.size := by
 obtain ⟨⟨e, fz, h⟩, _⟩ := h
 exact (Array.getElem?_eq_some_iff.1 h).1
theorem Glob.congr {g : Glob} {w w' : World} (h : g.holds w) (hb : w'.heap[g.g]? = w.heap[g.g]?) : g.holds w' := by
 obtain ⟨⟨e, fz, h⟩, h2⟩ := h
 exact ⟨⟨e, fz, hb.trans h⟩, h2⟩
section
variable {G : List Glob} {w0 : World} {D0 R0 : List Nat} {ρ : LD} {S : St} {a : Act} {w w' : World}
theorem Rel.ext (h : Rel G w0 D0 R0 ρ S a w) (e : Ext w w') : Rel G w0 D0 R0 ρ S a w' :=
 ⟨h.aB, h.tmps, h.defers, h.heap.ext e, fun g hg => ⟨Glob.congr (h.globs g hg).1 (e.block _ (Glob.lt (h.globs g hg).1)), (h.globs g hg).2⟩, h.frame.ext e, h.within, h.within'⟩
theorem Rel.sH (h : Rel G w0 D0 R0 ρ S a w) {hs : List Ch} (hh : aN ρ hs w') (hsz : w.heap.size ≤ w'.heap.size)
  (hb : ∀ b, b < w.heap.size → b ∉ owns ρ S.heap → w'.heap[b]? = w.heap[b]?) (hos : w'.os = w.os) (htape : w'.tape = w.tape) (hout : w'.output = w.output)
  (ho : ∀ b ∈ owns ρ hs, b ∈ owns ρ S.heap ∨ w.heap.size ≤ b) (hr : ∀ b ∈ ros ρ hs, b ∈ owns ρ S.heap ∨ b ∈ ros ρ S.heap ∨ w.heap.size ≤ b) :
  Rel G w0 D0 R0 ρ { S with heap := hs } a w' := by
 refine ⟨h.aB, h.tmps, h.defers, hh, fun g hg => ⟨Glob.congr (h.globs g hg).1 (hb _ (Glob.lt (h.globs g hg).1) (h.globs g hg).2), fun hm => ?_⟩,
  ⟨hos.trans h.frame.os, htape.trans h.frame.tape, hout.trans h.frame.output, Nat.le_trans h.frame.size hsz, fun b hbl hn => ?_⟩, fun b hm => ?_, fun b hm => ?_⟩
 ·rcases ho _ hm with h1 | h1
  ·exact (h.globs g hg).2 h1
  ·have := Glob.lt (h.globs g hg).1; omega
 ·rw [hb b (Nat.lt_of_lt_of_le hbl h.frame.size) ?_, h.frame.block b hbl hn]
  intro hm
  rcases h.within b hm with h1 | h1
  ·exact hn h1
  ·omega
 ·rcases ho b hm with h1 | h1
  ·exact h.within b h1
  ·exact .inr (Nat.le_trans h.frame.size h1)
 ·rcases hr b hm with h1 | h1 | h1
  ·exact (h.within b h1).imp id .inl
  ·exact h.within' b h1
  ·exact .inr (.inl (Nat.le_trans h.frame.size h1))
end
theorem wJ {b : Tm} : ∀ {hs : List Ch} {ps : List Pt}, iG b hs = some ps → ∃ l1 l2, hs = l1 ++ .box b ps :: l2 ∧ ∀ qs, lG b qs hs = l1 ++ .box b qs :: l2
 | [], _, h => by simp [iG] at h
 | .box b' qs :: hs, ps, h => by
  simp only [iG] at h
  split at h
  ·rename_i hb; subst hb; cases h; exact ⟨[], hs, rfl, fun qs => by simp [lG]⟩
  ·rename_i hb
   obtain ⟨l1, l2, rfl, hset⟩ := wJ h
   exact ⟨.box b' qs :: l1, l2, rfl, fun qs' => by simp [lG, hb, hset qs']⟩
 | .osl a ek L :: hs, ps, h => by
  obtain ⟨l1, l2, rfl, hset⟩ := wJ (hs := hs) (by simpa [iG] using h)
  exact ⟨_ :: l1, l2, rfl, fun qs => by simp [lG, hset qs]⟩
 | .rsl a ek L :: hs, ps, h => by
  obtain ⟨l1, l2, rfl, hset⟩ := wJ (hs := hs) (by simpa [iG] using h)
  exact ⟨_ :: l1, l2, rfl, fun qs => by simp [lG, hset qs]⟩
 | .abs k ts :: hs, ps, h => by
  obtain ⟨l1, l2, rfl, hset⟩ := wJ (hs := hs) (by simpa [iG] using h)
  exact ⟨_ :: l1, l2, rfl, fun qs => by simp [lG, hset qs]⟩
def sQ (own : Bool) (a : Tm) (ek : EK) (L : Tm) : Ch := if own then .osl a ek L else .rsl a ek L
theorem nI {a : Tm} : ∀ {hs : List Ch} {own : Bool} {ek : EK} {L : Tm}, aZ a hs = some (own, ek, L) → ∃ l1 l2, hs = l1 ++ sQ own a ek L :: l2 ∧
  (own = true → (∀ L', lH a L' hs = l1 ++ .osl a ek L' :: l2) ∧ fH a hs = l1 ++ l2) ∧ dJ a hs = l1 ++ .rsl a ek L :: l2
 | [], _, _, _, h => by simp [aZ] at h
 | .osl a' ek' L' :: hs, own, ek, L, h => by
  simp only [aZ] at h
  split at h
  ·rename_i hb; subst hb; cases h; exact ⟨[], hs, rfl, fun _ => ⟨fun qs => by simp [lH], by simp [fH]⟩, by simp [dJ]⟩
  ·rename_i hb
   obtain ⟨l1, l2, rfl, h1, h2⟩ := nI h
   exact ⟨.osl a' ek' L' :: l1, l2, rfl, fun ho => ⟨fun qs => by simp [lH, hb, (h1 ho).1 qs], by simp [fH, hb, (h1 ho).2]⟩, by simp [dJ, hb, h2]⟩
 | .rsl a' ek' L' :: hs, own, ek, L, h => by
  simp only [aZ] at h
  split at h
  ·rename_i hb; subst hb; cases h; exact ⟨[], hs, rfl, fun h => (by cases h), by simp [dJ]⟩
  ·rename_i hb
   obtain ⟨l1, l2, rfl, h1, h2⟩ := nI h
   exact ⟨.rsl a' ek' L' :: l1, l2, rfl, fun ho => ⟨fun qs => by simp [lH, (h1 ho).1 qs], by simp [fH, (h1 ho).2]⟩, by simp [dJ, hb, h2]⟩
 | .box b ps :: hs, own, ek, L, h => by
  obtain ⟨l1, l2, rfl, h1, h2⟩ := nI (hs := hs) (by simpa [aZ] using h)
  exact ⟨_ :: l1, l2, rfl, fun ho => ⟨fun qs => by simp [lH, (h1 ho).1 qs], by simp [fH, (h1 ho).2]⟩, by simp [dJ, h2]⟩
 | .abs k ts :: hs, own, ek, L, h => by
  obtain ⟨l1, l2, rfl, h1, h2⟩ := nI (hs := hs) (by simpa [aZ] using h)
  exact ⟨_ :: l1, l2, rfl, fun ho => ⟨fun qs => by simp [lH, (h1 ho).1 qs], by simp [fH, (h1 ho).2]⟩, by simp [dJ, h2]⟩
theorem kN {α : Type} (l1 l2 : List α) (c : α) : (l1 ++ c :: l2).Perm (c :: (l1 ++ l2)) := List.perm_middle
end Go.Vc
namespace Go.Vc
theorem qO (k : IntKind) (n : Int) : k.has (k.wrap n) := by
 cases k <;> simp [IntKind.has, wrap, IntKind.min, IntKind.max, IntKind.signed, IntKind.bits] <;> (try split) <;> omega
theorem zL (o : BinOp) (k : IntKind) (x y : Int) : k.has (Go.bits o k x y) := qO k _
theorem aR7 (k : IntKind) : k.has 0 := by
 cases k <;> simp [IntKind.has, IntKind.min, IntKind.max, IntKind.signed, IntKind.bits]
theorem aU3 (k : IntKind) : k.min ≤ 0 := (aR7 k).1
theorem bQ3 (k : IntKind) : 0 ≤ k.max := (aR7 k).2
theorem bX5 {k : IntKind} {x : Int} (h : k.has x) (n : Nat) : k.has (x.fdiv (2 ^ n)) := by
 have hp : (0 : Int) < 2 ^ n := Int.pow_pos (by decide)
 rw [Int.fdiv_eq_ediv_of_nonneg _ (Int.le_of_lt hp)]
 have h1 : (1 : Int) ≤ 2 ^ n := hp
 refine ⟨?_, ?_⟩
 ·by_cases hx : 0 ≤ x
  ·exact Int.le_trans (aU3 k) (Int.ediv_nonneg hx (Int.le_of_lt hp))
  ·refine Int.le_trans h.1 ?_
   apply Int.le_ediv_of_mul_le hp
   have : x * 2 ^ n ≤ x * 1 := Int.mul_le_mul_of_nonpos_left (by omega) h1
   omega
 ·by_cases hx : 0 ≤ x
  ·exact Int.le_trans (Int.ediv_le_self _ hx) h.2
  ·have : x / 2 ^ n ≤ 0 := Int.le_of_lt_add_one (by have := Int.ediv_neg_of_neg_of_pos (a := x) (b := 2 ^ n) (by omega) hp; omega)
   exact Int.le_trans this (bQ3 k)
theorem bX9 {k : IntKind} {x : Int} (h : k.has x) (y : Int) : k.has (x.tmod y) := by
 by_cases hx : 0 ≤ x
 ·refine ⟨Int.le_trans (aU3 k) (Int.tmod_nonneg y hx), Int.le_trans ?_ h.2⟩
  obtain ⟨n, rfl⟩ := Int.eq_ofNat_of_zero_le hx
  rw [← Int.natAbs_of_nonneg (Int.tmod_nonneg y hx)]
  rw [Int.natAbs_tmod]
  exact Int.ofNat_le.2 (Nat.mod_le _ _)
 ·have hx' : 0 ≤ -x := by omega
  have e : x.tmod y = -((-x).tmod y) := by rw [Int.neg_tmod]; omega
  have h0 := Int.tmod_nonneg y hx'
  have h1 : (-x).tmod y ≤ -x := by
   obtain ⟨n, hn⟩ := Int.eq_ofNat_of_zero_le hx'
   rw [hn]
   rw [← Int.natAbs_of_nonneg (Int.tmod_nonneg y (by omega : (0:Int) ≤ (n:Int)))]
   rw [Int.natAbs_tmod]
   exact Int.ofNat_le.2 (Nat.mod_le _ _)
  rw [e]
  have := aU3 k
  have := bQ3 k
  have h2 := h.1
  exact ⟨by omega, by omega⟩
theorem aF7 {k : IntKind} {l : LI} (h : ∀ x ∈ l, k.has x) (i : Nat) : k.has (l.getD i 0) := by
 rw [List.getD_eq_getElem?_getD]
 cases hi : l[i]? with
 | none => exact aR7 k
 | some x => exact h x (List.mem_of_getElem? hi)
theorem bX4 (s : BA) (i : Int) : IntKind.u8.has (byteAt s i) := by
 have := (s.data.toList.getD i.toNat 0).toNat_lt
 have h2 : IntKind.u8.min = 0 ∧ IntKind.u8.max = 255 := by decide
 unfold byteAt IntKind.has
 rw [h2.1, h2.2]
 omega
theorem wS {ρ : LD} {v : Value} {l : Lf} (h : zO v = some l) : l.holds ρ v ∧ one v := by
 unfold zO at h
 split at h
 ·split at h
  ·rename_i hk; cases h; exact ⟨⟨rfl, hk⟩, rfl⟩
  ·cases h
 ·cases h; exact ⟨rfl, rfl⟩
 ·split at h
  ·rename_i hk; cases h; exact ⟨⟨rfl, hk⟩, rfl⟩
  ·cases h
 ·cases h; exact ⟨rfl, rfl⟩
 ·cases h; exact ⟨rfl, rfl⟩
 ·cases h; exact ⟨rfl, rfl⟩
 ·cases h; exact ⟨rfl, rfl⟩
 ·split at h
  ·rename_i hc
   simp only [Bool.and_eq_true, Array.isEmpty_iff] at hc
   obtain ⟨rfl, rfl⟩ := hc
   cases h; exact ⟨rfl, rfl⟩
  ·cases h
 ·cases h
theorem bF3 {k : IntKind} : ∀ {vs : List Value} {l : LI}, intsOf k vs = some l → vs = l.map (Value.int k) ∧ ∀ x ∈ l, k.has x
 | [], l, h => by simp [intsOf] at h; subst h; simp
 | v :: vs, l, h => by
  cases v <;> simp only [intsOf] at h <;> try (cases h)
  rename_i k' n
  split at h
  ·rename_i hk
   obtain ⟨rfl, hk⟩ := hk
   cases hr : intsOf k' vs with
   | none => rw [hr] at h; cases h
   | some r =>
    rw [hr] at h; cases h
    obtain ⟨rfl, hx⟩ := bF3 hr
    refine ⟨rfl, fun x hm => ?_⟩
    rcases List.mem_cons.1 hm with rfl | hm
    ·exact hk
    ·exact hx x hm
  ·cases h
theorem aA5 {ρ : LD} : ∀ {lay : List LK} {vs : List Value} {ps : List Pt}, mX lay vs = some ps → aJ ρ ps vs
 | [], [], _, h => by simp [mX] at h; subst h; rfl
 | [], _ :: _, _, h => by simp [mX] at h
 | .ints k n :: ls, vs, ps, h => by
  simp only [mX] at h
  split at h
  ·rename_i xs r hx hr
   split at h
   ·rename_i hl
    cases h
    obtain ⟨he, hh⟩ := bF3 hx
    have hd : ((if xs = List.replicate n 0 then Tm.o2 .lirep (.int n) (.int 0) else .lis xs).den ρ).aH = xs := by
     split
     ·rename_i e; rw [e]; simp [Tm.den, O2.den]
     ·rfl
    refine ⟨vs.drop n, ?_, ?_, ?_, aA5 hr⟩
    ·rw [hd, ← he, List.take_append_drop]
    ·rw [hd]; exact hl
    ·rw [hd]; exact hh
   ·cases h
  ·cases h
 | .cell :: ls, v :: vs, ps, h => by
  simp only [mX] at h
  split at h
  ·rename_i l r hl hr
   split at h
   ·cases h; exact ⟨v, vs, rfl, (wS hl).1, (wS (ρ := ρ) hl).2, aA5 hr⟩
   ·cases h
  ·cases h
 | .slice ek :: ls, v :: vs, ps, h => by
  simp only [mX] at h
  split at h
  ·rename_i l r hl hr
   split at h
   ·cases h; exact ⟨v, vs, rfl, (wS hl).1, (wS (ρ := ρ) hl).2, aA5 hr⟩
   ·cases h
  ·cases h
 | .cell :: _, [], _, h => by simp [mX] at h
 | .slice _ :: _, [], _, h => by simp [mX] at h
theorem bT9 {P : Program} {t : TypeId} {v : Value} {x : SV} {ρ : LD} (h : aO5 P t v = some x) : x.holds ρ v := by
 unfold aO5 at h
 split at h
 ·split at h
  ·split at h
   ·rename_i hp; cases h; exact ⟨_, rfl, aA5 hp⟩
   ·cases h
  ·cases h
 ·split at h
  ·rename_i l hl; cases h; exact (wS hl).1
  ·cases h
theorem aX {cx : Cx} {G : List Glob} {w0 : World} {D0 R0 : List Nat} {ρ : LD} {S : St} {a : Act} {w : World} {t : TypeId} {x : Operand} {v : SV}
  (h : Rel G w0 D0 R0 ρ S a w) (e : evT cx S t x = .ok v) : v.holds ρ (a.eval x) := by
 cases x with
 | tmp i =>
  simp only [evT] at e
  split at e
  ·rename_i u hu; cases e; exact h.slot hu
  ·cases e
 | const c =>
  simp only [evT] at e
  split at e
  ·rename_i u hu; cases e; exact bT9 hu
  ·cases e
 | global g => simp only [evT] at e; cases e; exact rfl
 | func f => simp only [evT] at e; cases e; exact rfl
theorem zZ {E : Env} {t : Tm} {k : M} {vc : VC} {ρ : LD} (h : obl t k = .ok vc) (hd : vc.den E ρ) : (t.den ρ).toB = true ∧ ∃ vc', k = .ok vc' ∧ vc'.den E ρ := by
 unfold obl at h
 cases k with
 | error e => cases h
 | ok v => cases h; exact ⟨hd.1, v, rfl, hd.2 hd.1⟩
theorem iH {E : Env} {t : Tm} {b : Bool} {k : M} {vc : VC} {ρ : LD} (h : imp t b k = .ok vc) (hd : vc.den E ρ) (ht : (t.den ρ).toB = b) : ∃ vc', k = .ok vc' ∧ vc'.den E ρ := by
 unfold imp at h
 cases k with
 | error e => cases h
 | ok v => cases h; exact ⟨v, rfl, hd ht⟩
theorem gI {E : Env} {a b : Tm} {k : M} {vc : VC} {ρ : LD} (h : gG a b k = .ok vc) (hd : vc.den E ρ) :
  (a.den ρ).toI ≤ (b.den ρ).toI ∧ ∃ vc', k = .ok vc' ∧ vc'.den E ρ := by
 unfold gG at h
 split at h
 ·split at h
  ·rename_i hxy; exact ⟨hxy, vc, h, hd⟩
  ·cases h
 ·exact ⟨by simp [Tm.den, O1.den], vc, h, hd⟩
 ·exact ⟨by simp [Tm.den, O1.den], vc, h, hd⟩
 ·exact ⟨by simp [Tm.den, O1.den], vc, h, hd⟩
 ·split at h
  ·rename_i hab; subst hab; exact ⟨Int.le_refl _, vc, h, hd⟩
  ·obtain ⟨h1, h2⟩ := zZ h hd
   exact ⟨by simpa [Tm.den, O2.den] using h1, h2⟩
theorem zY {E : Env} {a b : Tm} {k : M} {vc : VC} {ρ : LD} (h : uV a b k = .ok vc) (hd : vc.den E ρ) :
  (a.den ρ).toI < (b.den ρ).toI ∧ ∃ vc', k = .ok vc' ∧ vc'.den E ρ := by
 unfold uV at h
 split at h
 ·split at h
  ·rename_i hxy; exact ⟨hxy, vc, h, hd⟩
  ·cases h
 ·obtain ⟨h1, h2⟩ := zZ h hd
  exact ⟨by simpa [Tm.den, O2.den] using h1, h2⟩
def Met (E : Env) (ρ : LD) (ret : SV → M) (z : Value) : Prop := ∃ x vc, ret x = .ok vc ∧ vc.den E ρ ∧ x.holds ρ z
section
variable {P : Program} {E : Env} {ρ : LD} {ret : SV → M} {vc : VC}
theorem Met.int {k : IntKind} {t : Tm} {n : Int} (h : ret (.one (.lf (.int k t))) = .ok vc) (hd : vc.den E ρ) (ht : (t.den ρ).toI = n) (hk : k.has n) : Met E ρ ret (.int k n) :=
 ⟨_, vc, h, hd, by subst ht; exact ⟨rfl, hk⟩⟩
theorem Met.bool {t : Tm} {b : Bool} (h : ret (.one (.lf (.bool t))) = .ok vc) (hd : vc.den E ρ) (ht : (t.den ρ).toB = b) : Met E ρ ret (.bool b) :=
 ⟨_, vc, h, hd, by subst ht; exact rfl⟩
theorem bJ4 {y : Tm} {k : M} (h : aH7 y k = .ok vc) (hd : vc.den E ρ) : (y.den ρ).toI ≠ 0 ∧ ∃ vc', k = .ok vc' ∧ vc'.den E ρ := by
 unfold aH7 at h
 split at h
 ·split at h
  ·rename_i hn; exact ⟨hn, vc, h, hd⟩
  ·cases h
 ·obtain ⟨h1, h2⟩ := zZ h hd
  exact ⟨by simpa [Tm.den, O1.den, O2.den] using h1, h2⟩
theorem cD2 {yk : IntKind} {y : Tm} {k : M} (h : aV1 yk y k = .ok vc) (hd : vc.den E ρ) (hy : yk.has (y.den ρ).toI) : 0 ≤ (y.den ρ).toI ∧ ∃ vc', k = .ok vc' ∧ vc'.den E ρ := by
 unfold aV1 at h
 split at h
 ·split at h
  ·rename_i hn; exact ⟨hn, vc, h, hd⟩
  ·cases h
 ·split at h
  ·rename_i hu
   refine ⟨?_, vc, h, hd⟩
   have hm := hy.1
   have : yk.min = 0 := by cases yk <;> first | rfl | (simp [bP6] at hu)
   omega
  ·obtain ⟨h1, h2⟩ := zZ h hd
   exact ⟨of_decide_eq_true h1, h2⟩
theorem cF9 {o : BinOp} {k : IntKind} (t : TypeId) (a b : Int) (w : World) (h : o ≠ .shl ∧ o ≠ .shr) : (binOp o t (.int k a) (.int k b)).run P w =
  (match o with
  | .add | .sub | .mul => Op.intArith o k a b
  | .quo | .rem => Op.intDiv o k a b
  | .and | .or | .xor | .andNot => Op.intBits o k a b
  | _ => Op.intCmp o a b).run P w := by
 cases o <;> first | (exact absurd rfl h.1) | (exact absurd rfl h.2) | (simp only [binOp, ne_eq, not_true_eq_false, if_false])
theorem bR0 {o : BinOp} {k : IntKind} {x y : Tm} (h : arith o k x y ret = .ok vc) (hd : vc.den E ρ) (hx : k.has (x.den ρ).toI) (t : TypeId) :
  ∃ z, Met E ρ ret z ∧ ∀ w, (binOp o t (.int k (x.den ρ).toI) (.int k (y.den ρ).toI)).run P w = .ok z w := by
 have ho : o ≠ .shl ∧ o ≠ .shr := by
  constructor <;> (rintro rfl; simp only [arith] at h; cases h)
 simp only [cF9 t _ _ _ ho]
 cases o <;> simp only [arith] at h
 case add => exact ⟨_, Met.int h hd rfl (qO _ _), fun w => rfl⟩
 case sub => exact ⟨_, Met.int h hd rfl (qO _ _), fun w => rfl⟩
 case mul => exact ⟨_, Met.int h hd rfl (qO _ _), fun w => rfl⟩
 case quo =>
  obtain ⟨hy, vc', h', hd'⟩ := bJ4 h hd
  exact ⟨_, Met.int h' hd' rfl (qO _ _), fun w => by simp only [Op.intDiv, if_neg hy]; rfl⟩
 case rem =>
  obtain ⟨hy, vc', h', hd'⟩ := bJ4 h hd
  exact ⟨_, Met.int h' hd' rfl (bX9 hx _), fun w => by simp only [Op.intDiv, if_neg hy]; rfl⟩
 case and => exact ⟨_, Met.int (n := Go.bits .and k (x.den ρ).toI (y.den ρ).toI) h hd rfl (zL .and k _ _), fun w => by simp only [intBits_and]; rfl⟩
 case or => exact ⟨_, Met.int (n := Go.bits .or k (x.den ρ).toI (y.den ρ).toI) h hd rfl (zL .or k _ _), fun w => by simp only [intBits_or]; rfl⟩
 case xor => exact ⟨_, Met.int (n := Go.bits .xor k (x.den ρ).toI (y.den ρ).toI) h hd rfl (zL .xor k _ _), fun w => by simp only [intBits_xor]; rfl⟩
 case andNot => exact ⟨_, Met.int (n := Go.bits .andNot k (x.den ρ).toI (y.den ρ).toI) h hd rfl (zL .andNot k _ _), fun w => by simp only [intBits_andNot]; rfl⟩
 case eql => exact ⟨_, Met.bool h hd rfl, fun w => rfl⟩
 case neq => exact ⟨_, Met.bool h hd rfl, fun w => rfl⟩
 case lss => exact ⟨_, Met.bool h hd rfl, fun w => rfl⟩
 case leq => exact ⟨_, Met.bool h hd rfl, fun w => rfl⟩
 case gtr => exact ⟨_, Met.bool h hd rfl, fun w => rfl⟩
 case geq => exact ⟨_, Met.bool h hd rfl, fun w => rfl⟩
 all_goals cases h
theorem cG7 {o : BinOp} {k yk : IntKind} {x y : Tm} (ho : o = .shl ∨ o = .shr) (h : shift o k x yk y ret = .ok vc) (hd : vc.den E ρ) (hx : k.has (x.den ρ).toI) (hy : yk.has (y.den ρ).toI) (t : TypeId) :
  ∃ z, Met E ρ ret z ∧ ∀ w, (binOp o t (.int k (x.den ρ).toI) (.int yk (y.den ρ).toI)).run P w = .ok z w := by
 obtain ⟨h0, vc', h', hd'⟩ := cD2 h hd hy
 have hn : ¬ (y.den ρ).toI < 0 := by omega
 rcases ho with rfl | rfl
 ·exact ⟨_, Met.int h' hd' rfl (qO _ _), fun w => by simp only [binOp, Op.shift, if_neg hn]; rfl⟩
 ·exact ⟨_, Met.int h' hd' rfl (bX5 hx _), fun w => by simp only [binOp, Op.shift, if_neg hn]; rfl⟩
theorem cH9 {o : BinOp} {x y : Tm} (h : aX5 o x y ret = .ok vc) (hd : vc.den E ρ) (t : TypeId) :
  ∃ z, Met E ρ ret z ∧ ∀ w, (binOp o t (.string (x.den ρ).toS) (.string (y.den ρ).toS)).run P w = .ok z w := by
 cases o <;> simp only [aX5] at h
 case add =>
  obtain ⟨h1, vc', h', hd'⟩ := zZ h hd
  have h2 : (((x.den ρ).toS ++ (y.den ρ).toS).size : Int) ≤ bW := by simpa [Tm.den, O1.den, O2.den] using h1
  have h3 : ((x.den ρ).toS ++ (y.den ρ).toS).size = (x.den ρ).toS.size + (y.den ρ).toS.size := ByteArray.size_append
  refine ⟨.string ((x.den ρ).toS ++ (y.den ρ).toS), ⟨_, vc', h', hd', ⟨rfl, h2⟩⟩, fun w => ?_⟩
  have hm : (IntKind.i64.max : Int) = bW := by decide
  have : ¬ ((((x.den ρ).toS.size + (y.den ρ).toS.size : Nat) : Int) > IntKind.i64.max) := by rw [hm, ← h3]; omega
  show (Op.stringOp .add _ _).run P w = _
  unfold Op.stringOp
  simp only [this, if_false]
  rfl
 case eql => exact ⟨_, Met.bool h hd rfl, fun w => by simp [binOp, Op.stringOp, Tm.den, O2.den]⟩
 case neq => exact ⟨_, Met.bool h hd rfl, fun w => by simp [binOp, Op.stringOp, Tm.den, O1.den, O2.den]⟩
 case lss => exact ⟨_, Met.bool h hd rfl, fun w => by simp [binOp, Op.stringOp, Tm.den, O2.den]⟩
 case leq => exact ⟨_, Met.bool h hd rfl, fun w => by simp [binOp, Op.stringOp, Tm.den, O2.den]⟩
 case gtr => exact ⟨_, Met.bool h hd rfl, fun w => by simp [binOp, Op.stringOp, Tm.den, O1.den, O2.den]⟩
 case geq => exact ⟨_, Met.bool h hd rfl, fun w => by simp [binOp, Op.stringOp, Tm.den, O1.den, O2.den]⟩
 all_goals cases h
end
end Go.Vc
namespace Go.Vc
theorem xM {ρ : LD} : ∀ {ps : List Pt} {vs : List Value}, aJ ρ ps vs → vs.length = rZ ps
 | [], _, h => by simp only [aJ] at h; subst h; rfl
 | .lf l :: ps, _, h => by obtain ⟨v, r, rfl, _, _, h⟩ := h; simp [rZ, ptW, xM h]; omega
 | .ints k n L :: ps, _, h => by obtain ⟨r, rfl, hl, _, h⟩ := h; simp [rZ, ptW, xM h, hl]
theorem aA4 {ρ : LD} : ∀ {ps qs : List Pt} {vs us : List Value}, aJ ρ ps vs → aJ ρ qs us → aJ ρ (ps ++ qs) (vs ++ us)
 | [], _, _, _, h, h' => by simp only [aJ] at h; subst h; exact h'
 | .lf l :: ps, _, _, _, h, h' => by obtain ⟨v, r, rfl, h1, h2, h⟩ := h; exact ⟨v, _, rfl, h1, h2, aA4 h h'⟩
 | .ints k n L :: ps, _, _, _, h, h' => by
  obtain ⟨r, rfl, h1, h2, h⟩ := h
  exact ⟨_, by rw [List.append_assoc], h1, h2, aA4 h h'⟩
theorem lC {ρ : LD} {p : Pt} {ps : List Pt} {vs : List Value} : aJ ρ (p :: ps) vs ↔ ∃ us r, vs = us ++ r ∧ us.length = ptW p ∧ aJ ρ [p] us ∧ aJ ρ ps r := by
 constructor
 ·intro h
  cases p with
  | lf l => obtain ⟨v, r, rfl, h1, h2, h⟩ := h; exact ⟨[v], r, rfl, rfl, ⟨v, [], rfl, h1, h2, rfl⟩, h⟩
  | ints k n L => obtain ⟨r, rfl, h1, h2, h⟩ := h; exact ⟨_, r, rfl, by simp [ptW, h1], ⟨[], by simp, h1, h2, rfl⟩, h⟩
 ·rintro ⟨us, r, rfl, _, h1, h2⟩
  exact aA4 (ps := [p]) h1 h2
theorem aI3 {ρ : LD} : ∀ {ps : List Pt} {m : Nat} {qs : List Pt} {vs : List Value}, uZ m ps = some qs → aJ ρ ps vs →
  ∃ us r, vs = us ++ r ∧ us.length = m ∧ aJ ρ qs us ∧ aJ ρ (ps.drop qs.length) r
 | [], m, qs, vs, h, hv => by
  simp only [uZ] at h
  split at h
  ·rename_i hm; cases h; exact ⟨[], vs, rfl, by simp [hm], rfl, hv⟩
  ·cases h
 | p :: ps, m, qs, vs, h, hv => by
  simp only [uZ] at h
  split at h
  ·rename_i hm; cases h; exact ⟨[], vs, rfl, by simp [hm], rfl, hv⟩
  ·split at h
   ·rename_i hle
    split at h
    ·rename_i r hr
     cases h
     obtain ⟨us, rs, rfl, hl, hp, hv⟩ := lC.1 hv
     obtain ⟨us', r', rfl, hl', h1, h2⟩ := aI3 hr hv
     exact ⟨us ++ us', r', by simp, by simp [hl, hl']; omega, lC.2 ⟨us, us', rfl, hl, hp, h1⟩, by simpa using h2⟩
    ·cases h
   ·cases h
theorem aI4 {ρ : LD} : ∀ {ps : List Pt} {o m : Nat} {qs : List Pt} {vs : List Value}, rX o m ps = some qs → aJ ρ ps vs →
  ∃ pre us r, vs = pre ++ (us ++ r) ∧ pre.length = o ∧ us.length = m ∧ aJ ρ qs us
 | [], o, m, qs, vs, h, hv => by
  simp only [rX] at h
  split at h
  ·rename_i ho
   obtain ⟨us, r, rfl, hl, h1, _⟩ := aI3 h hv
   exact ⟨[], us, r, rfl, by simp [ho], hl, h1⟩
  ·cases h
 | p :: ps, o, m, qs, vs, h, hv => by
  simp only [rX] at h
  split at h
  ·rename_i ho
   obtain ⟨us, r, rfl, hl, h1, _⟩ := aI3 h hv
   exact ⟨[], us, r, rfl, by simp [ho], hl, h1⟩
  ·split at h
   ·obtain ⟨us, rs, rfl, hl, hp, hv⟩ := lC.1 hv
    obtain ⟨pre, us', r', rfl, h0, h1, h2⟩ := aI4 h hv
    exact ⟨us ++ pre, us', r', by simp, by simp [hl, h0]; omega, h1, h2⟩
   ·cases h
theorem aG7 {ρ : LD} : ∀ {ps : List Pt} {o : Nat} {l : Lf} {vs : List Value}, qQ o ps = some l → aJ ρ ps vs →
  ∃ v, vs[o]? = some v ∧ l.holds ρ v ∧ one v
 | [], o, l, vs, h, _ => by simp [qQ, partAt] at h
 | p :: ps, o, l, vs, h, hv => by
  by_cases ho : o < ptW p
  ·simp only [qQ, partAt, if_pos ho] at h
   cases p with
   | lf l' =>
    obtain ⟨v, r, rfl, h1, h2, _⟩ := hv
    simp only [ptW] at ho
    have : o = 0 := by omega
    subst this
    cases h
    exact ⟨v, rfl, h1, h2⟩
   | ints k n L =>
    cases h
    obtain ⟨r, rfl, h1, h2, _⟩ := hv
    simp only [ptW] at ho
    refine ⟨.int k ((L.den ρ).aH.getD o 0), ?_, ⟨?_, ?_⟩, rfl⟩
    ·rw [List.getElem?_append_left (by simp [h1, ho])]
     have : o < (L.den ρ).aH.length := by omega
     simp [List.getD, this]
    ·simp [Tm.den, O2.den]
    ·simp only [Tm.den, O2.den, D.toI_I, Int.toNat_natCast]; exact aF7 h2 o
  ·obtain ⟨us, rs, rfl, hl, hp, hv⟩ := lC.1 hv
   have h' : qQ (o - ptW p) ps = some l := by simpa [qQ, partAt, ho] using h
   obtain ⟨v, h1, h2, h3⟩ := aG7 h' hv
   exact ⟨v, by rw [List.getElem?_append_right (by omega), hl]; exact h1, h2, h3⟩
theorem bK8 {ρ : LD} {new ps qs : List Pt} {vs us : List Value} (h : aI9 new ps = some qs) (hv : aJ ρ ps vs) (hu : aJ ρ new us) :
  ∃ old r, vs = old ++ r ∧ old.length = us.length ∧ aJ ρ qs (us ++ r) := by
 unfold aI9 at h
 split at h
 ·rename_i old hold
  cases h
  obtain ⟨os, r, rfl, hl, _, h2⟩ := aI3 hold hv
  exact ⟨os, r, rfl, by rw [hl, xM hu], aA4 hu h2⟩
 ·cases h
theorem bN1 {ρ : LD} {new : List Pt} {us : List Value} (hu : aJ ρ new us) : ∀ {ps : List Pt} {o : Nat} {qs : List Pt} {vs : List Value}, aB4 o new ps = some qs → aJ ρ ps vs →
  ∃ pre old r, vs = pre ++ (old ++ r) ∧ pre.length = o ∧ old.length = us.length ∧ aJ ρ qs (pre ++ (us ++ r))
 | [], o, qs, vs, h, hv => by
  simp only [aB4] at h
  split at h
  ·rename_i ho
   obtain ⟨old, r, rfl, hl, h1⟩ := bK8 h hv hu
   exact ⟨[], old, r, rfl, by simp [ho], hl, h1⟩
  ·cases h
 | p :: ps, o, qs, vs, h, hv => by
  simp only [aB4] at h
  split at h
  ·rename_i ho
   obtain ⟨old, r, rfl, hl, h1⟩ := bK8 h hv hu
   exact ⟨[], old, r, rfl, by simp [ho], hl, h1⟩
  ·split at h
   ·split at h
    ·rename_i q hq
     cases h
     obtain ⟨us', rs, rfl, hl, hp, hv⟩ := lC.1 hv
     obtain ⟨pre, old, r, rfl, h0, h1, h2⟩ := bN1 hu hq hv
     exact ⟨us' ++ pre, old, r, by simp, by simp [hl, h0]; omega, h1, by rw [List.append_assoc]; exact lC.2 ⟨us', _, rfl, hl, hp, h2⟩⟩
    ·cases h
   ·cases h
theorem bN0 {ρ : LD} {l : Lf} {v : Value} (hl : l.holds ρ v) (h1 : one v) : ∀ {ps : List Pt} {o : Nat} {qs : List Pt} {vs : List Value}, aB3 o l ps = some qs → aJ ρ ps vs →
  aJ ρ qs (vs.set o v) ∧ o < vs.length
 | [], o, qs, vs, h, _ => by simp [aB3] at h
 | p :: ps, o, qs, vs, h, hv => by
  simp only [aB3] at h
  split at h
  ·rename_i ho
   split at h
   ·cases h
    obtain ⟨u, r, rfl, _, _, hv⟩ := hv
    simp only [ptW] at ho
    have : o = 0 := by omega
    subst this
    exact ⟨⟨v, r, rfl, hl, h1, hv⟩, by simp⟩
   ·split at h
    ·rename_i hk
     subst hk
     cases h
     obtain ⟨r, rfl, hn, hh, hv⟩ := hv
     simp only [ptW] at ho
     obtain ⟨rfl, ht⟩ := hl
     refine ⟨⟨r, ?_, ?_, ?_, hv⟩, by simp [hn]; omega⟩
     ·rw [List.set_append_left _ _ (by simp [hn, ho])]
      simp [Tm.den, O3.den, List.map_set]
     ·simp [Tm.den, O3.den, hn]
     ·intro x hx
      simp only [Tm.den, O3.den, D.toLi_Z] at hx
      rcases List.mem_or_eq_of_mem_set hx with hx | rfl
      ·exact hh x hx
      ·exact ht
    ·cases h
   ·cases h
  ·rename_i ho
   split at h
   ·rename_i q hq
    cases h
    obtain ⟨us', rs, rfl, hl', hp, hv⟩ := lC.1 hv
    obtain ⟨h2, h3⟩ := bN0 hl h1 hq hv
    refine ⟨?_, by simp [hl']; omega⟩
    rw [List.set_append_right _ _ (by omega), hl']
    exact lC.2 ⟨us', _, rfl, hl', hp, h2⟩
   ·cases h
theorem zN {ρ : LD} {n : Nat} {k : IntKind} {L : Tm} : ∀ {ps : List Pt} {o : Nat} {vs : List Value}, rP o n ps = some (k, L) → aJ ρ ps vs →
  ∃ pre r, vs = pre ++ ((L.den ρ).aH.map (Value.int k) ++ r) ∧ pre.length = o ∧ (L.den ρ).aH.length = n ∧ (∀ x ∈ (L.den ρ).aH, k.has x) ∧
   ∀ L', (L'.den ρ).aH.length = n → (∀ x ∈ (L'.den ρ).aH, k.has x) → ∀ qs, yC o n L' ps = some qs → aJ ρ qs (pre ++ ((L'.den ρ).aH.map (Value.int k) ++ r))
 | [], o, vs, h, _ => by simp [rP] at h
 | p :: ps, o, vs, h, hv => by
  simp only [rP] at h
  split at h
  ·rename_i ho
   split at h
   ·split at h
    ·rename_i hm
     cases h
     obtain ⟨r, rfl, h1, h2, hv⟩ := hv
     refine ⟨[], r, rfl, by simp [ho], by rw [h1]; exact hm, h2, fun L' hl' hk' qs hq => ?_⟩
     simp only [yC, if_pos ho, if_pos hm] at hq
     cases hq
     exact ⟨r, rfl, by rw [hl']; exact hm.symm, hk', hv⟩
    ·cases h
   ·cases h
  ·rename_i ho
   split at h
   ·rename_i hle
    obtain ⟨us', rs, rfl, hl', hp, hv⟩ := lC.1 hv
    obtain ⟨pre, r, rfl, h0, h1, h2, h3⟩ := zN h hv
    refine ⟨us' ++ pre, r, by simp, by simp [hl', h0]; omega, h1, h2, fun L' hll hk' qs hq => ?_⟩
    simp only [yC, if_neg ho, if_pos hle] at hq
    split at hq
    ·rename_i q hq'
     cases hq
     rw [List.append_assoc]
     exact lC.2 ⟨us', _, rfl, hl', hp, h3 L' hll hk' _ hq'⟩
    ·cases hq
   ·cases h
def jF (ek : EK) (x : D) : List Value :=
 match ek with
 | [c] => c.cells x
 | _ => eU ek x.toL
def wF (ek : EK) (x : D) : Prop :=
 match ek with
 | [c] => c.ok x
 | _ => fG ek x.toL
theorem kS (ek : EK) (d : D) : ek.cells d = (aO ek d).flatMap (jF ek) := by
 rcases ek with _ | ⟨c, _ | ⟨c', cs⟩⟩
 ·rfl
 ·cases c with
  | int k =>
   simp only [EK.cells, aO, List.flatMap_map]
   show _ = d.aH.flatMap fun x => [Value.int k x]
   induction d.aH with
   | nil => rfl
   | cons x l ih => simp [ih]
  | _ => rfl
 ·cases c <;> rfl
theorem iY (ek : EK) (d : D) : ek.ok d ↔ ∀ x ∈ aO ek d, wF ek x := by
 rcases ek with _ | ⟨c, _ | ⟨c', cs⟩⟩
 ·exact Iff.rfl
 ·cases c with
  | int k =>
   constructor
   ·rintro h x hx
    obtain ⟨n, hn, rfl⟩ := List.mem_map.1 hx
    exact h n hn
   ·intro h n hn
    exact h (.I n) (List.mem_map_of_mem hn)
  | _ => exact Iff.rfl
 ·cases c <;> exact Iff.rfl
theorem len_eq (ek : EK) (d : D) : ek.len d = (aO ek d).length := by
 unfold EK.len aO
 split <;> simp
theorem aO3 {c : CK} {x : D} (h : c.ok x) : (c.cells x).length = c.width := by
 cases c <;> simp [CK.cells, CK.width]
 exact h.1
theorem aO4 : ∀ {cs : EK} {ds : LD}, fG cs ds → (eU cs ds).length = EK.width cs
 | [], [], _ => rfl
 | c :: cs, d :: ds, h => by
  have := aO4 h.2
  simp only [eU, EK.width, List.map_cons, List.foldr_cons, List.length_append, aO3 h.1] at this ⊢
  rw [this]
 | [], _ :: _, h => h.elim
 | _ :: _, [], h => h.elim
theorem yY {ek : EK} {x : D} (h : wF ek x) : (jF ek x).length = ek.width := by
 rcases ek with _ | ⟨c, _ | ⟨c', cs⟩⟩
 ·exact aO4 h
 ·show (c.cells x).length = _
  rw [aO3 h]; simp [EK.width]
 ·exact aO4 h
theorem bB4 {c : CK} {x : D} (h : c.ok x) : ∀ v ∈ c.cells x, one v := by
 cases c with
 | sl ek =>
  intro v hv
  simp only [CK.cells, List.mem_singleton] at hv
  rw [hv]; exact h.1.2
 | _ => simp [CK.cells, one, Value.oneCell']
theorem bB0 : ∀ {cs : EK} {ds : LD}, fG cs ds → ∀ v ∈ eU cs ds, one v
 | [], _, _, v, h => by simp [eU] at h
 | _ :: _, [], _, v, h => by simp [eU] at h
 | c :: cs, d :: ds, hk, v, h => by
  simp only [eU, List.mem_append] at h
  exact h.elim (bB4 hk.1 v) (bB0 hk.2 v)
theorem bU9 {ek : EK} {x : D} (hk : wF ek x) : ∀ v ∈ jF ek x, one v := by
 unfold jF
 unfold wF at hk
 split
 ·exact bB4 hk
 ·rename_i hne
  refine bB0 ?_
  split at hk
  ·exact absurd rfl (hne _)
  ·exact hk
theorem cells_one {ek : EK} {d : D} (hk : ek.ok d) : ∀ v ∈ ek.cells d, one v := by
 rw [kS]
 intro v hv
 obtain ⟨x, hx0, hx⟩ := List.mem_flatMap.1 hv
 exact bU9 ((iY ek d).1 hk x hx0) v hx
theorem aF2 {α : Type} {f : α → List Value} {m : Nat} : ∀ {l : List α}, (∀ x ∈ l, (f x).length = m) → (l.flatMap f).length = l.length * m
 | [], _ => by simp
 | x :: l, h => by
  simp only [List.flatMap_cons, List.length_append, h x (by simp), aF2 (l := l) fun y hy => h y (by simp [hy]), List.length_cons, Nat.succ_mul]
  omega
theorem cells_length {ek : EK} {d : D} (h : ek.ok d) : (ek.cells d).length = ek.len d * ek.width := by
 rw [kS, len_eq]
 exact aF2 fun x hx => yY ((iY ek d).1 h x hx)
theorem aF1 {α : Type} {f : α → List Value} {m : Nat} : ∀ {l : List α} {i : Nat} {x : α}, (∀ x ∈ l, (f x).length = m) → l[i]? = some x →
  l.flatMap f = (l.take i).flatMap f ++ (f x ++ (l.drop (i + 1)).flatMap f) ∧ ((l.take i).flatMap f).length = i * m
 | [], _, _, _, h => by simp at h
 | y :: l, 0, x, _, h => by simp at h; subst h; simp
 | y :: l, i + 1, x, hm, h => by
  obtain ⟨h1, h2⟩ := aF1 (l := l) (i := i) (fun z hz => hm z (by simp [hz])) (by simpa using h)
  refine ⟨?_, ?_⟩
  ·simp only [List.flatMap_cons, List.take_succ_cons, List.drop_succ_cons, List.append_assoc]
   rw [← h1]
  ·simp only [List.flatMap_cons, List.take_succ_cons, List.length_append, h2, hm y (by simp), Nat.succ_mul]
   omega
theorem bV0 (ek : EK) (L i : Tm) (ρ : LD) : ((aO ek (L.den ρ)).getD (i.den ρ).toI.toNat default) = match ek with
  | [.int _] => .I ((L.den ρ).aH.getD (i.den ρ).toI.toNat 0)
  | _ => (L.den ρ).toL.getD (i.den ρ).toI.toNat default := by
 rcases ek with _ | ⟨c, _ | ⟨c', cs⟩⟩
 ·rfl
 ·cases c with
  | int k =>
   simp only [aO, List.getD, List.getElem?_map]
   cases ((L.den ρ).aH)[(i.den ρ).toI.toNat]? <;> rfl
  | _ => rfl
 ·cases c <;> rfl
theorem wU {ρ : LD} {c : CK} {t : Tm} (h : c.ok (t.den ρ)) : aJ ρ [zQ c t] (c.cells (t.den ρ)) := by
 cases c with
 | int k => exact ⟨_, [], rfl, ⟨rfl, h⟩, rfl, rfl⟩
 | bool => exact ⟨_, [], rfl, rfl, rfl, rfl⟩
 | str => exact ⟨_, [], rfl, ⟨rfl, h⟩, rfl, rfl⟩
 | ints k n => exact ⟨[], by simp [Tm.den, O1.den, CK.cells], h.1, h.2, rfl⟩
 | sl ek => exact ⟨_, [], rfl, rfl, h.1.2, rfl⟩
theorem bZ5 (c : CK) (t : Tm) : ptW (zQ c t) = c.width := by cases c <;> rfl
theorem aW3 {ρ : LD} {row : Tm} : ∀ {cs : EK} {j : Nat}, fG cs ((row.den ρ).toL.drop j) → aJ ρ (xZ row j cs) (eU cs ((row.den ρ).toL.drop j))
 | [], j, h => by
  cases hd : (row.den ρ).toL.drop j with
  | nil => rfl
  | cons x xs => rw [hd] at h; exact h.elim
 | c :: cs, j, h => by
  cases hd : (row.den ρ).toL.drop j with
  | nil => rw [hd] at h; exact h.elim
  | cons x xs =>
   rw [hd] at h
   have hx : (row.den ρ).toL.getD j default = x := by
    have : (row.den ρ).toL[j]? = some x := by rw [← List.head?_drop, hd]; rfl
    simp [List.getD, this]
   have hxs : (row.den ρ).toL.drop (j + 1) = xs := by rw [← List.drop_drop, hd]; rfl
   have ht : (Tm.o2 .lget row (.int j)).den ρ = x := by simpa [Tm.den, O2.den] using hx
   simp only [xZ, eU]
   refine lC.2 ⟨c.cells x, eU cs xs, rfl, by rw [bZ5]; exact aO3 h.1, ?_, ?_⟩
   ·have := wU (ρ := ρ) (c := c) (t := .o2 .lget row (.int j)) (by rw [ht]; exact h.1)
    rwa [ht] at this
   ·rw [← hxs]; exact aW3 (by rw [hxs]; exact h.2)
theorem bC2 {ρ : LD} {ek : EK} {L i : Tm} (h : ek.ok (L.den ρ)) (h0 : 0 ≤ (i.den ρ).toI) (hi : (i.den ρ).toI < ek.len (L.den ρ)) :
  ∃ x, (aO ek (L.den ρ))[(i.den ρ).toI.toNat]? = some x ∧ wF ek x ∧ aJ ρ (aP4 ek L i) (jF ek x) := by
 rw [len_eq] at hi
 have hlt : (i.den ρ).toI.toNat < (aO ek (L.den ρ)).length := by omega
 obtain ⟨x, hx⟩ : ∃ x, (aO ek (L.den ρ))[(i.den ρ).toI.toNat]? = some x := ⟨_, List.getElem?_eq_getElem hlt⟩
 have hok := (iY ek _).1 h x (List.mem_of_getElem? hx)
 refine ⟨x, hx, hok, ?_⟩
 have hxg : (aO ek (L.den ρ)).getD (i.den ρ).toI.toNat default = x := by simp [List.getD, hx]
 have many : ∀ (hd : (L.den ρ).toL.getD (i.den ρ).toI.toNat default = x) (_ : fG ek x.toL), aJ ρ (xZ (.o1 .asL (.o2 .lget L i)) 0 ek) (eU ek x.toL) := by
  intro hd hc
  have ht : ((Tm.o1 .asL (.o2 .lget L i)).den ρ).toL = x.toL := by rw [← hd]; rfl
  have := aW3 (ρ := ρ) (row := .o1 .asL (.o2 .lget L i)) (cs := ek) (j := 0) (by simpa [ht] using hc)
  simpa [ht] using this
 rcases ek with _ | ⟨c, _ | ⟨c', cs⟩⟩
 ·exact many hxg hok
 ·cases c with
  | int k =>
   have hg := bV0 [.int k] L i ρ
   rw [hxg] at hg
   simp only at hg
   subst hg
   exact ⟨_, [], rfl, ⟨rfl, hok⟩, rfl, rfl⟩
  | bool =>
   have := wU (ρ := ρ) (c := .bool) (t := .o2 .lget L i) trivial
   rw [show (Tm.o2 .lget L i).den ρ = x from hxg] at this
   exact this
  | str =>
   have := wU (ρ := ρ) (c := .str) (t := .o2 .lget L i) (by rw [show (Tm.o2 .lget L i).den ρ = x from hxg]; exact hok)
   rw [show (Tm.o2 .lget L i).den ρ = x from hxg] at this
   exact this
  | ints k n =>
   have := wU (ρ := ρ) (c := .ints k n) (t := .o2 .lget L i) (by rw [show (Tm.o2 .lget L i).den ρ = x from hxg]; exact hok)
   rw [show (Tm.o2 .lget L i).den ρ = x from hxg] at this
   exact this
  | sl ek' =>
   have := wU (ρ := ρ) (c := .sl ek') (t := .o2 .lget L i) (by rw [show (Tm.o2 .lget L i).den ρ = x from hxg]; exact hok)
   rw [show (Tm.o2 .lget L i).den ρ = x from hxg] at this
   exact this
 ·cases c <;> exact many hxg hok
def tJ (ρ : LD) (hs : List Ch) : Prop := ∀ a own ek L, aZ a hs = some (own, ek, L) → ek.ok (L.den ρ)
theorem cH0 {ρ : LD} : tJ ρ [] := fun _ _ _ _ h => by cases h
theorem aA2 {ρ : LD} {hs : List Ch} (hsl : tJ ρ hs) {c : CK} {p : Pt} {t : Tm} {vs : List Value} (h : jI hs c p = some t) (hv : aJ ρ [p] vs) : vs = c.cells (t.den ρ) ∧ c.ok (t.den ρ) := by
 unfold jI at h
 split at h
 ·split at h
  ·rename_i hk; subst hk; cases h
   obtain ⟨v, r, rfl, ⟨rfl, hk⟩, _, hr⟩ := hv
   simp only [aJ] at hr; subst hr
   exact ⟨rfl, hk⟩
  ·cases h
 ·cases h
  obtain ⟨v, r, rfl, hh, _, hr⟩ := hv
  simp only [aJ] at hr; subst hr
  simp only [Lf.holds] at hh; subst hh
  exact ⟨rfl, trivial⟩
 ·cases h
  obtain ⟨v, r, rfl, ⟨rfl, hk⟩, _, hr⟩ := hv
  simp only [aJ] at hr; subst hr
  exact ⟨rfl, hk⟩
 ·split at h
  ·rename_i hk
   obtain ⟨rfl, rfl⟩ := hk
   cases h
   obtain ⟨r, rfl, h1, h2, hr⟩ := hv
   simp only [aJ] at hr; subst hr
   exact ⟨by simp [CK.cells, Tm.den, O1.den], h1, h2⟩
  ·cases h
 ·split at h
  ·rename_i hf
   split at h
   ·rename_i he
    subst he
    cases h
    obtain ⟨v, r, rfl, hh, h1, hr⟩ := hv
    simp only [aJ] at hr; subst hr
    simp only [Lf.holds] at hh; subst hh
    exact ⟨rfl, ⟨⟨_, _, rfl⟩, h1⟩, (aE1 _ _).2 (hsl _ _ _ _ hf)⟩
   ·cases h
  ·cases h
 ·cases h
theorem aB0 {ρ : LD} {hs : List Ch} (hsl : tJ ρ hs) : ∀ {cs : EK} {ps : List Pt} {t : Tm} {vs : List Value}, fP hs cs ps = some t → aJ ρ ps vs → vs = eU cs (t.den ρ).toL ∧ fG cs (t.den ρ).toL
 | [], [], t, vs, h, hv => by simp [fP] at h; subst h; simp only [aJ] at hv; subst hv; exact ⟨rfl, trivial⟩
 | c :: cs, p :: ps, t, vs, h, hv => by
  simp only [fP] at h
  split at h
  ·rename_i u r hu hr
   cases h
   obtain ⟨us, rs, rfl, _, hp, hv⟩ := lC.1 hv
   obtain ⟨e1, h1⟩ := aA2 hsl hu hp
   obtain ⟨e2, h2⟩ := aB0 hsl hr hv
   exact ⟨by rw [e1, e2]; rfl, h1, h2⟩
  ·cases h
 | [], _ :: _, _, _, h, _ => by simp [fP] at h
 | _ :: _, [], _, _, h, _ => by simp [fP] at h
def vC (ek : EK) (d : D) : D :=
 match ek with
 | [.int _] => .I d.toI
 | _ => d
theorem aP5 {ρ : LD} {hs : List Ch} (hsl : tJ ρ hs) {ek : EK} {ps : List Pt} {u : Tm} {vs : List Value} (h : kJ hs ek ps = some u) (hv : aJ ρ ps vs) :
  ∃ x, vs = jF ek x ∧ wF ek x ∧ x = vC ek (u.den ρ) := by
 rcases ek with _ | ⟨c, _ | ⟨c', cs⟩⟩
 ·obtain ⟨h1, h2⟩ := aB0 hsl (cs := []) (by simpa [kJ] using h) hv
  exact ⟨_, h1, h2, rfl⟩
 ·rcases ps with _ | ⟨p, _ | ⟨p', ps⟩⟩
  ·cases c <;> simp [kJ] at h
  ·cases c with
   | int k =>
    cases p with
    | lf l =>
     cases l <;> simp [kJ] at h
     obtain ⟨rfl, rfl⟩ := h
     obtain ⟨v, r, rfl, ⟨rfl, hk⟩, _, hr⟩ := hv
     simp only [aJ] at hr; subst hr
     exact ⟨.I (Tm.den ρ _).toI, rfl, hk, rfl⟩
    | ints k n L => simp [kJ] at h
   | bool => obtain ⟨e, h3⟩ := aA2 hsl (c := .bool) (by simpa [kJ] using h) hv; exact ⟨_, e, h3, rfl⟩
   | str => obtain ⟨e, h3⟩ := aA2 hsl (c := .str) (by simpa [kJ] using h) hv; exact ⟨_, e, h3, rfl⟩
   | ints k n => obtain ⟨e, h3⟩ := aA2 hsl (c := .ints k n) (by simpa [kJ] using h) hv; exact ⟨_, e, h3, rfl⟩
   | sl ek' => obtain ⟨e, h3⟩ := aA2 hsl (c := .sl ek') (by simpa [kJ] using h) hv; exact ⟨_, e, h3, rfl⟩
  ·cases c <;> simp [kJ] at h
 ·have h' : fP hs (c :: c' :: cs) ps = some u := by cases c <;> exact h
  obtain ⟨h1, h2⟩ := aB0 hsl (cs := c :: c' :: cs) h' hv
  exact ⟨u.den ρ, h1, h2, by cases c <;> rfl⟩
end Go.Vc
namespace Go.Vc
theorem Addr.add_plain (b o n : Nat) : (⟨b, o, none⟩ : Addr).add n = ⟨b, o + n, none⟩ := by
 unfold Addr.add
 split
 ·rename_i h; subst h; rfl
 ·rfl
theorem iM {P : Program} {t : TypeId} (h : P.cellsOf t ≠ 0) (w : World) : (sizeOf t).run P w = .ok (P.cellsOf t) w := by
 unfold Program.cellsOf at h ⊢
 cases hi : P.info? t with
 | none => rw [hi] at h; simp at h
 | some i => simp [sizeOf, typeInfo, hi]
section
variable {P : Program} {E : Env} {ρ : LD} {ret : SV → M} {vc : VC}
theorem aW8 (o : BinOp) (t : TypeId) (x y : Operand) (u v : Value) (w : World) (h1 : ∀ c, u ≠ .agg c) (h2 : u ≠ .nilIface) : (eqGuard o t x y u v).run P w = .ok () w := by
 unfold eqGuard
 cases o <;> first
  | rfl
  | (cases u <;> first | rfl | exact absurd rfl h2 | exact absurd rfl (h1 _))
theorem bM0 (d : Nat) {t el : TypeId} (q : Option Addr) (h : P.underlying t = some (.pointer el)) (w : World) : (Op.equalIn (d + 1) t (.pointer none) (.pointer q)).run P w = .ok q.isNone w := by
 simp [Op.equalIn, run_underlying h]
theorem cG2 (d : Nat) {t el : TypeId} (p : Addr) (h : P.underlying t = some (.pointer el)) (w : World) : (Op.equalIn (d + 1) t (.pointer (some p)) (.pointer none)).run P w = .ok false w := by
 simp [Op.equalIn, run_underlying h]
theorem nM {P : Program} {t : TypeId} {d : TypeDesc} (h : P.underlying t = some d) (w : World) : (isAgg t).run P w = .ok (gK P t) w := by
 unfold isAgg gK
 simp only [Sem.run_bind, run_underlying h, Result.andThen_ok, h]
 cases d <;> rfl
theorem cJ8 {P : Program} {t : TypeId} (h : gK P t = true) : ∃ d, P.underlying t = some d := by
 unfold gK at h
 cases hu : P.underlying t with
 | none => rw [hu] at h; cases h
 | some d => exact ⟨d, rfl⟩
theorem bK2 {P : Program} {ρ : LD} {t : TypeId} {cs : Array Value} {o : Nat} {ps qs : List Pt} {d : TypeDesc} (hu : P.underlying t = some d) (hc : P.cellsOf t ≠ 0) (ha : gK P t = true)
  (hq : rX o (P.cellsOf t) ps = some qs) (hv : aJ ρ ps cs.toList) : ∃ us : Array Value, aJ ρ qs us.toList ∧ ∀ w, (part t cs o).run P w = .ok (.agg us) w := by
 obtain ⟨pre, us, r, he, h0, h1, h2⟩ := aI4 hq hv
 have hx : cs.extract o (o + P.cellsOf t) = us.toArray := by
  apply Array.toList_inj.1
  rw [Array.toList_extract, he]
  simp [List.extract_eq_take_drop, h0, h1]
 exact ⟨us.toArray, by simpa using h2, fun w => by simp [part, nM hu, ha, iM hc, hx]⟩
theorem bK3 {P : Program} {ρ : LD} {t : TypeId} {cs : Array Value} {o : Nat} {ps : List Pt} {l : Lf} {d : TypeDesc} (hu : P.underlying t = some d) (ha : gK P t = false)
  (hl : qQ o ps = some l) (hv : aJ ρ ps cs.toList) : ∃ v, l.holds ρ v ∧ ∀ w, (part t cs o).run P w = .ok v w := by
 obtain ⟨v, h1, h2, _⟩ := aG7 hl hv
 have : cs[o]? = some v := by simpa using h1
 exact ⟨v, h2, fun w => by simp [part, nM hu, ha, this]⟩
theorem bQ8 {ρ : LD} (a b : Tm) : ((aM6 a b).den ρ).toB = ((a.den ρ).toB && (b.den ρ).toB) := by
 unfold aM6
 split
 ·rename_i h; subst h; simp [Tm.den]
 ·simp [Tm.den, O2.den]
theorem bV6 {P : Program} {ρ : LD} {t : TypeId} {a b : Lf} {e : Tm} {u v : Value} (h : aP8 P t a b = some e) (ha : a.holds ρ u) (hb : b.holds ρ v) (d : Nat) (w : World) :
  (Op.equalIn (d + 1) t u v).run P w = .ok (e.den ρ).toB w := by
 unfold aP8 at h
 split at h
 ·obtain ⟨rfl, _⟩ := ha
  obtain ⟨rfl, _⟩ := hb
  split at h
  ·rename_i hu
   split at h
   ·rename_i hk; subst hk; cases h
    exact run_equalIn_int w d t _ _ _ _ hu
   ·cases h
  ·cases h
 ·obtain ⟨rfl, _⟩ := ha
  obtain ⟨rfl, _⟩ := hb
  split at h
  ·rename_i hu
   cases h
   exact run_equalIn_string w d t _ _ hu
  ·cases h
 ·simp only [Lf.holds] at ha hb
  subst ha hb
  split at h
  ·rename_i hu
   cases h
   exact run_equalIn_bool' w d t _ _ hu
  ·cases h
 ·cases h
theorem bC6 {P : Program} {ρ : LD} {again : TypeId → List Pt → List Pt → Option Tm} {d : Nat} {xs ys : List Pt} {cs ds : Array Value} (hx : aJ ρ xs cs.toList) (hy : aJ ρ ys ds.toList)
  (IH : ∀ t xs ys (cs ds : Array Value) e, again t xs ys = some e → aJ ρ xs cs.toList → aJ ρ ys ds.toList → ∀ w, (Op.equalIn (d + 1) t (.agg cs) (.agg ds)).run P w = .ok (e.den ρ).toB w) :
  ∀ (fs : List Field) (e : Tm), yZ P again xs ys fs = some e → ∀ w, (Op.eqFields (d + 1) cs ds fs).run P w = .ok (e.den ρ).toB w
 | [], e, h, w => by
  simp only [yZ] at h
  cases h
  simp [Op.eqFields, Tm.den]
 | f :: fs, e, h, w => by
  simp only [yZ] at h
  split at h
  ·rename_i t r ht hr
   cases h
   have ih := bC6 hx hy IH fs r hr w
   rw [bQ8]
   unfold eqF at ht
   split at ht
   ·cases ht
   ·rename_i hn
    have hname : f.name ≠ "_" := fun h => hn (.inl h)
    have hcell : P.cellsOf f.type ≠ 0 := fun h => hn (.inr h)
    have step : ∃ u v, (∀ w, (part f.type cs f.offset).run P w = .ok u w) ∧ (∀ w, (part f.type ds f.offset).run P w = .ok v w) ∧ ∀ w, (Op.equalIn (d + 1) f.type u v).run P w = .ok (t.den ρ).toB w := by
     split at ht
     ·rename_i hagg
      obtain ⟨dd, hu⟩ := cJ8 hagg
      split at ht
      ·rename_i a b hqa hqb
       obtain ⟨us, g1, g2⟩ := bK2 hu hcell hagg hqa hx
       obtain ⟨vs, g3, g4⟩ := bK2 hu hcell hagg hqb hy
       exact ⟨_, _, g2, g4, IH _ _ _ _ _ _ ht g1 g3⟩
      ·cases ht
     ·rename_i hagg
      have hagg : gK P f.type = false := by simpa using hagg
      split at ht
      ·rename_i a b hqa hqb
       split at ht
       ·rename_i hs
        obtain ⟨dd, hu⟩ := Option.isSome_iff_exists.1 hs
        obtain ⟨u, g1, g2⟩ := bK3 hu hagg hqa hx
        obtain ⟨v, g3, g4⟩ := bK3 hu hagg hqb hy
        exact ⟨u, v, g2, g4, fun w => bV6 ht g1 g3 d w⟩
       ·cases ht
      ·cases ht
    obtain ⟨u, v, g1, g2, g3⟩ := step
    simp only [Op.eqFields, if_pos hname, Sem.run_bind, g1, g2, g3, Result.andThen_ok]
    cases (t.den ρ).toB
    ·simp
    ·simpa using ih
  ·cases h
theorem bC7 {P : Program} {e : TypeId} {k k2 : IntKind} (hu : P.underlying e = some (.int k2)) (hagg : gK P e = false) {L L' : LI} {cs ds : Array Value} (hc : cs.toList = L.map (Value.int k)) (hd : ds.toList = L'.map (Value.int k)) (d : Nat) :
  ∀ (is : List Nat), (∀ i ∈ is, i < L.length ∧ i < L'.length) → ∀ w, (Op.eqItems (d + 1) e 1 cs ds is).run P w = .ok (is.all fun i => L.getD i 0 == L'.getD i 0) w
 | [], _, w => by simp [Op.eqItems]
 | i :: is, h, w => by
  obtain ⟨h1, h2⟩ := h i (by simp)
  have ih := bC7 hu hagg hc hd d is (fun j hj => h j (by simp [hj])) w
  have g1 : cs[i]? = some (.int k (L.getD i 0)) := by
   rw [← Array.getElem?_toList, hc, List.getElem?_map, List.getElem?_eq_getElem h1]; simp [List.getD, h1]
  have g2 : ds[i]? = some (.int k (L'.getD i 0)) := by
   rw [← Array.getElem?_toList, hd, List.getElem?_map, List.getElem?_eq_getElem h2]; simp [List.getD, h2]
  have p1 : ∀ w, (part e cs (i * 1)).run P w = .ok (.int k (L.getD i 0)) w := fun w => by rw [Nat.mul_one]; simp [part, nM hu, hagg, g1]
  have p2 : ∀ w, (part e ds (i * 1)).run P w = .ok (.int k (L'.getD i 0)) w := fun w => by rw [Nat.mul_one]; simp [part, nM hu, hagg, g2]
  simp only [Op.eqItems, Sem.run_bind, p1, p2, run_equalIn_int _ d e k k2 _ _ hu, Result.andThen_ok, List.all_cons]
  cases (L.getD i 0 == L'.getD i 0)
  ·simp
  ·simpa using ih
theorem bQ7 {L L' : LI} {n : Nat} (h : L.length = n) (h' : L'.length = n) : ((List.range n).all fun i => L.getD i 0 == L'.getD i 0) = (L == L') := by
 rw [Bool.eq_iff_iff, List.all_eq_true, beq_iff_eq]
 constructor
 ·intro g
  apply List.ext_getElem (by omega)
  intro i h1 h2
  have := g i (by simp; omega)
  simpa [List.getD, h1, h2] using this
 ·rintro rfl i _
  simp
theorem bC8 {P : Program} {ρ : LD} : ∀ (f : Nat) (t : TypeId) (xs ys : List Pt) (cs ds : Array Value) (e : Tm), aE8 P f t xs ys = some e → aJ ρ xs cs.toList → aJ ρ ys ds.toList →
  ∀ d w, (Op.equalIn (d + f + 1) t (.agg cs) (.agg ds)).run P w = .ok (e.den ρ).toB w
 | 0, _, _, _, _, _, _, h, _, _, _, _ => by cases h
 | f + 1, t, xs, ys, cs, ds, e, h, hx, hy, d, w => by
  simp only [aE8] at h
  split at h
  ·rename_i fs hu
   split at h
   ·cases h
   ·rename_i hs
    have hs : P.stoodInHeld t = false := by simpa using hs
    have hf : P.fieldsOf t = fs := by simp [Program.fieldsOf, hu]
    rw [run_equalIn_struct w _ t cs ds (by rw [hf]; exact hu) hs, hf]
    exact bC6 hx hy (fun t xs ys cs ds e h1 h2 h3 w => bC8 f t xs ys cs ds e h1 h2 h3 d w) fs.toList e h w
  ·rename_i n el hu
   split at h
   ·rename_i k m L k' m' L'
    split at h
    ·rename_i hc
     obtain ⟨rfl, rfl, rfl, h1, h2⟩ := hc
     cases h
     obtain ⟨r, hr, l1, _, rfl⟩ := hx
     obtain ⟨r', hr', l2, _, rfl⟩ := hy
     rw [List.append_nil] at hr hr'
     obtain ⟨k2, hk2⟩ : ∃ k2, P.underlying el = some (.int k2) := by
      unfold bF5 at h2
      split at h2
      ·exact ⟨_, by assumption⟩
      ·cases h2
     have hagg : gK P el = false := by unfold gK; rw [hk2]
     obtain ⟨i, hi⟩ := info_of_underlying hk2
     rw [run_equalIn_array w _ cs ds hu hi, h1]
     have g := bC7 hk2 hagg hr hr' (d + f) (List.range m') (fun i hi => by have := List.mem_range.1 hi; omega) w
     rw [bQ7 l1 l2] at g
     exact g
    ·cases h
   ·cases h
  ·cases h
theorem bS3 {o : BinOp} {t : TypeId} {x y : SV} {u v : Value} (h : aN3 P t o x y ret = .ok vc) (hd : vc.den E ρ) (hx : x.holds ρ u) (hy : y.holds ρ v) (xo yo : Operand) :
  ∃ z, Met E ρ ret z ∧ ∀ w, (do eqGuard o t xo yo u v; binOp o t u v : Sem Value).run P w = .ok z w := by
 have key : (∃ z, Met E ρ ret z ∧ ∀ w, (binOp o t u v).run P w = .ok z w) → (∀ c, u ≠ .agg c) → u ≠ .nilIface →
   ∃ z, Met E ρ ret z ∧ ∀ w, (do eqGuard o t xo yo u v; binOp o t u v : Sem Value).run P w = .ok z w := by
  rintro ⟨z, h1, h2⟩ h3 h4
  exact ⟨z, h1, fun w => by simp [aW8 o t xo yo u v w h3 h4, h2]⟩
 unfold aN3 at h
 split at h
 ·obtain ⟨rfl, hk⟩ := hx
  obtain ⟨rfl, hk'⟩ := hy
  refine key ?_ (fun c e => by cases e) (fun e => by cases e)
  split at h
  ·rename_i ho; exact cG7 ho h hd hk hk' t
  ·split at h
   ·rename_i hkk; subst hkk; exact bR0 h hd hk t
   ·cases h
 ·obtain ⟨rfl, hk⟩ := hx
  obtain ⟨rfl, hk'⟩ := hy
  exact key (cH9 h hd t) (fun c e => by cases e) (fun e => by cases e)
 ·simp only [SV.holds, S0.holds, Lf.holds] at hx hy
  subst hx hy
  refine key ?_ (fun c e => by cases e) (fun e => by cases e)
  split at h
  ·rename_i hb
   have hb : P.underlying t = some .bool := by
    unfold bF4 at hb; split at hb
    ·assumption
    ·cases hb
   split at h
   ·exact ⟨_, Met.bool h hd rfl, fun w => run_eql_bool w t _ _ hb⟩
   ·exact ⟨_, Met.bool h hd rfl, fun w => run_neq_bool w t _ _ hb⟩
   ·cases h
  ·cases h
 ·split at h
  ·rename_i e he
   split at h
   ·rename_i hp
    obtain ⟨el, hp⟩ : ∃ el, P.underlying t = some (.pointer el) := by
     unfold bF6 at hp; split at hp
     ·exact ⟨_, by assumption⟩
     ·cases hp
    have hpp : ∃ p q : Option Addr, u = .pointer p ∧ v = .pointer q ∧ ∀ w, (Op.equal t u v).run P w = .ok e w := by
     unfold bI9 at he
     split at he
     ·cases he; simp only [SV.holds, S0.holds, Lf.holds] at hx hy; subst hx hy
      exact ⟨_, _, rfl, rfl, bM0 9999 _ hp⟩
     ·cases he; simp only [SV.holds, S0.holds, Lf.holds] at hx hy; subst hx hy
      exact ⟨_, _, rfl, rfl, bM0 9999 _ hp⟩
     ·cases he; simp only [SV.holds, S0.holds, Lf.holds] at hx hy; subst hx hy
      exact ⟨_, _, rfl, rfl, cG2 9999 _ hp⟩
     ·cases he
    obtain ⟨p, q, rfl, rfl, hrun⟩ := hpp
    refine key ?_ (fun c e => by cases e) (fun e => by cases e)
    split at h
    ·exact ⟨_, Met.bool h hd rfl, fun w => by simp [binOp, hrun, Tm.den]⟩
    ·exact ⟨_, Met.bool h hd rfl, fun w => by simp [binOp, hrun, Tm.den]⟩
    ·cases h
   ·cases h
  ·cases h
 ·obtain ⟨cs, rfl, hcs⟩ := hx
  obtain ⟨ds, rfl, hds⟩ := hy
  split at h
  ·cases h
  ·rename_i hg
   have hg : P.eqGuardType P.depth t = false := by simpa using hg
   split at h
   ·rename_i e he
    have hrun := fun w => bC8 4 t _ _ cs ds e he hcs hds 9995 w
    split at h
    ·refine ⟨_, Met.bool h hd rfl, fun w => ?_⟩
     simp only [Sem.run_bind, run_eqGuard_agg w _ t xo yo cs ds hg, Result.andThen_ok, run_eql_struct, hrun]
    ·refine ⟨_, Met.bool h hd rfl, fun w => ?_⟩
     simp only [Sem.run_bind, run_eqGuard_agg w _ t xo yo cs ds hg, Result.andThen_ok, run_neq_struct, hrun]
     rfl
    ·cases h
   ·cases h
 ·cases h
theorem cJ7 {o : UnOp} {x : SV} {u : Value} (h : unS o x ret = .ok vc) (hd : vc.den E ρ) (hx : x.holds ρ u) :
  ∃ z, Met E ρ ret z ∧ ∀ w, (Op.unary o u).run P w = .ok z w := by
 unfold unS at h
 split at h
 ·obtain ⟨rfl, hk⟩ := hx
  exact ⟨_, Met.int h hd rfl (qO _ _), fun w => rfl⟩
 ·obtain ⟨rfl, hk⟩ := hx
  rename_i k a
  exact ⟨.int k (Go.bits .xor k (if k.signed then -1 else k.max) (a.den ρ).toI), Met.int (n := Go.bits .xor k (if k.signed then -1 else k.max) (a.den ρ).toI) h hd rfl (zL .xor k _ _), fun w => rfl⟩
 ·simp only [SV.holds, S0.holds, Lf.holds] at hx; subst hx
  exact ⟨_, Met.bool h hd rfl, fun w => rfl⟩
 ·cases h
theorem bW4 {cx : Cx} {s : TypeId} {x : SV} {f : Nat} {u : Value} (h : aQ0 cx s x f ret = .ok vc) (hd : vc.den E ρ) (hx : x.holds ρ u) :
  ∃ z, Met E ρ ret z ∧ ∀ w, (Instr.fieldAt s u f).run cx.P w = .ok z w := by
 unfold aQ0 at h
 split at h
 ·rename_i fs hs
  split at h
  ·rename_i fd hf
   split at h
   ·cases h
   ·rename_i hc
    split at h
    ·simp only [SV.holds, S0.holds, Lf.holds] at hx; subst hx
     exact ⟨_, ⟨_, vc, h, hd, rfl⟩, fun w => by simp [Instr.fieldAt, run_underlying hs, hf, Instr.sureAddr, fieldPlace, iM hc, hc, Addr.add_plain]⟩
    ·obtain ⟨ad, n, c, ha, h1, h2, h3, rfl⟩ := hx
     refine ⟨_, ⟨_, vc, h, hd, ad, n, c, ha, h1, h2, h3, rfl⟩, fun w => by simp [Instr.fieldAt, run_underlying hs, hf, Instr.sureAddr, fieldPlace, iM hc, hc, Addr.add_plain]; omega⟩
    ·cases h
  ·cases h
 ·cases h
theorem bW2 {P : Program} {xs : List S0} {i : Nat} {x : S0} {u : Value} (h : xs[i]? = some x) (hx : (SV.tup xs).holds ρ u) :
  ∃ z, x.holds ρ z ∧ ∀ w, (Instr.extract u i).run P w = .ok z w := by
 obtain ⟨vs, rfl, hv⟩ := hx
 have get : ∀ {xs : List S0} {vs : List Value} {i : Nat}, kP ρ xs vs → xs[i]? = some x → ∃ v, vs[i]? = some v ∧ x.holds ρ v := by
  intro xs
  induction xs with
  | nil => intro vs i _ h; simp at h
  | cons y ys ih =>
   intro vs i hv h
   obtain ⟨v, r, rfl, h1, h2⟩ := hv
   cases i with
   | zero => simp at h; subst h; exact ⟨v, rfl, h1⟩
   | succ i => obtain ⟨u, hu, hh⟩ := ih h2 (by simpa using h); exact ⟨u, by simpa using hu, hh⟩
 obtain ⟨v, hv', hh⟩ := get hv h
 have : vs[i]? = some v := by simpa using hv'
 exact ⟨v, hh, fun w => by simp [Instr.extract, this]⟩
theorem cE2 {P : Program} {t : TypeId} {cs : Array Value} {o : Nat} {ps : List Pt} {d : TypeDesc} (hu : P.underlying t = some d) (hc : P.cellsOf t ≠ 0)
  (h : pF (gK P t) (P.cellsOf t) o ps ret = .ok vc) (hd : vc.den E ρ) (hv : aJ ρ ps cs.toList) :
  ∃ z, Met E ρ ret z ∧ ∀ w, (part t cs o).run P w = .ok z w := by
 unfold pF at h
 cases ha : gK P t with
 | true =>
  simp only [ha, if_true] at h
  split at h
  ·rename_i qs hq
   obtain ⟨pre, us, r, he, h0, h1, h2⟩ := aI4 hq hv
   have hx : cs.extract o (o + P.cellsOf t) = us.toArray := by
    apply Array.toList_inj.1
    rw [Array.toList_extract, he]
    simp [List.extract_eq_take_drop, h0, h1]
   refine ⟨.agg us.toArray, ⟨_, vc, h, hd, _, rfl, by simpa using h2⟩, fun w => ?_⟩
   simp [part, nM hu, ha, iM hc, hx]
  ·cases h
 | false =>
  simp only [ha, Bool.false_eq_true, if_false] at h
  split at h
  ·rename_i l hl
   obtain ⟨v, h1, h2, _⟩ := aG7 hl hv
   have : cs[o]? = some v := by simpa using h1
   exact ⟨v, ⟨_, vc, h, hd, h2⟩, fun w => by simp [part, nM hu, ha, this]⟩
  ·cases h
end
end Go.Vc
namespace Go.Vc
theorem cell?_block {w : World} {b : Nat} {cs : Array Value} {e : TypeId} {fz : Nat × Nat} (h : w.heap[b]? = some (.cells cs e fz)) (j : Nat) : w.cell? ⟨b, j, none⟩ = cs[j]? := by
 simp [World.cell?, h]
theorem Addr.tK {ad : Addr} (h : ad.spot = none) (n : Nat) : ad.add n = ⟨ad.block, ad.off + n, none⟩ := by
 unfold Addr.add
 split
 ·rename_i hn; subst hn; cases ad; simp only at h; subst h; rfl
 ·rfl
theorem List.getElem?_mid {α : Type} {pre us r : List α} (j : Nat) (hj : j < us.length) : (pre ++ (us ++ r))[pre.length + j]? = us[j]? := by
 rw [List.getElem?_append_right (by omega), List.getElem?_append_left (by omega)]
 congr 1; omega
structure Same (w w' : World) : Prop where
 size : w.heap.size ≤ w'.heap.size
 block : ∀ b, b < w.heap.size → w'.heap[b]? = w.heap[b]?
theorem Same.refl (w : World) : Same w w := ⟨Nat.le_refl _, fun _ _ => rfl⟩
theorem Same.trans {w w' w'' : World} (h : Same w w') (h' : Same w' w'') : Same w w'' :=
 ⟨Nat.le_trans h.size h'.size, fun b hb => (h'.block b (Nat.lt_of_lt_of_le hb h.size)).trans (h.block b hb)⟩
theorem Same.cell {w w' : World} (h : Same w w') {ad : Addr} {v : Value} (hc : w.cell? ad = some v) : w'.cell? ad = some v := by
 have hb : ad.block < w.heap.size := by
  refine Nat.lt_of_not_le fun hn => ?_
  simp [World.cell?, Array.getElem?_eq_none hn] at hc
 rw [← hc]
 simp only [World.cell?, h.block _ hb]
section
variable {P : Program} {E : Env} {ρ : LD} {ret : SV → M} {vc : VC}
theorem zT {t : TypeId} {d : TypeDesc} {o : Nat} {ps : List Pt} {vs : List Value} {w : World} {b off : Nat} (hu : P.underlying t = some d) (hc : P.cellsOf t ≠ 0)
  (h : pF (gK P t) (P.cellsOf t) o ps ret = .ok vc) (hd : vc.den E ρ) (hv : aJ ρ ps vs) (hcell : ∀ j u, vs[j]? = some u → w.cell? ⟨b, off + j, none⟩ = some u) :
  ∃ z, Met E ρ ret z ∧ ∀ w', Same w w' → (Instr.loadAt t (.pointer (some ⟨b, off + o, none⟩))).run P w' = .ok z w' := by
 unfold pF at h
 cases ha : gK P t with
 | true =>
  simp only [ha, if_true] at h
  split at h
  ·rename_i qs hq
   obtain ⟨pre, us, r, he, h0, h1, h2⟩ := aI4 hq hv
   refine ⟨.agg us.toArray, ⟨_, vc, h, hd, _, rfl, by simpa using h2⟩, fun w' hs => ?_⟩
   have hl := run_loadCells_list (P := P) (w := w') ⟨b, off + o, none⟩ us (fun j u hu => by
    rw [Addr.add_plain]
    have := hs.cell (hcell (o + j) u (by rw [he, ← h0, List.getElem?_mid j (List.getElem?_eq_some_iff.1 hu).1]; exact hu))
    rw [← this]; congr 2; omega)
   rw [h1] at hl
   simp [Instr.loadAt, Instr.sureAddr, loadVar, nM hu, ha, iM hc, hl]
  ·cases h
 | false =>
  simp only [ha, Bool.false_eq_true, if_false] at h
  split at h
  ·rename_i l hl
   obtain ⟨v, h1, h2, _⟩ := aG7 hl hv
   exact ⟨v, ⟨_, vc, h, hd, h2⟩, fun w' hs => by simp [Instr.loadAt, Instr.sureAddr, loadVar, nM hu, ha, hs.cell (hcell o v h1)]⟩
  ·cases h
theorem aQ3 {g : Nat} : ∀ {G : List Glob} {gl : Glob}, uD g G = some gl → gl ∈ G ∧ gl.g = g
 | [], _, h => by simp [uD] at h
 | x :: xs, gl, h => by
  simp only [uD] at h
  split at h
  ·rename_i hx; cases h; exact ⟨by simp, hx⟩
  ·obtain ⟨h1, h2⟩ := aQ3 h; exact ⟨by simp [h1], h2⟩
theorem bX0 {gl : Glob} {w : World} (h : gl.holds w) : aJ ρ [.ints gl.k gl.l.length (.lis gl.l)] (gl.l.map (Value.int gl.k)) ∧
  ∀ j u, (gl.l.map (Value.int gl.k))[j]? = some u → w.cell? ⟨gl.g, 0 + j, none⟩ = some u := by
 obtain ⟨⟨e, fz, hg⟩, hh⟩ := h
 refine ⟨⟨[], by simp [Tm.den], rfl, hh, rfl⟩, fun j u hu => ?_⟩
 rw [cell?_block hg]
 simpa using hu
theorem lY {hs : List Ch} {w : World} {a : Tm} {own : Bool} {ek : EK} {L : Tm} (hh : aN ρ hs w) (hf : aZ a hs = some (own, ek, L)) :
  fA w (a.den ρ).toV ek.width (ek.len (L.den ρ)) (ek.cells (L.den ρ)) ∧ ek.ok (L.den ρ) := by
 obtain ⟨l1, l2, rfl, _⟩ := nI hf
 have := hh.holds (sQ own a ek L) (by simp)
 cases own with
 | true => exact ⟨this.1.rd, this.2⟩
 | false => exact this
theorem aX1 {hs : List Ch} {w : World} {a : Tm} {ek : EK} {L : Tm} (hh : aN ρ hs w) (hf : aZ a hs = some (true, ek, L)) :
  fE w (a.den ρ).toV ek.width (ek.len (L.den ρ)) (ek.cells (L.den ρ)) ∧ ek.ok (L.den ρ) := by
 obtain ⟨l1, l2, rfl, _⟩ := nI hf
 exact hh.holds (.osl a ek L) (by simp [sQ])
theorem rF {hs : List Ch} {w : World} {b : Tm} {ps : List Pt} (hh : aN ρ hs w) (hf : iG b hs = some ps) : (Ch.box b ps).holds ρ w := by
 obtain ⟨l1, l2, rfl, _⟩ := wJ hf
 exact hh.holds (.box b ps) (by simp)
variable {cx : Cx} {G : List Glob} {w0 : World} {D0 R0 : List Nat} {S : St} {a : Act} {w : World}
theorem aV2 {t : Tm} {k : M} {vc : VC} {ρ : LD} (h : obl t k = .ok vc) (hd : vc.den E ρ) : (t.den ρ).toB = true ∧ (∃ v, k = .ok v ∧ v.den E ρ) := by
 unfold obl at h
 split at h
 ·cases h; exact ⟨hd.1, _, rfl, hd.2 hd.1⟩
 ·cases h
theorem wI : ∀ {hs : List Ch} {m : Tm} {kd : Kd} {ek : EK} {L : Tm} {ts : List Tm}, oV hs = some (m, kd, ek, L, ts) →
  .abs kd (m :: L :: ts) ∈ hs ∧ ∃ K, (kd = .mpp K ek ∧ ts = []) ∨ (kd = .mppi K ek ∧ ts.length = 2)
 | [], _, _, _, _, _, h => by cases h
 | c :: hs, m, kd, ek, L, ts, h => by
  unfold oV at h
  split at h
  ·cases h
  ·rename_i heq
   cases heq
   split at h
   ·rename_i hts
    cases h
    exact ⟨by simp, _, .inl ⟨rfl, hts⟩⟩
   ·obtain ⟨h1, h2⟩ := wI h; exact ⟨by simp [h1], h2⟩
  ·rename_i heq
   cases heq
   split at h
   ·rename_i hts
    cases h
    exact ⟨by simp, _, .inr ⟨rfl, hts⟩⟩
   ·obtain ⟨h1, h2⟩ := wI h; exact ⟨by simp [h1], h2⟩
  ·rename_i heq
   cases heq
   obtain ⟨h1, h2⟩ := wI h; exact ⟨by simp [h1], h2⟩
theorem bQ4 {L : LD} {n : Nat} : qF L n = true ↔ n ∈ aY L := by
 simp [qF, aY]
theorem aZ0 {L : LD} {n : Nat} (h : qF L n = true) : lZ L n ∈ L ∧ (lZ L n).snd.toN = n := by
 unfold lZ
 cases hf : L.find? (fun r => r.snd.toN == n) with
 | none =>
  simp only [qF, List.any_eq_true] at h
  obtain ⟨r, hr, hn⟩ := h
  have := List.find?_eq_none.1 hf r hr
  exact absurd hn this
 | some r =>
  exact ⟨List.mem_of_find?_eq_some hf, by simpa using List.find?_some hf⟩
theorem aW5 {K : CK} {ek : EK} : ∀ {es : List MapEntry} {L : LD}, lD w K ek es L → ∀ {r : D}, r ∈ L →
  ∃ e ∈ es, K.cells r.key = [e.key] ∧ K.isWord r.key ∧ e.val = .pointer (some ⟨r.snd.toN, 0, none⟩) ∧ r = .L (r.key :: .N r.snd.toN :: r.toL.drop 2) ∧ fG ek (r.toL.drop 2) ∧
   ∃ cs t fz, w.heap[r.snd.toN]? = some (.cells cs t fz) ∧ gV fz cs.size ∧ cs.toList = eU ek (r.toL.drop 2)
 | [], [], _, r, hr => by cases hr
 | [], _ :: _, h, _, _ => h.elim
 | _ :: _, [], h, _, _ => h.elim
 | e :: es, x :: L, h, r, hr => by
  rcases List.mem_cons.1 hr with rfl | hr
  ·exact ⟨e, by simp, h.1⟩
  ·obtain ⟨e', he, h'⟩ := aW5 h.2 hr
   exact ⟨e', by simp [he], h'⟩
theorem bY4 {ρ : LD} {kd : Kd} {m L : Tm} {ts : List Tm} {K : CK} {ek : EK} (hk : (kd = .mpp K ek ∧ ts = []) ∨ (kd = .mppi K ek ∧ ts.length = 2)) (h : (Ch.abs kd (m :: L :: ts)).holds ρ w) :
  ∃ es clock, dR w (m.den ρ).toN es clock ∧ lD w K ek es (L.den ρ).toL := by
 rcases hk with ⟨rfl, rfl⟩ | ⟨rfl, _⟩
 ·obtain ⟨es, clock, h1, h2, _⟩ := h; exact ⟨es, clock, h1, h2⟩
 ·obtain ⟨es, clock, h1, h2, _⟩ := h; exact ⟨es, clock, h1, h2⟩
theorem aZ2 {ρ : LD} {hs : List Ch} {m : Tm} {kd : Kd} {ek : EK} {L : Tm} {ts : List Tm} {b : Tm} (hh : aN ρ hs w) (hf : oV hs = some (m, kd, ek, L, ts)) (hb : qF (L.den ρ).toL (b.den ρ).toN = true) :
  ∃ cs t fz, w.heap[(b.den ρ).toN]? = some (.cells cs t fz) ∧ gV fz cs.size ∧ aJ ρ (aM4 ek L b) cs.toList := by
 obtain ⟨h1, K, h2⟩ := wI hf
 obtain ⟨es, clock, _, h3⟩ := bY4 h2 (hh.holds _ h1)
 obtain ⟨g1, g2⟩ := aZ0 hb
 obtain ⟨e, he, k1, k2, k3, k4, k5, cs, t, fz, k6, k7, k8⟩ := aW5 h3 g1
 rw [g2] at k6
 refine ⟨cs, t, fz, k6, k7, ?_⟩
 have hr : ((Tm.o1 .asL (qG L b)).den ρ).toL = (lZ (L.den ρ).toL (b.den ρ).toN).toL := rfl
 have := aW3 (ρ := ρ) (row := .o1 .asL (qG L b)) (cs := ek) (j := 2) (by rw [hr]; exact k5)
 rw [hr, ← k8] at this
 exact this
theorem bN7 {t : TypeId} {d : TypeDesc} {o : Nat} {ps : List Pt} {vs : List Value} {w : World} {b : Nat} {i : Tm} (hu : P.underlying t = some d) (hc : P.cellsOf t ≠ 0) (ha : gK P t = false)
  (hv : aJ ρ ps vs) (hcell : ∀ j u, vs[j]? = some u → w.cell? ⟨b, j, none⟩ = some u) (h0 : 0 ≤ (i.den ρ).toI) :
  ∀ {n j : Nat} {vc : VC}, aK6 (P.cellsOf t) ps ret i o n j = .ok vc → vc.den E ρ → j ≤ (i.den ρ).toI.toNat → (i.den ρ).toI.toNat < j + n →
   ∃ z, Met E ρ ret z ∧ ∀ w', Same w w' → (Instr.loadAt t (.pointer (some ⟨b, o + (i.den ρ).toI.toNat, none⟩))).run P w' = .ok z w'
 | 0, j, vc, _, _, h1, h2 => by omega
 | n + 1, j, vc, h, hd, h1, h2 => by
  rw [aK6] at h
  split at h
  ·rename_i x y hx hy
   cases h
   by_cases he : (i.den ρ).toI.toNat = j
   ·obtain ⟨v, h3, h4⟩ := iH hx hd.1 (by simp [Tm.den, O2.den]; omega)
    rw [← ha] at h3
    obtain ⟨z, hz, hrun⟩ := zT (b := b) (off := 0) (w := w) hu hc h3 h4 hv (fun j v hj => by rw [Nat.zero_add]; exact hcell j v hj)
    refine ⟨z, hz, fun w' hs => ?_⟩
    rw [he]
    simpa using hrun w' hs
   ·exact bN7 hu hc ha hv hcell h0 hy hd.2 (by omega) (by omega)
  ·cases h
  ·cases h
theorem bI1 {t : TypeId} {x : SV} {u : Value} (hG : cx.G = G) (hr : Rel G w0 D0 R0 ρ S a w) (h : zV cx S t x ret = .ok vc) (hd : vc.den E ρ) (hx : x.holds ρ u) :
  ∃ z, Met E ρ ret z ∧ ∀ w', Same w w' → (Instr.loadAt t u).run cx.P w' = .ok z w' := by
 unfold zV at h
 simp only at h
 split at h
 ·cases h
 rename_i hne
 simp only [Bool.or_eq_true, Option.isNone_iff_eq_none, beq_iff_eq, not_or] at hne
 obtain ⟨d, hu⟩ := Option.ne_none_iff_exists'.1 hne.1
 have hc := hne.2
 split at h
 ·-- a place
  rename_i b o
  simp only [SV.holds, S0.holds, Lf.holds] at hx
  split at h
  ·rename_i g
   split at h
   ·rename_i gl hgl
    obtain ⟨hm, rfl⟩ := aQ3 hgl
    rw [hG] at hm
    obtain ⟨h1, h2⟩ := bX0 (ρ := ρ) (hr.globs gl hm).1
    obtain ⟨z, hz, hrun⟩ := zT hu hc h hd h1 h2
    refine ⟨z, hz, fun w' hs => ?_⟩
    subst hx
    simpa [Tm.den] using hrun w' hs
   ·cases h
  ·split at h
   ·rename_i ps hps
    obtain ⟨cs, e, fz, hg, hfz, hv⟩ := rF hr.heap hps
    obtain ⟨z, hz, hrun⟩ := zT (b := (b.den ρ).toN) (off := 0) (w := w) hu hc h hd hv (fun j v hj => by rw [cell?_block hg]; simpa using hj)
    refine ⟨z, hz, fun w' hs => ?_⟩
    subst hx
    simpa using hrun w' hs
   ·split at h
    ·rename_i hfa
     obtain ⟨hb, vc', h, hd⟩ := aV2 h hd
     obtain ⟨cs, e, fz, hg, hfz, hv⟩ := aZ2 hr.heap hfa hb
     obtain ⟨z, hz, hrun⟩ := zT (b := (b.den ρ).toN) (off := 0) (w := w) hu hc h hd hv (fun j v hj => by rw [cell?_block hg]; simpa using hj)
     refine ⟨z, hz, fun w' hs => ?_⟩
     subst hx
     simpa using hrun w' hs
    ·cases h
 ·-- an element of numbers
  rename_i b o i n
  obtain ⟨rfl, h0, hi⟩ := hx
  split at h
  ·cases h
  ·rename_i ha
   have ha : gK cx.P t = false := by simpa using ha
   split at h
   ·rename_i g
    split at h
    ·rename_i gl hgl
     obtain ⟨hm, rfl⟩ := aQ3 hgl
     rw [hG] at hm
     split at h
     ·rename_i hon
      obtain ⟨rfl, rfl⟩ := hon
      obtain ⟨⟨e, fz, hg⟩, hh⟩ := (hr.globs gl hm).1
      have hlt : (i.den ρ).toI.toNat < gl.l.length := by omega
      refine ⟨.int gl.k (gl.l.getD (i.den ρ).toI.toNat 0), ⟨_, vc, h, hd, by simp [Tm.den, O2.den], by simp only [Tm.den, O2.den, D.toI_I, D.toLi_Z]; exact aF7 hh _⟩, fun w' hs => ?_⟩
      have : w.cell? ⟨gl.g, (i.den ρ).toI.toNat, none⟩ = some (.int gl.k (gl.l.getD (i.den ρ).toI.toNat 0)) := by
       rw [cell?_block hg]; simp [List.getD, hlt]
      simp [Instr.loadAt, Instr.sureAddr, loadVar, nM hu, ha, Tm.den, hs.cell this]
     ·cases h
    ·cases h
   ·split at h
    ·rename_i ps hps
     split at h
     ·rename_i k L hL
      obtain ⟨cs, e, fz, hg, hfz, hv⟩ := rF hr.heap hps
      obtain ⟨pre, r, he, hp0, hp1, hp2, _⟩ := zN hL hv
      have hlt : (i.den ρ).toI.toNat < (L.den ρ).aH.length := by omega
      refine ⟨.int k ((L.den ρ).aH.getD (i.den ρ).toI.toNat 0), ⟨_, vc, h, hd, by simp [Tm.den, O2.den], by simp only [Tm.den, O2.den, D.toI_I]; exact aF7 hp2 _⟩, fun w' hs => ?_⟩
      have : w.cell? ⟨(b.den ρ).toN, o + (i.den ρ).toI.toNat, none⟩ = some (.int k ((L.den ρ).aH.getD (i.den ρ).toI.toNat 0)) := by
       rw [cell?_block hg, ← Array.getElem?_toList, he, ← hp0, List.getElem?_mid _ (by simpa using hlt)]
       simp [List.getD, hlt]
      simp [Instr.loadAt, Instr.sureAddr, loadVar, nM hu, ha, hs.cell this]
     ·obtain ⟨cs, e, fz, hg, hfz, hv⟩ := rF hr.heap hps
      exact bN7 hu hc ha hv (fun j v hj => by rw [cell?_block hg]; simpa using hj) h0 h hd (Nat.zero_le _) (by omega)
    ·cases h
 ·-- an element of a slice
  rename_i ta i es o
  obtain ⟨ad, n, c, hva, hsp, h0, hi, rfl⟩ := hx
  split at h
  ·rename_i own ek L hf
   split at h
   ·rename_i hes
    subst hes
    obtain ⟨hrd, hok⟩ := lY hr.heap hf
    rw [hva] at hrd
    rcases hrd with ⟨hbad, _⟩ | ⟨ad', cap, he, hz, _⟩ | ⟨ad', cap, he, h1, h2, h3, h4, h5, h6⟩
    ·cases hbad
    ·injection he with _ he
     omega
    ·cases he
     obtain ⟨x, hx, hxo, hxp⟩ := bC2 hok h0 hi
     obtain ⟨e1, e2⟩ := aF1 (f := jF ek) (fun y hy => yY ((iY ek _).1 hok y hy)) hx
     rw [← kS] at e1
     obtain ⟨z, hz, hrun⟩ := zT (b := ad.block) (off := ad.off + (i.den ρ).toI.toNat * ek.width) (w := w) hu hc h hd hxp (fun j v hj => by
      have := h6 ((i.den ρ).toI.toNat * ek.width + j) v (by rw [e1, ← e2, List.getElem?_mid j (List.getElem?_eq_some_iff.1 hj).1]; exact hj)
      rw [Addr.tK h1] at this
      rw [← this]; congr 2; omega)
     refine ⟨z, hz, fun w' hs => ?_⟩
     rw [← hrun w' hs]; congr 5; omega
   ·cases h
  ·cases h
 ·cases h
theorem bI0 {t : TypeId} {x : SV} {u : Value} (hG : cx.G = G) (hr : Rel G w0 D0 R0 ρ S a w) (h : zV cx S t x ret = .ok vc) (hd : vc.den E ρ) (hx : x.holds ρ u) :
  ∃ z, Met E ρ ret z ∧ (Instr.loadAt t u).run cx.P w = .ok z w := by
 obtain ⟨z, h1, h2⟩ := bI1 hG hr h hd hx
 exact ⟨z, h1, h2 w (Same.refl w)⟩
end
def putCells (w : World) (b : Nat) (cs : Array Value) (e : TypeId) (fz : Nat × Nat) : World := { w with heap := w.heap.setIfInBounds b (.cells cs e fz) }
theorem xO {w : World} {b : Nat} {cs : Array Value} {e : TypeId} {fz : Nat × Nat} (h : b < w.heap.size) : (putCells w b cs e fz).heap[b]? = some (.cells cs e fz) := by
 simp [putCells, h]
theorem sF {w : World} {b k : Nat} {cs : Array Value} {e : TypeId} {fz : Nat × Nat} (h : k ≠ b) : (putCells w b cs e fz).heap[k]? = w.heap[k]? := by
 simp only [putCells]
 rw [Array.getElem?_setIfInBounds_ne (by omega)]
theorem xP {w : World} {b : Nat} {cs : Array Value} {e : TypeId} {fz : Nat × Nat} : (putCells w b cs e fz).heap.size = w.heap.size := by simp [putCells]
theorem cE5 {w : World} {b : Nat} {cs cs' : Array Value} {e e' : TypeId} {fz fz' : Nat × Nat} : putCells (putCells w b cs e fz) b cs' e' fz' = putCells w b cs' e' fz' := by
 simp only [putCells]
 congr 1
 exact Array.setIfInBounds_setIfInBounds _
theorem cE4 {w : World} {b : Nat} {cs : Array Value} {e : TypeId} {fz : Nat × Nat} (h : w.heap[b]? = some (.cells cs e fz)) : putCells w b cs e fz = w := by
 have : w.heap.setIfInBounds b (.cells cs e fz) = w.heap := by
  apply Array.ext_getElem?
  intro i
  by_cases hi : i = b
  ·subst hi
   rw [h]
   have := (Array.getElem?_eq_some_iff.1 h).1
   simp [this]
  ·rw [Array.getElem?_setIfInBounds_ne (by omega)]
 simp only [putCells, this]
theorem cG6 {w : World} {b o : Nat} {cs : Array Value} {e : TypeId} {fz : Nat × Nat} (h : w.heap[b]? = some (.cells cs e fz)) (v : Value) :
  w.setCell ⟨b, o, none⟩ v = putCells w b (cs.setIfInBounds o v) e fz := by
 have : w.heap.modify b (fun x => match x with
   | .cells c elem frozen => .cells (c.setIfInBounds o v) elem frozen
   | o => o) = w.heap.setIfInBounds b (.cells (cs.setIfInBounds o v) e fz) := by
  apply Array.ext_getElem?
  intro i
  rw [Array.getElem?_modify]
  by_cases hi : b = i
  ·subst hi
   rw [h]
   have := (Array.getElem?_eq_some_iff.1 h).1
   simp [this]
  ·rw [if_neg hi, Array.getElem?_setIfInBounds_ne hi]
 simp only [World.setCell, putCells]
 congr 1
def jB (cs : Array Value) (o : Nat) : List Value → Array Value
 | [] => cs
 | v :: vs => jB (cs.setIfInBounds o v) (o + 1) vs
theorem pY : ∀ (vs : List Value) (cs : Array Value) (o : Nat), (jB cs o vs).size = cs.size
 | [], _, _ => rfl
 | v :: vs, cs, o => by simp [jB, pY vs]
theorem tH : ∀ {vs old pre r : List Value} {cs : Array Value}, cs.toList = pre ++ (old ++ r) → old.length = vs.length →
  (jB cs pre.length vs).toList = pre ++ (vs ++ r)
 | [], old, pre, r, cs, h, hl => by
  have : old = [] := List.eq_nil_of_length_eq_zero hl
  subst this; simpa [jB] using h
 | v :: vs, [], pre, r, cs, h, hl => by simp at hl
 | v :: vs, u :: old, pre, r, cs, h, hl => by
  have := tH (vs := vs) (old := old) (pre := pre ++ [v]) (r := r) (cs := cs.setIfInBounds pre.length v) (by
   rw [Array.toList_setIfInBounds, h]
   simp) (by simpa using hl)
  simp only [jB]
  simpa using this
theorem gV.le {fz : Nat × Nat} {n m : Nat} (h : gV fz n) (hm : m ≤ n) : gV fz m := fun j hj => h j (by omega)
theorem gV.pred {fz : Nat × Nat} {n k : Nat} (h : gV fz (n + k)) : gV fz n := h.le (Nat.le_add_right n k)
theorem bM2 {P : Program} {w : World} {b o : Nat} {cs : Array Value} {e : TypeId} {fz : Nat × Nat} {v : Value} (h : w.heap[b]? = some (.cells cs e fz)) (hfz : gV fz cs.size) (ho : o < cs.size) (h1 : one v) :
  (store ⟨b, o, none⟩ v).run P w = .ok () (putCells w b (cs.setIfInBounds o v) e fz) := by
 rw [run_store P w _ v _ h1]
 have hc : w.cell? ⟨b, o, none⟩ = some cs[o] := by rw [cell?_block h]; simp [ho]
 have hf : w.frozen? ⟨b, o, none⟩ = false := by
  simp only [World.frozen?, h]
  have := hfz o ho
  simpa [not_and] using this
 simp only [hc, hf, Bool.false_eq_true, if_false, cG6 h]
theorem yB {P : Program} : ∀ {vs : List Value} {w : World} {b o i : Nat} {cs : Array Value} {e : TypeId} {fz : Nat × Nat}, w.heap[b]? = some (.cells cs e fz) → gV fz cs.size → o + i + vs.length ≤ cs.size → (∀ v ∈ vs, one v) →
  (storeCells ⟨b, o, none⟩ vs i).run P w = .ok () (putCells w b (jB cs (o + i) vs) e fz)
 | [], w, b, o, i, cs, e, fz, h, _, _, _ => by simp [storeCells, jB, cE4 h]
 | v :: vs, w, b, o, i, cs, e, fz, h, hfz, hl, h1 => by
  simp only [List.length_cons] at hl
  have hb := (Array.getElem?_eq_some_iff.1 h).1
  have s1 := bM2 (P := P) (o := o + i) h hfz (by omega) (h1 v (by simp))
  have s2 := yB (P := P) (vs := vs) (w := putCells w b (cs.setIfInBounds (o + i) v) e fz) (b := b) (o := o) (i := i + 1) (cs := cs.setIfInBounds (o + i) v) (e := e) (fz := fz)
   (xO hb) (by simpa using hfz) (by simp; omega) (fun u hu => h1 u (by simp [hu]))
  simp only [storeCells, Addr.add_plain, Sem.run_bind, s1, Result.andThen_ok, s2, cE5, jB, Nat.add_assoc]
end Go.Vc
namespace Go.Vc
section
variable {P : Program} {E : Env} {G : List Glob} {w0 : World} {D0 R0 : List Nat} {ρ : LD} {S : St} {a : Act} {w : World}
theorem Rel.write (h : Rel G w0 D0 R0 ρ S a w) {b : Tm} {ps : List Pt} (hf : iG b S.heap = some ps) {cs : Array Value} {e : TypeId} {fz : Nat × Nat}
  (hg : w.heap[(b.den ρ).toN]? = some (.cells cs e fz)) (hfz : gV fz cs.size) {qs : List Pt} {cs' : Array Value} (hsz : cs'.size = cs.size) (hq : aJ ρ qs cs'.toList) :
  Rel G w0 D0 R0 ρ { S with heap := lG b qs S.heap } a (putCells w (b.den ρ).toN cs' e fz) := by
 obtain ⟨l1, l2, he, hset⟩ := wJ hf
 have hb := (Array.getElem?_eq_some_iff.1 hg).1
 have p1 : S.heap.Perm (.box b ps :: (l1 ++ l2)) := he ▸ kN l1 l2 _
 have p2 : (lG b qs S.heap).Perm (.box b qs :: (l1 ++ l2)) := hset qs ▸ kN l1 l2 _
 obtain ⟨hc, hrest, hown, _⟩ := wP (h.heap.perm p1)
 have hn := hown _ rfl
 refine h.sH (hs := lG b qs S.heap) ?_ (by rw [xP]; exact Nat.le_refl _) ?_ rfl rfl rfl ?_ ?_
 ·refine aN.perm p2.symm ((qP rfl).2 ⟨⟨cs', e, fz, xO hb, by rw [hsz]; exact hfz, hq⟩, ?_, fun b' hb' => by cases hb'; exact hn, fun b' hb' => by cases hb'⟩)
  exact hrest.congr (fun k hk => sF (by rintro rfl; exact hk.elim hn.1 hn.2)) (by rw [xP]; exact Nat.le_refl _)
 ·intro k _ hk
  refine sF ?_
  rintro rfl
  exact hk ((dQ p1).2 (gW.2 (.inl rfl)))
 ·intro k hk
  rw [dQ p2, gW] at hk
  exact .inl ((dQ p1).2 (gW.2 hk))
 ·intro k hk
  rw [iL p2, jO] at hk
  exact .inr (.inl ((iL p1).2 (jO.2 (hk.imp (fun h => by cases h) id))))
theorem Rel.bQ0 (h : Rel G w0 D0 R0 ρ S a w) {t : Tm} {ek : EK} {L L' : Tm} (hf : aZ t S.heap = some (true, ek, L)) {g n cap : Nat} {cs : Array Value} {e : TypeId} {fz : Nat × Nat}
  (hv : (t.den ρ).toV = .slice (some ⟨g, 0, none⟩) n cap) (hg : w.heap[g]? = some (.cells cs e fz)) {cs' : Array Value} (hq : (Ch.osl t ek L').holds ρ (putCells w g cs' e fz)) :
  Rel G w0 D0 R0 ρ { S with heap := lH t L' S.heap } a (putCells w g cs' e fz) := by
 obtain ⟨l1, l2, he, hset, _⟩ := nI hf
 have hset := (hset rfl).1
 have hb := (Array.getElem?_eq_some_iff.1 hg).1
 have p1 : S.heap.Perm (.osl t ek L :: (l1 ++ l2)) := by
  have := kN l1 l2 (Ch.osl t ek L)
  simp only [sQ, if_true] at he
  rw [he]; exact this
 have p2 : (lH t L' S.heap).Perm (.osl t ek L' :: (l1 ++ l2)) := hset L' ▸ kN l1 l2 _
 obtain ⟨hc, hrest, hown, _⟩ := wP (h.heap.perm p1)
 have ho : (Ch.osl t ek L).fJ ρ g := by simp [Ch.fJ, hv, Value.ownBlock]
 have hoe : ∀ b', (Ch.osl t ek L').fJ ρ b' → b' = g := fun b' hb' => by simp [Ch.fJ, hv, Value.ownBlock] at hb'; exact hb'.symm
 have hn := hown _ ho
 refine h.sH (hs := lH t L' S.heap) ?_ (by rw [xP]; exact Nat.le_refl _) ?_ rfl rfl rfl ?_ ?_
 ·refine aN.perm p2.symm ((qP rfl).2 ⟨hq, ?_, fun b' hb' => by rw [hoe b' hb']; exact hn, fun b' hb' => by cases hb'⟩)
  exact hrest.congr (fun k hk => sF (by rintro rfl; exact hk.elim hn.1 hn.2)) (by rw [xP]; exact Nat.le_refl _)
 ·intro k _ hk
  refine sF ?_
  rintro rfl
  exact hk ((dQ p1).2 (gW.2 (.inl ho)))
 ·intro k hk
  rw [dQ p2, gW] at hk
  exact .inl ((dQ p1).2 (gW.2 hk))
 ·intro k hk
  rw [iL p2, jO] at hk
  exact .inr (.inl ((iL p1).2 (jO.2 (hk.imp (fun h => by cases h) id))))
theorem Rel.new (h : Rel G w0 D0 R0 ρ S a w) {w' : World} (e : Ext w w') {c : Ch} (hc : c.holds ρ w') (ho : ∀ b, c.fJ ρ b → w.heap.size ≤ b) (hr : ∀ b, c.fK ρ b → w.heap.size ≤ b ∨ b ∈ ros ρ S.heap) (hnd : (c.own ρ).Nodup := by exact Ch.bK0 rfl) :
  Rel G w0 D0 R0 ρ { S with heap := c :: S.heap } a w' := by
 refine h.sH (hs := c :: S.heap) (aR9.2 ⟨hc, h.heap.ext e, hnd, fun b hb => ⟨fun hm => ?_, fun hm => ?_⟩, fun b hb hm => ?_⟩) e.size (fun b hb _ => e.block b hb) e.os e.tape e.output ?_ ?_
 ·have := h.heap.dZ hm; have := ho b hb; omega
 ·have := h.heap.jM hm; have := ho b hb; omega
 ·rcases hr b hb with h1 | h1
  ·have := h.heap.dZ hm; omega
  ·obtain ⟨c', hc', hb'⟩ := fM.1 h1
   exact h.heap.ro c' hc' b hb' hm
 ·intro b hb
  rw [gW] at hb
  rcases hb with hb | hb
  ·exact .inr (ho b hb)
  ·exact .inl hb
 ·intro b hb
  rw [jO] at hb
  rcases hb with hb | hb
  ·exact (hr b hb).elim (fun h => .inr (.inr h)) (fun h => .inr (.inl h))
  ·exact .inr (.inl hb)
theorem aF8 {hs hs' : List Ch} {w : World} : aN ρ (hs ++ hs') w ↔ aN ρ hs w ∧ aN ρ hs' w ∧ (∀ b ∈ owns ρ hs, b ∉ owns ρ hs' ∧ b ∉ ros ρ hs') ∧ (∀ b ∈ ros ρ hs, b ∉ owns ρ hs') := by
 constructor
 ·intro h
  have hnd := h.nodup
  rw [dI, List.nodup_append] at hnd
  obtain ⟨n1, n2, n3⟩ := hnd
  refine ⟨⟨fun c hc => h.holds c (by simp [hc]), n1, fun c hc b hb hm => h.ro c (by simp [hc]) b hb (by rw [dI]; simp [hm])⟩,
   ⟨fun c hc => h.holds c (by simp [hc]), n2, fun c hc b hb hm => h.ro c (by simp [hc]) b hb (by rw [dI]; simp [hm])⟩, fun b hb => ⟨fun hm => n3 b hb b hm rfl, fun hm => ?_⟩, fun b hb hm => ?_⟩
  ·obtain ⟨c, hc, hcb⟩ := fM.1 hm
   exact h.ro c (by simp [hc]) b hcb (by rw [dI]; simp [hb])
  ·obtain ⟨c, hc, hcb⟩ := fM.1 hb
   exact h.ro c (by simp [hc]) b hcb (by rw [dI]; simp [hm])
 ·rintro ⟨h1, h2, h3, h4⟩
  refine ⟨fun c hc => ?_, ?_, fun c hc b hb hm => ?_⟩
  ·rcases List.mem_append.1 hc with hc | hc
   ·exact h1.holds c hc
   ·exact h2.holds c hc
  ·rw [dI, List.nodup_append]
   exact ⟨h1.nodup, h2.nodup, fun x hx y hy he => (h3 x hx).1 (he ▸ hy)⟩
  ·rw [dI] at hm
   rcases List.mem_append.1 hc with hc | hc
   ·rcases List.mem_append.1 hm with hm | hm
    ·exact h1.ro c hc b hb hm
    ·exact h4 b (fM.2 ⟨c, hc, hb⟩) hm
   ·rcases List.mem_append.1 hm with hm | hm
    ·exact (h3 b hm).2 (fM.2 ⟨c, hc, hb⟩)
    ·exact h2.ro c hc b hb hm
theorem Rel.swap (h : Rel G w0 D0 R0 ρ S a w) {w' : World} {pat new rest hs' : List Ch} (p1 : S.heap.Perm (pat ++ rest)) (p2 : hs'.Perm (new ++ rest)) (hn : aN ρ new w') (hsz : w.heap.size ≤ w'.heap.size)
  (hb : ∀ b, b < w.heap.size → b ∉ owns ρ pat → w'.heap[b]? = w.heap[b]?) (hos : w'.os = w.os) (htape : w'.tape = w.tape) (hout : w'.output = w.output)
  (ho : ∀ b ∈ owns ρ new, b ∈ owns ρ pat ∨ w.heap.size ≤ b) (hr : ∀ b ∈ ros ρ new, b ∈ owns ρ pat ∨ b ∈ ros ρ S.heap ∨ w.heap.size ≤ b) :
  Rel G w0 D0 R0 ρ { S with heap := hs' } a w' := by
 obtain ⟨q1, q2, q3, q4⟩ := aF8.1 (h.heap.perm p1)
 have inS : ∀ b, b ∈ owns ρ pat → b ∈ owns ρ S.heap := fun b hm => (dQ p1).2 (by rw [dI]; simp [hm])
 refine h.sH (hs := hs') (aN.perm p2.symm (aF8.2 ⟨hn, q2.congr (fun b hm => ?_) hsz, fun b hm => ?_, fun b hm hm' => ?_⟩)) hsz (fun b hbl hm => hb b hbl fun hm' => hm (inS b hm')) hos htape hout ?_ ?_
 ·refine hb b (hm.elim q2.dZ q2.jM) fun hp => ?_
  exact hm.elim (q3 b hp).1 (q3 b hp).2
 ·rcases ho b hm with h1 | h1
  ·exact q3 b h1
  ·exact ⟨fun hm' => by have := q2.dZ hm'; omega, fun hm' => by have := q2.jM hm'; omega⟩
 ·rcases hr b hm with h1 | h1 | h1
  ·exact (q3 b h1).1 hm'
  ·obtain ⟨c, hc, hcb⟩ := fM.1 h1
   exact h.heap.ro c hc b hcb ((dQ p1).2 (by rw [dI]; simp [hm']))
  ·have := q2.dZ hm'; omega
 ·intro b hm
  rw [dQ p2, dI, List.mem_append] at hm
  rcases hm with hm | hm
  ·exact (ho b hm).imp (inS b) id
  ·exact .inl ((dQ p1).2 (by rw [dI]; simp [hm]))
 ·intro b hm
  rw [iL p2, vF, List.mem_append] at hm
  rcases hm with hm | hm
  ·rcases hr b hm with h1 | h1 | h1
   ·exact .inl (inS b h1)
   ·exact .inr (.inl h1)
   ·exact .inr (.inr h1)
  ·exact .inr (.inl ((iL p1).2 (by rw [vF]; simp [hm])))
theorem mJ {b : Tm} : ∀ {hs : List Ch} {k : Kd} {ts : List Tm}, dV b hs = some (k, ts) → ∃ l1 l2, hs = l1 ++ .abs k ts :: l2 ∧ (∀ c, dB b c hs = l1 ++ c :: l2) ∧ (∃ ts', ts = b :: ts') ∧ ∀ ek, k ≠ .deep ek
 | [], _, _, h => by simp [dV] at h
 | .box b' ps :: hs, k, ts, h => by
  obtain ⟨l1, l2, rfl, h1, h2⟩ := mJ (hs := hs) (by simpa [dV] using h)
  exact ⟨_ :: l1, l2, rfl, fun c => by simp [dB, h1 c], h2⟩
 | .osl a ek L :: hs, k, ts, h => by
  obtain ⟨l1, l2, rfl, h1, h2⟩ := mJ (hs := hs) (by simpa [dV] using h)
  exact ⟨_ :: l1, l2, rfl, fun c => by simp [dB, h1 c], h2⟩
 | .rsl a ek L :: hs, k, ts, h => by
  obtain ⟨l1, l2, rfl, h1, h2⟩ := mJ (hs := hs) (by simpa [dV] using h)
  exact ⟨_ :: l1, l2, rfl, fun c => by simp [dB, h1 c], h2⟩
 | .abs k' [] :: hs, k, ts, h => by
  obtain ⟨l1, l2, rfl, h1, h2⟩ := mJ (hs := hs) (by simpa [dV] using h)
  exact ⟨_ :: l1, l2, rfl, fun c => by simp [dB, h1 c], h2⟩
 | .abs k' (b' :: ts') :: hs, k, ts, h => by
  have key : (∃ ek, k' = .deep ek) ∨ b' ≠ b ∨ ((∀ ek, k' ≠ .deep ek) ∧ b' = b) := by
   by_cases hb : b' = b
   ·cases k' <;> first | exact .inl ⟨_, rfl⟩ | exact .inr (.inr ⟨(fun ek h => by cases h), hb⟩)
   ·exact .inr (.inl hb)
  rcases key with ⟨ek, rfl⟩ | hb | ⟨hk, rfl⟩
  ·obtain ⟨l1, l2, rfl, h1, h2⟩ := mJ (hs := hs) (by simpa [dV] using h)
   exact ⟨_ :: l1, l2, rfl, fun c => by simp [dB, h1 c], h2⟩
  ·obtain ⟨l1, l2, rfl, h1, h2⟩ := mJ (hs := hs) (by cases k' <;> simpa [dV, hb] using h)
   exact ⟨_ :: l1, l2, rfl, fun c => by cases k' <;> simp [dB, h1 c, hb], h2⟩
  ·have e : k = k' ∧ ts = b' :: ts' := by
    cases k' <;> first | exact absurd rfl (hk _) | (simp [dV] at h; exact ⟨h.1.symm, h.2.symm⟩)
   obtain ⟨rfl, rfl⟩ := e
   exact ⟨[], hs, rfl, fun c => by cases k <;> first | exact absurd rfl (hk _) | simp [dB], ⟨_, rfl⟩, hk⟩
theorem bW6 : ∀ {hs : List Ch} {m : Tm} {kd : Kd} {ek : EK} {L : Tm} {ts : List Tm}, oV hs = some (m, kd, ek, L, ts) → ∃ l1 l2 k' ts', hs = l1 ++ .abs k' (m :: ts') :: l2 ∧ (∀ c, dB m c hs = l1 ++ c :: l2) ∧ (∀ ek, k' ≠ .deep ek) ∧
  ((k' = kd ∧ ts' = L :: ts) ∨ .abs kd (m :: L :: ts) ∈ l2)
 | [], _, _, _, _, _, h => by cases h
 | c :: hs, m, kd, ek, L, ts, h => by
  obtain ⟨hm, K, hk⟩ := wI h
  have hnd : ∀ ek, kd ≠ .deep ek := by rcases hk with ⟨rfl, _⟩ | ⟨rfl, _⟩ <;> (intro ek h; cases h)
  -- the first map at that block
  clear h hk
  revert hm
  generalize c :: hs = l
  intro hm
  induction l with
  | nil => cases hm
  | cons x l ih =>
   by_cases hx : ∃ k' ts', x = .abs k' (m :: ts') ∧ ∀ ek, k' ≠ .deep ek
   ·obtain ⟨k', ts', rfl, hk'⟩ := hx
    refine ⟨[], l, k', ts', rfl, fun c => by cases k' <;> first | exact absurd rfl (hk' _) | simp [dB], hk', ?_⟩
    rcases List.mem_cons.1 hm with he | hm
    ·cases he; exact .inl ⟨rfl, rfl⟩
    ·exact .inr hm
   ·have hm : .abs kd (m :: L :: ts) ∈ l := by
     rcases List.mem_cons.1 hm with he | hm
     ·exact absurd ⟨kd, L :: ts, he.symm, hnd⟩ hx
     ·exact hm
    obtain ⟨l1, l2, k', ts', e1, e2, e3, e4⟩ := ih hm
    refine ⟨x :: l1, l2, k', ts', by rw [e1]; rfl, fun c => ?_, e3, e4⟩
    have : dB m c (x :: l) = x :: dB m c l := by
     cases x with
     | abs k ts0 =>
      cases ts0 with
      | nil => rfl
      | cons b0 ts0 =>
       by_cases hb0 : b0 = m
       ·subst hb0
        have hd : ∃ ek, k = .deep ek := by
         cases k <;> first | exact ⟨_, rfl⟩ | exact absurd ⟨_, ts0, rfl, (fun ek h => by cases h)⟩ hx
        obtain ⟨ek, rfl⟩ := hd
        rfl
       ·cases k <;> simp [dB, hb0]
     | _ => rfl
    rw [this, e2 c]; rfl
theorem aZ1 {n : Nat} {r : D} (hr : r.snd.toN = n) : ∀ (L : LD), aY (qH L n r) = aY L
 | [] => rfl
 | x :: L => by
  unfold qH
  split
  ·rename_i h
   have h : x.snd.toN = n := by simpa using h
   simp [aY, hr, h]
  ·have := aZ1 hr L
   simp only [aY, List.map_cons] at this ⊢
   rw [this]
theorem bQ5 {n : Nat} {r : D} {L : LD} (hr : r.key = (lZ L n).key) : (qH L n r).map D.key = L.map D.key := by
 induction L with
 | nil => rfl
 | cons x L ih =>
  unfold qH
  unfold lZ at hr ih
  rw [List.find?_cons] at hr
  by_cases hx : (x.snd.toN == n) = true
  ·rw [if_pos hx]
   rw [hx] at hr
   simp only [Option.getD_some] at hr
   simp [hr]
  ·rw [if_neg hx]
   have hx' : (x.snd.toN == n) = false := by simpa using hx
   rw [hx'] at hr
   rw [List.map_cons, List.map_cons, ih hr]
theorem bG4 {L L' : LD} (h : L'.map D.key = L.map D.key) (hk : dL L) : dL L' := by
 have e : ∀ M : LD, dL M ↔ (M.map D.key).Pairwise fun a b => iO a b = false := fun M => by rw [dL, List.pairwise_map]
 rw [e] at hk ⊢
 rw [h]; exact hk
theorem bL8 {w w' : World} {K : CK} {ek : EK} {n : Nat} {r : D} {cs' : Array Value} {te : TypeId} {fz : Nat × Nat} (hn : r.snd.toN = n) (hrow : r = .L (r.key :: .N r.snd.toN :: r.toL.drop 2)) (hok : fG ek (r.toL.drop 2))
  (hb : w'.heap[n]? = some (.cells cs' te fz)) (hfz : gV fz cs'.size) (hcs : cs'.toList = eU ek (r.toL.drop 2)) (ho : ∀ b, b ≠ n → w'.heap[b]? = w.heap[b]?) :
  ∀ {es : List MapEntry} {L : LD}, r.key = (lZ L n).key → (aY L).Nodup → lD w K ek es L → qF L n = true → lD w' K ek es (qH L n r)
 | [], [], _, _, _, h => by cases h
 | [], _ :: _, _, _, h, _ => h.elim
 | _ :: _, [], _, _, h, _ => h.elim
 | e :: es, x :: L, hr, hnd, h, hh => by
  unfold qH
  unfold lZ at hr
  rw [List.find?_cons] at hr
  simp only [aY, List.map_cons, List.nodup_cons] at hnd
  by_cases hx : (x.snd.toN == n) = true
  ·rw [if_pos hx]
   rw [hx] at hr
   simp only [Option.getD_some] at hr
   have hx2 : x.snd.toN = n := by simpa using hx
   obtain ⟨⟨h1, h2, h3, h4, h5, _⟩, hrest⟩ := h
   refine ⟨⟨by rw [hr]; exact h1, by rw [hr]; exact h2, by rw [h3, hn, hx2], hrow, hok, cs', te, fz, by rw [hn]; exact hb, hfz, hcs⟩, ?_⟩
   exact aJ7 (fun b hbb => ho b (by rintro rfl; exact hnd.1 (by rw [hx2]; exact hbb))) hrest
  ·rw [if_neg hx]
   have hx' : (x.snd.toN == n) = false := by simpa using hx
   rw [hx'] at hr
   obtain ⟨⟨h1, h2, h3, h4, h5, cs, t, fz', h6, h7⟩, hrest⟩ := h
   refine ⟨⟨h1, h2, h3, h4, h5, cs, t, fz', by rw [ho _ (by simpa using hx')]; exact h6, h7⟩, ?_⟩
   exact bL8 hn hrow hok hb hfz hcs ho hr hnd.2 hrest (by simpa [qF, hx'] using hh)
theorem Rel.cK7 (h : Rel G w0 D0 R0 ρ S a w) {m : Tm} {kd : Kd} {ek : EK} {L : Tm} (hf : oV S.heap = some (m, kd, ek, L, [])) {b : Tm} (hb : qF (L.den ρ).toL (b.den ρ).toN = true) {cs : Array Value} {e : TypeId} {fz : Nat × Nat}
  (hg : w.heap[(b.den ρ).toN]? = some (.cells cs e fz)) (hfz : gV fz cs.size) {rt : Tm} {cs' : Array Value} (hsz : cs'.size = cs.size) (hq : cs'.toList = eU ek (rt.den ρ).toL) (hok : fG ek (rt.den ρ).toL) :
  Rel G w0 D0 R0 ρ { S with heap := dB m (.abs kd [m, .o3 .nset L b (.o2 .lcons (.o2 .lget (qG L b) (.int 0)) (.o2 .lcons (.o1 .asN (.o2 .lget (qG L b) (.int 1))) rt))]) S.heap } a (putCells w (b.den ρ).toN cs' e fz) := by
 obtain ⟨hin, K, hk⟩ := wI hf
 obtain ⟨rfl, _⟩ : kd = .mpp K ek ∧ True := by
  rcases hk with ⟨rfl, _⟩ | ⟨rfl, hc⟩
  ·exact ⟨rfl, trivial⟩
  ·cases hc
 obtain ⟨l1, l2, k', ts', e1, e2, e3, e4⟩ := bW6 hf
 obtain ⟨rfl, rfl⟩ : k' = .mpp K ek ∧ ts' = [L] := by
  rcases e4 with e4 | e4
  ·exact e4
  ·exfalso
   have hnd := h.heap.nodup
   rw [e1, dI, List.nodup_append] at hnd
   have hnd := hnd.2.1
   simp only [owns, List.flatMap_cons, List.nodup_append] at hnd
   refine hnd.2.2 (m.den ρ).toN ?_ (m.den ρ).toN ?_ rfl
   ·cases k' with
    | deep ek' => exact absurd rfl (e3 _)
    | _ => simp [Ch.own, Kd.own, arg]
   ·rw [List.mem_flatMap]
    exact ⟨_, e4, by simp [Ch.own, Kd.own, arg]⟩
 generalize hnew : Tm.o3 .nset L b (.o2 .lcons (.o2 .lget (qG L b) (.int 0)) (.o2 .lcons (.o1 .asN (.o2 .lget (qG L b) (.int 1))) rt)) = L'
 have p1 : S.heap.Perm ([.abs (.mpp K ek) [m, L]] ++ (l1 ++ l2)) := by rw [e1]; exact kN l1 l2 _
 have p2 : (dB m (.abs (.mpp K ek) [m, L']) S.heap).Perm ([.abs (.mpp K ek) [m, L']] ++ (l1 ++ l2)) := by rw [e2]; exact kN l1 l2 _
 obtain ⟨g1, g2⟩ := aZ0 hb
 generalize hr : (D.L (((lZ (L.den ρ).toL (b.den ρ).toN).toL.getD 0 default) :: .N ((lZ (L.den ρ).toL (b.den ρ).toN).toL.getD 1 default).toN :: (rt.den ρ).toL)) = r
 have hL' : (L'.den ρ).toL = qH (L.den ρ).toL (b.den ρ).toN r := by rw [← hnew, ← hr]; rfl
 have hrk : r.key = (lZ (L.den ρ).toL (b.den ρ).toN).key := by rw [← hr]; rfl
 have hrn : r.snd.toN = (b.den ρ).toN := by rw [← hr]; exact g2
 have hrd : r.toL.drop 2 = (rt.den ρ).toL := by rw [← hr]; rfl
 have hro : r = .L (r.key :: .N r.snd.toN :: r.toL.drop 2) := by rw [hrd, ← hr]; rfl
 obtain ⟨es, clock, m1, m2, m3⟩ := (wP (h.heap.perm p1)).1
 have hbl := (Array.getElem?_eq_some_iff.1 hg).1
 have hpo : owns ρ [Ch.abs (.mpp K ek) [m, L]] = (m.den ρ).toN :: aY (L.den ρ).toL := by simp [owns, Ch.own, Kd.own, arg]
 have hpo' : owns ρ [Ch.abs (.mpp K ek) [m, L']] = (m.den ρ).toN :: aY (L.den ρ).toL := by simp [owns, Ch.own, Kd.own, arg, hL', aZ1 hrn]
 have hnd : ((m.den ρ).toN :: aY (L.den ρ).toL).Nodup := by
  have := (aF8.1 (h.heap.perm p1)).1.nodup
  rwa [hpo] at this
 have hmem : (b.den ρ).toN ∈ aY (L.den ρ).toL := bQ4.1 hb
 have hne : (m.den ρ).toN ≠ (b.den ρ).toN := by
  intro he
  rw [List.nodup_cons] at hnd
  exact hnd.1 (he ▸ hmem)
 refine h.swap p1 p2 ⟨?_, ?_, ?_⟩ (by rw [xP]; exact Nat.le_refl _) ?_ rfl rfl rfl ?_ ?_
 ·intro c hc
  rw [List.mem_singleton] at hc
  subst hc
  refine ⟨es, clock, m1.congr (sF hne), ?_, ?_⟩
  ·show lD _ K ek es (L'.den ρ).toL
   rw [hL']
   exact bL8 hrn hro (by rw [hrd]; exact hok) (xO hbl) (by rw [hsz]; exact hfz) (by rw [hrd]; exact hq) (fun x hx => sF hx) hrk (List.nodup_cons.1 hnd).2 m2 hb
  ·show dL (L'.den ρ).toL
   rw [hL']
   exact bG4 (bQ5 hrk) m3
 ·rw [hpo']; exact hnd
 ·intro c hc x hx
  rw [List.mem_singleton] at hc
  subst hc
  cases hx
 ·intro x _ hx
  refine sF ?_
  rintro rfl
  exact hx (by rw [hpo]; exact List.mem_cons_of_mem _ hmem)
 ·intro x hx
  rw [hpo'] at hx
  exact .inl (by rw [hpo]; exact hx)
 ·intro x hx
  obtain ⟨c, hc, hcx⟩ := fM.1 hx
  rw [List.mem_singleton] at hc
  subst hc
  cases hcx
theorem kX (w : World) (o : Obj) : Ext w (w.alloc o) :=
 ⟨by show w.heap.size ≤ (w.heap.push o).size; rw [Array.size_push]; omega, fun b hb => by show (w.heap.push o)[b]? = _; rw [Array.getElem?_push, if_neg (by omega)], rfl, rfl, rfl⟩
theorem alloc_at (w : World) (o : Obj) : (w.alloc o).heap[w.heap.size]? = some o := by
 show (w.heap.push o)[w.heap.size]? = _; simp
theorem aE9 (w : World) : Ext w w.drew := ⟨Nat.le_refl _, fun _ _ => rfl, rfl, rfl, rfl⟩
theorem nJ {S : St} {s : Srt} {k : Tm → St → M} {vc : VC} (hr : Rel G w0 D0 R0 ρ S a w) (h : fresh S s k = .ok vc) (hd : vc.den E ρ) {d : D} (hs : s.ok d) :
  ∃ vc', k (.at S.aB.length) { S with aB := S.aB ++ [s] } = .ok vc' ∧ vc'.den E (ρ ++ [d]) ∧ Rel G w0 D0 R0 (ρ ++ [d]) { S with aB := S.aB ++ [s] } a w ∧
   (Tm.at S.aB.length).den (ρ ++ [d]) = d := by
 unfold fresh at h
 split at h
 ·rename_i hu
  split at h
  ·rename_i v hv
   cases h
   refine ⟨v, hv, VC.bB6 hd hs, hr.fresh hu hs, ?_⟩
   have : ρ.length = S.aB.length := cO hr.aB
   simp [Tm.den, ← this, List.getD]
  ·cases h
 ·cases h
theorem aV5 {ek : EK} {t : Tm} (h : (t.den ρ).toV = .slice none 0 0) (w : World) : (Ch.osl t ek (jE ek)).holds ρ w := by
 have h1 : ek.cells ((jE ek).den ρ) = [] ∧ ek.len ((jE ek).den ρ) = 0 ∧ ek.ok ((jE ek).den ρ) := by
  rcases ek with _ | ⟨c, _ | ⟨c', cs⟩⟩
  ·exact ⟨rfl, rfl, by intro x hx; simp [jE, Tm.den] at hx⟩
  ·cases c <;> exact ⟨rfl, rfl, by intro x hx; simp [jE, Tm.den] at hx⟩
  ·cases c <;> exact ⟨rfl, rfl, by intro x hx; simp [jE, Tm.den] at hx⟩
 exact ⟨.inl ⟨h, h1.2.1, h1.1⟩, h1.2.2⟩
theorem aH3 : ∀ {lay : List LK} {ps : List Pt} {S : St} {ρ : LD} {k : List Pt → St → M} {vc : VC} {vs : List Value}, Rel G w0 D0 R0 ρ S a w → lX lay ps S k = .ok vc → vc.den E ρ → ps.all (Pt.under ρ.length) = true → aJ ρ ps vs →
  ∃ σ qs S' vc', k qs S' = .ok vc' ∧ vc'.den E (ρ ++ σ) ∧ aJ (ρ ++ σ) qs vs ∧ Rel G w0 D0 R0 (ρ ++ σ) S' a w ∧ S'.tmps = S.tmps := by
 intro lay
 induction lay with
 | nil =>
  intro ps S ρ k vc vs hr h hd hu hv
  exact ⟨[], ps, S, vc, by simpa [lX] using h, by simpa using hd, by simpa using hv, by simpa using hr, rfl⟩
 | cons l lay ih =>
  intro ps S ρ k vc vs hr h hd hu hv
  cases ps with
  | nil => exact ⟨[], [], S, vc, by cases l <;> simpa [lX] using h, by simpa using hd, by simpa using hv, by simpa using hr, rfl⟩
  | cons p ps =>
   simp only [List.all_cons, Bool.and_eq_true] at hu
   have plain : lX lay ps S (fun qs S => k (p :: qs) S) = .ok vc → ∃ σ qs S' vc', k qs S' = .ok vc' ∧ vc'.den E (ρ ++ σ) ∧ aJ (ρ ++ σ) qs vs ∧ Rel G w0 D0 R0 (ρ ++ σ) S' a w ∧ S'.tmps = S.tmps := by
    intro h
    obtain ⟨us, r, rfl, hl, hp, hv⟩ := lC.1 hv
    obtain ⟨σ, qs, S', vc', h1, h2, h3, h4, h5⟩ := ih hr h hd hu.2 hv
    exact ⟨σ, _, S', vc', h1, h2, lC.2 ⟨us, r, rfl, hl, by rw [rY (by simp [hu.1])]; exact hp, h3⟩, h4, h5⟩
   by_cases hcase : (∃ ek, l = .slice ek) ∧ p = .lf .nilsl
   ·obtain ⟨⟨ek, rfl⟩, rfl⟩ := hcase
    simp only [lX] at h
    obtain ⟨v, r, rfl, hv0, _, hv⟩ := hv
    simp only [Lf.holds] at hv0
    subst hv0
    obtain ⟨vc1, h1, h2, h3, h4⟩ := nJ hr h hd (d := .V (.slice none 0 0)) ⟨_, rfl⟩
    have hr' := h3.new (Ext.refl w) (c := .osl (.at S.aB.length) ek (jE ek)) (aV5 (by rw [h4]; rfl) w) (fun b hb => by rw [Ch.fJ, h4] at hb; cases hb) (fun b hb => by cases hb)
    obtain ⟨σ, qs, S', vc', g1, g2, g3, g4, g5⟩ := ih hr' h1 h2 (List.all_eq_true.2 fun x hx => by
     have := List.all_eq_true.1 hu.2 x hx
     cases x with
     | lf l => exact (show l.under _ = true by
       have : l.under ρ.length = true := this
       exact Lf.kF this (by simp))
     | ints k n L => exact Tm.kF (t := L) this (by simp)) (by rw [rY hu.2]; exact hv)
    refine ⟨[.V (.slice none 0 0)] ++ σ, _, S', vc', g1, by rw [← List.append_assoc]; exact g2, ?_, by rw [← List.append_assoc]; exact g4, g5⟩
    rw [← List.append_assoc]
    refine ⟨_, r, rfl, ?_, rfl, g3⟩
    simp only [Lf.holds]
    rw [Tm.bH (by simp [Tm.under, cO hr.aB]), h4]
    rfl
   ·have : lX (l :: lay) (p :: ps) S k = lX lay ps S (fun qs S => k (p :: qs) S) := by
     cases l with
     | slice ek =>
      cases p with
      | lf f => cases f <;> first | rfl | exact absurd ⟨⟨ek, rfl⟩, rfl⟩ hcase
      | ints k n L => rfl
     | cell => rfl
     | ints k n => rfl
    rw [this] at h
    exact plain h
end
end Go.Vc
namespace Go.Vc
section
variable {E : Env} {G : List Glob} {w0 : World} {D0 R0 : List Nat} {ρ : LD} {S : St} {a : Act} {w : World} {cx : Cx} {vc : VC}
theorem bV9 {S S' : St} (h : S'.tmps = S.tmps) (t : TypeId) (x : Operand) : evT cx S' t x = evT cx S t x := by
 cases x <;> simp [evT, h]
theorem aH2 {t : TypeId} {v : SV} {k : SV → St → M} {u : Value} (hr : Rel G w0 D0 R0 ρ S a w) (h : uQ cx t v S k = .ok vc) (hd : vc.den E ρ) (hv : v.holds ρ u) :
  ∃ σ v' S' vc', k v' S' = .ok vc' ∧ vc'.den E (ρ ++ σ) ∧ v'.holds (ρ ++ σ) u ∧ Rel G w0 D0 R0 (ρ ++ σ) S' a w ∧ S'.tmps = S.tmps := by
 unfold uQ at h
 split at h
 ·split at h
  ·rename_i lay hl
   simp only [SV.holds, S0.holds, Lf.holds] at hv
   subst hv
   obtain ⟨σ, qs, S', vc', h1, h2, h3, h4, h5⟩ := aH3 hr h hd (ps := [.lf .nilsl]) rfl ⟨_, [], rfl, rfl, rfl, rfl⟩
   split at h1
   ·obtain ⟨v, r, hvr, h6, _, _⟩ := h3
    cases hvr
    exact ⟨σ, _, S', vc', h1, h2, h6, h4, h5⟩
   ·cases h1
  ·exact ⟨[], _, S, vc, h, by simpa using hd, by simpa using hv, by simpa using hr, rfl⟩
 ·rename_i ps
  split at h
  ·split at h
   ·rename_i lay hl
    split at h
    ·rename_i hu
     obtain ⟨cs, hc, hp⟩ := hv
     rw [← cO hr.aB] at hu
     obtain ⟨σ, qs, S', vc', h1, h2, h3, h4, h5⟩ := aH3 hr h hd hu hp
     exact ⟨σ, _, S', vc', h1, h2, ⟨cs, hc, h3⟩, h4, h5⟩
    ·cases h
   ·exact ⟨[], _, S, vc, h, by simpa using hd, by simpa using hv, by simpa using hr, rfl⟩
  ·exact ⟨[], _, S, vc, h, by simpa using hd, by simpa using hv, by simpa using hr, rfl⟩
 ·exact ⟨[], v, S, vc, h, by simpa using hd, by simpa using hv, by simpa using hr, rfl⟩
theorem bH1 {l : Lf} {v : Value} (hh : aN ρ S.heap w) (hv : l.holds ρ v) (ho : aH8 S.heap l = true) : one v := by
 cases l with
 | int k t => obtain ⟨rfl, _⟩ := hv; rfl
 | bool t => simp only [Lf.holds] at hv; subst hv; rfl
 | str t => obtain ⟨rfl, _⟩ := hv; rfl
 | ptr b o => simp only [Lf.holds] at hv; subst hv; rfl
 | aptr b o i n => obtain ⟨rfl, _⟩ := hv; rfl
 | eptr t i es o => obtain ⟨_, _, _, _, _, _, _, rfl⟩ := hv; rfl
 | bsl b o n => obtain ⟨_, rfl, _⟩ := hv; rfl
 | nilp => simp only [Lf.holds] at hv; subst hv; rfl
 | sl t =>
  simp only [aH8] at ho
  obtain ⟨⟨own, ek, L⟩, hf⟩ := Option.isSome_iff_exists.1 ho
  have hc := (lY hh hf).1
  simp only [Lf.holds] at hv
  rcases hc with ⟨h, _⟩ | ⟨_, _, h, _⟩ | ⟨_, _, h, _⟩ <;> (rw [hv, h]; rfl)
 | fn f => simp only [Lf.holds] at hv; subst hv; rfl
 | nilfn => simp only [Lf.holds] at hv; subst hv; rfl
 | nilsl => simp only [Lf.holds] at hv; subst hv; rfl
 | mp b => simp only [Lf.holds] at hv; subst hv; rfl
 | nilmp => simp only [Lf.holds] at hv; subst hv; rfl
 | clo f fs cs => simp only [Lf.holds] at hv; subst hv; rfl
 | junk => cases ho
 | undef => cases ho
theorem bJ7 {v : Value} (h : one v) : v.cells = #[v] := by cases v <;> first | rfl | cases h
theorem aX6 {v : SV} {ps : List Pt} {u : Value} (hh : aN ρ S.heap w) (h : aL0 S.heap v = some ps) (hv : v.holds ρ u) : aJ ρ ps u.cells.toList := by
 unfold aL0 at h
 split at h
 ·split at h
  ·rename_i ho
   cases h
   have h1 := bH1 hh hv ho
   rw [bJ7 h1]
   exact ⟨u, [], rfl, hv, h1, rfl⟩
  ·cases h
 ·cases h; obtain ⟨cs, rfl, hv⟩ := hv; exact hv
 ·cases h
def Out (E : Env) (G : List Glob) (w0 : World) (D0 R0 : List Nat) (ρ : LD) (a : Act) (k : SV → St → M) (run : Result Value) : Prop :=
 ∃ σ x S' vc v w', k x S' = .ok vc ∧ vc.den E (ρ ++ σ) ∧ x.holds (ρ ++ σ) v ∧ Rel G w0 D0 R0 (ρ ++ σ) S' a w' ∧ run = .ok v w'
theorem aH5 {t : TypeId} {ps : List Pt} {k : SV → St → M} {u : Value} (hr : Rel G w0 D0 R0 ρ S a w) (h : aH4 cx S t ps k = .ok vc) (hd : vc.den E ρ) (hv : aJ ρ ps u.cells.toList) :
  Out E G w0 D0 R0 ρ a k ((do pure (.pointer (some (← newVar t u))) : Sem Value).run cx.P w) := by
 unfold aH4 at h
 split at h
 ·cases h
 ·rename_i lay _
  split at h
  ·rename_i hu
   rw [← cO hr.aB] at hu
   obtain ⟨σ, qs, S', vc', h1, h2, h3, h4, h5⟩ := aH3 hr h hd hu hv
   split at h1
   ·rename_i hu'
    rw [← cO h4.aB] at hu'
    obtain ⟨vc2, g1, g2, g3, g4⟩ := nJ h4 h1 h2 (d := .N w.heap.size) ⟨_, rfl⟩
    refine ⟨σ ++ [.N w.heap.size], _, _, vc2, .pointer (some ⟨w.heap.size, 0, none⟩), w.alloc (.cells u.cells t), g1, by rw [← List.append_assoc]; exact g2, ?_, ?_, rfl⟩
    ·rw [← List.append_assoc]; simp only [SV.holds, S0.holds, Lf.holds, g4]; rfl
    ·rw [← List.append_assoc]
     refine g3.new (kX w _) (c := .box (.at S'.aB.length) qs) ?_ (fun b hb => ?_) (fun b hb => by cases hb)
     ·refine ⟨u.cells, t, (0, 0), by rw [g4]; exact alloc_at w _, fun j _ hj => by simp only at hj; omega, ?_⟩
      rw [rY hu']; exact h3
     ·rw [Ch.fJ, g4] at hb; cases hb; exact Nat.le_refl _
   ·cases h1
  ·cases h
theorem xB {ek : EK} {L : Tm} {k : SV → St → M} {v : Value} {w' : World} (hr : Rel G w0 D0 R0 ρ S a w) (h : nS S ek L k = .ok vc) (hd : vc.den E ρ) (e : Ext w w')
  (ho : fE w' v ek.width (ek.len (L.den ρ)) (ek.cells (L.den ρ))) (hk : ek.ok (L.den ρ)) (hb : ∀ b, v.ownBlock = some b → w.heap.size ≤ b) : Out E G w0 D0 R0 ρ a k (.ok v w') := by
 unfold nS at h
 split at h
 ·rename_i hu
  rw [← cO hr.aB] at hu
  obtain ⟨vc2, g1, g2, g3, g4⟩ := nJ hr h hd (d := .V v) ⟨_, rfl⟩
  refine ⟨[.V v], _, _, vc2, v, w', g1, g2, ?_, ?_, rfl⟩
  ·simp only [SV.holds, S0.holds, Lf.holds, g4]; rfl
  ·refine g3.new e (c := .osl (.at S.aB.length) ek L) ⟨?_, ?_⟩ (fun b hb' => ?_) (fun b hb => by cases hb)
   ·rw [g4, Tm.bH hu]; exact ho
   ·rw [Tm.bH hu]; exact hk
   ·rw [Ch.fJ, g4] at hb'; exact hb b hb'
 ·cases h
theorem zH {w : World} : ∀ {cs : EK} {ds : LD}, fV cs = true → oQ w cs ds ∧ jD cs ds = []
 | [], _, _ => ⟨trivial, rfl⟩
 | _ :: _, [], _ => ⟨trivial, rfl⟩
 | c :: cs, d :: ds, h => by
  have h : (flatK c && cs.all flatK) = true := h
  rw [Bool.and_eq_true] at h
  obtain ⟨h1, h2⟩ := zH (w := w) (cs := cs) (ds := ds) h.2
  cases c with
  | sl ek => exact absurd h.1 (by simp [flatK])
  | _ => exact ⟨⟨trivial, h1⟩, by simp [jD, CK.blks, h2]⟩
theorem zG {w : World} {ek : EK} {d : D} (h : fV ek = true) : jU w ek d ∧ fF ek d = [] := by
 refine ⟨fun x _ => (zH h).1, ?_⟩
 rw [fF, List.flatMap_eq_nil_iff]
 exact fun x _ => (zH (w := w) h).2
theorem aU9 (ek : EK) : aO ek (.L []) = [] := by
 rcases ek with _ | ⟨c0, _ | ⟨c1, cs'⟩⟩
 ·rfl
 ·cases c0 <;> rfl
 ·cases c0 <;> rfl
theorem wE {hs : List Ch} {w : World} {ek : EK} {L : Tm} (hh : aN ρ hs w) (h : oP hs ek L = true) : jU w ek (L.den ρ) ∧ ∀ b ∈ fF ek (L.den ρ), b ∈ ros ρ hs := by
 unfold oP at h
 simp only [Bool.or_eq_true, decide_eq_true_eq, List.any_eq_true] at h
 rcases h with (h | h) | ⟨c, hc, h⟩
 ·obtain ⟨h1, h2⟩ := zG (w := w) (d := L.den ρ) h
  exact ⟨h1, by rw [h2]; intro b hb; cases hb⟩
 ·subst h
  have e : aO ek (Tm.den ρ .lnil) = [] := aU9 ek
  exact ⟨(fun x hx => by rw [e] at hx; cases hx), (fun b hb => by rw [fF, e] at hb; cases hb)⟩
 ·have hx := hh.holds c hc
  subst h
  exact ⟨hx, fun b hb => fM.2 ⟨_, hc, hb⟩⟩
theorem Rel.deep (h : Rel G w0 D0 R0 ρ S a w) {ek : EK} {L : Tm} (hd : jU w ek (L.den ρ)) (hr : ∀ b ∈ fF ek (L.den ρ), b ∈ ros ρ S.heap) :
  Rel G w0 D0 R0 ρ (oK ek L S) a w := by
 unfold oK
 split
 ·exact h
 ·exact h.new (Ext.refl w) (c := .abs (.deep ek) [L]) hd (fun b hb => by cases hb) (fun b hb => .inr (hr b hb)) (by simp [Ch.own, Kd.own])
theorem aX0 {hs : List Ch} {w : World} (hh : aN ρ hs w) : tJ ρ hs := fun _ _ _ _ hf => (lY hh hf).2
theorem aK9 {size o : Nat} {ps qs : List Pt} {v : SV} {u : Value} {vs : List Value} (hh : aN ρ S.heap w) (h : yE S.heap size o ps v = some qs) (hv : v.holds ρ u) (hp : aJ ρ ps vs) :
  ∃ pre old r, vs = pre ++ (old ++ r) ∧ pre.length = o ∧ old.length = u.cells.toList.length ∧ u.cells.size = size ∧ (∀ x ∈ u.cells.toList, one x) ∧ aJ ρ qs (pre ++ (u.cells.toList ++ r)) := by
 have ones : ∀ {ps : List Pt} {vs : List Value}, aJ ρ ps vs → ∀ x ∈ vs, one x := by
  intro ps
  induction ps with
  | nil => intro vs h x hx; simp only [aJ] at h; subst h; simp at hx
  | cons p ps ih =>
   intro vs h x hx
   cases p with
   | lf l =>
    obtain ⟨v, r, rfl, _, h1, h2⟩ := h
    rcases List.mem_cons.1 hx with rfl | hx
    ·exact h1
    ·exact ih h2 x hx
   | ints k n L =>
    obtain ⟨r, rfl, _, _, h2⟩ := h
    rcases List.mem_append.1 hx with hx | hx
    ·obtain ⟨y, _, rfl⟩ := List.mem_map.1 hx; rfl
    ·exact ih h2 x hx
 unfold yE at h
 split at h
 ·split at h
  ·rename_i hs
   obtain ⟨cs, rfl, hv⟩ := hv
   obtain ⟨pre, old, r, h1, h2, h3, h4⟩ := bN1 hv h hp
   exact ⟨pre, old, r, h1, h2, h3, by rw [← hs, ← xM hv]; simp [Value.cells], ones hv, h4⟩
  ·cases h
 ·split at h
  ·rename_i hs
   obtain ⟨hs, ho⟩ := hs
   have h1 := bH1 hh hv ho
   obtain ⟨h2, h3⟩ := bN0 hv h1 h hp
   rw [bJ7 h1]
   refine ⟨vs.take o, [vs[o]], vs.drop (o + 1), ?_, by simp; omega, rfl, by simp [hs], by simpa using h1, ?_⟩
   ·simp
   ·rw [List.set_eq_take_append_cons_drop, if_pos h3] at h2
    simpa using h2
  ·cases h
 ·cases h
theorem cH8 {t : TypeId} {xo vo : Operand} {x v : SV} {k : St → M} (hr : Rel G w0 D0 R0 ρ S a w) (hx : evT cx S 0 xo = .ok x) (hv : evT cx S t vo = .ok v)
  (h : aX4 cx S t x v k = .ok vc) (hd : vc.den E ρ) :
  ∃ σ S' vc' w', k S' = .ok vc' ∧ vc'.den E (ρ ++ σ) ∧ Rel G w0 D0 R0 (ρ ++ σ) S' a w' ∧ (Instr.storeAt t (a.eval xo) (a.eval vo)).run cx.P w = .ok () w' := by
 unfold aX4 at h
 simp only at h
 split at h
 ·cases h
 rename_i hne
 have hc : cx.P.cellsOf t ≠ 0 := by simpa using hne
 obtain ⟨σ, v', S', vc', h1, h2, h3, h4, h5⟩ := aH2 hr h hd (aX hr hv)
 have hx' : x.holds (ρ ++ σ) (a.eval xo) := aX h4 (by rw [bV9 h5]; exact hx)
 generalize a.eval xo = ux at hx'
 generalize a.eval vo = uv at h3
 split at h1
 ·rename_i b o
  split at h1
  ·rename_i ps hps
   split at h1
   ·rename_i qs hqs
    obtain ⟨cs, e, fz, hg, hfz, hp⟩ := rF h4.heap hps
    obtain ⟨pre, old, r, e1, e2, e3, e4, e5, e6⟩ := aK9 h4.heap hqs h3 hp
    have hw := tH e1 e3
    simp only [SV.holds, S0.holds, Lf.holds] at hx'
    subst hx'
    have hlen : cs.size = o + uv.cells.toList.length + r.length := by
     have := congrArg List.length e1
     simp only [List.length_append, Array.length_toList] at this e3 ⊢; omega
    refine ⟨σ, _, vc', _, h1, h2, h4.write hps hg hfz (cs' := jB cs o uv.cells.toList) (pY _ _ _) (by rw [← e2, hw]; exact e6), ?_⟩
    have := yB (P := cx.P) (vs := uv.cells.toList) (w := w) (b := (b.den (ρ ++ σ)).toN) (o := o) (i := 0) hg hfz (by omega) e5
    simp only [Nat.add_zero] at this
    simp [Instr.storeAt, Instr.sureAddr, storeVar, iM hc, e4, this]
   ·cases h1
  ·split at h1
   ·rename_i m kd ek L ts hfa
    split at h1
    ·rename_i qs hqs
     split at h1
     ·rename_i rt hrt
      split at h1
      ·rename_i hflat
       subst hflat
       obtain ⟨hb, vc2, h1, h2⟩ := aV2 h1 h2
       obtain ⟨cs, e, fz, hg, hfz, hp⟩ := aZ2 h4.heap hfa hb
       obtain ⟨pre, old, r, e1, e2, e3, e4, e5, e6⟩ := aK9 h4.heap hqs h3 hp
       have hw := tH e1 e3
       simp only [SV.holds, S0.holds, Lf.holds] at hx'
       subst hx'
       have hlen : cs.size = o + uv.cells.toList.length + r.length := by
        have := congrArg List.length e1
        simp only [List.length_append, Array.length_toList] at this e3 ⊢; omega
       obtain ⟨z1, z2⟩ := aB0 (aX0 h4.heap) hrt e6
       refine ⟨σ, _, vc2, _, h1, h2, h4.cK7 hfa hb hg hfz (cs' := jB cs o uv.cells.toList) (pY _ _ _) (by rw [← e2, hw]; exact z1) z2, ?_⟩
       have := yB (P := cx.P) (vs := uv.cells.toList) (w := w) (b := (b.den (ρ ++ σ)).toN) (o := o) (i := 0) hg hfz (by omega) e5
       simp only [Nat.add_zero] at this
       simp [Instr.storeAt, Instr.sureAddr, storeVar, iM hc, e4, this]
      ·cases h1
     ·cases h1
    ·cases h1
   ·cases h1
 ·rename_i b o i n
  split at h1
  ·rename_i ps k' u hps
   split at h1
   ·rename_i k1 L hL
    split at h1
    ·rename_i hk
     obtain ⟨hk, hsz⟩ := hk
     subst hk
     split at h1
     ·rename_i qs hqs
      obtain ⟨cs, e, fz, hg, hfz, hp⟩ := rF h4.heap hps
      obtain ⟨pre, r, e1, e2, e3, e4, e5⟩ := zN hL hp
      obtain ⟨rfl, h0, hi⟩ := hx'
      obtain ⟨rfl, hu⟩ := h3
      have hlt : (i.den (ρ ++ σ)).toI.toNat < (L.den (ρ ++ σ)).aH.length := by omega
      have e6 := e5 (.o3 .liset L i u) (by simp [Tm.den, O3.den, e3]) (by
       intro y hy
       simp only [Tm.den, O3.den, D.toLi_Z] at hy
       rcases List.mem_or_eq_of_mem_set hy with hy | rfl
       ·exact e4 y hy
       ·exact hu) qs hqs
      have hsz' : o + (i.den (ρ ++ σ)).toI.toNat < cs.size := by
       have := congrArg List.length e1
       simp only [List.length_append, Array.length_toList, List.length_map] at this; omega
      refine ⟨σ, _, vc', _, h1, h2, h4.write hps hg hfz (cs' := cs.setIfInBounds (o + (i.den (ρ ++ σ)).toI.toNat) (.int k' (u.den (ρ ++ σ)).toI)) (by simp) ?_, ?_⟩
      ·rw [Array.toList_setIfInBounds, e1, ← e2, List.set_append_right _ _ (by omega), Nat.add_sub_cancel_left, List.set_append_left _ _ (by simpa using hlt), ← List.map_set]
       simpa [Tm.den, O3.den] using e6
      ·have := bM2 (P := cx.P) (w := w) (v := .int k' (u.den (ρ ++ σ)).toI) hg hfz hsz' rfl
       simp [Instr.storeAt, Instr.sureAddr, storeVar, iM hc, Value.cells, hsz, storeCells, Addr.add_plain, this]
     ·cases h1
    ·cases h1
   ·cases h1
  ·cases h1
 ·rename_i ta i es o
  split at h1
  ·rename_i ek L hf
   split at h1
   ·rename_i hes
    subst hes
    split at h1
    ·rename_i qs hqs
     split at h1
     ·rename_i u hu
      obtain ⟨ad, n, c, hva, hsp, h0, hi, rfl⟩ := hx'
      obtain ⟨hown, hok⟩ := aX1 h4.heap hf
      rw [hva] at hown
      rcases hown with ⟨hbad, _⟩ | ⟨g, cap, cs, e, fz, he, hg, hfz, g1, g2, g3, g4, g5⟩
      ·cases hbad
      ·cases he
       obtain ⟨y, hy, hyo, hyp⟩ := bC2 hok h0 hi
       obtain ⟨pre, old, r, e1, e2, e3, e4, e5, e6⟩ := aK9 h4.heap hqs h3 hyp
       obtain ⟨z, z1, z2, z3⟩ := aP5 (aX0 h4.heap) hu e6
       have hall : ∀ y ∈ aO ek (L.den (ρ ++ σ)), (jF ek y).length = ek.width := fun y hy => yY ((iY ek _).1 hok y hy)
       obtain ⟨f1, f2⟩ := aF1 hall hy
       -- the list with the element in its place
       generalize hLL : aP3 ek L i u = L' at h1
       have hL' : aO ek (L'.den (ρ ++ σ)) = (aO ek (L.den (ρ ++ σ))).set (i.den (ρ ++ σ)).toI.toNat z := by
        rw [z3, ← hLL]
        rcases ek with _ | ⟨c0, _ | ⟨c1, cs'⟩⟩
        ·rfl
        ·cases c0 <;> first | rfl | simp [aO, aP3, Tm.den, O3.den, vC, List.map_set]
        ·cases c0 <;> rfl
       have hilt : (i.den (ρ ++ σ)).toI.toNat < (aO ek (L.den (ρ ++ σ))).length := (List.getElem?_eq_some_iff.1 hy).1
       have hset : (aO ek (L'.den (ρ ++ σ)))[(i.den (ρ ++ σ)).toI.toNat]? = some z := by rw [hL']; simp [hilt]
       have hok' : ek.ok (L'.den (ρ ++ σ)) := by
        rw [iY, hL']
        intro q hq
        rcases List.mem_or_eq_of_mem_set hq with hq | rfl
        ·exact (iY ek _).1 hok q hq
        ·exact z2
       have hall' : ∀ y ∈ aO ek (L'.den (ρ ++ σ)), (jF ek y).length = ek.width := fun y hy => yY ((iY ek _).1 hok' y hy)
       obtain ⟨f3, f4⟩ := aF1 hall' hset
       have hlen' : ek.len (L'.den (ρ ++ σ)) = ek.len (L.den (ρ ++ σ)) := by rw [len_eq, len_eq, hL', List.length_set]
       -- the cells ahead and behind are the same
       have t1 : ((aO ek (L'.den (ρ ++ σ))).take (i.den (ρ ++ σ)).toI.toNat) = ((aO ek (L.den (ρ ++ σ))).take (i.den (ρ ++ σ)).toI.toNat) := by rw [hL', List.take_set_of_le (Nat.le_refl _)]
       have t2 : ((aO ek (L'.den (ρ ++ σ))).drop ((i.den (ρ ++ σ)).toI.toNat + 1)) = ((aO ek (L.den (ρ ++ σ))).drop ((i.den (ρ ++ σ)).toI.toNat + 1)) := by rw [hL', List.drop_set_of_lt (by omega)]
       rw [t1, t2] at f3
       have hcells := cells_length hok
       have hbig : cs.toList = (((aO ek (L.den (ρ ++ σ))).take (i.den (ρ ++ σ)).toI.toNat).flatMap (jF ek) ++ pre) ++ (old ++ (r ++ (((aO ek (L.den (ρ ++ σ))).drop ((i.den (ρ ++ σ)).toI.toNat + 1)).flatMap (jF ek) ++ cs.toList.drop (ek.len (L.den (ρ ++ σ)) * ek.width)))) := by
        have h0 := (List.take_append_drop (ek.len (L.den (ρ ++ σ)) * ek.width) cs.toList).symm
        rw [g5, kS, f1, e1] at h0
        exact h0.trans (by simp)
       have hw := tH (vs := uv.cells.toList) hbig e3
       have hplen : (((aO ek (L.den (ρ ++ σ))).take (i.den (ρ ++ σ)).toI.toNat).flatMap (jF ek) ++ pre).length = (i.den (ρ ++ σ)).toI.toNat * ek.width + o := by
        rw [List.length_append, f2, e2]
       rw [hplen] at hw
       have hnew : (jB cs ((i.den (ρ ++ σ)).toI.toNat * ek.width + o) uv.cells.toList).toList = ek.cells (L'.den (ρ ++ σ)) ++ cs.toList.drop (ek.len (L.den (ρ ++ σ)) * ek.width) := by
        rw [hw, kS, f3, ← z1]; simp
       have hb := (Array.getElem?_eq_some_iff.1 hg).1
       have hroom : (i.den (ρ ++ σ)).toI.toNat * ek.width + o + uv.cells.toList.length ≤ cs.size := by
        have := congrArg List.length hbig
        simp only [List.length_append, Array.length_toList] at this hplen e3
        simp only [Array.length_toList] at *
        omega
       refine ⟨σ, _, vc', _, h1, h2, h4.bQ0 hf hva hg (cs' := jB cs ((i.den (ρ ++ σ)).toI.toNat * ek.width + o) uv.cells.toList) ⟨?_, hok'⟩, ?_⟩
       ·rw [hva]
        refine .inr ⟨g, c, _, e, fz, by rw [hlen'], xO hb, by rw [pY]; exact hfz, by rw [hlen']; exact g1, g2, by rw [pY]; exact g3, cells_length hok', ?_⟩
        rw [hnew, ← cells_length hok', List.take_left']
        rfl
       ·have := yB (P := cx.P) (vs := uv.cells.toList) (w := w) (b := g) (o := (i.den (ρ ++ σ)).toI.toNat * ek.width + o) (i := 0) hg hfz.pred (by omega) e5
        simp only [Nat.add_zero] at this
        simp [Instr.storeAt, Instr.sureAddr, storeVar, iM hc, e4, this]
     ·cases h1
    ·cases h1
   ·cases h1
  ·cases h1
 ·cases h1
end
end Go.Vc
namespace Go.Vc
theorem tZ (ek : EK) (L : Tm) (ρ : LD) : ((mG ek L).den ρ).toI = ek.len (L.den ρ) := by
 rcases ek with _ | ⟨c0, _ | ⟨c1, cs'⟩⟩
 ·rfl
 ·cases c0 <;> rfl
 ·cases c0 <;> rfl
theorem bU6 (ek : EK) (ρ : LD) : aO ek ((jE ek).den ρ) = [] := by
 rcases ek with _ | ⟨c0, _ | ⟨c1, cs'⟩⟩
 ·rfl
 ·cases c0 <;> rfl
 ·cases c0 <;> rfl
theorem yV (ek : EK) (L L' : Tm) (ρ : LD) : aO ek ((qM ek L L').den ρ) = aO ek (L.den ρ) ++ aO ek (L'.den ρ) := by
 rcases ek with _ | ⟨c0, _ | ⟨c1, cs'⟩⟩
 ·rfl
 ·cases c0 <;> first | rfl | simp [aO, qM, Tm.den, O2.den]
 ·cases c0 <;> rfl
theorem bU8 (ek : EK) (L i : Tm) (ρ : LD) : aO ek ((aE7 ek L i).den ρ) = (aO ek (L.den ρ)).take (i.den ρ).toI.toNat := by
 rcases ek with _ | ⟨c0, _ | ⟨c1, cs'⟩⟩
 ·rfl
 ·cases c0 <;> first | rfl | simp [aO, aE7, Tm.den, O2.den, List.map_take]
 ·cases c0 <;> rfl
theorem bU5 (ek : EK) (L i : Tm) (ρ : LD) : aO ek ((aP1 ek L i).den ρ) = (aO ek (L.den ρ)).drop (i.den ρ).toI.toNat := by
 rcases ek with _ | ⟨c0, _ | ⟨c1, cs'⟩⟩
 ·rfl
 ·cases c0 <;> first | rfl | simp [aO, aP1, Tm.den, O2.den, List.map_drop]
 ·cases c0 <;> rfl
theorem bC0 {ek : EK} {L l h : Tm} {ρ : LD} (_h0 : 0 ≤ (l.den ρ).toI) (_h1 : (l.den ρ).toI ≤ (h.den ρ).toI) (_h2 : (h.den ρ).toI ≤ ek.len (L.den ρ)) :
  aO ek ((tY ek L l h).den ρ) = ((aO ek (L.den ρ)).take (h.den ρ).toI.toNat).drop (l.den ρ).toI.toNat := by
 unfold tY
 have hh : aO ek ((if h = mG ek L then L else aE7 ek L h).den ρ) = (aO ek (L.den ρ)).take (h.den ρ).toI.toNat := by
  split
  ·rename_i e
   rw [e, tZ, len_eq]; simp
  ·exact bU8 ..
 simp only
 split
 ·rename_i e
  rw [hh, e]; simp [Tm.den]
 ·rw [bU5, hh]
section
variable {E : Env} {G : List Glob} {w0 : World} {D0 R0 : List Nat} {ρ : LD} {S : St} {a : Act} {w : World} {cx : Cx} {vc : VC} {ret : SV → M} {k : SV → St → M}
theorem bE9 {t : TypeId} {x ix : SV} {u v : Value} (hr : Rel G w0 D0 R0 ρ S a w) (h : aS2 cx S t x ix ret = .ok vc) (hd : vc.den E ρ) (hx : x.holds ρ u) (hi : ix.holds ρ v) :
  ∃ z, Met E ρ ret z ∧ ∀ w, (Instr.indexAt t u v).run cx.P w = .ok z w := by
 unfold aS2 at h
 split at h
 ·rename_i kk i
  obtain ⟨rfl, hk⟩ := hi
  split at h
  ·rename_i len e hu
   split at h
   ·rename_i b o
    simp only [SV.holds, S0.holds, Lf.holds] at hx
    subst hx
    split at h
    ·rename_i n
     split at h
     ·rename_i hn
      obtain ⟨h0, h1, hc⟩ := hn
      refine ⟨_, ⟨_, vc, h, hd, rfl⟩, ?_⟩
      intro w
      simp [Instr.indexAt, asIntOf, run_underlying hu, Instr.sureAddr, Tm.den, h0, h1, iM hc, Addr.add_plain]
     ·cases h
    ·split at h
     ·rename_i hc
      obtain ⟨h0, vc1, h', hd'⟩ := gI h hd
      obtain ⟨h1, vc2, h'', hd''⟩ := zY h' hd'
      have h0 : 0 ≤ (i.den ρ).toI := h0
      have h1 : (i.den ρ).toI < len := h1
      have hs : ∀ w, (sizeOf e).run cx.P w = .ok 1 w := fun w => by rw [iM (by omega), hc]
      refine ⟨_, ⟨_, vc2, h'', hd'', rfl, h0, h1⟩, ?_⟩
      intro w
      simp [Instr.indexAt, asIntOf, run_underlying hu, Instr.sureAddr, h0, h1, hs, Addr.add_plain]
     ·cases h
   ·cases h
  ·rename_i e hu
   split at h
   ·rename_i ta
    simp only [SV.holds, S0.holds, Lf.holds] at hx
    subst hx
    split at h
    ·rename_i own ek L hf
     split at h
     ·rename_i hw
      obtain ⟨hw, hc⟩ := hw
      obtain ⟨h0, vc1, h', hd'⟩ := gI h hd
      obtain ⟨h1, vc2, h'', hd''⟩ := zY h' hd'
      have h0 : 0 ≤ (i.den ρ).toI := h0
      rw [tZ] at h1
      obtain ⟨hrd, hok⟩ := lY hr.heap hf
      rcases hrd with ⟨_, hz, _⟩ | ⟨_, _, _, hz, _⟩ | ⟨ad, cap, he, g1, g2, g3, g4, g5, g6⟩
      ·omega
      ·omega
      ·have hs := fun w => iM (P := cx.P) (t := e) hc w
       refine ⟨_, ⟨_, vc2, h'', hd'', ad, _, cap, he, g1, h0, h1, rfl⟩, ?_⟩
       intro w
       simp [Instr.indexAt, asIntOf, run_underlying hu, he, h0, h1, hs, Addr.tK g1, hw]
     ·cases h
    ·cases h
   ·rename_i b o n
    obtain ⟨c, rfl, hn⟩ := hx
    split at h
    ·rename_i hc
     obtain ⟨h0, vc1, h', hd'⟩ := gI h hd
     obtain ⟨h1, vc2, h'', hd''⟩ := zY h' hd'
     have h0 : 0 ≤ (i.den ρ).toI := h0
     have h1 : (i.den ρ).toI < n := h1
     have hs : ∀ w, (sizeOf e).run cx.P w = .ok 1 w := fun w => by rw [iM (by omega), hc]
     refine ⟨_, ⟨_, vc2, h'', hd'', rfl, h0, h1⟩, ?_⟩
     intro w
     simp [Instr.indexAt, asIntOf, run_underlying hu, h0, h1, hs, Addr.add_plain]
    ·cases h
   ·cases h
  ·cases h
 ·cases h
theorem bF0 {t : TypeId} {x ix : SV} {u v : Value} (h : aS3 cx t x ix ret = .ok vc) (hd : vc.den E ρ) (hx : x.holds ρ u) (hi : ix.holds ρ v) :
  ∃ z, Met E ρ ret z ∧ ∀ w, (Instr.index t u v).run cx.P w = .ok z w := by
 unfold aS3 at h
 split at h
 ·rename_i kk i
  obtain ⟨rfl, hk⟩ := hi
  split at h
  ·rename_i s hu
   obtain ⟨rfl, _⟩ := hx
   obtain ⟨h0, vc1, h', hd'⟩ := gI h hd
   obtain ⟨h1, vc2, h'', hd''⟩ := zY h' hd'
   have h0 : 0 ≤ (i.den ρ).toI := h0
   have h1 : (i.den ρ).toI < (s.den ρ).toS.size := h1
   have hlt : (i.den ρ).toI.toNat < (s.den ρ).toS.size := by omega
   refine ⟨.int .u8 (byteAt (s.den ρ).toS (i.den ρ).toI), Met.int h'' hd'' rfl (bX4 _ _), ?_⟩
   have hget : (s.den ρ).toS[(i.den ρ).toI.toNat]? = some ((s.den ρ).toS.data.toList.getD (i.den ρ).toI.toNat 0) := by
    have hl2 : (i.den ρ).toI.toNat < (s.den ρ).toS.data.size := hlt
    rw [getElem?_pos (s.den ρ).toS _ hlt]
    have e1 : (s.den ρ).toS.data[(i.den ρ).toI.toNat]? = some ((s.den ρ).toS.data[(i.den ρ).toI.toNat]'hl2) := getElem?_pos (s.den ρ).toS.data _ hl2
    simp only [List.getD, Array.getElem?_toList, e1]
    rfl
   intro w
   simp [Instr.index, asIntOf, run_underlying hu, h0, hget, byteAt]
  ·rename_i len e kk2 n L hu
   obtain ⟨cs, rfl, r, he, hn, hall, hr⟩ := hx
   simp only [aJ] at hr
   subst hr
   split at h
   ·rename_i hc
    obtain ⟨rfl, hc, ha, hue⟩ := hc
    obtain ⟨h0, vc1, h', hd'⟩ := gI h hd
    obtain ⟨h1, vc2, h'', hd''⟩ := zY h' hd'
    have h0 : 0 ≤ (i.den ρ).toI := h0
    have h1 : (i.den ρ).toI < n := h1
    have hs : ∀ w, (sizeOf e).run cx.P w = .ok 1 w := fun w => by rw [iM (by omega), hc]
    have hlt : (i.den ρ).toI.toNat < (L.den ρ).aH.length := by omega
    refine ⟨.int kk2 ((L.den ρ).aH.getD (i.den ρ).toI.toNat 0), Met.int h'' hd'' rfl (aF7 hall _), ?_⟩
    have hcs : cs[(i.den ρ).toI.toNat]? = some (.int kk2 ((L.den ρ).aH.getD (i.den ρ).toI.toNat 0)) := by
     rw [← Array.getElem?_toList, he]; simp [List.getD, hlt]
    obtain ⟨d, hue⟩ := Option.isSome_iff_exists.1 hue
    intro w
    simp [Instr.index, asIntOf, run_underlying hu, h0, h1, hs, part, nM hue, ha, hcs]
   ·cases h
  ·cases h
 ·cases h
theorem bW5 {t : TypeId} {x : SV} {f : Nat} {u : Value} (h : aQ1 cx t x f ret = .ok vc) (hd : vc.den E ρ) (hx : x.holds ρ u) :
  ∃ z, Met E ρ ret z ∧ ∀ w, (Instr.field t u f).run cx.P w = .ok z w := by
 unfold aQ1 at h
 split at h
 ·rename_i fs ps hu
  obtain ⟨cs, rfl, hv⟩ := hx
  split at h
  ·rename_i fd hf
   split at h
   ·cases h
   ·rename_i hne
    simp only [Bool.or_eq_true, Option.isNone_iff_eq_none, beq_iff_eq, not_or] at hne
    obtain ⟨d, hue⟩ := Option.ne_none_iff_exists'.1 hne.1
    obtain ⟨z, hz, hrun⟩ := cE2 hue hne.2 h hd hv
    exact ⟨z, hz, fun w => by simp [Instr.field, run_underlying hu, hf, asAgg, hrun]⟩
  ·cases h
 ·cases h
theorem fA.cut {w : World} {v : Value} {ek : EK} {d d' : D} {l h : Nat} (hr : fA w v ek.width (ek.len d) (ek.cells d)) (hok : ek.ok d) (hl : l ≤ h) (hh : h ≤ ek.len d)
  (he : aO ek d' = ((aO ek d).take h).drop l) (x : Option Addr) (n c : Nat) (hv : v = .slice x n c) :
  ∃ v', v' = .slice (if c = l then x else x.map (·.add (l * ek.width))) (h - l) (c - l) ∧ fA w v' ek.width (ek.len d') (ek.cells d') ∧ ek.ok d' ∧ (∀ b, roB v' = some b → roB v = some b) ∧ n = ek.len d ∧ h ≤ c := by
 refine ⟨_, rfl, ?_⟩
 have hok' : ek.ok d' := by
  rw [iY] at hok ⊢
  intro y hy
  rw [he] at hy
  exact hok y (List.mem_of_mem_take (List.mem_of_mem_drop hy))
 have hlen' : ek.len d' = h - l := by
  rw [len_eq, he, List.length_drop, List.length_take]
  rw [len_eq] at hh; omega
 have hnil : ek.len d = 0 → ek.cells d' = [] := fun h0 => by
  have := cells_length hok'
  rw [hlen', show h - l = 0 from by omega] at this
  exact List.eq_nil_of_length_eq_zero (by simpa using this)
 rcases hr with ⟨h1, h2, h3⟩ | ⟨ad, cap, h1, h2, h3⟩ | ⟨ad, cap, h1, h2, h3, h4, h5, h6, h7⟩
 ·rw [hv] at h1; cases h1
  have hz : h = 0 := by omega
  have lz : l = 0 := by omega
  subst hz lz
  exact ⟨.inl ⟨by simp, by omega, hnil h2⟩, hok', fun b hb => (by simp [roB] at hb), by omega, by omega⟩
 ·rw [hv] at h1; cases h1
  have hz : h = 0 := by omega
  have lz : l = 0 := by omega
  subst hz lz
  refine ⟨.inr (.inl ⟨if c = 0 then ad else ad.add (0 * ek.width), c - 0, ?_, by omega, hnil h2⟩), hok', fun b hb => ?_, by omega, by omega⟩
  ·split <;> rfl
  ·have hb := hb
   unfold roB at hb
   split at hb
   ·rename_i heq
    injection heq with _ h9
    cases h9
   ·cases hb
 ·rw [hv] at h1; cases h1
  have hcells : ∀ j u, (ek.cells d')[j]? = some u → (ek.cells d)[l * ek.width + j]? = some u := by
   intro j u hj
   rw [kS] at hj ⊢
   rw [he] at hj
   have hall := fun y hy => yY ((iY ek d).1 hok y hy)
   have e1 : (aO ek d).flatMap (jF ek) = ((aO ek d).take l).flatMap (jF ek) ++ ((((aO ek d).take h).drop l).flatMap (jF ek) ++ ((aO ek d).drop h).flatMap (jF ek)) := by
    rw [← List.flatMap_append, ← List.flatMap_append]
    congr 1
    rw [show (aO ek d).take l = ((aO ek d).take h).take l by rw [List.take_take]; congr 1; omega]
    rw [← List.append_assoc, List.take_append_drop, List.take_append_drop]
   have e2 : (((aO ek d).take l).flatMap (jF ek)).length = l * ek.width := by
    rw [aF2 (fun y hy => hall y (List.mem_of_mem_take hy)), List.length_take]
    rw [len_eq] at hh
    congr 1; omega
   rw [e1, ← e2, List.getElem?_mid j (List.getElem?_eq_some_iff.1 hj).1]
   exact hj
  refine ⟨.inr (.inr ⟨if c = l then ad else ad.add (l * ek.width), c - l, ?_, ?_, ?_, by omega, by omega, cells_length hok', ?_⟩), hok', ?_, rfl, by omega⟩
  ·rw [hlen']; split <;> rfl
  ·split
   ·exact h2
   ·rw [Addr.tK h2]
  ·split
   ·exact h3
   ·rw [Addr.tK h2]; exact h3
  ·intro j u hj
   split
   ·rename_i hcl
    have hz : ek.len d' = 0 := by omega
    have := cells_length hok'
    rw [hz] at this
    have : ek.cells d' = [] := List.eq_nil_of_length_eq_zero (by simpa using this)
    rw [this] at hj; cases hj
   ·have := h7 _ u (hcells j u hj)
    rw [Addr.tK h2] at this ⊢
    rw [Addr.tK rfl]
    simp only at this ⊢
    rw [← this]; congr 2; omega
  ·intro b hb
   rw [hv]
   have hpos : h - l ≠ 0 := fun h0 => by rw [h0] at hb; unfold roB at hb; split at hb; (rename_i heq; injection heq with _ h9; cases h9); cases hb
   obtain ⟨q, hq⟩ : ∃ q, ek.len d = q + 1 := ⟨ek.len d - 1, by omega⟩
   have hb := aA9 hb
   show roB (.slice (some ad) (ek.len d) c) = some b
   rw [hq]
   show some ad.block = some b
   rw [← hb]
   by_cases hcl : c = l
   ·simp [Value.ownBlock, hcl]
   ·simp [Value.ownBlock, hcl, Addr.tK h2]
theorem aF4 {t : Tm} {own : Bool} {ek : EK} {L : Tm} (hr : Rel G w0 D0 R0 ρ S a w) (hf : aZ t S.heap = some (own, ek, L)) :
  Rel G w0 D0 R0 ρ { S with heap := dJ t S.heap } a w ∧ ∀ b, roB (t.den ρ).toV = some b → b ∈ ros ρ (dJ t S.heap) := by
 obtain ⟨l1, l2, he, _, hfr⟩ := nI hf
 have p1 : S.heap.Perm (sQ own t ek L :: (l1 ++ l2)) := he ▸ kN l1 l2 _
 have p2 : (dJ t S.heap).Perm (.rsl t ek L :: (l1 ++ l2)) := hfr ▸ kN l1 l2 _
 obtain ⟨hc, hrest, hown, hro⟩ := wP (hr.heap.perm p1)
 have hmem : ∀ b, roB (t.den ρ).toV = some b → b ∈ ros ρ (dJ t S.heap) := fun b hb => (iL p2).2 (jO.2 (.inl hb))
 refine ⟨?_, hmem⟩
 have hh : aN ρ (.rsl t ek L :: (l1 ++ l2)) w := by
  refine (qP rfl).2 ⟨?_, hrest, fun (b : Nat) hb => (by cases hb), fun (b : Nat) hb => ?_⟩
  ·cases own with
   | true => exact ⟨hc.1.rd, hc.2⟩
   | false => exact hc
  ·cases own with
   | true => exact (hown b (aA9 hb)).1
   | false => exact hro b hb
 refine hr.sH (hs := dJ t S.heap) (aN.perm p2.symm hh) (Nat.le_refl _) (fun _ _ _ => rfl) rfl rfl rfl ?_ ?_
 ·intro b hb
  rw [dQ p2, gW] at hb
  rcases hb with hb | hb
  ·cases hb
  ·exact .inl ((dQ p1).2 (gW.2 (.inr hb)))
 ·intro b hb
  rw [iL p2, jO] at hb
  rcases hb with hb | hb
  ·cases own with
   | true => exact .inl ((dQ p1).2 (gW.2 (.inl (aA9 hb))))
   | false => exact .inr (.inl ((iL p1).2 (jO.2 (.inl hb))))
  ·exact .inr (.inl ((iL p1).2 (jO.2 (.inr hb))))
end
end Go.Vc