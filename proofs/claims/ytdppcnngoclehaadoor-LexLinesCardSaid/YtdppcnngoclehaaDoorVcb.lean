/-
 Laws on reified states.
 Laws on heaps.
 Soundness of what only reckons.
 Soundness: parts and elements.
 Soundness of the operations that make no memory.
 Soundness of loads and stores.
 Soundness of stores, and of new memory.
 Soundness: stores, new blocks, new slices.
 Soundness: indexes, fields, parts of texts and slices, conversions, built-in functions.
-/
import Derived.Test.YtdppcnngoclehaaDoorVca
import Derived.Laws.Small
import Derived.Laws.StructEq
import Derived.ChangeKeysEq
import Derived.Laws.BytesString
import Derived.Lib.ConvBytes
set_option linter.unusedVariables false
set_option linter.unusedSimpArgs false
open _root_.Go.IntKind (wrap)
namespace Go.Vc
theorem aB7 {ρ σ : LD} {ts : List Tm} (h : ts.all (Tm.under ρ.length) = true) : ts.map (Tm.den (ρ ++ σ)) = ts.map (Tm.den ρ) :=
 List.map_congr_left fun t ht => Tm.aQ (List.all_eq_true.1 h t ht)
theorem aU0 {ρ σ : LD} {ts : List Tm} (h : ts.all (Tm.under ρ.length) = true) :
  ts.map (fun b => Value.pointer (some ⟨(b.den (ρ ++ σ)).toN, 0, none⟩)) = ts.map (fun b => Value.pointer (some ⟨(b.den ρ).toN, 0, none⟩)) :=
 List.map_congr_left fun t ht => by rw [Tm.aQ (List.all_eq_true.1 h t ht)]
theorem Lf.jP {ρ σ : LD} {l : Lf} (h : l.under ρ.length = true) (v : Value) : l.holds (ρ ++ σ) v = l.holds ρ v := by
 cases l <;> simp only [Lf.under, Bool.and_eq_true] at h <;> simp only [Lf.holds]
 case int k t => rw [Tm.aQ h]
 case bool t => rw [Tm.aQ h]
 case str t => rw [Tm.aQ h]
 case ptr b o => rw [Tm.aQ h]
 case aptr b o i n => rw [Tm.aQ h.1, Tm.aQ h.2]
 case eptr a i es o => rw [Tm.aQ h.1, Tm.aQ h.2]
 case bsl b o n => rw [Tm.aQ h]
 case sl a => rw [Tm.aQ h]
 case mp b => rw [Tm.aQ h]
 case clo f fs cs => rw [aU0 h.1, aU0 h.2]
theorem Lf.gU {n m : Nat} {l : Lf} (h : l.under n = true) (hm : n ≤ m) : l.under m = true := by
 have all : ∀ {ts : List Tm}, ts.all (Tm.under n) = true → ts.all (Tm.under m) = true := fun h => List.all_eq_true.2 fun t ht => Tm.gU (List.all_eq_true.1 h t ht) hm
 cases l <;> simp only [Lf.under, Bool.and_eq_true] at h ⊢ <;> first | exact ⟨all h.1, all h.2⟩ | exact ⟨Tm.gU h.1 hm, Tm.gU h.2 hm⟩ | exact Tm.gU h hm
theorem mY {ρ σ : LD} : ∀ {ps : List Pt}, ps.all (Pt.under ρ.length) = true → ∀ vs, aG (ρ ++ σ) ps vs = aG ρ ps vs
 | [], _, _ => rfl
 | .lf l :: ps, h, vs => by
  simp only [List.all_cons, Bool.and_eq_true, Pt.under] at h
  simp only [aG, Lf.jP h.1, mY h.2]
 | .ints k n L :: ps, h, vs => by
  simp only [List.all_cons, Bool.and_eq_true, Pt.under] at h
  simp only [aG, Tm.aQ h.1, mY h.2]
theorem S0.jP {ρ σ : LD} {x : S0} (h : x.under ρ.length = true) (v : Value) : x.holds (ρ ++ σ) v = x.holds ρ v := by
 cases x with
 | lf l => exact Lf.jP h v
 | agg ps => simp only [S0.holds, mY (ps := ps) h]
theorem aW3 {ρ σ : LD} : ∀ {xs : List S0}, xs.all (S0.under ρ.length) = true → ∀ vs, iD (ρ ++ σ) xs vs = iD ρ xs vs
 | [], _, _ => rfl
 | x :: xs, h, vs => by
  simp only [List.all_cons, Bool.and_eq_true] at h
  simp only [iD, S0.jP h.1, aW3 h.2]
theorem SV.jP {ρ σ : LD} {x : SV} (h : x.under ρ.length = true) (v : Value) : x.holds (ρ ++ σ) v = x.holds ρ v := by
 cases x with
 | one x => exact S0.jP h v
 | tup xs => simp only [SV.holds, aW3 (xs := xs) h]
theorem zI {ρ σ : LD} : ∀ {xs : List SV}, xs.all (SV.under ρ.length) = true → ∀ vs, aN (ρ ++ σ) xs vs = aN ρ xs vs
 | [], _, _ => rfl
 | x :: xs, h, vs => by
  simp only [List.all_cons, Bool.and_eq_true] at h
  simp only [aN, SV.jP h.1, zI h.2]
theorem Ch.jP {ρ σ : LD} {c : Ch} (h : c.under ρ.length = true) (w : World) : c.holds (ρ ++ σ) w = c.holds ρ w := by
 cases c with
 | box b ps =>
  simp only [Ch.under, Bool.and_eq_true] at h
  simp only [Ch.holds, Tm.aQ h.1, mY h.2]
 | osl a ek L =>
  simp only [Ch.under, Bool.and_eq_true] at h
  simp only [Ch.holds, Tm.aQ h.1, Tm.aQ h.2]
 | rsl a ek L =>
  simp only [Ch.under, Bool.and_eq_true] at h
  simp only [Ch.holds, Tm.aQ h.1, Tm.aQ h.2]
 | abs k ts =>
  simp only [Ch.under] at h
  simp only [Ch.holds, aB7 h]
theorem Ch.aH9 {ρ σ : LD} {c : Ch} (h : c.under ρ.length = true) : c.own (ρ ++ σ) = c.own ρ := by
 cases c with
 | abs k ts => simp only [Ch.under] at h; simp only [Ch.own, aB7 h]
 | box b ps => simp only [Ch.under, Bool.and_eq_true] at h; simp only [Ch.own, Tm.aQ h.1]
 | osl a ek L => simp only [Ch.under, Bool.and_eq_true] at h; simp only [Ch.own, Tm.aQ h.1]
 | rsl a ek L => rfl
theorem Ch.aU6 {ρ σ : LD} {c : Ch} (h : c.under ρ.length = true) : c.ro (ρ ++ σ) = c.ro ρ := by
 cases c with
 | abs k ts => simp only [Ch.under] at h; simp only [Ch.ro, aB7 h]
 | box b ps => rfl
 | osl a ek L => rfl
 | rsl a ek L => simp only [Ch.under, Bool.and_eq_true] at h; simp only [Ch.ro, Tm.aQ h.1]
theorem Ch.bE6 {ρ σ : LD} {c : Ch} (h : c.under ρ.length = true) {b : Nat} : c.dM (ρ ++ σ) b ↔ c.dM ρ b := by
 rw [← Ch.oM, ← Ch.oM, Ch.aU6 h]
theorem uD {α β : Type} {f g : α → List β} : ∀ {l : List α}, (∀ x ∈ l, f x = g x) → l.flatMap f = l.flatMap g
 | [], _ => rfl
 | x :: l, h => by
  simp only [List.flatMap_cons, h x (by simp), uD (l := l) fun y hy => h y (by simp [hy])]
theorem mV {ρ σ : LD} {hs : List Ch} (h : hs.all (Ch.under ρ.length) = true) : owns (ρ ++ σ) hs = owns ρ hs :=
 uD fun c hc => Ch.aH9 (List.all_eq_true.1 h c hc)
theorem rY {ρ σ : LD} {hs : List Ch} (h : hs.all (Ch.under ρ.length) = true) : ros (ρ ++ σ) hs = ros ρ hs :=
 uD fun c hc => Ch.aU6 (List.all_eq_true.1 h c hc)
theorem aJ.under {ρ σ : LD} {hs : List Ch} {w : World} (h : hs.all (Ch.under ρ.length) = true) (hh : aJ ρ hs w) : aJ (ρ ++ σ) hs w := by
 have hu := List.all_eq_true.1 h
 refine ⟨fun c hc => by rw [Ch.jP (hu c hc)]; exact hh.holds c hc, by rw [mV h]; exact hh.nodup, fun c hc b hb => ?_⟩
 rw [mV h]
 rw [Ch.bE6 (hu c hc)] at hb
 exact hh.ro c hc b hb
theorem bH : ∀ {ss : List Srt} {ds : LD}, bC ss ds → ds.length = ss.length
 | [], [], _ => rfl
 | _ :: ss, _ :: ds, h => by simp [bH (ss := ss) (ds := ds) h.2]
 | [], _ :: _, h => h.elim
 | _ :: _, [], h => h.elim
theorem zA : ∀ {ss : List Srt} {ds : LD} {ss' : List Srt} {ds' : LD}, bC ss ds → bC ss' ds' → bC (ss ++ ss') (ds ++ ds')
 | [], [], _, _, _, h => h
 | _ :: _, _ :: _, _, _, h, h' => ⟨h.1, zA h.2 h'⟩
 | [], _ :: _, _, _, h, _ => h.elim
 | _ :: _, [], _, _, h, _ => h.elim
theorem aW9 : ∀ {ss : List Srt} {ds : LD} {i : Nat} {s : Srt}, bC ss ds → ss[i]? = some s → s.ok (ds.getD i default)
 | [], _, _, _, _, h => by simp at h
 | _ :: _, [], _, _, h, _ => h.elim
 | s :: ss, d :: ds, 0, _, h, h' => by simp at h'; subst h'; exact h.1
 | _ :: ss, _ :: ds, i + 1, _, h, h' => by
  have := aW9 (ss := ss) (ds := ds) (i := i) h.2 (by simpa using h')
  simpa using this
theorem Tm.bL5 {ss : List Srt} {ρ : LD} (hs : bC ss ρ) : ∀ {t : Tm} {s : Srt}, t.shp ss = some s → s.ok (t.den ρ)
 | .at i, s, h => aW9 hs h
 | .int n, s, h => by simp [Tm.shp] at h; subst h; exact ⟨_, rfl⟩
 | .bool n, s, h => by simp [Tm.shp] at h; subst h; exact ⟨_, rfl⟩
 | .str n, s, h => by simp [Tm.shp] at h; subst h; exact ⟨_, rfl⟩
 | .nat n, s, h => by simp [Tm.shp] at h; subst h; exact ⟨_, rfl⟩
 | .lis n, s, h => by simp [Tm.shp] at h; subst h; exact ⟨_, rfl⟩
 | .lnil, s, h => by simp [Tm.shp] at h; subst h; exact ⟨_, rfl⟩
 | .o1 o a, s, h => by
  cases o <;> (simp [Tm.shp] at h; subst h; exact ⟨_, rfl⟩)
 | .o2 o a b, s, h => by
  cases o <;> first | (simp [Tm.shp] at h; subst h; exact ⟨_, rfl⟩) | (simp [Tm.shp] at h)
 | .o3 o a b c, s, h => by
  cases o <;> (simp [Tm.shp] at h; subst h; exact ⟨_, rfl⟩)
theorem yY {ss : List Srt} {ρ : LD} (hs : bC ss ρ) : ∀ {ts : List Tm} {rs : List Srt}, shapes ss ts rs = true → bC rs (ts.map (Tm.den ρ))
 | [], [], _ => trivial
 | t :: ts, r :: rs, h => by
  simp only [shapes, Bool.and_eq_true, decide_eq_true_eq] at h
  exact ⟨Tm.bL5 hs h.1, yY hs h.2⟩
 | [], _ :: _, h => by simp [shapes] at h
 | _ :: _, [], h => by simp [shapes] at h
theorem Lf.jD {ρ σ : LD} {θ : List Tm} (l : Lf) (v : Value) :
  (l.subst ρ.length θ).holds (ρ ++ σ) v = l.holds (ρ ++ θ.map (Tm.den (ρ ++ σ))) v := by
 cases l <;> simp only [Lf.subst, Lf.holds, Tm.jL, List.map_map, Function.comp_def]
theorem yJ {ρ σ : LD} {θ : List Tm} : ∀ (ps : List Pt) (vs : List Value),
  aG (ρ ++ σ) (ps.map (Pt.subst ρ.length θ)) vs = aG (ρ ++ θ.map (Tm.den (ρ ++ σ))) ps vs
 | [], _ => rfl
 | .lf l :: ps, vs => by simp only [List.map_cons, Pt.subst, aG, Lf.jD, yJ ps]
 | .ints k n L :: ps, vs => by simp only [List.map_cons, Pt.subst, aG, Tm.jL, yJ ps]
theorem S0.jD {ρ σ : LD} {θ : List Tm} (x : S0) (v : Value) :
  (x.subst ρ.length θ).holds (ρ ++ σ) v = x.holds (ρ ++ θ.map (Tm.den (ρ ++ σ))) v := by
 cases x with
 | lf l => exact Lf.jD l v
 | agg ps => simp only [S0.subst, S0.holds, yJ]
theorem aW2 {ρ σ : LD} {θ : List Tm} : ∀ (xs : List S0) (vs : List Value),
  iD (ρ ++ σ) (xs.map (S0.subst ρ.length θ)) vs = iD (ρ ++ θ.map (Tm.den (ρ ++ σ))) xs vs
 | [], _ => rfl
 | x :: xs, vs => by simp only [List.map_cons, iD, S0.jD, aW2 xs]
theorem SV.jD {ρ σ : LD} {θ : List Tm} (x : SV) (v : Value) :
  (x.subst ρ.length θ).holds (ρ ++ σ) v = x.holds (ρ ++ θ.map (Tm.den (ρ ++ σ))) v := by
 cases x with
 | one x => exact S0.jD x v
 | tup xs => simp only [SV.subst, SV.holds, aW2]
theorem aJ8 {ρ σ : LD} {θ : List Tm} : ∀ (xs : List SV) (vs : List Value),
  aN (ρ ++ σ) (xs.map (SV.subst ρ.length θ)) vs = aN (ρ ++ θ.map (Tm.den (ρ ++ σ))) xs vs
 | [], _ => rfl
 | x :: xs, vs => by simp only [List.map_cons, aN, SV.jD, aJ8 xs]
theorem Ch.jD {ρ σ : LD} {θ : List Tm} (c : Ch) (w : World) :
  (c.subst ρ.length θ).holds (ρ ++ σ) w = c.holds (ρ ++ θ.map (Tm.den (ρ ++ σ))) w := by
 cases c <;> simp only [Ch.subst, Ch.holds, Tm.jL, yJ, List.map_map, Function.comp_def]
theorem Ch.bI9 {ρ σ : LD} {θ : List Tm} (c : Ch) : (c.subst ρ.length θ).own (ρ ++ σ) = c.own (ρ ++ θ.map (Tm.den (ρ ++ σ))) := by
 cases c <;> simp only [Ch.subst, Ch.own, Tm.jL, List.map_map, Function.comp_def]
theorem Ch.aU5 {ρ σ : LD} {θ : List Tm} (c : Ch) : (c.subst ρ.length θ).ro (ρ ++ σ) = c.ro (ρ ++ θ.map (Tm.den (ρ ++ σ))) := by
 cases c <;> simp only [Ch.subst, Ch.ro, Tm.jL, List.map_map, Function.comp_def]
theorem Ch.aO4 {ρ σ : LD} {θ : List Tm} (c : Ch) {b : Nat} : (c.subst ρ.length θ).dM (ρ ++ σ) b ↔ c.dM (ρ ++ θ.map (Tm.den (ρ ++ σ))) b := by
 rw [← Ch.oM, ← Ch.oM, Ch.aU5]
theorem mQ {ρ σ : LD} {θ : List Tm} (hs : List Ch) : owns (ρ ++ σ) (hs.map (Ch.subst ρ.length θ)) = owns (ρ ++ θ.map (Tm.den (ρ ++ σ))) hs := by
 simp only [owns, List.flatMap_map]
 exact uD fun c _ => Ch.bI9 c
theorem yQ {ρ σ : LD} {θ : List Tm} (hs : List Ch) : ros (ρ ++ σ) (hs.map (Ch.subst ρ.length θ)) = ros (ρ ++ θ.map (Tm.den (ρ ++ σ))) hs := by
 simp only [ros, List.flatMap_map]
 exact uD fun c _ => Ch.aU5 c
theorem aJ.aH5 {ρ σ : LD} {θ : List Tm} {hs : List Ch} {w : World} (h : aJ (ρ ++ σ) (hs.map (Ch.subst ρ.length θ)) w) :
  aJ (ρ ++ θ.map (Tm.den (ρ ++ σ))) hs w := by
 refine ⟨fun c hc => ?_, ?_, fun c hc b hb => ?_⟩
 ·have := h.holds _ (List.mem_map_of_mem (f := Ch.subst ρ.length θ) hc)
  rwa [Ch.jD] at this
 ·have := h.nodup
  rwa [mQ] at this
 ·have := h.ro _ (List.mem_map_of_mem (f := Ch.subst ρ.length θ) hc) b (by rw [Ch.aO4]; exact hb)
  rwa [mQ] at this
theorem aJ.bM8 {ρ σ : LD} {θ : List Tm} {hs : List Ch} {w : World} (h : aJ (ρ ++ θ.map (Tm.den (ρ ++ σ))) hs w) :
  aJ (ρ ++ σ) (hs.map (Ch.subst ρ.length θ)) w := by
 refine ⟨fun c hc => ?_, ?_, fun c hc b hb => ?_⟩
 ·obtain ⟨c', hc', rfl⟩ := List.mem_map.1 hc
  rw [Ch.jD]; exact h.holds _ hc'
 ·rw [mQ]; exact h.nodup
 ·obtain ⟨c', hc', rfl⟩ := List.mem_map.1 hc
  rw [mQ]; exact h.ro _ hc' b (by rw [← Ch.aO4]; exact hb)
theorem aX5 : ∀ {ρ : LD} {xs : List SV} {vs : List Value}, aN ρ xs vs → vs.length = xs.length
 | _, [], _, h => by simp only [aN] at h; subst h; rfl
 | _, _ :: xs, _, h => by obtain ⟨v, r, rfl, _, h⟩ := h; simp [aX5 h]
theorem zH : ∀ {ρ : LD} {xs : List SV} {vs : List Value} {i : Nat} {x : SV}, aN ρ xs vs → xs[i]? = some x → ∃ v, vs[i]? = some v ∧ x.holds ρ v
 | _, [], _, _, _, _, h => by simp at h
 | _, y :: xs, _, 0, x, h, hx => by obtain ⟨v, r, rfl, hv, _⟩ := h; simp at hx; subst hx; exact ⟨v, rfl, hv⟩
 | _, y :: xs, _, i + 1, x, h, hx => by
  obtain ⟨v, r, rfl, _, h⟩ := h
  obtain ⟨u, hu, hh⟩ := zH h (by simpa using hx)
  exact ⟨u, by simpa using hu, hh⟩
theorem aX6 : ∀ {ρ : LD} {xs : List SV} {vs : List Value} {i : Nat} {x : SV} {v : Value}, aN ρ xs vs → x.holds ρ v → aN ρ (xs.set i x) (vs.set i v)
 | _, [], _, _, _, _, h, _ => by simp only [aN] at h; subst h; simp [aN]
 | _, y :: xs, _, 0, x, v, h, hx => by obtain ⟨u, r, rfl, _, h⟩ := h; exact ⟨v, r, rfl, hx, h⟩
 | _, y :: xs, _, i + 1, x, v, h, hx => by
  obtain ⟨u, r, rfl, hu, h⟩ := h
  exact ⟨u, r.set i v, rfl, hu, aX6 h hx⟩
theorem zG : ∀ {ρ : LD} {xs ys : List SV} {vs us : List Value}, aN ρ xs vs → aN ρ ys us → aN ρ (xs ++ ys) (vs ++ us)
 | _, [], _, _, _, h, h' => by simp only [aN] at h; subst h; exact h'
 | _, x :: xs, _, _, _, h, h' => by obtain ⟨v, r, rfl, hv, h⟩ := h; exact ⟨v, _, rfl, hv, zG h h'⟩
theorem aX4 {ρ : LD} : ∀ (vs : List Value), aN ρ (List.replicate vs.length (.one (.lf .junk))) vs
 | [] => rfl
 | v :: vs => ⟨v, vs, rfl, trivial, aX4 vs⟩
theorem aX3 {ρ : LD} : ∀ {ps xs : List SV} {vs : List Value}, qC ps xs = true → aN ρ xs vs → aN ρ ps vs
 | [], [], _, _, h => h
 | p :: ps, x :: xs, _, hc, h => by
  simp only [qC, Bool.and_eq_true, Bool.or_eq_true, decide_eq_true_eq] at hc
  obtain ⟨v, r, rfl, hv, h⟩ := h
  refine ⟨v, r, rfl, ?_, aX3 hc.2 h⟩
  rcases hc.1 with rfl | rfl
  ·exact hv
  ·trivial
 | [], _ :: _, _, h, _ => by simp [qC] at h
 | _ :: _, [], _, h, _ => by simp [qC] at h
theorem Act.bJ7 (a : Act) (d : Option Tmp) (v : Value) : (a.put d v).tmps.toList = match d with | some d => a.tmps.toList.set d v | none => a.tmps.toList := by
 cases d with
 | none => rfl
 | some d => simp [Act.put]
theorem bM7 {ρ : LD} {S : St} {a : Act} {d : Option Tmp} {x : SV} {v : Value} (h : aN ρ S.tmps a.tmps.toList) (hx : x.holds ρ v) :
  aN ρ (S.put d x).tmps (a.put d v).tmps.toList := by
 rw [Act.bJ7]
 cases d with
 | none => exact h
 | some d => exact aX6 h hx
theorem St.yL (S : St) (d : Option Tmp) (x : SV) : (S.put d x).heap = S.heap := by cases d <;> rfl
theorem St.bJ6 (S : St) (d : Option Tmp) (x : SV) : (S.put d x).aA = S.aA := by cases d <;> rfl
theorem Act.bJ5 (a : Act) (d : Option Tmp) (v : Value) : (a.put d v).defers = a.defers := by cases d <;> rfl
section
variable {G : List Glob} {w0 : World} {D0 R0 : List Nat} {ρ : LD} {S : St} {a : Act} {w : World}
theorem Rel.put (h : Rel G w0 D0 R0 ρ S a w) {d : Option Tmp} {x : SV} {v : Value} (hx : x.holds ρ v) : Rel G w0 D0 R0 ρ (S.put d x) (a.put d v) w :=
 ⟨by rw [St.bJ6]; exact h.aA, bM7 h.tmps hx, by rw [Act.bJ5]; exact h.defers, by rw [St.yL]; exact h.heap,
  by rw [St.yL]; exact h.globs, h.frame, by rw [St.yL]; exact h.within, by rw [St.yL]; exact h.within'⟩
theorem Rel.slot (h : Rel G w0 D0 R0 ρ S a w) {i : Nat} {x : SV} (hx : S.tmps[i]? = some x) : x.holds ρ (a.eval (.tmp i)) := by
 obtain ⟨v, hv, hh⟩ := zH h.tmps hx
 have : a.tmps.getD i undef = v := by
  rw [Array.getD_eq_getD_getElem?, ← Array.getElem?_toList, hv]; rfl
 simp only [Act.eval, this]; exact hh
theorem Rel.fresh (h : Rel G w0 D0 R0 ρ S a w) (hu : S.under = true) {s : Srt} {d : D} (hd : s.ok d) :
  Rel G w0 D0 R0 (ρ ++ [d]) { S with aA := S.aA ++ [s] } a w := by
 have hn : ρ.length = S.aA.length := bH h.aA
 simp only [St.under, Bool.and_eq_true, ← hn] at hu
 refine ⟨zA h.aA ⟨hd, trivial⟩, by rw [zI hu.1]; exact h.tmps, h.defers, h.heap.under hu.2, ?_, h.frame, ?_, ?_⟩
 ·simp only [mV hu.2]; exact h.globs
 ·simp only [mV hu.2]; exact h.within
 ·simp only [rY hu.2]; exact h.within'
end
end Go.Vc
namespace Go.Vc
theorem gW.congr {w w' : World} {v : Value} {es m : Nat} {xs : List Value} (hb : ∀ b, v.ownBlock = some b → w'.heap[b]? = w.heap[b]?) (h : gW w v es m xs) : gW w' v es m xs := by
 rcases h with h | ⟨g, cap, cur, e, fz, rfl, hg, h⟩
 ·exact .inl h
 ·exact .inr ⟨g, cap, cur, e, fz, rfl, by rw [hb g rfl]; exact hg, h⟩
theorem iF.congr {w w' : World} {v : Value} {es m : Nat} {xs : List Value} (hb : ∀ b, roB v = some b → w'.heap[b]? = w.heap[b]?) (hs : w.heap.size ≤ w'.heap.size) (h : iF w v es m xs) : iF w' v es m xs := by
 rcases h with h | h | ⟨ad, cap, rfl, h1, h2, h3, h4, h5, h6⟩
 ·exact .inl h
 ·exact .inr (.inl h)
 ·refine .inr (.inr ⟨ad, cap, rfl, h1, by omega, h3, h4, h5, fun j u hu => ?_⟩)
  rw [World.cell?_of_block (w := w)]
  ·exact h6 j u hu
  ·have hbl : (ad.add j).block = ad.block := by unfold Addr.add; split <;> rfl
   rw [hbl]
   match m with
   | 0 => have := (List.getElem?_eq_some_iff.1 hu).1; omega
   | n + 1 => exact hb ad.block rfl
theorem gW.lt {w : World} {v : Value} {es m : Nat} {xs : List Value} (h : gW w v es m xs) {b : Nat} (hb : v.ownBlock = some b) : b < w.heap.size := by
 rcases h with ⟨rfl, _⟩ | ⟨g, cap, cur, e, fz, rfl, hg, h⟩
 ·cases hb
 ·cases hb
  exact (Array.getElem?_eq_some_iff.1 hg).1
theorem iF.lt {w : World} {v : Value} {es m : Nat} {xs : List Value} (h : iF w v es m xs) {b : Nat} (hb : roB v = some b) : b < w.heap.size := by
 rcases h with ⟨rfl, _⟩ | ⟨ad, cap, rfl, _⟩ | ⟨ad, cap, rfl, h1, h2, _⟩
 ·cases hb
 ·cases hb
 ·cases vC hb; exact h2
theorem gW.rd {w : World} {v : Value} {es m : Nat} {xs : List Value} (h : gW w v es m xs) : iF w v es m xs := by
 rcases h with h | ⟨g, cap, cur, e, fz, rfl, hg, hfz, h1, h2, h3, h4, h5⟩
 ·exact .inl h
 ·refine .inr (.inr ⟨⟨g, 0, none⟩, cap, rfl, rfl, (Array.getElem?_eq_some_iff.1 hg).1, h1, h2, h4, fun j u hu => ?_⟩)
  have hj : j < m * es := by rw [← h4]; exact (List.getElem?_eq_some_iff.1 hu).1
  have : cur.toList[j]? = some u := by
   rw [← h5, List.getElem?_take] at hu
   simpa [hj] using hu
  have hc : cur[j]? = some u := by simpa using this
  unfold Addr.add
  split
  ·rename_i hj0; subst hj0; simp [World.cell?, hg, hc]
  ·simp [World.cell?, hg, hc]
mutual
theorem CK.bC6 {w w' : World} (hs : w.heap.size ≤ w'.heap.size) : ∀ {c : CK} {d : D}, (∀ b ∈ c.blks d, w'.heap[b]? = w.heap[b]?) → c.deep w d → c.deep w' d
 | .int _, _, _, _ => trivial
 | .ints _ _, _, _, _ => trivial
 | .bool, _, _, _ => trivial
 | .str, _, _, _ => trivial
 | .sl ek, d, hb, h =>
  ⟨h.1.congr (fun b hbb => hb b (List.mem_append.2 (.inl (by simp [hbb])))) hs, fun x hx => aB5 hs (fun b hbb => hb b (List.mem_append.2 (.inr (List.mem_flatMap.2 ⟨x, hx, hbb⟩)))) (h.2 x hx)⟩
theorem aB5 {w w' : World} (hs : w.heap.size ≤ w'.heap.size) : ∀ {cs : List CK} {ds : LD}, (∀ b ∈ gB cs ds, w'.heap[b]? = w.heap[b]?) → kJ w cs ds → kJ w' cs ds
 | [], _, _, _ => trivial
 | _ :: _, [], _, _ => trivial
 | c :: cs, d :: ds, hb, h =>
  ⟨CK.bC6 hs (fun b hbb => hb b (List.mem_append.2 (.inl hbb))) h.1, aB5 hs (fun b hbb => hb b (List.mem_append.2 (.inr hbb))) h.2⟩
end
theorem bC5 {w w' : World} (hs : w.heap.size ≤ w'.heap.size) {ek : List CK} {d : D} (hb : ∀ b ∈ dK ek d, w'.heap[b]? = w.heap[b]?) (h : gX w ek d) : gX w' ek d :=
 fun x hx => aB5 hs (fun b hbb => hb b (List.mem_flatMap.2 ⟨x, hx, hbb⟩)) (h x hx)
mutual
theorem CK.bB0 {w : World} : ∀ {c : CK} {d : D}, c.deep w d → ∀ b ∈ c.blks d, b < w.heap.size
 | .int _, _, _, b, hb => by cases hb
 | .ints _ _, _, _, b, hb => by cases hb
 | .bool, _, _, b, hb => by cases hb
 | .str, _, _, b, hb => by cases hb
 | .sl ek, d, h, b, hb => by
  rcases List.mem_append.1 hb with hb | hb
  ·exact h.1.lt (by simpa using hb)
  ·obtain ⟨x, hx, hb⟩ := List.mem_flatMap.1 hb
   exact aA2 (h.2 x hx) b hb
theorem aA2 {w : World} : ∀ {cs : List CK} {ds : LD}, kJ w cs ds → ∀ b ∈ gB cs ds, b < w.heap.size
 | [], _, _, b, hb => by cases hb
 | _ :: _, [], _, b, hb => by cases hb
 | c :: cs, d :: ds, h, b, hb => by
  rcases List.mem_append.1 hb with hb | hb
  ·exact CK.bB0 h.1 b hb
  ·exact aA2 h.2 b hb
end
theorem bA9 {w : World} {ek : List CK} {d : D} (h : gX w ek d) : ∀ b ∈ dK ek d, b < w.heap.size := by
 intro b hb
 obtain ⟨x, hx, hb⟩ := List.mem_flatMap.1 hb
 exact aA2 (h x hx) b hb
theorem bY.congr {w w' : World} {b : Nat} {es : List MapEntry} {clock : Nat} (hb : w'.heap[b]? = w.heap[b]?) (h : bY w b es clock) : bY w' b es clock := ⟨hb.trans h.1, h.2⟩
theorem bY.lt {w : World} {b : Nat} {es : List MapEntry} {clock : Nat} (h : bY w b es clock) : b < w.heap.size := (Array.getElem?_eq_some_iff.1 h.1).1
theorem yS {w w' : World} {K : CK} {ek : EK} : ∀ {es : List MapEntry} {L : LD}, (∀ b ∈ aP L, w'.heap[b]? = w.heap[b]?) → iL w K ek es L → iL w' K ek es L
 | [], [], _, _ => trivial
 | [], _ :: _, _, h => h.elim
 | _ :: _, [], _, h => h.elim
 | e :: es, r :: L, hb, ⟨⟨h1, h2, h3, h4, h5, cs, t, fz, h6, h7⟩, hr⟩ =>
  ⟨⟨h1, h2, h3, h4, h5, cs, t, fz, (hb _ (by simp [aP])).trans h6, h7⟩, yS (fun b hbb => hb b (by simp only [aP, List.map_cons, List.mem_cons] at hbb ⊢; exact .inr hbb)) hr⟩
theorem aI6 {w : World} {K : CK} {ek : EK} : ∀ {es : List MapEntry} {L : LD}, iL w K ek es L → ∀ b ∈ aP L, b < w.heap.size
 | [], [], _, b, hb => by cases hb
 | [], _ :: _, h, _, _ => h.elim
 | _ :: _, [], h, _, _ => h.elim
 | e :: es, r :: L, ⟨⟨h1, h2, h3, h4, h5, cs, t, fz, h6, h7⟩, hr⟩, b, hb => by
  simp only [aP, List.map_cons, List.mem_cons] at hb
  rcases hb with rfl | hb
  ·exact (Array.getElem?_eq_some_iff.1 h6).1
  ·exact aI6 hr b hb
theorem kF.congr {w w' : World} {b m : Nat} {es : List MapEntry} {clock : Nat} {L S : LD} (hb : w'.heap[b]? = w.heap[b]?) (h : kF w b m es clock L S) : kF w' b m es clock L S := by
 obtain ⟨seen, h1, h2⟩ := h
 exact ⟨seen, hb.trans h1, h2⟩
theorem kF.lt {w : World} {b m : Nat} {es : List MapEntry} {clock : Nat} {L S : LD} (h : kF w b m es clock L S) : b < w.heap.size := by
 obtain ⟨seen, h1, h2⟩ := h
 exact (Array.getElem?_eq_some_iff.1 h1).1
theorem Kd.aE8 {w w' : World} {k : Kd} {ds : LD} (hb : ∀ b, b ∈ k.own ds ∨ b ∈ k.ro ds → w'.heap[b]? = w.heap[b]?) (hs : w.heap.size ≤ w'.heap.size) (h : k.holds w ds) : k.holds w' ds := by
 cases k with
 | deep ek => exact bC5 hs (fun b hbb => hb b (.inr hbb)) h
 | mp K E =>
  obtain ⟨es, clock, h1, h2⟩ := h
  exact ⟨es, clock, h1.congr (hb _ (.inl (by simp [Kd.own]))), h2⟩
 | mpp K ek =>
  obtain ⟨es, clock, h1, h2, h3⟩ := h
  exact ⟨es, clock, h1.congr (hb _ (.inl (by simp [Kd.own]))), yS (fun b hbb => hb b (.inl (by simp [Kd.own, hbb]))) h2, h3⟩
 | mpi K E =>
  obtain ⟨es, clock, h1, h2, h3, h4⟩ := h
  exact ⟨es, clock, h1.congr (hb _ (.inl (by simp [Kd.own]))), h2, h3, h4.congr (hb _ (.inl (by simp [Kd.own])))⟩
 | mppi K ek =>
  obtain ⟨es, clock, h1, h2, h3, h4⟩ := h
  exact ⟨es, clock, h1.congr (hb _ (.inl (by simp [Kd.own]))), yS (fun b hbb => hb b (.inl (by simp [Kd.own, hbb]))) h2, h3, h4.congr (hb _ (.inl (by simp [Kd.own])))⟩
theorem Kd.dH {w : World} {k : Kd} {ds : LD} (h : k.holds w ds) {b : Nat} (hb : b ∈ k.own ds) : b < w.heap.size := by
 cases k with
 | deep ek => cases hb
 | mp K E =>
  obtain ⟨es, clock, h1, h2⟩ := h
  simp only [Kd.own, List.mem_singleton] at hb
  rw [hb]; exact h1.lt
 | mpp K ek =>
  obtain ⟨es, clock, h1, h2, h3⟩ := h
  simp only [Kd.own, List.mem_cons] at hb
  rcases hb with rfl | hb
  ·exact h1.lt
  ·exact aI6 h2 b hb
 | mpi K E =>
  obtain ⟨es, clock, h1, h2, h3, h4⟩ := h
  simp only [Kd.own, List.mem_cons, List.not_mem_nil, or_false] at hb
  rcases hb with rfl | rfl
  ·exact h1.lt
  ·exact h4.lt
 | mppi K ek =>
  obtain ⟨es, clock, h1, h2, h3, h4⟩ := h
  simp only [Kd.own, List.mem_cons] at hb
  rcases hb with rfl | rfl | hb
  ·exact h1.lt
  ·exact h4.lt
  ·exact aI6 h2 b hb
theorem Kd.gJ {w : World} {k : Kd} {ds : LD} (h : k.holds w ds) {b : Nat} (hb : b ∈ k.ro ds) : b < w.heap.size := by
 cases k with
 | deep ek => exact bA9 h b hb
 | _ => cases hb
theorem Ch.aE8 {ρ : LD} {c : Ch} {w w' : World} (hb : ∀ b, c.dR ρ b ∨ c.dM ρ b → w'.heap[b]? = w.heap[b]?) (hs : w.heap.size ≤ w'.heap.size) (h : c.holds ρ w) : c.holds ρ w' := by
 cases c with
 | box b ps =>
  obtain ⟨cs, e, fz, hg, h⟩ := h
  exact ⟨cs, e, fz, by rw [hb _ (.inl rfl)]; exact hg, h⟩
 | osl a ek L => exact ⟨h.1.congr fun b h => hb b (.inl h), h.2⟩
 | rsl a ek L => exact ⟨h.1.congr (fun b h => hb b (.inr h)) hs, h.2⟩
 | abs k ts => exact Kd.aE8 (fun b h => hb b h) hs h
theorem Ch.dH {ρ : LD} {c : Ch} {w : World} (h : c.holds ρ w) {b : Nat} (hb : c.dR ρ b) : b < w.heap.size := by
 cases c with
 | box a ps =>
  obtain ⟨cs, e, fz, hg, _⟩ := h
  cases hb
  exact (Array.getElem?_eq_some_iff.1 hg).1
 | osl a ek L => exact h.1.lt hb
 | rsl a ek L => cases hb
 | abs k ts => exact Kd.dH h hb
theorem Ch.gJ {ρ : LD} {c : Ch} {w : World} (h : c.holds ρ w) {b : Nat} (hb : c.dM ρ b) : b < w.heap.size := by
 cases c with
 | box a ps => cases hb
 | osl a ek L => cases hb
 | rsl a ek L => exact h.1.lt hb
 | abs k ts => exact Kd.gJ h hb
theorem Kd.aH8 {k : Kd} {ds : LD} {b b' : Nat} (h : b ∈ k.own ds) : b' ∉ k.ro ds := by
 cases k with
 | deep ek => cases h
 | _ => intro h'; cases h'
theorem Ch.aH8 {ρ : LD} {c : Ch} {b b' : Nat} (h : c.dR ρ b) (h' : c.dM ρ b') : False := by
 cases c with
 | abs k ts => exact Kd.aH8 h h'
 | box _ _ => cases h'
 | osl _ _ _ => cases h'
 | rsl _ _ _ => cases h
theorem iU {ρ : LD} {hs : List Ch} {b : Nat} : b ∈ owns ρ hs ↔ ∃ c ∈ hs, c.dR ρ b := by simp [owns, Ch.rC]
theorem dN {ρ : LD} {hs : List Ch} {b : Nat} : b ∈ ros ρ hs ↔ ∃ c ∈ hs, c.dM ρ b := by simp [ros, Ch.oM]
theorem aJ.dH {ρ : LD} {hs : List Ch} {w : World} (h : aJ ρ hs w) {b : Nat} (hb : b ∈ owns ρ hs) : b < w.heap.size := by
 obtain ⟨c, hc, hb⟩ := iU.1 hb
 exact Ch.dH (h.holds c hc) hb
theorem aJ.gJ {ρ : LD} {hs : List Ch} {w : World} (h : aJ ρ hs w) {b : Nat} (hb : b ∈ ros ρ hs) : b < w.heap.size := by
 obtain ⟨c, hc, hb⟩ := dN.1 hb
 exact Ch.gJ (h.holds c hc) hb
theorem aJ.perm {ρ : LD} {hs hs' : List Ch} {w : World} (p : hs.Perm hs') (h : aJ ρ hs w) : aJ ρ hs' w := by
 have po : (owns ρ hs).Perm (owns ρ hs') := p.flatMap_right _
 exact ⟨fun c hc => h.holds c (p.mem_iff.2 hc), po.nodup_iff.1 h.nodup, fun c hc b hb hm => h.ro c (p.mem_iff.2 hc) b hb (po.mem_iff.2 hm)⟩
theorem aE7 {ρ : LD} {c : Ch} {hs : List Ch} {w : World} : aJ ρ (c :: hs) w ↔
  c.holds ρ w ∧ aJ ρ hs w ∧ (c.own ρ).Nodup ∧ (∀ b, c.dR ρ b → b ∉ owns ρ hs ∧ b ∉ ros ρ hs) ∧ (∀ b, c.dM ρ b → b ∉ owns ρ hs) := by
 constructor
 ·intro h
  have hnd := h.nodup
  simp only [owns, List.flatMap_cons] at hnd
  obtain ⟨n1, n2, n3⟩ := List.nodup_append.1 hnd
  refine ⟨h.holds c (by simp), ⟨fun x hx => h.holds x (by simp [hx]), n2, fun x hx b hb hm => h.ro x (by simp [hx]) b hb ?_⟩, n1, fun b hb => ⟨fun hm => ?_, fun hm => ?_⟩, fun b hb hm => h.ro c (by simp) b hb ?_⟩
  ·obtain ⟨y, hy, hb'⟩ := iU.1 hm; exact iU.2 ⟨y, by simp [hy], hb'⟩
  ·exact n3 b (Ch.rC.2 hb) b hm rfl
  ·obtain ⟨y, hy, hb'⟩ := dN.1 hm
   exact h.ro y (by simp [hy]) b hb' (iU.2 ⟨c, by simp, hb⟩)
  ·obtain ⟨y, hy, hb'⟩ := iU.1 hm; exact iU.2 ⟨y, by simp [hy], hb'⟩
 ·rintro ⟨h1, h2, h0, h3, h4⟩
  refine ⟨fun x hx => ?_, ?_, fun x hx b hb hm => ?_⟩
  ·rcases List.mem_cons.1 hx with rfl | hx
   ·exact h1
   ·exact h2.holds x hx
  ·simp only [owns, List.flatMap_cons]
   exact List.nodup_append.2 ⟨h0, h2.nodup, fun a ha b hb he => (h3 a (Ch.rC.1 ha)).1 (he ▸ hb)⟩
  ·obtain ⟨y, hy, hb'⟩ := iU.1 hm
   rcases List.mem_cons.1 hx with rfl | hx
   ·rcases List.mem_cons.1 hy with rfl | hy
    ·exact Ch.aH8 hb' hb
    ·exact h4 b hb (iU.2 ⟨y, hy, hb'⟩)
   ·rcases List.mem_cons.1 hy with h0 | hy
    ·rw [h0] at hb'; exact (h3 b hb').2 (dN.2 ⟨x, hx, hb⟩)
    ·exact h2.ro x hx b hb (iU.2 ⟨y, hy, hb'⟩)
def Ch.single : Ch → Bool
 | .abs _ _ => false
 | _ => true
theorem Ch.aT3 {ρ : LD} {c : Ch} (h : c.single = true) : (c.own ρ).Nodup := by
 cases c with
 | box b ps => simp [Ch.own]
 | osl a ek L => simp only [Ch.own]; cases (a.den ρ).toV.ownBlock <;> simp
 | rsl a ek L => simp [Ch.own]
 | abs k ts => cases h
theorem qP {ρ : LD} {c : Ch} {hs : List Ch} {w : World} (h1 : c.single = true) : aJ ρ (c :: hs) w ↔
  c.holds ρ w ∧ aJ ρ hs w ∧ (∀ b, c.dR ρ b → b ∉ owns ρ hs ∧ b ∉ ros ρ hs) ∧ (∀ b, c.dM ρ b → b ∉ owns ρ hs) := by
 rw [aE7]
 exact ⟨fun h => ⟨h.1, h.2.1, h.2.2.2⟩, fun h => ⟨h.1, h.2.1, Ch.aT3 h1, h.2.2⟩⟩
theorem qQ {ρ : LD} {c : Ch} {hs : List Ch} {w : World} (h : aJ ρ (c :: hs) w) :
  c.holds ρ w ∧ aJ ρ hs w ∧ (∀ b, c.dR ρ b → b ∉ owns ρ hs ∧ b ∉ ros ρ hs) ∧ (∀ b, c.dM ρ b → b ∉ owns ρ hs) := by
 have h := aE7.1 h
 exact ⟨h.1, h.2.1, h.2.2.2⟩
theorem fO {ρ : LD} {c : Ch} {hs : List Ch} {b : Nat} : b ∈ owns ρ (c :: hs) ↔ c.dR ρ b ∨ b ∈ owns ρ hs := by
 simp only [iU, List.mem_cons, exists_eq_or_imp]
theorem iK {ρ : LD} {c : Ch} {hs : List Ch} {b : Nat} : b ∈ ros ρ (c :: hs) ↔ c.dM ρ b ∨ b ∈ ros ρ hs := by
 simp only [dN, List.mem_cons, exists_eq_or_imp]
theorem bJ {ρ : LD} {hs hs' : List Ch} : owns ρ (hs ++ hs') = owns ρ hs ++ owns ρ hs' := by simp [owns]
theorem oW {ρ : LD} {hs hs' : List Ch} : ros ρ (hs ++ hs') = ros ρ hs ++ ros ρ hs' := by simp [ros]
theorem bV {ρ : LD} {hs hs' : List Ch} (p : hs.Perm hs') {b : Nat} : b ∈ owns ρ hs ↔ b ∈ owns ρ hs' := (p.flatMap_right _).mem_iff
theorem eP {ρ : LD} {hs hs' : List Ch} (p : hs.Perm hs') {b : Nat} : b ∈ ros ρ hs ↔ b ∈ ros ρ hs' := (p.flatMap_right _).mem_iff
theorem aJ.congr {ρ : LD} {hs : List Ch} {w w' : World} (h : aJ ρ hs w) (hb : ∀ b, b ∈ owns ρ hs ∨ b ∈ ros ρ hs → w'.heap[b]? = w.heap[b]?) (hs' : w.heap.size ≤ w'.heap.size) : aJ ρ hs w' :=
 ⟨fun c hc => Ch.aE8 (fun b hbb => hb b (hbb.imp (fun h => iU.2 ⟨c, hc, h⟩) (fun h => dN.2 ⟨c, hc, h⟩))) hs' (h.holds c hc), h.nodup, h.ro⟩
structure Ext (w w' : World) : Prop where
 size : w.heap.size ≤ w'.heap.size
 block : ∀ b, b < w.heap.size → w'.heap[b]? = w.heap[b]?
 os : w'.os = w.os
 tape : w'.tape = w.tape
 output : w'.output = w.output
theorem Ext.refl (w : World) : Ext w w := ⟨Nat.le_refl _, fun _ _ => rfl, rfl, rfl, rfl⟩
theorem Ext.trans {a b c : World} (h : Ext a b) (k : Ext b c) : Ext a c :=
 ⟨Nat.le_trans h.size k.size, fun i hi => (k.block i (Nat.lt_of_lt_of_le hi h.size)).trans (h.block i hi), k.os.trans h.os, k.tape.trans h.tape, k.output.trans h.output⟩
theorem aJ.ext {ρ : LD} {hs : List Ch} {w w' : World} (h : aJ ρ hs w) (e : Ext w w') : aJ ρ hs w' :=
 h.congr (fun b hb => e.block b (hb.elim h.dH h.gJ)) e.size
theorem dJ.ext {w0 : World} {D0 : List Nat} {w w' : World} (h : dJ w0 D0 w) (e : Ext w w') : dJ w0 D0 w' :=
 ⟨e.os.trans h.os, e.tape.trans h.tape, e.output.trans h.output, Nat.le_trans h.size e.size, fun b hb hn => (e.block b (Nat.lt_of_lt_of_le hb h.size)).trans (h.block b hb hn)⟩
theorem Glob.lt {g : Glob} {w : World} (h : g.holds w) : g.g < w.heap.size := by
 obtain ⟨⟨e, fz, h⟩, _⟩ := h
 exact (Array.getElem?_eq_some_iff.1 h).1
theorem Glob.congr {g : Glob} {w w' : World} (h : g.holds w) (hb : w'.heap[g.g]? = w.heap[g.g]?) : g.holds w' := by
 obtain ⟨⟨e, fz, h⟩, h2⟩ := h
 exact ⟨⟨e, fz, hb.trans h⟩, h2⟩
section
variable {G : List Glob} {w0 : World} {D0 R0 : List Nat} {ρ : LD} {S : St} {a : Act} {w w' : World}
theorem Rel.ext (h : Rel G w0 D0 R0 ρ S a w) (e : Ext w w') : Rel G w0 D0 R0 ρ S a w' :=
 ⟨h.aA, h.tmps, h.defers, h.heap.ext e, fun g hg => ⟨Glob.congr (h.globs g hg).1 (e.block _ (Glob.lt (h.globs g hg).1)), (h.globs g hg).2⟩, h.frame.ext e, h.within, h.within'⟩
theorem Rel.nG (h : Rel G w0 D0 R0 ρ S a w) {hs : List Ch} (hh : aJ ρ hs w') (hsz : w.heap.size ≤ w'.heap.size)
  (hb : ∀ b, b < w.heap.size → b ∉ owns ρ S.heap → w'.heap[b]? = w.heap[b]?) (hos : w'.os = w.os) (htape : w'.tape = w.tape) (hout : w'.output = w.output)
  (ho : ∀ b ∈ owns ρ hs, b ∈ owns ρ S.heap ∨ w.heap.size ≤ b) (hr : ∀ b ∈ ros ρ hs, b ∈ owns ρ S.heap ∨ b ∈ ros ρ S.heap ∨ w.heap.size ≤ b) :
  Rel G w0 D0 R0 ρ { S with heap := hs } a w' := by
 refine ⟨h.aA, h.tmps, h.defers, hh, fun g hg => ⟨Glob.congr (h.globs g hg).1 (hb _ (Glob.lt (h.globs g hg).1) (h.globs g hg).2), fun hm => ?_⟩,
  ⟨hos.trans h.frame.os, htape.trans h.frame.tape, hout.trans h.frame.output, Nat.le_trans h.frame.size hsz, fun b hbl hn => ?_⟩, fun b hm => ?_, fun b hm => ?_⟩
 ·rcases ho _ hm with h1 | h1
  ·exact (h.globs g hg).2 h1
  ·have := Glob.lt (h.globs g hg).1; omega
 ·rw [hb b (Nat.lt_of_lt_of_le hbl h.frame.size) ?_, h.frame.block b hbl hn]
  intro hm
  rcases h.within b hm with h1 | h1
  ·exact hn h1
  ·omega
 ·rcases ho b hm with h1 | h1
  ·exact h.within b h1
  ·exact .inr (Nat.le_trans h.frame.size h1)
 ·rcases hr b hm with h1 | h1 | h1
  ·exact (h.within b h1).imp id .inl
  ·exact h.within' b h1
  ·exact .inr (.inl (Nat.le_trans h.frame.size h1))
end
theorem qJ {b : Tm} : ∀ {hs : List Ch} {ps : List Pt}, dZ b hs = some ps → ∃ l1 l2, hs = l1 ++ .box b ps :: l2 ∧ ∀ qs, iM b qs hs = l1 ++ .box b qs :: l2
 | [], _, h => by simp [dZ] at h
 | .box b' qs :: hs, ps, h => by
  simp only [dZ] at h
  split at h
  ·rename_i hb; subst hb; cases h; exact ⟨[], hs, rfl, fun qs => by simp [iM]⟩
  ·rename_i hb
   obtain ⟨l1, l2, rfl, hset⟩ := qJ h
   exact ⟨.box b' qs :: l1, l2, rfl, fun qs' => by simp [iM, hb, hset qs']⟩
 | .osl a ek L :: hs, ps, h => by
  obtain ⟨l1, l2, rfl, hset⟩ := qJ (hs := hs) (by simpa [dZ] using h)
  exact ⟨_ :: l1, l2, rfl, fun qs => by simp [iM, hset qs]⟩
 | .rsl a ek L :: hs, ps, h => by
  obtain ⟨l1, l2, rfl, hset⟩ := qJ (hs := hs) (by simpa [dZ] using h)
  exact ⟨_ :: l1, l2, rfl, fun qs => by simp [iM, hset qs]⟩
 | .abs k ts :: hs, ps, h => by
  obtain ⟨l1, l2, rfl, hset⟩ := qJ (hs := hs) (by simpa [dZ] using h)
  exact ⟨_ :: l1, l2, rfl, fun qs => by simp [iM, hset qs]⟩
def nK (own : Bool) (a : Tm) (ek : EK) (L : Tm) : Ch := if own then .osl a ek L else .rsl a ek L
theorem jO {a : Tm} : ∀ {hs : List Ch} {own : Bool} {ek : EK} {L : Tm}, aS a hs = some (own, ek, L) → ∃ l1 l2, hs = l1 ++ nK own a ek L :: l2 ∧
  (own = true → (∀ L', iO a L' hs = l1 ++ .osl a ek L' :: l2) ∧ dL a hs = l1 ++ l2) ∧ dB a hs = l1 ++ .rsl a ek L :: l2
 | [], _, _, _, h => by simp [aS] at h
 | .osl a' ek' L' :: hs, own, ek, L, h => by
  simp only [aS] at h
  split at h
  ·rename_i hb; subst hb; cases h; exact ⟨[], hs, rfl, fun _ => ⟨fun qs => by simp [iO], by simp [dL]⟩, by simp [dB]⟩
  ·rename_i hb
   obtain ⟨l1, l2, rfl, h1, h2⟩ := jO h
   exact ⟨.osl a' ek' L' :: l1, l2, rfl, fun ho => ⟨fun qs => by simp [iO, hb, (h1 ho).1 qs], by simp [dL, hb, (h1 ho).2]⟩, by simp [dB, hb, h2]⟩
 | .rsl a' ek' L' :: hs, own, ek, L, h => by
  simp only [aS] at h
  split at h
  ·rename_i hb; subst hb; cases h; exact ⟨[], hs, rfl, fun h => (by cases h), by simp [dB]⟩
  ·rename_i hb
   obtain ⟨l1, l2, rfl, h1, h2⟩ := jO h
   exact ⟨.rsl a' ek' L' :: l1, l2, rfl, fun ho => ⟨fun qs => by simp [iO, (h1 ho).1 qs], by simp [dL, (h1 ho).2]⟩, by simp [dB, hb, h2]⟩
 | .box b ps :: hs, own, ek, L, h => by
  obtain ⟨l1, l2, rfl, h1, h2⟩ := jO (hs := hs) (by simpa [aS] using h)
  exact ⟨_ :: l1, l2, rfl, fun ho => ⟨fun qs => by simp [iO, (h1 ho).1 qs], by simp [dL, (h1 ho).2]⟩, by simp [dB, h2]⟩
 | .abs k ts :: hs, own, ek, L, h => by
  obtain ⟨l1, l2, rfl, h1, h2⟩ := jO (hs := hs) (by simpa [aS] using h)
  exact ⟨_ :: l1, l2, rfl, fun ho => ⟨fun qs => by simp [iO, (h1 ho).1 qs], by simp [dL, (h1 ho).2]⟩, by simp [dB, h2]⟩
theorem iC {α : Type} (l1 l2 : List α) (c : α) : (l1 ++ c :: l2).Perm (c :: (l1 ++ l2)) := List.perm_middle
end Go.Vc
namespace Go.Vc
theorem lF (k : IntKind) (n : Int) : k.has (k.wrap n) := by
 cases k <;> simp [IntKind.has, wrap, IntKind.min, IntKind.max, IntKind.signed, IntKind.bits] <;> (try split) <;> omega
theorem uH (o : BinOp) (k : IntKind) (x y : Int) : k.has (Go.bits o k x y) := lF k _
theorem aE6 (k : IntKind) : k.has 0 := by
 cases k <;> simp [IntKind.has, IntKind.min, IntKind.max, IntKind.signed, IntKind.bits]
theorem aG7 (k : IntKind) : k.min ≤ 0 := (aE6 k).1
theorem aZ6 (k : IntKind) : 0 ≤ k.max := (aE6 k).2
theorem bE8 {k : IntKind} {x : Int} (h : k.has x) (n : Nat) : k.has (x.fdiv (2 ^ n)) := by
 have hp : (0 : Int) < 2 ^ n := Int.pow_pos (by decide)
 rw [Int.fdiv_eq_ediv_of_nonneg _ (Int.le_of_lt hp)]
 have h1 : (1 : Int) ≤ 2 ^ n := hp
 refine ⟨?_, ?_⟩
 ·by_cases hx : 0 ≤ x
  ·exact Int.le_trans (aG7 k) (Int.ediv_nonneg hx (Int.le_of_lt hp))
  ·refine Int.le_trans h.1 ?_
   apply Int.le_ediv_of_mul_le hp
   have : x * 2 ^ n ≤ x * 1 := Int.mul_le_mul_of_nonpos_left (by omega) h1
   omega
 ·by_cases hx : 0 ≤ x
  ·exact Int.le_trans (Int.ediv_le_self _ hx) h.2
  ·have : x / 2 ^ n ≤ 0 := Int.le_of_lt_add_one (by have := Int.ediv_neg_of_neg_of_pos (a := x) (b := 2 ^ n) (by omega) hp; omega)
   exact Int.le_trans this (aZ6 k)
theorem bF2 {k : IntKind} {x : Int} (h : k.has x) (y : Int) : k.has (x.tmod y) := by
 by_cases hx : 0 ≤ x
 ·refine ⟨Int.le_trans (aG7 k) (Int.tmod_nonneg y hx), Int.le_trans ?_ h.2⟩
  obtain ⟨n, rfl⟩ := Int.eq_ofNat_of_zero_le hx
  rw [← Int.natAbs_of_nonneg (Int.tmod_nonneg y hx)]
  rw [Int.natAbs_tmod]
  exact Int.ofNat_le.2 (Nat.mod_le _ _)
 ·have hx' : 0 ≤ -x := by omega
  have e : x.tmod y = -((-x).tmod y) := by rw [Int.neg_tmod]; omega
  have h0 := Int.tmod_nonneg y hx'
  have h1 : (-x).tmod y ≤ -x := by
   obtain ⟨n, hn⟩ := Int.eq_ofNat_of_zero_le hx'
   rw [hn]
   rw [← Int.natAbs_of_nonneg (Int.tmod_nonneg y (by omega : (0:Int) ≤ (n:Int)))]
   rw [Int.natAbs_tmod]
   exact Int.ofNat_le.2 (Nat.mod_le _ _)
  rw [e]
  have := aG7 k
  have := aZ6 k
  have h2 := h.1
  exact ⟨by omega, by omega⟩
theorem wW {k : IntKind} {l : LI} (h : ∀ x ∈ l, k.has x) (i : Nat) : k.has (l.getD i 0) := by
 rw [List.getD_eq_getElem?_getD]
 cases hi : l[i]? with
 | none => exact aE6 k
 | some x => exact h x (List.mem_of_getElem? hi)
theorem bE7 (s : BA) (i : Int) : IntKind.u8.has (byteAt s i) := by
 have := (s.data.toList.getD i.toNat 0).toNat_lt
 have h2 : IntKind.u8.min = 0 ∧ IntKind.u8.max = 255 := by decide
 unfold byteAt IntKind.has
 rw [h2.1, h2.2]
 omega
theorem qV {ρ : LD} {v : Value} {l : Lf} (h : uJ v = some l) : l.holds ρ v ∧ one v := by
 unfold uJ at h
 split at h
 ·split at h
  ·rename_i hk; cases h; exact ⟨⟨rfl, hk⟩, rfl⟩
  ·cases h
 ·cases h; exact ⟨rfl, rfl⟩
 ·split at h
  ·rename_i hk; cases h; exact ⟨⟨rfl, hk⟩, rfl⟩
  ·cases h
 ·cases h; exact ⟨rfl, rfl⟩
 ·cases h; exact ⟨rfl, rfl⟩
 ·cases h; exact ⟨rfl, rfl⟩
 ·cases h; exact ⟨rfl, rfl⟩
 ·split at h
  ·rename_i hc
   simp only [Bool.and_eq_true, Array.isEmpty_iff] at hc
   obtain ⟨rfl, rfl⟩ := hc
   cases h; exact ⟨rfl, rfl⟩
  ·cases h
 ·cases h
theorem aP1 {k : IntKind} : ∀ {vs : List Value} {l : LI}, intsOf k vs = some l → vs = l.map (Value.int k) ∧ ∀ x ∈ l, k.has x
 | [], l, h => by simp [intsOf] at h; subst h; simp
 | v :: vs, l, h => by
  cases v <;> simp only [intsOf] at h <;> try (cases h)
  rename_i k' n
  split at h
  ·rename_i hk
   obtain ⟨rfl, hk⟩ := hk
   cases hr : intsOf k' vs with
   | none => rw [hr] at h; cases h
   | some r =>
    rw [hr] at h; cases h
    obtain ⟨rfl, hx⟩ := aP1 hr
    refine ⟨rfl, fun x hm => ?_⟩
    rcases List.mem_cons.1 hm with rfl | hm
    ·exact hk
    ·exact hx x hm
  ·cases h
theorem uX {ρ : LD} : ∀ {lay : List LK} {vs : List Value} {ps : List Pt}, jF lay vs = some ps → aG ρ ps vs
 | [], [], _, h => by simp [jF] at h; subst h; rfl
 | [], _ :: _, _, h => by simp [jF] at h
 | .ints k n :: ls, vs, ps, h => by
  simp only [jF] at h
  split at h
  ·rename_i xs r hx hr
   split at h
   ·rename_i hl
    cases h
    obtain ⟨he, hh⟩ := aP1 hx
    have hd : ((if xs = List.replicate n 0 then Tm.o2 .lirep (.int n) (.int 0) else .lis xs).den ρ).aB = xs := by
     split
     ·rename_i e; rw [e]; simp [Tm.den, O2.den]
     ·rfl
    refine ⟨vs.drop n, ?_, ?_, ?_, uX hr⟩
    ·rw [hd, ← he, List.take_append_drop]
    ·rw [hd]; exact hl
    ·rw [hd]; exact hh
   ·cases h
  ·cases h
 | .cell :: ls, v :: vs, ps, h => by
  simp only [jF] at h
  split at h
  ·rename_i l r hl hr
   split at h
   ·cases h; exact ⟨v, vs, rfl, (qV hl).1, (qV (ρ := ρ) hl).2, uX hr⟩
   ·cases h
  ·cases h
 | .slice ek :: ls, v :: vs, ps, h => by
  simp only [jF] at h
  split at h
  ·rename_i l r hl hr
   split at h
   ·cases h; exact ⟨v, vs, rfl, (qV hl).1, (qV (ρ := ρ) hl).2, uX hr⟩
   ·cases h
  ·cases h
 | .cell :: _, [], _, h => by simp [jF] at h
 | .slice _ :: _, [], _, h => by simp [jF] at h
theorem bC2 {P : Program} {t : TypeId} {v : Value} {x : SV} {ρ : LD} (h : aB3 P t v = some x) : x.holds ρ v := by
 unfold aB3 at h
 split at h
 ·split at h
  ·split at h
   ·rename_i hp; cases h; exact ⟨_, rfl, uX hp⟩
   ·cases h
  ·cases h
 ·split at h
  ·rename_i l hl; cases h; exact (qV hl).1
  ·cases h
theorem aO {cx : Cx} {G : List Glob} {w0 : World} {D0 R0 : List Nat} {ρ : LD} {S : St} {a : Act} {w : World} {t : TypeId} {x : Operand} {v : SV}
  (h : Rel G w0 D0 R0 ρ S a w) (e : evT cx S t x = .ok v) : v.holds ρ (a.eval x) := by
 cases x with
 | tmp i =>
  simp only [evT] at e
  split at e
  ·rename_i u hu; cases e; exact h.slot hu
  ·cases e
 | const c =>
  simp only [evT] at e
  split at e
  ·rename_i u hu; cases e; exact bC2 hu
  ·cases e
 | global g => simp only [evT] at e; cases e; exact rfl
 | func f => simp only [evT] at e; cases e; exact rfl
theorem uS {E : Env} {t : Tm} {k : M} {vc : VC} {ρ : LD} (h : obl t k = .ok vc) (hd : vc.den E ρ) : (t.den ρ).toB = true ∧ ∃ vc', k = .ok vc' ∧ vc'.den E ρ := by
 unfold obl at h
 cases k with
 | error e => cases h
 | ok v => cases h; exact ⟨hd.1, v, rfl, hd.2 hd.1⟩
theorem eF {E : Env} {t : Tm} {b : Bool} {k : M} {vc : VC} {ρ : LD} (h : imp t b k = .ok vc) (hd : vc.den E ρ) (ht : (t.den ρ).toB = b) : ∃ vc', k = .ok vc' ∧ vc'.den E ρ := by
 unfold imp at h
 cases k with
 | error e => cases h
 | ok v => cases h; exact ⟨v, rfl, hd ht⟩
theorem dV {E : Env} {a b : Tm} {k : M} {vc : VC} {ρ : LD} (h : dU a b k = .ok vc) (hd : vc.den E ρ) :
  (a.den ρ).toI ≤ (b.den ρ).toI ∧ ∃ vc', k = .ok vc' ∧ vc'.den E ρ := by
 unfold dU at h
 split at h
 ·split at h
  ·rename_i hxy; exact ⟨hxy, vc, h, hd⟩
  ·cases h
 ·exact ⟨by simp [Tm.den, O1.den], vc, h, hd⟩
 ·exact ⟨by simp [Tm.den, O1.den], vc, h, hd⟩
 ·exact ⟨by simp [Tm.den, O1.den], vc, h, hd⟩
 ·split at h
  ·rename_i hab; subst hab; exact ⟨Int.le_refl _, vc, h, hd⟩
  ·obtain ⟨h1, h2⟩ := uS h hd
   exact ⟨by simpa [Tm.den, O2.den] using h1, h2⟩
theorem uQ {E : Env} {a b : Tm} {k : M} {vc : VC} {ρ : LD} (h : oO a b k = .ok vc) (hd : vc.den E ρ) :
  (a.den ρ).toI < (b.den ρ).toI ∧ ∃ vc', k = .ok vc' ∧ vc'.den E ρ := by
 unfold oO at h
 split at h
 ·split at h
  ·rename_i hxy; exact ⟨hxy, vc, h, hd⟩
  ·cases h
 ·obtain ⟨h1, h2⟩ := uS h hd
  exact ⟨by simpa [Tm.den, O2.den] using h1, h2⟩
def Met (E : Env) (ρ : LD) (ret : SV → M) (z : Value) : Prop := ∃ x vc, ret x = .ok vc ∧ vc.den E ρ ∧ x.holds ρ z
section
variable {P : Program} {E : Env} {ρ : LD} {ret : SV → M} {vc : VC}
theorem Met.int {k : IntKind} {t : Tm} {n : Int} (h : ret (.one (.lf (.int k t))) = .ok vc) (hd : vc.den E ρ) (ht : (t.den ρ).toI = n) (hk : k.has n) : Met E ρ ret (.int k n) :=
 ⟨_, vc, h, hd, by subst ht; exact ⟨rfl, hk⟩⟩
theorem Met.bool {t : Tm} {b : Bool} (h : ret (.one (.lf (.bool t))) = .ok vc) (hd : vc.den E ρ) (ht : (t.den ρ).toB = b) : Met E ρ ret (.bool b) :=
 ⟨_, vc, h, hd, by subst ht; exact rfl⟩
theorem aS7 {y : Tm} {k : M} (h : xZ y k = .ok vc) (hd : vc.den E ρ) : (y.den ρ).toI ≠ 0 ∧ ∃ vc', k = .ok vc' ∧ vc'.den E ρ := by
 unfold xZ at h
 split at h
 ·split at h
  ·rename_i hn; exact ⟨hn, vc, h, hd⟩
  ·cases h
 ·obtain ⟨h1, h2⟩ := uS h hd
  exact ⟨by simpa [Tm.den, O1.den, O2.den] using h1, h2⟩
theorem bI2 {yk : IntKind} {y : Tm} {k : M} (h : aH3 yk y k = .ok vc) (hd : vc.den E ρ) (hy : yk.has (y.den ρ).toI) : 0 ≤ (y.den ρ).toI ∧ ∃ vc', k = .ok vc' ∧ vc'.den E ρ := by
 unfold aH3 at h
 split at h
 ·split at h
  ·rename_i hn; exact ⟨hn, vc, h, hd⟩
  ·cases h
 ·split at h
  ·rename_i hu
   refine ⟨?_, vc, h, hd⟩
   have hm := hy.1
   have : yk.min = 0 := by cases yk <;> first | rfl | (simp [aY8] at hu)
   omega
  ·obtain ⟨h1, h2⟩ := uS h hd
   exact ⟨of_decide_eq_true h1, h2⟩
theorem bK7 {o : BinOp} {k : IntKind} (t : TypeId) (a b : Int) (w : World) (h : o ≠ .shl ∧ o ≠ .shr) : (binOp o t (.int k a) (.int k b)).run P w =
  (match o with
  | .add | .sub | .mul => Op.intArith o k a b
  | .quo | .rem => Op.intDiv o k a b
  | .and | .or | .xor | .andNot => Op.intBits o k a b
  | _ => Op.intCmp o a b).run P w := by
 cases o <;> first | (exact absurd rfl h.1) | (exact absurd rfl h.2) | (simp only [binOp, ne_eq, not_true_eq_false, if_false])
theorem bA4 {o : BinOp} {k : IntKind} {x y : Tm} (h : arith o k x y ret = .ok vc) (hd : vc.den E ρ) (hx : k.has (x.den ρ).toI) (t : TypeId) :
  ∃ z, Met E ρ ret z ∧ ∀ w, (binOp o t (.int k (x.den ρ).toI) (.int k (y.den ρ).toI)).run P w = .ok z w := by
 have ho : o ≠ .shl ∧ o ≠ .shr := by
  constructor <;> (rintro rfl; simp only [arith] at h; cases h)
 simp only [bK7 t _ _ _ ho]
 cases o <;> simp only [arith] at h
 case add => exact ⟨_, Met.int h hd rfl (lF _ _), fun w => rfl⟩
 case sub => exact ⟨_, Met.int h hd rfl (lF _ _), fun w => rfl⟩
 case mul => exact ⟨_, Met.int h hd rfl (lF _ _), fun w => rfl⟩
 case quo =>
  obtain ⟨hy, vc', h', hd'⟩ := aS7 h hd
  exact ⟨_, Met.int h' hd' rfl (lF _ _), fun w => by simp only [Op.intDiv, if_neg hy]; rfl⟩
 case rem =>
  obtain ⟨hy, vc', h', hd'⟩ := aS7 h hd
  exact ⟨_, Met.int h' hd' rfl (bF2 hx _), fun w => by simp only [Op.intDiv, if_neg hy]; rfl⟩
 case and => exact ⟨_, Met.int (n := Go.bits .and k (x.den ρ).toI (y.den ρ).toI) h hd rfl (uH .and k _ _), fun w => by simp only [intBits_and]; rfl⟩
 case or => exact ⟨_, Met.int (n := Go.bits .or k (x.den ρ).toI (y.den ρ).toI) h hd rfl (uH .or k _ _), fun w => by simp only [intBits_or]; rfl⟩
 case xor => exact ⟨_, Met.int (n := Go.bits .xor k (x.den ρ).toI (y.den ρ).toI) h hd rfl (uH .xor k _ _), fun w => by simp only [intBits_xor]; rfl⟩
 case andNot => exact ⟨_, Met.int (n := Go.bits .andNot k (x.den ρ).toI (y.den ρ).toI) h hd rfl (uH .andNot k _ _), fun w => by simp only [intBits_andNot]; rfl⟩
 case eql => exact ⟨_, Met.bool h hd rfl, fun w => rfl⟩
 case neq => exact ⟨_, Met.bool h hd rfl, fun w => rfl⟩
 case lss => exact ⟨_, Met.bool h hd rfl, fun w => rfl⟩
 case leq => exact ⟨_, Met.bool h hd rfl, fun w => rfl⟩
 case gtr => exact ⟨_, Met.bool h hd rfl, fun w => rfl⟩
 case geq => exact ⟨_, Met.bool h hd rfl, fun w => rfl⟩
 all_goals cases h
theorem bL4 {o : BinOp} {k yk : IntKind} {x y : Tm} (ho : o = .shl ∨ o = .shr) (h : shift o k x yk y ret = .ok vc) (hd : vc.den E ρ) (hx : k.has (x.den ρ).toI) (hy : yk.has (y.den ρ).toI) (t : TypeId) :
  ∃ z, Met E ρ ret z ∧ ∀ w, (binOp o t (.int k (x.den ρ).toI) (.int yk (y.den ρ).toI)).run P w = .ok z w := by
 obtain ⟨h0, vc', h', hd'⟩ := bI2 h hd hy
 have hn : ¬ (y.den ρ).toI < 0 := by omega
 rcases ho with rfl | rfl
 ·exact ⟨_, Met.int h' hd' rfl (lF _ _), fun w => by simp only [binOp, Op.shift, if_neg hn]; rfl⟩
 ·exact ⟨_, Met.int h' hd' rfl (bE8 hx _), fun w => by simp only [binOp, Op.shift, if_neg hn]; rfl⟩
theorem bM3 {o : BinOp} {x y : Tm} (h : aJ5 o x y ret = .ok vc) (hd : vc.den E ρ) (t : TypeId) :
  ∃ z, Met E ρ ret z ∧ ∀ w, (binOp o t (.string (x.den ρ).toS) (.string (y.den ρ).toS)).run P w = .ok z w := by
 cases o <;> simp only [aJ5] at h
 case add =>
  obtain ⟨h1, vc', h', hd'⟩ := uS h hd
  have h2 : (((x.den ρ).toS ++ (y.den ρ).toS).size : Int) ≤ aY := by simpa [Tm.den, O1.den, O2.den] using h1
  have h3 : ((x.den ρ).toS ++ (y.den ρ).toS).size = (x.den ρ).toS.size + (y.den ρ).toS.size := ByteArray.size_append
  refine ⟨.string ((x.den ρ).toS ++ (y.den ρ).toS), ⟨_, vc', h', hd', ⟨rfl, h2⟩⟩, fun w => ?_⟩
  have hm : (IntKind.i64.max : Int) = aY := by decide
  have : ¬ ((((x.den ρ).toS.size + (y.den ρ).toS.size : Nat) : Int) > IntKind.i64.max) := by rw [hm, ← h3]; omega
  show (Op.stringOp .add _ _).run P w = _
  unfold Op.stringOp
  simp only [this, if_false]
  rfl
 case eql => exact ⟨_, Met.bool h hd rfl, fun w => by simp [binOp, Op.stringOp, Tm.den, O2.den]⟩
 case neq => exact ⟨_, Met.bool h hd rfl, fun w => by simp [binOp, Op.stringOp, Tm.den, O1.den, O2.den]⟩
 case lss => exact ⟨_, Met.bool h hd rfl, fun w => by simp [binOp, Op.stringOp, Tm.den, O2.den]⟩
 case leq => exact ⟨_, Met.bool h hd rfl, fun w => by simp [binOp, Op.stringOp, Tm.den, O2.den]⟩
 case gtr => exact ⟨_, Met.bool h hd rfl, fun w => by simp [binOp, Op.stringOp, Tm.den, O1.den, O2.den]⟩
 case geq => exact ⟨_, Met.bool h hd rfl, fun w => by simp [binOp, Op.stringOp, Tm.den, O1.den, O2.den]⟩
 all_goals cases h
end
end Go.Vc
namespace Go.Vc
theorem rO {ρ : LD} : ∀ {ps : List Pt} {vs : List Value}, aG ρ ps vs → vs.length = mZ ps
 | [], _, h => by simp only [aG] at h; subst h; rfl
 | .lf l :: ps, _, h => by obtain ⟨v, r, rfl, _, _, h⟩ := h; simp [mZ, ptW, rO h]; omega
 | .ints k n L :: ps, _, h => by obtain ⟨r, rfl, hl, _, h⟩ := h; simp [mZ, ptW, rO h, hl]
theorem uV {ρ : LD} : ∀ {ps qs : List Pt} {vs us : List Value}, aG ρ ps vs → aG ρ qs us → aG ρ (ps ++ qs) (vs ++ us)
 | [], _, _, _, h, h' => by simp only [aG] at h; subst h; exact h'
 | .lf l :: ps, _, _, _, h, h' => by obtain ⟨v, r, rfl, h1, h2, h⟩ := h; exact ⟨v, _, rfl, h1, h2, uV h h'⟩
 | .ints k n L :: ps, _, _, _, h, h' => by
  obtain ⟨r, rfl, h1, h2, h⟩ := h
  exact ⟨_, by rw [List.append_assoc], h1, h2, uV h h'⟩
theorem iJ {ρ : LD} {p : Pt} {ps : List Pt} {vs : List Value} : aG ρ (p :: ps) vs ↔ ∃ us r, vs = us ++ r ∧ us.length = ptW p ∧ aG ρ [p] us ∧ aG ρ ps r := by
 constructor
 ·intro h
  cases p with
  | lf l => obtain ⟨v, r, rfl, h1, h2, h⟩ := h; exact ⟨[v], r, rfl, rfl, ⟨v, [], rfl, h1, h2, rfl⟩, h⟩
  | ints k n L => obtain ⟨r, rfl, h1, h2, h⟩ := h; exact ⟨_, r, rfl, by simp [ptW, h1], ⟨[], by simp, h1, h2, rfl⟩, h⟩
 ·rintro ⟨us, r, rfl, _, h1, h2⟩
  exact uV (ps := [p]) h1 h2
theorem yF {ρ : LD} : ∀ {ps : List Pt} {m : Nat} {qs : List Pt} {vs : List Value}, oU m ps = some qs → aG ρ ps vs →
  ∃ us r, vs = us ++ r ∧ us.length = m ∧ aG ρ qs us ∧ aG ρ (ps.drop qs.length) r
 | [], m, qs, vs, h, hv => by
  simp only [oU] at h
  split at h
  ·rename_i hm; cases h; exact ⟨[], vs, rfl, by simp [hm], rfl, hv⟩
  ·cases h
 | p :: ps, m, qs, vs, h, hv => by
  simp only [oU] at h
  split at h
  ·rename_i hm; cases h; exact ⟨[], vs, rfl, by simp [hm], rfl, hv⟩
  ·split at h
   ·rename_i hle
    split at h
    ·rename_i r hr
     cases h
     obtain ⟨us, rs, rfl, hl, hp, hv⟩ := iJ.1 hv
     obtain ⟨us', r', rfl, hl', h1, h2⟩ := yF hr hv
     exact ⟨us ++ us', r', by simp, by simp [hl, hl']; omega, iJ.2 ⟨us, us', rfl, hl, hp, h1⟩, by simpa using h2⟩
    ·cases h
   ·cases h
theorem yG {ρ : LD} : ∀ {ps : List Pt} {o m : Nat} {qs : List Pt} {vs : List Value}, mW o m ps = some qs → aG ρ ps vs →
  ∃ pre us r, vs = pre ++ (us ++ r) ∧ pre.length = o ∧ us.length = m ∧ aG ρ qs us
 | [], o, m, qs, vs, h, hv => by
  simp only [mW] at h
  split at h
  ·rename_i ho
   obtain ⟨us, r, rfl, hl, h1, _⟩ := yF h hv
   exact ⟨[], us, r, rfl, by simp [ho], hl, h1⟩
  ·cases h
 | p :: ps, o, m, qs, vs, h, hv => by
  simp only [mW] at h
  split at h
  ·rename_i ho
   obtain ⟨us, r, rfl, hl, h1, _⟩ := yF h hv
   exact ⟨[], us, r, rfl, by simp [ho], hl, h1⟩
  ·split at h
   ·obtain ⟨us, rs, rfl, hl, hp, hv⟩ := iJ.1 hv
    obtain ⟨pre, us', r', rfl, h0, h1, h2⟩ := yG h hv
    exact ⟨us ++ pre, us', r', by simp, by simp [hl, h0]; omega, h1, h2⟩
   ·cases h
theorem xE {ρ : LD} : ∀ {ps : List Pt} {o : Nat} {l : Lf} {vs : List Value}, lG o ps = some l → aG ρ ps vs →
  ∃ v, vs[o]? = some v ∧ l.holds ρ v ∧ one v
 | [], o, l, vs, h, _ => by simp [lG, partAt] at h
 | p :: ps, o, l, vs, h, hv => by
  by_cases ho : o < ptW p
  ·simp only [lG, partAt, if_pos ho] at h
   cases p with
   | lf l' =>
    obtain ⟨v, r, rfl, h1, h2, _⟩ := hv
    simp only [ptW] at ho
    have : o = 0 := by omega
    subst this
    cases h
    exact ⟨v, rfl, h1, h2⟩
   | ints k n L =>
    cases h
    obtain ⟨r, rfl, h1, h2, _⟩ := hv
    simp only [ptW] at ho
    refine ⟨.int k ((L.den ρ).aB.getD o 0), ?_, ⟨?_, ?_⟩, rfl⟩
    ·rw [List.getElem?_append_left (by simp [h1, ho])]
     have : o < (L.den ρ).aB.length := by omega
     simp [List.getD, this]
    ·simp [Tm.den, O2.den]
    ·simp only [Tm.den, O2.den, D.toI_I, Int.toNat_natCast]; exact wW h2 o
  ·obtain ⟨us, rs, rfl, hl, hp, hv⟩ := iJ.1 hv
   have h' : lG (o - ptW p) ps = some l := by simpa [lG, partAt, ho] using h
   obtain ⟨v, h1, h2, h3⟩ := xE h' hv
   exact ⟨v, by rw [List.getElem?_append_right (by omega), hl]; exact h1, h2, h3⟩
theorem aU1 {ρ : LD} {new ps qs : List Pt} {vs us : List Value} (h : yK new ps = some qs) (hv : aG ρ ps vs) (hu : aG ρ new us) :
  ∃ old r, vs = old ++ r ∧ old.length = us.length ∧ aG ρ qs (us ++ r) := by
 unfold yK at h
 split at h
 ·rename_i old hold
  cases h
  obtain ⟨os, r, rfl, hl, _, h2⟩ := yF hold hv
  exact ⟨os, r, rfl, by rw [hl, rO hu], uV hu h2⟩
 ·cases h
theorem aW5 {ρ : LD} {new : List Pt} {us : List Value} (hu : aG ρ new us) : ∀ {ps : List Pt} {o : Nat} {qs : List Pt} {vs : List Value}, vH o new ps = some qs → aG ρ ps vs →
  ∃ pre old r, vs = pre ++ (old ++ r) ∧ pre.length = o ∧ old.length = us.length ∧ aG ρ qs (pre ++ (us ++ r))
 | [], o, qs, vs, h, hv => by
  simp only [vH] at h
  split at h
  ·rename_i ho
   obtain ⟨old, r, rfl, hl, h1⟩ := aU1 h hv hu
   exact ⟨[], old, r, rfl, by simp [ho], hl, h1⟩
  ·cases h
 | p :: ps, o, qs, vs, h, hv => by
  simp only [vH] at h
  split at h
  ·rename_i ho
   obtain ⟨old, r, rfl, hl, h1⟩ := aU1 h hv hu
   exact ⟨[], old, r, rfl, by simp [ho], hl, h1⟩
  ·split at h
   ·split at h
    ·rename_i q hq
     cases h
     obtain ⟨us', rs, rfl, hl, hp, hv⟩ := iJ.1 hv
     obtain ⟨pre, old, r, rfl, h0, h1, h2⟩ := aW5 hu hq hv
     exact ⟨us' ++ pre, old, r, by simp, by simp [hl, h0]; omega, h1, by rw [List.append_assoc]; exact iJ.2 ⟨us', _, rfl, hl, hp, h2⟩⟩
    ·cases h
   ·cases h
theorem aW4 {ρ : LD} {l : Lf} {v : Value} (hl : l.holds ρ v) (h1 : one v) : ∀ {ps : List Pt} {o : Nat} {qs : List Pt} {vs : List Value}, vG o l ps = some qs → aG ρ ps vs →
  aG ρ qs (vs.set o v) ∧ o < vs.length
 | [], o, qs, vs, h, _ => by simp [vG] at h
 | p :: ps, o, qs, vs, h, hv => by
  simp only [vG] at h
  split at h
  ·rename_i ho
   split at h
   ·cases h
    obtain ⟨u, r, rfl, _, _, hv⟩ := hv
    simp only [ptW] at ho
    have : o = 0 := by omega
    subst this
    exact ⟨⟨v, r, rfl, hl, h1, hv⟩, by simp⟩
   ·split at h
    ·rename_i hk
     subst hk
     cases h
     obtain ⟨r, rfl, hn, hh, hv⟩ := hv
     simp only [ptW] at ho
     obtain ⟨rfl, ht⟩ := hl
     refine ⟨⟨r, ?_, ?_, ?_, hv⟩, by simp [hn]; omega⟩
     ·rw [List.set_append_left _ _ (by simp [hn, ho])]
      simp [Tm.den, O3.den, List.map_set]
     ·simp [Tm.den, O3.den, hn]
     ·intro x hx
      simp only [Tm.den, O3.den, D.toLi_Z] at hx
      rcases List.mem_or_eq_of_mem_set hx with hx | rfl
      ·exact hh x hx
      ·exact ht
    ·cases h
   ·cases h
  ·rename_i ho
   split at h
   ·rename_i q hq
    cases h
    obtain ⟨us', rs, rfl, hl', hp, hv⟩ := iJ.1 hv
    obtain ⟨h2, h3⟩ := aW4 hl h1 hq hv
    refine ⟨?_, by simp [hl']; omega⟩
    rw [List.set_append_right _ _ (by omega), hl']
    exact iJ.2 ⟨us', _, rfl, hl', hp, h2⟩
   ·cases h
theorem uI {ρ : LD} {n : Nat} {k : IntKind} {L : Tm} : ∀ {ps : List Pt} {o : Nat} {vs : List Value}, mG o n ps = some (k, L) → aG ρ ps vs →
  ∃ pre r, vs = pre ++ ((L.den ρ).aB.map (Value.int k) ++ r) ∧ pre.length = o ∧ (L.den ρ).aB.length = n ∧ (∀ x ∈ (L.den ρ).aB, k.has x) ∧
   ∀ L', (L'.den ρ).aB.length = n → (∀ x ∈ (L'.den ρ).aB, k.has x) → ∀ qs, sH o n L' ps = some qs → aG ρ qs (pre ++ ((L'.den ρ).aB.map (Value.int k) ++ r))
 | [], o, vs, h, _ => by simp [mG] at h
 | p :: ps, o, vs, h, hv => by
  simp only [mG] at h
  split at h
  ·rename_i ho
   split at h
   ·split at h
    ·rename_i hm
     cases h
     obtain ⟨r, rfl, h1, h2, hv⟩ := hv
     refine ⟨[], r, rfl, by simp [ho], by rw [h1]; exact hm, h2, fun L' hl' hk' qs hq => ?_⟩
     simp only [sH, if_pos ho, if_pos hm] at hq
     cases hq
     exact ⟨r, rfl, by rw [hl']; exact hm.symm, hk', hv⟩
    ·cases h
   ·cases h
  ·rename_i ho
   split at h
   ·rename_i hle
    obtain ⟨us', rs, rfl, hl', hp, hv⟩ := iJ.1 hv
    obtain ⟨pre, r, rfl, h0, h1, h2, h3⟩ := uI h hv
    refine ⟨us' ++ pre, r, by simp, by simp [hl', h0]; omega, h1, h2, fun L' hll hk' qs hq => ?_⟩
    simp only [sH, if_neg ho, if_pos hle] at hq
    split at hq
    ·rename_i q hq'
     cases hq
     rw [List.append_assoc]
     exact iJ.2 ⟨us', _, rfl, hl', hp, h3 L' hll hk' _ hq'⟩
    ·cases hq
   ·cases h
def fK (ek : EK) (x : D) : List Value :=
 match ek with
 | [c] => c.cells x
 | _ => dY ek x.toL
def qE (ek : EK) (x : D) : Prop :=
 match ek with
 | [c] => c.ok x
 | _ => fJ ek x.toL
theorem iG (ek : EK) (d : D) : ek.cells d = (aI ek d).flatMap (fK ek) := by
 rcases ek with _ | ⟨c, _ | ⟨c', cs⟩⟩
 ·rfl
 ·cases c with
  | int k =>
   simp only [EK.cells, aI, List.flatMap_map]
   show _ = d.aB.flatMap fun x => [Value.int k x]
   induction d.aB with
   | nil => rfl
   | cons x l ih => simp [ih]
  | _ => rfl
 ·cases c <;> rfl
theorem fE (ek : EK) (d : D) : ek.ok d ↔ ∀ x ∈ aI ek d, qE ek x := by
 rcases ek with _ | ⟨c, _ | ⟨c', cs⟩⟩
 ·exact Iff.rfl
 ·cases c with
  | int k =>
   constructor
   ·rintro h x hx
    obtain ⟨n, hn, rfl⟩ := List.mem_map.1 hx
    exact h n hn
   ·intro h n hn
    exact h (.I n) (List.mem_map_of_mem hn)
  | _ => exact Iff.rfl
 ·cases c <;> exact Iff.rfl
theorem len_eq (ek : EK) (d : D) : ek.len d = (aI ek d).length := by
 unfold EK.len aI
 split <;> simp
theorem aB1 {c : CK} {x : D} (h : c.ok x) : (c.cells x).length = c.width := by
 cases c <;> simp [CK.cells, CK.width]
 exact h.1
theorem aB2 : ∀ {cs : EK} {ds : LD}, fJ cs ds → (dY cs ds).length = EK.width cs
 | [], [], _ => rfl
 | c :: cs, d :: ds, h => by
  have := aB2 h.2
  simp only [dY, EK.width, List.map_cons, List.foldr_cons, List.length_append, aB1 h.1] at this ⊢
  rw [this]
 | [], _ :: _, h => h.elim
 | _ :: _, [], h => h.elim
theorem tX {ek : EK} {x : D} (h : qE ek x) : (fK ek x).length = ek.width := by
 rcases ek with _ | ⟨c, _ | ⟨c', cs⟩⟩
 ·exact aB2 h
 ·show (c.cells x).length = _
  rw [aB1 h]; simp [EK.width]
 ·exact aB2 h
theorem aM1 {c : CK} {x : D} (h : c.ok x) : ∀ v ∈ c.cells x, one v := by
 cases c with
 | sl ek =>
  intro v hv
  simp only [CK.cells, List.mem_singleton] at hv
  rw [hv]; exact h.1.2
 | _ => simp [CK.cells, one, Value.oneCell']
theorem aL9 : ∀ {cs : EK} {ds : LD}, fJ cs ds → ∀ v ∈ dY cs ds, one v
 | [], _, _, v, h => by simp [dY] at h
 | _ :: _, [], _, v, h => by simp [dY] at h
 | c :: cs, d :: ds, hk, v, h => by
  simp only [dY, List.mem_append] at h
  exact h.elim (aM1 hk.1 v) (aL9 hk.2 v)
theorem bD2 {ek : EK} {x : D} (hk : qE ek x) : ∀ v ∈ fK ek x, one v := by
 unfold fK
 unfold qE at hk
 split
 ·exact aM1 hk
 ·rename_i hne
  refine aL9 ?_
  split at hk
  ·exact absurd rfl (hne _)
  ·exact hk
theorem cells_one {ek : EK} {d : D} (hk : ek.ok d) : ∀ v ∈ ek.cells d, one v := by
 rw [iG]
 intro v hv
 obtain ⟨x, hx0, hx⟩ := List.mem_flatMap.1 hv
 exact bD2 ((fE ek d).1 hk x hx0) v hx
theorem wR {α : Type} {f : α → List Value} {m : Nat} : ∀ {l : List α}, (∀ x ∈ l, (f x).length = m) → (l.flatMap f).length = l.length * m
 | [], _ => by simp
 | x :: l, h => by
  simp only [List.flatMap_cons, List.length_append, h x (by simp), wR (l := l) fun y hy => h y (by simp [hy]), List.length_cons, Nat.succ_mul]
  omega
theorem cells_length {ek : EK} {d : D} (h : ek.ok d) : (ek.cells d).length = ek.len d * ek.width := by
 rw [iG, len_eq]
 exact wR fun x hx => tX ((fE ek d).1 h x hx)
theorem wQ {α : Type} {f : α → List Value} {m : Nat} : ∀ {l : List α} {i : Nat} {x : α}, (∀ x ∈ l, (f x).length = m) → l[i]? = some x →
  l.flatMap f = (l.take i).flatMap f ++ (f x ++ (l.drop (i + 1)).flatMap f) ∧ ((l.take i).flatMap f).length = i * m
 | [], _, _, _, h => by simp at h
 | y :: l, 0, x, _, h => by simp at h; subst h; simp
 | y :: l, i + 1, x, hm, h => by
  obtain ⟨h1, h2⟩ := wQ (l := l) (i := i) (fun z hz => hm z (by simp [hz])) (by simpa using h)
  refine ⟨?_, ?_⟩
  ·simp only [List.flatMap_cons, List.take_succ_cons, List.drop_succ_cons, List.append_assoc]
   rw [← h1]
  ·simp only [List.flatMap_cons, List.take_succ_cons, List.length_append, h2, hm y (by simp), Nat.succ_mul]
   omega
theorem bD3 (ek : EK) (L i : Tm) (ρ : LD) : ((aI ek (L.den ρ)).getD (i.den ρ).toI.toNat default) = match ek with
  | [.int _] => .I ((L.den ρ).aB.getD (i.den ρ).toI.toNat 0)
  | _ => (L.den ρ).toL.getD (i.den ρ).toI.toNat default := by
 rcases ek with _ | ⟨c, _ | ⟨c', cs⟩⟩
 ·rfl
 ·cases c with
  | int k =>
   simp only [aI, List.getD, List.getElem?_map]
   cases ((L.den ρ).aB)[(i.den ρ).toI.toNat]? <;> rfl
  | _ => rfl
 ·cases c <;> rfl
theorem qW {ρ : LD} {c : CK} {t : Tm} (h : c.ok (t.den ρ)) : aG ρ [uK c t] (c.cells (t.den ρ)) := by
 cases c with
 | int k => exact ⟨_, [], rfl, ⟨rfl, h⟩, rfl, rfl⟩
 | bool => exact ⟨_, [], rfl, rfl, rfl, rfl⟩
 | str => exact ⟨_, [], rfl, ⟨rfl, h⟩, rfl, rfl⟩
 | ints k n => exact ⟨[], by simp [Tm.den, O1.den, CK.cells], h.1, h.2, rfl⟩
 | sl ek => exact ⟨_, [], rfl, rfl, h.1.2, rfl⟩
theorem bG1 (c : CK) (t : Tm) : ptW (uK c t) = c.width := by cases c <;> rfl
theorem aI5 {ρ : LD} {row : Tm} : ∀ {cs : EK} {j : Nat}, fJ cs ((row.den ρ).toL.drop j) → aG ρ (sD row j cs) (dY cs ((row.den ρ).toL.drop j))
 | [], j, h => by
  cases hd : (row.den ρ).toL.drop j with
  | nil => rfl
  | cons x xs => rw [hd] at h; exact h.elim
 | c :: cs, j, h => by
  cases hd : (row.den ρ).toL.drop j with
  | nil => rw [hd] at h; exact h.elim
  | cons x xs =>
   rw [hd] at h
   have hx : (row.den ρ).toL.getD j default = x := by
    have : (row.den ρ).toL[j]? = some x := by rw [← List.head?_drop, hd]; rfl
    simp [List.getD, this]
   have hxs : (row.den ρ).toL.drop (j + 1) = xs := by rw [← List.drop_drop, hd]; rfl
   have ht : (Tm.o2 .lget row (.int j)).den ρ = x := by simpa [Tm.den, O2.den] using hx
   simp only [sD, dY]
   refine iJ.2 ⟨c.cells x, dY cs xs, rfl, by rw [bG1]; exact aB1 h.1, ?_, ?_⟩
   ·have := qW (ρ := ρ) (c := c) (t := .o2 .lget row (.int j)) (by rw [ht]; exact h.1)
    rwa [ht] at this
   ·rw [← hxs]; exact aI5 (by rw [hxs]; exact h.2)
theorem aN0 {ρ : LD} {ek : EK} {L i : Tm} (h : ek.ok (L.den ρ)) (h0 : 0 ≤ (i.den ρ).toI) (hi : (i.den ρ).toI < ek.len (L.den ρ)) :
  ∃ x, (aI ek (L.den ρ))[(i.den ρ).toI.toNat]? = some x ∧ qE ek x ∧ aG ρ (aC3 ek L i) (fK ek x) := by
 rw [len_eq] at hi
 have hlt : (i.den ρ).toI.toNat < (aI ek (L.den ρ)).length := by omega
 obtain ⟨x, hx⟩ : ∃ x, (aI ek (L.den ρ))[(i.den ρ).toI.toNat]? = some x := ⟨_, List.getElem?_eq_getElem hlt⟩
 have hok := (fE ek _).1 h x (List.mem_of_getElem? hx)
 refine ⟨x, hx, hok, ?_⟩
 have hxg : (aI ek (L.den ρ)).getD (i.den ρ).toI.toNat default = x := by simp [List.getD, hx]
 have many : ∀ (hd : (L.den ρ).toL.getD (i.den ρ).toI.toNat default = x) (_ : fJ ek x.toL), aG ρ (sD (.o1 .asL (.o2 .lget L i)) 0 ek) (dY ek x.toL) := by
  intro hd hc
  have ht : ((Tm.o1 .asL (.o2 .lget L i)).den ρ).toL = x.toL := by rw [← hd]; rfl
  have := aI5 (ρ := ρ) (row := .o1 .asL (.o2 .lget L i)) (cs := ek) (j := 0) (by simpa [ht] using hc)
  simpa [ht] using this
 rcases ek with _ | ⟨c, _ | ⟨c', cs⟩⟩
 ·exact many hxg hok
 ·cases c with
  | int k =>
   have hg := bD3 [.int k] L i ρ
   rw [hxg] at hg
   simp only at hg
   subst hg
   exact ⟨_, [], rfl, ⟨rfl, hok⟩, rfl, rfl⟩
  | bool =>
   have := qW (ρ := ρ) (c := .bool) (t := .o2 .lget L i) trivial
   rw [show (Tm.o2 .lget L i).den ρ = x from hxg] at this
   exact this
  | str =>
   have := qW (ρ := ρ) (c := .str) (t := .o2 .lget L i) (by rw [show (Tm.o2 .lget L i).den ρ = x from hxg]; exact hok)
   rw [show (Tm.o2 .lget L i).den ρ = x from hxg] at this
   exact this
  | ints k n =>
   have := qW (ρ := ρ) (c := .ints k n) (t := .o2 .lget L i) (by rw [show (Tm.o2 .lget L i).den ρ = x from hxg]; exact hok)
   rw [show (Tm.o2 .lget L i).den ρ = x from hxg] at this
   exact this
  | sl ek' =>
   have := qW (ρ := ρ) (c := .sl ek') (t := .o2 .lget L i) (by rw [show (Tm.o2 .lget L i).den ρ = x from hxg]; exact hok)
   rw [show (Tm.o2 .lget L i).den ρ = x from hxg] at this
   exact this
 ·cases c <;> exact many hxg hok
def nS (ρ : LD) (hs : List Ch) : Prop := ∀ a own ek L, aS a hs = some (own, ek, L) → ek.ok (L.den ρ)
theorem bL6 {ρ : LD} : nS ρ [] := fun _ _ _ _ h => by cases h
theorem uT {ρ : LD} {hs : List Ch} (hsl : nS ρ hs) {c : CK} {p : Pt} {t : Tm} {vs : List Value} (h : fP hs c p = some t) (hv : aG ρ [p] vs) : vs = c.cells (t.den ρ) ∧ c.ok (t.den ρ) := by
 unfold fP at h
 split at h
 ·split at h
  ·rename_i hk; subst hk; cases h
   obtain ⟨v, r, rfl, ⟨rfl, hk⟩, _, hr⟩ := hv
   simp only [aG] at hr; subst hr
   exact ⟨rfl, hk⟩
  ·cases h
 ·cases h
  obtain ⟨v, r, rfl, hh, _, hr⟩ := hv
  simp only [aG] at hr; subst hr
  simp only [Lf.holds] at hh; subst hh
  exact ⟨rfl, trivial⟩
 ·cases h
  obtain ⟨v, r, rfl, ⟨rfl, hk⟩, _, hr⟩ := hv
  simp only [aG] at hr; subst hr
  exact ⟨rfl, hk⟩
 ·split at h
  ·rename_i hk
   obtain ⟨rfl, rfl⟩ := hk
   cases h
   obtain ⟨r, rfl, h1, h2, hr⟩ := hv
   simp only [aG] at hr; subst hr
   exact ⟨by simp [CK.cells, Tm.den, O1.den], h1, h2⟩
  ·cases h
 ·split at h
  ·rename_i hf
   split at h
   ·rename_i he
    subst he
    cases h
    obtain ⟨v, r, rfl, hh, h1, hr⟩ := hv
    simp only [aG] at hr; subst hr
    simp only [Lf.holds] at hh; subst hh
    exact ⟨rfl, ⟨⟨_, _, rfl⟩, h1⟩, (aB0 _ _).2 (hsl _ _ _ _ hf)⟩
   ·cases h
  ·cases h
 ·cases h
theorem vF {ρ : LD} {hs : List Ch} (hsl : nS ρ hs) : ∀ {cs : EK} {ps : List Pt} {t : Tm} {vs : List Value}, dO hs cs ps = some t → aG ρ ps vs → vs = dY cs (t.den ρ).toL ∧ fJ cs (t.den ρ).toL
 | [], [], t, vs, h, hv => by simp [dO] at h; subst h; simp only [aG] at hv; subst hv; exact ⟨rfl, trivial⟩
 | c :: cs, p :: ps, t, vs, h, hv => by
  simp only [dO] at h
  split at h
  ·rename_i u r hu hr
   cases h
   obtain ⟨us, rs, rfl, _, hp, hv⟩ := iJ.1 hv
   obtain ⟨e1, h1⟩ := uT hsl hu hp
   obtain ⟨e2, h2⟩ := vF hsl hr hv
   exact ⟨by rw [e1, e2]; rfl, h1, h2⟩
  ·cases h
 | [], _ :: _, _, _, h, _ => by simp [dO] at h
 | _ :: _, [], _, _, h, _ => by simp [dO] at h
def oV (ek : EK) (d : D) : D :=
 match ek with
 | [.int _] => .I d.toI
 | _ => d
theorem aC4 {ρ : LD} {hs : List Ch} (hsl : nS ρ hs) {ek : EK} {ps : List Pt} {u : Tm} {vs : List Value} (h : gY hs ek ps = some u) (hv : aG ρ ps vs) :
  ∃ x, vs = fK ek x ∧ qE ek x ∧ x = oV ek (u.den ρ) := by
 rcases ek with _ | ⟨c, _ | ⟨c', cs⟩⟩
 ·obtain ⟨h1, h2⟩ := vF hsl (cs := []) (by simpa [gY] using h) hv
  exact ⟨_, h1, h2, rfl⟩
 ·rcases ps with _ | ⟨p, _ | ⟨p', ps⟩⟩
  ·cases c <;> simp [gY] at h
  ·cases c with
   | int k =>
    cases p with
    | lf l =>
     cases l <;> simp [gY] at h
     obtain ⟨rfl, rfl⟩ := h
     obtain ⟨v, r, rfl, ⟨rfl, hk⟩, _, hr⟩ := hv
     simp only [aG] at hr; subst hr
     exact ⟨.I (Tm.den ρ _).toI, rfl, hk, rfl⟩
    | ints k n L => simp [gY] at h
   | bool => obtain ⟨e, h3⟩ := uT hsl (c := .bool) (by simpa [gY] using h) hv; exact ⟨_, e, h3, rfl⟩
   | str => obtain ⟨e, h3⟩ := uT hsl (c := .str) (by simpa [gY] using h) hv; exact ⟨_, e, h3, rfl⟩
   | ints k n => obtain ⟨e, h3⟩ := uT hsl (c := .ints k n) (by simpa [gY] using h) hv; exact ⟨_, e, h3, rfl⟩
   | sl ek' => obtain ⟨e, h3⟩ := uT hsl (c := .sl ek') (by simpa [gY] using h) hv; exact ⟨_, e, h3, rfl⟩
  ·cases c <;> simp [gY] at h
 ·have h' : dO hs (c :: c' :: cs) ps = some u := by cases c <;> exact h
  obtain ⟨h1, h2⟩ := vF hsl (cs := c :: c' :: cs) h' hv
  exact ⟨u.den ρ, h1, h2, by cases c <;> rfl⟩
end Go.Vc
namespace Go.Vc
theorem Addr.add_plain (b o n : Nat) : (⟨b, o, none⟩ : Addr).add n = ⟨b, o + n, none⟩ := by
 unfold Addr.add
 split
 ·rename_i h; subst h; rfl
 ·rfl
theorem eU {P : Program} {t : TypeId} (h : P.cellsOf t ≠ 0) (w : World) : (sizeOf t).run P w = .ok (P.cellsOf t) w := by
 unfold Program.cellsOf at h ⊢
 cases hi : P.info? t with
 | none => rw [hi] at h; simp at h
 | some i => simp [sizeOf, typeInfo, hi]
section
variable {P : Program} {E : Env} {ρ : LD} {ret : SV → M} {vc : VC}
theorem aJ0 (o : BinOp) (t : TypeId) (x y : Operand) (u v : Value) (w : World) (h1 : ∀ c, u ≠ .agg c) (h2 : u ≠ .nilIface) : (eqGuard o t x y u v).run P w = .ok () w := by
 unfold eqGuard
 cases o <;> first
  | rfl
  | (cases u <;> first | rfl | exact absurd rfl h2 | exact absurd rfl (h1 _))
theorem aV4 (d : Nat) {t el : TypeId} (q : Option Addr) (h : P.underlying t = some (.pointer el)) (w : World) : (Op.equalIn (d + 1) t (.pointer none) (.pointer q)).run P w = .ok q.isNone w := by
 simp [Op.equalIn, run_underlying h]
theorem bL0 (d : Nat) {t el : TypeId} (p : Addr) (h : P.underlying t = some (.pointer el)) (w : World) : (Op.equalIn (d + 1) t (.pointer (some p)) (.pointer none)).run P w = .ok false w := by
 simp [Op.equalIn, run_underlying h]
theorem jQ {P : Program} {t : TypeId} {d : TypeDesc} (h : P.underlying t = some d) (w : World) : (isAgg t).run P w = .ok (dW P t) w := by
 unfold isAgg dW
 simp only [Sem.run_bind, run_underlying h, Result.andThen_ok, h]
 cases d <;> rfl
theorem bN3 {P : Program} {t : TypeId} (h : dW P t = true) : ∃ d, P.underlying t = some d := by
 unfold dW at h
 cases hu : P.underlying t with
 | none => rw [hu] at h; cases h
 | some d => exact ⟨d, rfl⟩
theorem aT5 {P : Program} {ρ : LD} {t : TypeId} {cs : Array Value} {o : Nat} {ps qs : List Pt} {d : TypeDesc} (hu : P.underlying t = some d) (hc : P.cellsOf t ≠ 0) (ha : dW P t = true)
  (hq : mW o (P.cellsOf t) ps = some qs) (hv : aG ρ ps cs.toList) : ∃ us : Array Value, aG ρ qs us.toList ∧ ∀ w, (part t cs o).run P w = .ok (.agg us) w := by
 obtain ⟨pre, us, r, he, h0, h1, h2⟩ := yG hq hv
 have hx : cs.extract o (o + P.cellsOf t) = us.toArray := by
  apply Array.toList_inj.1
  rw [Array.toList_extract, he]
  simp [List.extract_eq_take_drop, h0, h1]
 exact ⟨us.toArray, by simpa using h2, fun w => by simp [part, jQ hu, ha, eU hc, hx]⟩
theorem aT6 {P : Program} {ρ : LD} {t : TypeId} {cs : Array Value} {o : Nat} {ps : List Pt} {l : Lf} {d : TypeDesc} (hu : P.underlying t = some d) (ha : dW P t = false)
  (hl : lG o ps = some l) (hv : aG ρ ps cs.toList) : ∃ v, l.holds ρ v ∧ ∀ w, (part t cs o).run P w = .ok v w := by
 obtain ⟨v, h1, h2, _⟩ := xE hl hv
 have : cs[o]? = some v := by simpa using h1
 exact ⟨v, h2, fun w => by simp [part, jQ hu, ha, this]⟩
theorem bA1 {ρ : LD} (a b : Tm) : ((zV a b).den ρ).toB = ((a.den ρ).toB && (b.den ρ).toB) := by
 unfold zV
 split
 ·rename_i h; subst h; simp [Tm.den]
 ·simp [Tm.den, O2.den]
theorem bD5 {P : Program} {ρ : LD} {t : TypeId} {a b : Lf} {e : Tm} {u v : Value} (h : aC7 P t a b = some e) (ha : a.holds ρ u) (hb : b.holds ρ v) (d : Nat) (w : World) :
  (Op.equalIn (d + 1) t u v).run P w = .ok (e.den ρ).toB w := by
 unfold aC7 at h
 split at h
 ·obtain ⟨rfl, _⟩ := ha
  obtain ⟨rfl, _⟩ := hb
  split at h
  ·rename_i hu
   split at h
   ·rename_i hk; subst hk; cases h
    exact run_equalIn_int w d t _ _ _ _ hu
   ·cases h
  ·cases h
 ·obtain ⟨rfl, _⟩ := ha
  obtain ⟨rfl, _⟩ := hb
  split at h
  ·rename_i hu
   cases h
   exact run_equalIn_string w d t _ _ hu
  ·cases h
 ·simp only [Lf.holds] at ha hb
  subst ha hb
  split at h
  ·rename_i hu
   cases h
   exact run_equalIn_bool' w d t _ _ hu
  ·cases h
 ·cases h
theorem aN2 {P : Program} {ρ : LD} {again : TypeId → List Pt → List Pt → Option Tm} {d : Nat} {xs ys : List Pt} {cs ds : Array Value} (hx : aG ρ xs cs.toList) (hy : aG ρ ys ds.toList)
  (IH : ∀ t xs ys (cs ds : Array Value) e, again t xs ys = some e → aG ρ xs cs.toList → aG ρ ys ds.toList → ∀ w, (Op.equalIn (d + 1) t (.agg cs) (.agg ds)).run P w = .ok (e.den ρ).toB w) :
  ∀ (fs : List Field) (e : Tm), tY P again xs ys fs = some e → ∀ w, (Op.eqFields (d + 1) cs ds fs).run P w = .ok (e.den ρ).toB w
 | [], e, h, w => by
  simp only [tY] at h
  cases h
  simp [Op.eqFields, Tm.den]
 | f :: fs, e, h, w => by
  simp only [tY] at h
  split at h
  ·rename_i t r ht hr
   cases h
   have ih := aN2 hx hy IH fs r hr w
   rw [bA1]
   unfold eqF at ht
   split at ht
   ·cases ht
   ·rename_i hn
    have hname : f.name ≠ "_" := fun h => hn (.inl h)
    have hcell : P.cellsOf f.type ≠ 0 := fun h => hn (.inr h)
    have step : ∃ u v, (∀ w, (part f.type cs f.offset).run P w = .ok u w) ∧ (∀ w, (part f.type ds f.offset).run P w = .ok v w) ∧ ∀ w, (Op.equalIn (d + 1) f.type u v).run P w = .ok (t.den ρ).toB w := by
     split at ht
     ·rename_i hagg
      obtain ⟨dd, hu⟩ := bN3 hagg
      split at ht
      ·rename_i a b hqa hqb
       obtain ⟨us, g1, g2⟩ := aT5 hu hcell hagg hqa hx
       obtain ⟨vs, g3, g4⟩ := aT5 hu hcell hagg hqb hy
       exact ⟨_, _, g2, g4, IH _ _ _ _ _ _ ht g1 g3⟩
      ·cases ht
     ·rename_i hagg
      have hagg : dW P f.type = false := by simpa using hagg
      split at ht
      ·rename_i a b hqa hqb
       split at ht
       ·rename_i hs
        obtain ⟨dd, hu⟩ := Option.isSome_iff_exists.1 hs
        obtain ⟨u, g1, g2⟩ := aT6 hu hagg hqa hx
        obtain ⟨v, g3, g4⟩ := aT6 hu hagg hqb hy
        exact ⟨u, v, g2, g4, fun w => bD5 ht g1 g3 d w⟩
       ·cases ht
      ·cases ht
    obtain ⟨u, v, g1, g2, g3⟩ := step
    simp only [Op.eqFields, if_pos hname, Sem.run_bind, g1, g2, g3, Result.andThen_ok]
    cases (t.den ρ).toB
    ·simp
    ·simpa using ih
  ·cases h
theorem aN3 {P : Program} {e : TypeId} {k k2 : IntKind} (hu : P.underlying e = some (.int k2)) (hagg : dW P e = false) {L L' : LI} {cs ds : Array Value} (hc : cs.toList = L.map (Value.int k)) (hd : ds.toList = L'.map (Value.int k)) (d : Nat) :
  ∀ (is : List Nat), (∀ i ∈ is, i < L.length ∧ i < L'.length) → ∀ w, (Op.eqItems (d + 1) e 1 cs ds is).run P w = .ok (is.all fun i => L.getD i 0 == L'.getD i 0) w
 | [], _, w => by simp [Op.eqItems]
 | i :: is, h, w => by
  obtain ⟨h1, h2⟩ := h i (by simp)
  have ih := aN3 hu hagg hc hd d is (fun j hj => h j (by simp [hj])) w
  have g1 : cs[i]? = some (.int k (L.getD i 0)) := by
   rw [← Array.getElem?_toList, hc, List.getElem?_map, List.getElem?_eq_getElem h1]; simp [List.getD, h1]
  have g2 : ds[i]? = some (.int k (L'.getD i 0)) := by
   rw [← Array.getElem?_toList, hd, List.getElem?_map, List.getElem?_eq_getElem h2]; simp [List.getD, h2]
  have p1 : ∀ w, (part e cs (i * 1)).run P w = .ok (.int k (L.getD i 0)) w := fun w => by rw [Nat.mul_one]; simp [part, jQ hu, hagg, g1]
  have p2 : ∀ w, (part e ds (i * 1)).run P w = .ok (.int k (L'.getD i 0)) w := fun w => by rw [Nat.mul_one]; simp [part, jQ hu, hagg, g2]
  simp only [Op.eqItems, Sem.run_bind, p1, p2, run_equalIn_int _ d e k k2 _ _ hu, Result.andThen_ok, List.all_cons]
  cases (L.getD i 0 == L'.getD i 0)
  ·simp
  ·simpa using ih
theorem bA0 {L L' : LI} {n : Nat} (h : L.length = n) (h' : L'.length = n) : ((List.range n).all fun i => L.getD i 0 == L'.getD i 0) = (L == L') := by
 rw [Bool.eq_iff_iff, List.all_eq_true, beq_iff_eq]
 constructor
 ·intro g
  apply List.ext_getElem (by omega)
  intro i h1 h2
  have := g i (by simp; omega)
  simpa [List.getD, h1, h2] using this
 ·rintro rfl i _
  simp
theorem aN4 {P : Program} {ρ : LD} : ∀ (f : Nat) (t : TypeId) (xs ys : List Pt) (cs ds : Array Value) (e : Tm), wM P f t xs ys = some e → aG ρ xs cs.toList → aG ρ ys ds.toList →
  ∀ d w, (Op.equalIn (d + f + 1) t (.agg cs) (.agg ds)).run P w = .ok (e.den ρ).toB w
 | 0, _, _, _, _, _, _, h, _, _, _, _ => by cases h
 | f + 1, t, xs, ys, cs, ds, e, h, hx, hy, d, w => by
  simp only [wM] at h
  split at h
  ·rename_i fs hu
   split at h
   ·cases h
   ·rename_i hs
    have hs : P.stoodInHeld t = false := by simpa using hs
    have hf : P.fieldsOf t = fs := by simp [Program.fieldsOf, hu]
    rw [run_equalIn_struct w _ t cs ds (by rw [hf]; exact hu) hs, hf]
    exact aN2 hx hy (fun t xs ys cs ds e h1 h2 h3 w => aN4 f t xs ys cs ds e h1 h2 h3 d w) fs.toList e h w
  ·rename_i n el hu
   split at h
   ·rename_i k m L k' m' L'
    split at h
    ·rename_i hc
     obtain ⟨rfl, rfl, rfl, h1, h2⟩ := hc
     cases h
     obtain ⟨r, hr, l1, _, rfl⟩ := hx
     obtain ⟨r', hr', l2, _, rfl⟩ := hy
     rw [List.append_nil] at hr hr'
     obtain ⟨k2, hk2⟩ : ∃ k2, P.underlying el = some (.int k2) := by
      unfold aP3 at h2
      split at h2
      ·exact ⟨_, by assumption⟩
      ·cases h2
     have hagg : dW P el = false := by unfold dW; rw [hk2]
     obtain ⟨i, hi⟩ := info_of_underlying hk2
     rw [run_equalIn_array w _ cs ds hu hi, h1]
     have g := aN3 hk2 hagg hr hr' (d + f) (List.range m') (fun i hi => by have := List.mem_range.1 hi; omega) w
     rw [bA0 l1 l2] at g
     exact g
    ·cases h
   ·cases h
  ·cases h
theorem bA8 {o : BinOp} {t : TypeId} {x y : SV} {u v : Value} (h : aA1 P t o x y ret = .ok vc) (hd : vc.den E ρ) (hx : x.holds ρ u) (hy : y.holds ρ v) (xo yo : Operand) :
  ∃ z, Met E ρ ret z ∧ ∀ w, (do eqGuard o t xo yo u v; binOp o t u v : Sem Value).run P w = .ok z w := by
 have key : (∃ z, Met E ρ ret z ∧ ∀ w, (binOp o t u v).run P w = .ok z w) → (∀ c, u ≠ .agg c) → u ≠ .nilIface →
   ∃ z, Met E ρ ret z ∧ ∀ w, (do eqGuard o t xo yo u v; binOp o t u v : Sem Value).run P w = .ok z w := by
  rintro ⟨z, h1, h2⟩ h3 h4
  exact ⟨z, h1, fun w => by simp [aJ0 o t xo yo u v w h3 h4, h2]⟩
 unfold aA1 at h
 split at h
 ·obtain ⟨rfl, hk⟩ := hx
  obtain ⟨rfl, hk'⟩ := hy
  refine key ?_ (fun c e => by cases e) (fun e => by cases e)
  split at h
  ·rename_i ho; exact bL4 ho h hd hk hk' t
  ·split at h
   ·rename_i hkk; subst hkk; exact bA4 h hd hk t
   ·cases h
 ·obtain ⟨rfl, hk⟩ := hx
  obtain ⟨rfl, hk'⟩ := hy
  exact key (bM3 h hd t) (fun c e => by cases e) (fun e => by cases e)
 ·simp only [SV.holds, S0.holds, Lf.holds] at hx hy
  subst hx hy
  refine key ?_ (fun c e => by cases e) (fun e => by cases e)
  split at h
  ·rename_i hb
   have hb : P.underlying t = some .bool := by
    unfold aP2 at hb; split at hb
    ·assumption
    ·cases hb
   split at h
   ·exact ⟨_, Met.bool h hd rfl, fun w => run_eql_bool w t _ _ hb⟩
   ·exact ⟨_, Met.bool h hd rfl, fun w => run_neq_bool w t _ _ hb⟩
   ·cases h
  ·cases h
 ·split at h
  ·rename_i e he
   split at h
   ·rename_i hp
    obtain ⟨el, hp⟩ : ∃ el, P.underlying t = some (.pointer el) := by
     unfold aP4 at hp; split at hp
     ·exact ⟨_, by assumption⟩
     ·cases hp
    have hpp : ∃ p q : Option Addr, u = .pointer p ∧ v = .pointer q ∧ ∀ w, (Op.equal t u v).run P w = .ok e w := by
     unfold aS4 at he
     split at he
     ·cases he; simp only [SV.holds, S0.holds, Lf.holds] at hx hy; subst hx hy
      exact ⟨_, _, rfl, rfl, aV4 9999 _ hp⟩
     ·cases he; simp only [SV.holds, S0.holds, Lf.holds] at hx hy; subst hx hy
      exact ⟨_, _, rfl, rfl, aV4 9999 _ hp⟩
     ·cases he; simp only [SV.holds, S0.holds, Lf.holds] at hx hy; subst hx hy
      exact ⟨_, _, rfl, rfl, bL0 9999 _ hp⟩
     ·cases he
    obtain ⟨p, q, rfl, rfl, hrun⟩ := hpp
    refine key ?_ (fun c e => by cases e) (fun e => by cases e)
    split at h
    ·exact ⟨_, Met.bool h hd rfl, fun w => by simp [binOp, hrun, Tm.den]⟩
    ·exact ⟨_, Met.bool h hd rfl, fun w => by simp [binOp, hrun, Tm.den]⟩
    ·cases h
   ·cases h
  ·cases h
 ·obtain ⟨cs, rfl, hcs⟩ := hx
  obtain ⟨ds, rfl, hds⟩ := hy
  split at h
  ·cases h
  ·rename_i hg
   have hg : P.eqGuardType P.depth t = false := by simpa using hg
   split at h
   ·rename_i e he
    have hrun := fun w => aN4 4 t _ _ cs ds e he hcs hds 9995 w
    split at h
    ·refine ⟨_, Met.bool h hd rfl, fun w => ?_⟩
     simp only [Sem.run_bind, run_eqGuard_agg w _ t xo yo cs ds hg, Result.andThen_ok, run_eql_struct, hrun]
    ·refine ⟨_, Met.bool h hd rfl, fun w => ?_⟩
     simp only [Sem.run_bind, run_eqGuard_agg w _ t xo yo cs ds hg, Result.andThen_ok, run_neq_struct, hrun]
     rfl
    ·cases h
   ·cases h
 ·cases h
theorem bN2 {o : UnOp} {x : SV} {u : Value} (h : unS o x ret = .ok vc) (hd : vc.den E ρ) (hx : x.holds ρ u) :
  ∃ z, Met E ρ ret z ∧ ∀ w, (Op.unary o u).run P w = .ok z w := by
 unfold unS at h
 split at h
 ·obtain ⟨rfl, hk⟩ := hx
  exact ⟨_, Met.int h hd rfl (lF _ _), fun w => rfl⟩
 ·obtain ⟨rfl, hk⟩ := hx
  rename_i k a
  exact ⟨.int k (Go.bits .xor k (if k.signed then -1 else k.max) (a.den ρ).toI), Met.int (n := Go.bits .xor k (if k.signed then -1 else k.max) (a.den ρ).toI) h hd rfl (uH .xor k _ _), fun w => rfl⟩
 ·simp only [SV.holds, S0.holds, Lf.holds] at hx; subst hx
  exact ⟨_, Met.bool h hd rfl, fun w => rfl⟩
 ·cases h
theorem bD9 {cx : Cx} {s : TypeId} {x : SV} {f : Nat} {u : Value} (h : aC9 cx s x f ret = .ok vc) (hd : vc.den E ρ) (hx : x.holds ρ u) :
  ∃ z, Met E ρ ret z ∧ ∀ w, (Instr.fieldAt s u f).run cx.P w = .ok z w := by
 unfold aC9 at h
 split at h
 ·rename_i fs hs
  split at h
  ·rename_i fd hf
   split at h
   ·cases h
   ·rename_i hc
    split at h
    ·simp only [SV.holds, S0.holds, Lf.holds] at hx; subst hx
     exact ⟨_, ⟨_, vc, h, hd, rfl⟩, fun w => by simp [Instr.fieldAt, run_underlying hs, hf, Instr.sureAddr, fieldPlace, eU hc, hc, Addr.add_plain]⟩
    ·obtain ⟨ad, n, c, ha, h1, h2, h3, rfl⟩ := hx
     refine ⟨_, ⟨_, vc, h, hd, ad, n, c, ha, h1, h2, h3, rfl⟩, fun w => by simp [Instr.fieldAt, run_underlying hs, hf, Instr.sureAddr, fieldPlace, eU hc, hc, Addr.add_plain]; omega⟩
    ·cases h
  ·cases h
 ·cases h
theorem bD7 {P : Program} {xs : List S0} {i : Nat} {x : S0} {u : Value} (h : xs[i]? = some x) (hx : (SV.tup xs).holds ρ u) :
  ∃ z, x.holds ρ z ∧ ∀ w, (Instr.extract u i).run P w = .ok z w := by
 obtain ⟨vs, rfl, hv⟩ := hx
 have get : ∀ {xs : List S0} {vs : List Value} {i : Nat}, iD ρ xs vs → xs[i]? = some x → ∃ v, vs[i]? = some v ∧ x.holds ρ v := by
  intro xs
  induction xs with
  | nil => intro vs i _ h; simp at h
  | cons y ys ih =>
   intro vs i hv h
   obtain ⟨v, r, rfl, h1, h2⟩ := hv
   cases i with
   | zero => simp at h; subst h; exact ⟨v, rfl, h1⟩
   | succ i => obtain ⟨u, hu, hh⟩ := ih h2 (by simpa using h); exact ⟨u, by simpa using hu, hh⟩
 obtain ⟨v, hv', hh⟩ := get hv h
 have : vs[i]? = some v := by simpa using hv'
 exact ⟨v, hh, fun w => by simp [Instr.extract, this]⟩
theorem bJ1 {P : Program} {t : TypeId} {cs : Array Value} {o : Nat} {ps : List Pt} {d : TypeDesc} (hu : P.underlying t = some d) (hc : P.cellsOf t ≠ 0)
  (h : kM (dW P t) (P.cellsOf t) o ps ret = .ok vc) (hd : vc.den E ρ) (hv : aG ρ ps cs.toList) :
  ∃ z, Met E ρ ret z ∧ ∀ w, (part t cs o).run P w = .ok z w := by
 unfold kM at h
 cases ha : dW P t with
 | true =>
  simp only [ha, if_true] at h
  split at h
  ·rename_i qs hq
   obtain ⟨pre, us, r, he, h0, h1, h2⟩ := yG hq hv
   have hx : cs.extract o (o + P.cellsOf t) = us.toArray := by
    apply Array.toList_inj.1
    rw [Array.toList_extract, he]
    simp [List.extract_eq_take_drop, h0, h1]
   refine ⟨.agg us.toArray, ⟨_, vc, h, hd, _, rfl, by simpa using h2⟩, fun w => ?_⟩
   simp [part, jQ hu, ha, eU hc, hx]
  ·cases h
 | false =>
  simp only [ha, Bool.false_eq_true, if_false] at h
  split at h
  ·rename_i l hl
   obtain ⟨v, h1, h2, _⟩ := xE hl hv
   have : cs[o]? = some v := by simpa using h1
   exact ⟨v, ⟨_, vc, h, hd, h2⟩, fun w => by simp [part, jQ hu, ha, this]⟩
  ·cases h
end
end Go.Vc
namespace Go.Vc
theorem cell?_block {w : World} {b : Nat} {cs : Array Value} {e : TypeId} {fz : Nat × Nat} (h : w.heap[b]? = some (.cells cs e fz)) (j : Nat) : w.cell? ⟨b, j, none⟩ = cs[j]? := by
 simp [World.cell?, h]
theorem Addr.nT {ad : Addr} (h : ad.spot = none) (n : Nat) : ad.add n = ⟨ad.block, ad.off + n, none⟩ := by
 unfold Addr.add
 split
 ·rename_i hn; subst hn; cases ad; simp only at h; subst h; rfl
 ·rfl
theorem List.getElem?_mid {α : Type} {pre us r : List α} (j : Nat) (hj : j < us.length) : (pre ++ (us ++ r))[pre.length + j]? = us[j]? := by
 rw [List.getElem?_append_right (by omega), List.getElem?_append_left (by omega)]
 congr 1; omega
structure Same (w w' : World) : Prop where
 size : w.heap.size ≤ w'.heap.size
 block : ∀ b, b < w.heap.size → w'.heap[b]? = w.heap[b]?
theorem Same.refl (w : World) : Same w w := ⟨Nat.le_refl _, fun _ _ => rfl⟩
theorem Same.trans {w w' w'' : World} (h : Same w w') (h' : Same w' w'') : Same w w'' :=
 ⟨Nat.le_trans h.size h'.size, fun b hb => (h'.block b (Nat.lt_of_lt_of_le hb h.size)).trans (h.block b hb)⟩
theorem Same.cell {w w' : World} (h : Same w w') {ad : Addr} {v : Value} (hc : w.cell? ad = some v) : w'.cell? ad = some v := by
 have hb : ad.block < w.heap.size := by
  refine Nat.lt_of_not_le fun hn => ?_
  simp [World.cell?, Array.getElem?_eq_none hn] at hc
 rw [← hc]
 simp only [World.cell?, h.block _ hb]
section
variable {P : Program} {E : Env} {ρ : LD} {ret : SV → M} {vc : VC}
theorem uM {t : TypeId} {d : TypeDesc} {o : Nat} {ps : List Pt} {vs : List Value} {w : World} {b off : Nat} (hu : P.underlying t = some d) (hc : P.cellsOf t ≠ 0)
  (h : kM (dW P t) (P.cellsOf t) o ps ret = .ok vc) (hd : vc.den E ρ) (hv : aG ρ ps vs) (hcell : ∀ j u, vs[j]? = some u → w.cell? ⟨b, off + j, none⟩ = some u) :
  ∃ z, Met E ρ ret z ∧ ∀ w', Same w w' → (Instr.loadAt t (.pointer (some ⟨b, off + o, none⟩))).run P w' = .ok z w' := by
 unfold kM at h
 cases ha : dW P t with
 | true =>
  simp only [ha, if_true] at h
  split at h
  ·rename_i qs hq
   obtain ⟨pre, us, r, he, h0, h1, h2⟩ := yG hq hv
   refine ⟨.agg us.toArray, ⟨_, vc, h, hd, _, rfl, by simpa using h2⟩, fun w' hs => ?_⟩
   have hl := run_loadCells_list (P := P) (w := w') ⟨b, off + o, none⟩ us (fun j u hu => by
    rw [Addr.add_plain]
    have := hs.cell (hcell (o + j) u (by rw [he, ← h0, List.getElem?_mid j (List.getElem?_eq_some_iff.1 hu).1]; exact hu))
    rw [← this]; congr 2; omega)
   rw [h1] at hl
   simp [Instr.loadAt, Instr.sureAddr, loadVar, jQ hu, ha, eU hc, hl]
  ·cases h
 | false =>
  simp only [ha, Bool.false_eq_true, if_false] at h
  split at h
  ·rename_i l hl
   obtain ⟨v, h1, h2, _⟩ := xE hl hv
   exact ⟨v, ⟨_, vc, h, hd, h2⟩, fun w' hs => by simp [Instr.loadAt, Instr.sureAddr, loadVar, jQ hu, ha, hs.cell (hcell o v h1)]⟩
  ·cases h
theorem aD2 {g : Nat} : ∀ {G : List Glob} {gl : Glob}, qK g G = some gl → gl ∈ G ∧ gl.g = g
 | [], _, h => by simp [qK] at h
 | x :: xs, gl, h => by
  simp only [qK] at h
  split at h
  ·rename_i hx; cases h; exact ⟨by simp, hx⟩
  ·obtain ⟨h1, h2⟩ := aD2 h; exact ⟨by simp [h1], h2⟩
theorem bE4 {gl : Glob} {w : World} (h : gl.holds w) : aG ρ [.ints gl.k gl.l.length (.lis gl.l)] (gl.l.map (Value.int gl.k)) ∧
  ∀ j u, (gl.l.map (Value.int gl.k))[j]? = some u → w.cell? ⟨gl.g, 0 + j, none⟩ = some u := by
 obtain ⟨⟨e, fz, hg⟩, hh⟩ := h
 refine ⟨⟨[], by simp [Tm.den], rfl, hh, rfl⟩, fun j u hu => ?_⟩
 rw [cell?_block hg]
 simpa using hu
theorem jG {hs : List Ch} {w : World} {a : Tm} {own : Bool} {ek : EK} {L : Tm} (hh : aJ ρ hs w) (hf : aS a hs = some (own, ek, L)) :
  iF w (a.den ρ).toV ek.width (ek.len (L.den ρ)) (ek.cells (L.den ρ)) ∧ ek.ok (L.den ρ) := by
 obtain ⟨l1, l2, rfl, _⟩ := jO hf
 have := hh.holds (nK own a ek L) (by simp)
 cases own with
 | true => exact ⟨this.1.rd, this.2⟩
 | false => exact this
theorem aJ3 {hs : List Ch} {w : World} {a : Tm} {ek : EK} {L : Tm} (hh : aJ ρ hs w) (hf : aS a hs = some (true, ek, L)) :
  gW w (a.den ρ).toV ek.width (ek.len (L.den ρ)) (ek.cells (L.den ρ)) ∧ ek.ok (L.den ρ) := by
 obtain ⟨l1, l2, rfl, _⟩ := jO hf
 exact hh.holds (.osl a ek L) (by simp [nK])
theorem lX {hs : List Ch} {w : World} {b : Tm} {ps : List Pt} (hh : aJ ρ hs w) (hf : dZ b hs = some ps) : (Ch.box b ps).holds ρ w := by
 obtain ⟨l1, l2, rfl, _⟩ := qJ hf
 exact hh.holds (.box b ps) (by simp)
variable {cx : Cx} {G : List Glob} {w0 : World} {D0 R0 : List Nat} {S : St} {a : Act} {w : World}
theorem aH4 {t : Tm} {k : M} {vc : VC} {ρ : LD} (h : obl t k = .ok vc) (hd : vc.den E ρ) : (t.den ρ).toB = true ∧ (∃ v, k = .ok v ∧ v.den E ρ) := by
 unfold obl at h
 split at h
 ·cases h; exact ⟨hd.1, _, rfl, hd.2 hd.1⟩
 ·cases h
theorem qH : ∀ {hs : List Ch} {m : Tm} {kd : Kd} {ek : EK} {L : Tm} {ts : List Tm}, kK hs = some (m, kd, ek, L, ts) →
  .abs kd (m :: L :: ts) ∈ hs ∧ ∃ K, (kd = .mpp K ek ∧ ts = []) ∨ (kd = .mppi K ek ∧ ts.length = 2)
 | [], _, _, _, _, _, h => by cases h
 | c :: hs, m, kd, ek, L, ts, h => by
  unfold kK at h
  split at h
  ·cases h
  ·rename_i heq
   cases heq
   split at h
   ·rename_i hts
    cases h
    exact ⟨by simp, _, .inl ⟨rfl, hts⟩⟩
   ·obtain ⟨h1, h2⟩ := qH h; exact ⟨by simp [h1], h2⟩
  ·rename_i heq
   cases heq
   split at h
   ·rename_i hts
    cases h
    exact ⟨by simp, _, .inr ⟨rfl, hts⟩⟩
   ·obtain ⟨h1, h2⟩ := qH h; exact ⟨by simp [h1], h2⟩
  ·rename_i heq
   cases heq
   obtain ⟨h1, h2⟩ := qH h; exact ⟨by simp [h1], h2⟩
theorem aZ7 {L : LD} {n : Nat} : kY L n = true ↔ n ∈ aP L := by
 simp [kY, aP]
theorem aK8 {L : LD} {n : Nat} (h : kY L n = true) : iY L n ∈ L ∧ (iY L n).snd.toN = n := by
 unfold iY
 cases hf : L.find? (fun r => r.snd.toN == n) with
 | none =>
  simp only [kY, List.any_eq_true] at h
  obtain ⟨r, hr, hn⟩ := h
  have := List.find?_eq_none.1 hf r hr
  exact absurd hn this
 | some r =>
  exact ⟨List.mem_of_find?_eq_some hf, by simpa using List.find?_some hf⟩
theorem aI7 {K : CK} {ek : EK} : ∀ {es : List MapEntry} {L : LD}, iL w K ek es L → ∀ {r : D}, r ∈ L →
  ∃ e ∈ es, K.cells r.key = [e.key] ∧ K.isWord r.key ∧ e.val = .pointer (some ⟨r.snd.toN, 0, none⟩) ∧ r = .L (r.key :: .N r.snd.toN :: r.toL.drop 2) ∧ fJ ek (r.toL.drop 2) ∧
   ∃ cs t fz, w.heap[r.snd.toN]? = some (.cells cs t fz) ∧ eG fz cs.size ∧ cs.toList = dY ek (r.toL.drop 2)
 | [], [], _, r, hr => by cases hr
 | [], _ :: _, h, _, _ => h.elim
 | _ :: _, [], h, _, _ => h.elim
 | e :: es, x :: L, h, r, hr => by
  rcases List.mem_cons.1 hr with rfl | hr
  ·exact ⟨e, by simp, h.1⟩
  ·obtain ⟨e', he, h'⟩ := aI7 h.2 hr
   exact ⟨e', by simp [he], h'⟩
theorem bF6 {ρ : LD} {kd : Kd} {m L : Tm} {ts : List Tm} {K : CK} {ek : EK} (hk : (kd = .mpp K ek ∧ ts = []) ∨ (kd = .mppi K ek ∧ ts.length = 2)) (h : (Ch.abs kd (m :: L :: ts)).holds ρ w) :
  ∃ es clock, bY w (m.den ρ).toN es clock ∧ iL w K ek es (L.den ρ).toL := by
 rcases hk with ⟨rfl, rfl⟩ | ⟨rfl, _⟩
 ·obtain ⟨es, clock, h1, h2, _⟩ := h; exact ⟨es, clock, h1, h2⟩
 ·obtain ⟨es, clock, h1, h2, _⟩ := h; exact ⟨es, clock, h1, h2⟩
theorem aL0 {ρ : LD} {hs : List Ch} {m : Tm} {kd : Kd} {ek : EK} {L : Tm} {ts : List Tm} {b : Tm} (hh : aJ ρ hs w) (hf : kK hs = some (m, kd, ek, L, ts)) (hb : kY (L.den ρ).toL (b.den ρ).toN = true) :
  ∃ cs t fz, w.heap[(b.den ρ).toN]? = some (.cells cs t fz) ∧ eG fz cs.size ∧ aG ρ (zU ek L b) cs.toList := by
 obtain ⟨h1, K, h2⟩ := qH hf
 obtain ⟨es, clock, _, h3⟩ := bF6 h2 (hh.holds _ h1)
 obtain ⟨g1, g2⟩ := aK8 hb
 obtain ⟨e, he, k1, k2, k3, k4, k5, cs, t, fz, k6, k7, k8⟩ := aI7 h3 g1
 rw [g2] at k6
 refine ⟨cs, t, fz, k6, k7, ?_⟩
 have hr : ((Tm.o1 .asL (kZ L b)).den ρ).toL = (iY (L.den ρ).toL (b.den ρ).toN).toL := rfl
 have := aI5 (ρ := ρ) (row := .o1 .asL (kZ L b)) (cs := ek) (j := 2) (by rw [hr]; exact k5)
 rw [hr, ← k8] at this
 exact this
theorem aW8 {t : TypeId} {d : TypeDesc} {o : Nat} {ps : List Pt} {vs : List Value} {w : World} {b : Nat} {i : Tm} (hu : P.underlying t = some d) (hc : P.cellsOf t ≠ 0) (ha : dW P t = false)
  (hv : aG ρ ps vs) (hcell : ∀ j u, vs[j]? = some u → w.cell? ⟨b, j, none⟩ = some u) (h0 : 0 ≤ (i.den ρ).toI) :
  ∀ {n j : Nat} {vc : VC}, yZ (P.cellsOf t) ps ret i o n j = .ok vc → vc.den E ρ → j ≤ (i.den ρ).toI.toNat → (i.den ρ).toI.toNat < j + n →
   ∃ z, Met E ρ ret z ∧ ∀ w', Same w w' → (Instr.loadAt t (.pointer (some ⟨b, o + (i.den ρ).toI.toNat, none⟩))).run P w' = .ok z w'
 | 0, j, vc, _, _, h1, h2 => by omega
 | n + 1, j, vc, h, hd, h1, h2 => by
  rw [yZ] at h
  split at h
  ·rename_i x y hx hy
   cases h
   by_cases he : (i.den ρ).toI.toNat = j
   ·obtain ⟨v, h3, h4⟩ := eF hx hd.1 (by simp [Tm.den, O2.den]; omega)
    rw [← ha] at h3
    obtain ⟨z, hz, hrun⟩ := uM (b := b) (off := 0) (w := w) hu hc h3 h4 hv (fun j v hj => by rw [Nat.zero_add]; exact hcell j v hj)
    refine ⟨z, hz, fun w' hs => ?_⟩
    rw [he]
    simpa using hrun w' hs
   ·exact aW8 hu hc ha hv hcell h0 hy hd.2 (by omega) (by omega)
  ·cases h
  ·cases h
theorem aR6 {t : TypeId} {x : SV} {u : Value} (hG : cx.G = G) (hr : Rel G w0 D0 R0 ρ S a w) (h : uN cx S t x ret = .ok vc) (hd : vc.den E ρ) (hx : x.holds ρ u) :
  ∃ z, Met E ρ ret z ∧ ∀ w', Same w w' → (Instr.loadAt t u).run cx.P w' = .ok z w' := by
 unfold uN at h
 simp only at h
 split at h
 ·cases h
 rename_i hne
 simp only [Bool.or_eq_true, Option.isNone_iff_eq_none, beq_iff_eq, not_or] at hne
 obtain ⟨d, hu⟩ := Option.ne_none_iff_exists'.1 hne.1
 have hc := hne.2
 split at h
 ·-- a place
  rename_i b o
  simp only [SV.holds, S0.holds, Lf.holds] at hx
  split at h
  ·rename_i g
   split at h
   ·rename_i gl hgl
    obtain ⟨hm, rfl⟩ := aD2 hgl
    rw [hG] at hm
    obtain ⟨h1, h2⟩ := bE4 (ρ := ρ) (hr.globs gl hm).1
    obtain ⟨z, hz, hrun⟩ := uM hu hc h hd h1 h2
    refine ⟨z, hz, fun w' hs => ?_⟩
    subst hx
    simpa [Tm.den] using hrun w' hs
   ·cases h
  ·split at h
   ·rename_i ps hps
    obtain ⟨cs, e, fz, hg, hfz, hv⟩ := lX hr.heap hps
    obtain ⟨z, hz, hrun⟩ := uM (b := (b.den ρ).toN) (off := 0) (w := w) hu hc h hd hv (fun j v hj => by rw [cell?_block hg]; simpa using hj)
    refine ⟨z, hz, fun w' hs => ?_⟩
    subst hx
    simpa using hrun w' hs
   ·split at h
    ·rename_i hfa
     obtain ⟨hb, vc', h, hd⟩ := aH4 h hd
     obtain ⟨cs, e, fz, hg, hfz, hv⟩ := aL0 hr.heap hfa hb
     obtain ⟨z, hz, hrun⟩ := uM (b := (b.den ρ).toN) (off := 0) (w := w) hu hc h hd hv (fun j v hj => by rw [cell?_block hg]; simpa using hj)
     refine ⟨z, hz, fun w' hs => ?_⟩
     subst hx
     simpa using hrun w' hs
    ·cases h
 ·-- an element of numbers
  rename_i b o i n
  obtain ⟨rfl, h0, hi⟩ := hx
  split at h
  ·cases h
  ·rename_i ha
   have ha : dW cx.P t = false := by simpa using ha
   split at h
   ·rename_i g
    split at h
    ·rename_i gl hgl
     obtain ⟨hm, rfl⟩ := aD2 hgl
     rw [hG] at hm
     split at h
     ·rename_i hon
      obtain ⟨rfl, rfl⟩ := hon
      obtain ⟨⟨e, fz, hg⟩, hh⟩ := (hr.globs gl hm).1
      have hlt : (i.den ρ).toI.toNat < gl.l.length := by omega
      refine ⟨.int gl.k (gl.l.getD (i.den ρ).toI.toNat 0), ⟨_, vc, h, hd, by simp [Tm.den, O2.den], by simp only [Tm.den, O2.den, D.toI_I, D.toLi_Z]; exact wW hh _⟩, fun w' hs => ?_⟩
      have : w.cell? ⟨gl.g, (i.den ρ).toI.toNat, none⟩ = some (.int gl.k (gl.l.getD (i.den ρ).toI.toNat 0)) := by
       rw [cell?_block hg]; simp [List.getD, hlt]
      simp [Instr.loadAt, Instr.sureAddr, loadVar, jQ hu, ha, Tm.den, hs.cell this]
     ·cases h
    ·cases h
   ·split at h
    ·rename_i ps hps
     split at h
     ·rename_i k L hL
      obtain ⟨cs, e, fz, hg, hfz, hv⟩ := lX hr.heap hps
      obtain ⟨pre, r, he, hp0, hp1, hp2, _⟩ := uI hL hv
      have hlt : (i.den ρ).toI.toNat < (L.den ρ).aB.length := by omega
      refine ⟨.int k ((L.den ρ).aB.getD (i.den ρ).toI.toNat 0), ⟨_, vc, h, hd, by simp [Tm.den, O2.den], by simp only [Tm.den, O2.den, D.toI_I]; exact wW hp2 _⟩, fun w' hs => ?_⟩
      have : w.cell? ⟨(b.den ρ).toN, o + (i.den ρ).toI.toNat, none⟩ = some (.int k ((L.den ρ).aB.getD (i.den ρ).toI.toNat 0)) := by
       rw [cell?_block hg, ← Array.getElem?_toList, he, ← hp0, List.getElem?_mid _ (by simpa using hlt)]
       simp [List.getD, hlt]
      simp [Instr.loadAt, Instr.sureAddr, loadVar, jQ hu, ha, hs.cell this]
     ·obtain ⟨cs, e, fz, hg, hfz, hv⟩ := lX hr.heap hps
      exact aW8 hu hc ha hv (fun j v hj => by rw [cell?_block hg]; simpa using hj) h0 h hd (Nat.zero_le _) (by omega)
    ·cases h
 ·-- an element of a slice
  rename_i ta i es o
  obtain ⟨ad, n, c, hva, hsp, h0, hi, rfl⟩ := hx
  split at h
  ·rename_i own ek L hf
   split at h
   ·rename_i hes
    subst hes
    obtain ⟨hrd, hok⟩ := jG hr.heap hf
    rw [hva] at hrd
    rcases hrd with ⟨hbad, _⟩ | ⟨ad', cap, he, hz, _⟩ | ⟨ad', cap, he, h1, h2, h3, h4, h5, h6⟩
    ·cases hbad
    ·injection he with _ he
     omega
    ·cases he
     obtain ⟨x, hx, hxo, hxp⟩ := aN0 hok h0 hi
     obtain ⟨e1, e2⟩ := wQ (f := fK ek) (fun y hy => tX ((fE ek _).1 hok y hy)) hx
     rw [← iG] at e1
     obtain ⟨z, hz, hrun⟩ := uM (b := ad.block) (off := ad.off + (i.den ρ).toI.toNat * ek.width) (w := w) hu hc h hd hxp (fun j v hj => by
      have := h6 ((i.den ρ).toI.toNat * ek.width + j) v (by rw [e1, ← e2, List.getElem?_mid j (List.getElem?_eq_some_iff.1 hj).1]; exact hj)
      rw [Addr.nT h1] at this
      rw [← this]; congr 2; omega)
     refine ⟨z, hz, fun w' hs => ?_⟩
     rw [← hrun w' hs]; congr 5; omega
   ·cases h
  ·cases h
 ·cases h
theorem aR5 {t : TypeId} {x : SV} {u : Value} (hG : cx.G = G) (hr : Rel G w0 D0 R0 ρ S a w) (h : uN cx S t x ret = .ok vc) (hd : vc.den E ρ) (hx : x.holds ρ u) :
  ∃ z, Met E ρ ret z ∧ (Instr.loadAt t u).run cx.P w = .ok z w := by
 obtain ⟨z, h1, h2⟩ := aR6 hG hr h hd hx
 exact ⟨z, h1, h2 w (Same.refl w)⟩
end
def putCells (w : World) (b : Nat) (cs : Array Value) (e : TypeId) (fz : Nat × Nat) : World := { w with heap := w.heap.setIfInBounds b (.cells cs e fz) }
theorem rP {w : World} {b : Nat} {cs : Array Value} {e : TypeId} {fz : Nat × Nat} (h : b < w.heap.size) : (putCells w b cs e fz).heap[b]? = some (.cells cs e fz) := by
 simp [putCells, h]
theorem nD {w : World} {b k : Nat} {cs : Array Value} {e : TypeId} {fz : Nat × Nat} (h : k ≠ b) : (putCells w b cs e fz).heap[k]? = w.heap[k]? := by
 simp only [putCells]
 rw [Array.getElem?_setIfInBounds_ne (by omega)]
theorem rQ {w : World} {b : Nat} {cs : Array Value} {e : TypeId} {fz : Nat × Nat} : (putCells w b cs e fz).heap.size = w.heap.size := by simp [putCells]
theorem bJ4 {w : World} {b : Nat} {cs cs' : Array Value} {e e' : TypeId} {fz fz' : Nat × Nat} : putCells (putCells w b cs e fz) b cs' e' fz' = putCells w b cs' e' fz' := by
 simp only [putCells]
 congr 1
 exact Array.setIfInBounds_setIfInBounds _
theorem bJ3 {w : World} {b : Nat} {cs : Array Value} {e : TypeId} {fz : Nat × Nat} (h : w.heap[b]? = some (.cells cs e fz)) : putCells w b cs e fz = w := by
 have : w.heap.setIfInBounds b (.cells cs e fz) = w.heap := by
  apply Array.ext_getElem?
  intro i
  by_cases hi : i = b
  ·subst hi
   rw [h]
   have := (Array.getElem?_eq_some_iff.1 h).1
   simp [this]
  ·rw [Array.getElem?_setIfInBounds_ne (by omega)]
 simp only [putCells, this]
theorem bL3 {w : World} {b o : Nat} {cs : Array Value} {e : TypeId} {fz : Nat × Nat} (h : w.heap[b]? = some (.cells cs e fz)) (v : Value) :
  w.setCell ⟨b, o, none⟩ v = putCells w b (cs.setIfInBounds o v) e fz := by
 have : w.heap.modify b (fun x => match x with
   | .cells c elem frozen => .cells (c.setIfInBounds o v) elem frozen
   | o => o) = w.heap.setIfInBounds b (.cells (cs.setIfInBounds o v) e fz) := by
  apply Array.ext_getElem?
  intro i
  rw [Array.getElem?_modify]
  by_cases hi : b = i
  ·subst hi
   rw [h]
   have := (Array.getElem?_eq_some_iff.1 h).1
   simp [this]
  ·rw [if_neg hi, Array.getElem?_setIfInBounds_ne hi]
 simp only [World.setCell, putCells]
 congr 1
def fG (cs : Array Value) (o : Nat) : List Value → Array Value
 | [] => cs
 | v :: vs => fG (cs.setIfInBounds o v) (o + 1) vs
theorem kT : ∀ (vs : List Value) (cs : Array Value) (o : Nat), (fG cs o vs).size = cs.size
 | [], _, _ => rfl
 | v :: vs, cs, o => by simp [fG, kT vs]
theorem nR : ∀ {vs old pre r : List Value} {cs : Array Value}, cs.toList = pre ++ (old ++ r) → old.length = vs.length →
  (fG cs pre.length vs).toList = pre ++ (vs ++ r)
 | [], old, pre, r, cs, h, hl => by
  have : old = [] := List.eq_nil_of_length_eq_zero hl
  subst this; simpa [fG] using h
 | v :: vs, [], pre, r, cs, h, hl => by simp at hl
 | v :: vs, u :: old, pre, r, cs, h, hl => by
  have := nR (vs := vs) (old := old) (pre := pre ++ [v]) (r := r) (cs := cs.setIfInBounds pre.length v) (by
   rw [Array.toList_setIfInBounds, h]
   simp) (by simpa using hl)
  simp only [fG]
  simpa using this
theorem eG.le {fz : Nat × Nat} {n m : Nat} (h : eG fz n) (hm : m ≤ n) : eG fz m := fun j hj => h j (by omega)
theorem eG.pred {fz : Nat × Nat} {n k : Nat} (h : eG fz (n + k)) : eG fz n := h.le (Nat.le_add_right n k)
theorem aV6 {P : Program} {w : World} {b o : Nat} {cs : Array Value} {e : TypeId} {fz : Nat × Nat} {v : Value} (h : w.heap[b]? = some (.cells cs e fz)) (hfz : eG fz cs.size) (ho : o < cs.size) (h1 : one v) :
  (store ⟨b, o, none⟩ v).run P w = .ok () (putCells w b (cs.setIfInBounds o v) e fz) := by
 rw [run_store P w _ v _ h1]
 have hc : w.cell? ⟨b, o, none⟩ = some cs[o] := by rw [cell?_block h]; simp [ho]
 have hf : w.frozen? ⟨b, o, none⟩ = false := by
  simp only [World.frozen?, h]
  have := hfz o ho
  simpa [not_and] using this
 simp only [hc, hf, Bool.false_eq_true, if_false, bL3 h]
theorem sG {P : Program} : ∀ {vs : List Value} {w : World} {b o i : Nat} {cs : Array Value} {e : TypeId} {fz : Nat × Nat}, w.heap[b]? = some (.cells cs e fz) → eG fz cs.size → o + i + vs.length ≤ cs.size → (∀ v ∈ vs, one v) →
  (storeCells ⟨b, o, none⟩ vs i).run P w = .ok () (putCells w b (fG cs (o + i) vs) e fz)
 | [], w, b, o, i, cs, e, fz, h, _, _, _ => by simp [storeCells, fG, bJ3 h]
 | v :: vs, w, b, o, i, cs, e, fz, h, hfz, hl, h1 => by
  simp only [List.length_cons] at hl
  have hb := (Array.getElem?_eq_some_iff.1 h).1
  have s1 := aV6 (P := P) (o := o + i) h hfz (by omega) (h1 v (by simp))
  have s2 := sG (P := P) (vs := vs) (w := putCells w b (cs.setIfInBounds (o + i) v) e fz) (b := b) (o := o) (i := i + 1) (cs := cs.setIfInBounds (o + i) v) (e := e) (fz := fz)
   (rP hb) (by simpa using hfz) (by simp; omega) (fun u hu => h1 u (by simp [hu]))
  simp only [storeCells, Addr.add_plain, Sem.run_bind, s1, Result.andThen_ok, s2, bJ4, fG, Nat.add_assoc]
end Go.Vc
namespace Go.Vc
section
variable {P : Program} {E : Env} {G : List Glob} {w0 : World} {D0 R0 : List Nat} {ρ : LD} {S : St} {a : Act} {w : World}
theorem Rel.write (h : Rel G w0 D0 R0 ρ S a w) {b : Tm} {ps : List Pt} (hf : dZ b S.heap = some ps) {cs : Array Value} {e : TypeId} {fz : Nat × Nat}
  (hg : w.heap[(b.den ρ).toN]? = some (.cells cs e fz)) (hfz : eG fz cs.size) {qs : List Pt} {cs' : Array Value} (hsz : cs'.size = cs.size) (hq : aG ρ qs cs'.toList) :
  Rel G w0 D0 R0 ρ { S with heap := iM b qs S.heap } a (putCells w (b.den ρ).toN cs' e fz) := by
 obtain ⟨l1, l2, he, hset⟩ := qJ hf
 have hb := (Array.getElem?_eq_some_iff.1 hg).1
 have p1 : S.heap.Perm (.box b ps :: (l1 ++ l2)) := he ▸ iC l1 l2 _
 have p2 : (iM b qs S.heap).Perm (.box b qs :: (l1 ++ l2)) := hset qs ▸ iC l1 l2 _
 obtain ⟨hc, hrest, hown, _⟩ := qQ (h.heap.perm p1)
 have hn := hown _ rfl
 refine h.nG (hs := iM b qs S.heap) ?_ (by rw [rQ]; exact Nat.le_refl _) ?_ rfl rfl rfl ?_ ?_
 ·refine aJ.perm p2.symm ((qP rfl).2 ⟨⟨cs', e, fz, rP hb, by rw [hsz]; exact hfz, hq⟩, ?_, fun b' hb' => by cases hb'; exact hn, fun b' hb' => by cases hb'⟩)
  exact hrest.congr (fun k hk => nD (by rintro rfl; exact hk.elim hn.1 hn.2)) (by rw [rQ]; exact Nat.le_refl _)
 ·intro k _ hk
  refine nD ?_
  rintro rfl
  exact hk ((bV p1).2 (fO.2 (.inl rfl)))
 ·intro k hk
  rw [bV p2, fO] at hk
  exact .inl ((bV p1).2 (fO.2 hk))
 ·intro k hk
  rw [eP p2, iK] at hk
  exact .inr (.inl ((eP p1).2 (iK.2 (hk.imp (fun h => by cases h) id))))
theorem Rel.aZ2 (h : Rel G w0 D0 R0 ρ S a w) {t : Tm} {ek : EK} {L L' : Tm} (hf : aS t S.heap = some (true, ek, L)) {g n cap : Nat} {cs : Array Value} {e : TypeId} {fz : Nat × Nat}
  (hv : (t.den ρ).toV = .slice (some ⟨g, 0, none⟩) n cap) (hg : w.heap[g]? = some (.cells cs e fz)) {cs' : Array Value} (hq : (Ch.osl t ek L').holds ρ (putCells w g cs' e fz)) :
  Rel G w0 D0 R0 ρ { S with heap := iO t L' S.heap } a (putCells w g cs' e fz) := by
 obtain ⟨l1, l2, he, hset, _⟩ := jO hf
 have hset := (hset rfl).1
 have hb := (Array.getElem?_eq_some_iff.1 hg).1
 have p1 : S.heap.Perm (.osl t ek L :: (l1 ++ l2)) := by
  have := iC l1 l2 (Ch.osl t ek L)
  simp only [nK, if_true] at he
  rw [he]; exact this
 have p2 : (iO t L' S.heap).Perm (.osl t ek L' :: (l1 ++ l2)) := hset L' ▸ iC l1 l2 _
 obtain ⟨hc, hrest, hown, _⟩ := qQ (h.heap.perm p1)
 have ho : (Ch.osl t ek L).dR ρ g := by simp [Ch.dR, hv, Value.ownBlock]
 have hoe : ∀ b', (Ch.osl t ek L').dR ρ b' → b' = g := fun b' hb' => by simp [Ch.dR, hv, Value.ownBlock] at hb'; exact hb'.symm
 have hn := hown _ ho
 refine h.nG (hs := iO t L' S.heap) ?_ (by rw [rQ]; exact Nat.le_refl _) ?_ rfl rfl rfl ?_ ?_
 ·refine aJ.perm p2.symm ((qP rfl).2 ⟨hq, ?_, fun b' hb' => by rw [hoe b' hb']; exact hn, fun b' hb' => by cases hb'⟩)
  exact hrest.congr (fun k hk => nD (by rintro rfl; exact hk.elim hn.1 hn.2)) (by rw [rQ]; exact Nat.le_refl _)
 ·intro k _ hk
  refine nD ?_
  rintro rfl
  exact hk ((bV p1).2 (fO.2 (.inl ho)))
 ·intro k hk
  rw [bV p2, fO] at hk
  exact .inl ((bV p1).2 (fO.2 hk))
 ·intro k hk
  rw [eP p2, iK] at hk
  exact .inr (.inl ((eP p1).2 (iK.2 (hk.imp (fun h => by cases h) id))))
theorem Rel.new (h : Rel G w0 D0 R0 ρ S a w) {w' : World} (e : Ext w w') {c : Ch} (hc : c.holds ρ w') (ho : ∀ b, c.dR ρ b → w.heap.size ≤ b) (hr : ∀ b, c.dM ρ b → w.heap.size ≤ b ∨ b ∈ ros ρ S.heap) (hnd : (c.own ρ).Nodup := by exact Ch.aT3 rfl) :
  Rel G w0 D0 R0 ρ { S with heap := c :: S.heap } a w' := by
 refine h.nG (hs := c :: S.heap) (aE7.2 ⟨hc, h.heap.ext e, hnd, fun b hb => ⟨fun hm => ?_, fun hm => ?_⟩, fun b hb hm => ?_⟩) e.size (fun b hb _ => e.block b hb) e.os e.tape e.output ?_ ?_
 ·have := h.heap.dH hm; have := ho b hb; omega
 ·have := h.heap.gJ hm; have := ho b hb; omega
 ·rcases hr b hb with h1 | h1
  ·have := h.heap.dH hm; omega
  ·obtain ⟨c', hc', hb'⟩ := dN.1 h1
   exact h.heap.ro c' hc' b hb' hm
 ·intro b hb
  rw [fO] at hb
  rcases hb with hb | hb
  ·exact .inr (ho b hb)
  ·exact .inl hb
 ·intro b hb
  rw [iK] at hb
  rcases hb with hb | hb
  ·exact (hr b hb).elim (fun h => .inr (.inr h)) (fun h => .inr (.inl h))
  ·exact .inr (.inl hb)
theorem wX {hs hs' : List Ch} {w : World} : aJ ρ (hs ++ hs') w ↔ aJ ρ hs w ∧ aJ ρ hs' w ∧ (∀ b ∈ owns ρ hs, b ∉ owns ρ hs' ∧ b ∉ ros ρ hs') ∧ (∀ b ∈ ros ρ hs, b ∉ owns ρ hs') := by
 constructor
 ·intro h
  have hnd := h.nodup
  rw [bJ, List.nodup_append] at hnd
  obtain ⟨n1, n2, n3⟩ := hnd
  refine ⟨⟨fun c hc => h.holds c (by simp [hc]), n1, fun c hc b hb hm => h.ro c (by simp [hc]) b hb (by rw [bJ]; simp [hm])⟩,
   ⟨fun c hc => h.holds c (by simp [hc]), n2, fun c hc b hb hm => h.ro c (by simp [hc]) b hb (by rw [bJ]; simp [hm])⟩, fun b hb => ⟨fun hm => n3 b hb b hm rfl, fun hm => ?_⟩, fun b hb hm => ?_⟩
  ·obtain ⟨c, hc, hcb⟩ := dN.1 hm
   exact h.ro c (by simp [hc]) b hcb (by rw [bJ]; simp [hb])
  ·obtain ⟨c, hc, hcb⟩ := dN.1 hb
   exact h.ro c (by simp [hc]) b hcb (by rw [bJ]; simp [hm])
 ·rintro ⟨h1, h2, h3, h4⟩
  refine ⟨fun c hc => ?_, ?_, fun c hc b hb hm => ?_⟩
  ·rcases List.mem_append.1 hc with hc | hc
   ·exact h1.holds c hc
   ·exact h2.holds c hc
  ·rw [bJ, List.nodup_append]
   exact ⟨h1.nodup, h2.nodup, fun x hx y hy he => (h3 x hx).1 (he ▸ hy)⟩
  ·rw [bJ] at hm
   rcases List.mem_append.1 hc with hc | hc
   ·rcases List.mem_append.1 hm with hm | hm
    ·exact h1.ro c hc b hb hm
    ·exact h4 b (dN.2 ⟨c, hc, hb⟩) hm
   ·rcases List.mem_append.1 hm with hm | hm
    ·exact (h3 b hm).2 (dN.2 ⟨c, hc, hb⟩)
    ·exact h2.ro c hc b hb hm
theorem Rel.swap (h : Rel G w0 D0 R0 ρ S a w) {w' : World} {pat new rest hs' : List Ch} (p1 : S.heap.Perm (pat ++ rest)) (p2 : hs'.Perm (new ++ rest)) (hn : aJ ρ new w') (hsz : w.heap.size ≤ w'.heap.size)
  (hb : ∀ b, b < w.heap.size → b ∉ owns ρ pat → w'.heap[b]? = w.heap[b]?) (hos : w'.os = w.os) (htape : w'.tape = w.tape) (hout : w'.output = w.output)
  (ho : ∀ b ∈ owns ρ new, b ∈ owns ρ pat ∨ w.heap.size ≤ b) (hr : ∀ b ∈ ros ρ new, b ∈ owns ρ pat ∨ b ∈ ros ρ S.heap ∨ w.heap.size ≤ b) :
  Rel G w0 D0 R0 ρ { S with heap := hs' } a w' := by
 obtain ⟨q1, q2, q3, q4⟩ := wX.1 (h.heap.perm p1)
 have inS : ∀ b, b ∈ owns ρ pat → b ∈ owns ρ S.heap := fun b hm => (bV p1).2 (by rw [bJ]; simp [hm])
 refine h.nG (hs := hs') (aJ.perm p2.symm (wX.2 ⟨hn, q2.congr (fun b hm => ?_) hsz, fun b hm => ?_, fun b hm hm' => ?_⟩)) hsz (fun b hbl hm => hb b hbl fun hm' => hm (inS b hm')) hos htape hout ?_ ?_
 ·refine hb b (hm.elim q2.dH q2.gJ) fun hp => ?_
  exact hm.elim (q3 b hp).1 (q3 b hp).2
 ·rcases ho b hm with h1 | h1
  ·exact q3 b h1
  ·exact ⟨fun hm' => by have := q2.dH hm'; omega, fun hm' => by have := q2.gJ hm'; omega⟩
 ·rcases hr b hm with h1 | h1 | h1
  ·exact (q3 b h1).1 hm'
  ·obtain ⟨c, hc, hcb⟩ := dN.1 h1
   exact h.heap.ro c hc b hcb ((bV p1).2 (by rw [bJ]; simp [hm']))
  ·have := q2.dH hm'; omega
 ·intro b hm
  rw [bV p2, bJ, List.mem_append] at hm
  rcases hm with hm | hm
  ·exact (ho b hm).imp (inS b) id
  ·exact .inl ((bV p1).2 (by rw [bJ]; simp [hm]))
 ·intro b hm
  rw [eP p2, oW, List.mem_append] at hm
  rcases hm with hm | hm
  ·rcases hr b hm with h1 | h1 | h1
   ·exact .inl (inS b h1)
   ·exact .inr (.inl h1)
   ·exact .inr (.inr h1)
  ·exact .inr (.inl ((eP p1).2 (by rw [oW]; simp [hm])))
theorem jB {b : Tm} : ∀ {hs : List Ch} {k : Kd} {ts : List Tm}, dA b hs = some (k, ts) → ∃ l1 l2, hs = l1 ++ .abs k ts :: l2 ∧ (∀ c, bG b c hs = l1 ++ c :: l2) ∧ (∃ ts', ts = b :: ts') ∧ ∀ ek, k ≠ .deep ek
 | [], _, _, h => by simp [dA] at h
 | .box b' ps :: hs, k, ts, h => by
  obtain ⟨l1, l2, rfl, h1, h2⟩ := jB (hs := hs) (by simpa [dA] using h)
  exact ⟨_ :: l1, l2, rfl, fun c => by simp [bG, h1 c], h2⟩
 | .osl a ek L :: hs, k, ts, h => by
  obtain ⟨l1, l2, rfl, h1, h2⟩ := jB (hs := hs) (by simpa [dA] using h)
  exact ⟨_ :: l1, l2, rfl, fun c => by simp [bG, h1 c], h2⟩
 | .rsl a ek L :: hs, k, ts, h => by
  obtain ⟨l1, l2, rfl, h1, h2⟩ := jB (hs := hs) (by simpa [dA] using h)
  exact ⟨_ :: l1, l2, rfl, fun c => by simp [bG, h1 c], h2⟩
 | .abs k' [] :: hs, k, ts, h => by
  obtain ⟨l1, l2, rfl, h1, h2⟩ := jB (hs := hs) (by simpa [dA] using h)
  exact ⟨_ :: l1, l2, rfl, fun c => by simp [bG, h1 c], h2⟩
 | .abs k' (b' :: ts') :: hs, k, ts, h => by
  have key : (∃ ek, k' = .deep ek) ∨ b' ≠ b ∨ ((∀ ek, k' ≠ .deep ek) ∧ b' = b) := by
   by_cases hb : b' = b
   ·cases k' <;> first | exact .inl ⟨_, rfl⟩ | exact .inr (.inr ⟨(fun ek h => by cases h), hb⟩)
   ·exact .inr (.inl hb)
  rcases key with ⟨ek, rfl⟩ | hb | ⟨hk, rfl⟩
  ·obtain ⟨l1, l2, rfl, h1, h2⟩ := jB (hs := hs) (by simpa [dA] using h)
   exact ⟨_ :: l1, l2, rfl, fun c => by simp [bG, h1 c], h2⟩
  ·obtain ⟨l1, l2, rfl, h1, h2⟩ := jB (hs := hs) (by cases k' <;> simpa [dA, hb] using h)
   exact ⟨_ :: l1, l2, rfl, fun c => by cases k' <;> simp [bG, h1 c, hb], h2⟩
  ·have e : k = k' ∧ ts = b' :: ts' := by
    cases k' <;> first | exact absurd rfl (hk _) | (simp [dA] at h; exact ⟨h.1.symm, h.2.symm⟩)
   obtain ⟨rfl, rfl⟩ := e
   exact ⟨[], hs, rfl, fun c => by cases k <;> first | exact absurd rfl (hk _) | simp [bG], ⟨_, rfl⟩, hk⟩
theorem bE1 : ∀ {hs : List Ch} {m : Tm} {kd : Kd} {ek : EK} {L : Tm} {ts : List Tm}, kK hs = some (m, kd, ek, L, ts) → ∃ l1 l2 k' ts', hs = l1 ++ .abs k' (m :: ts') :: l2 ∧ (∀ c, bG m c hs = l1 ++ c :: l2) ∧ (∀ ek, k' ≠ .deep ek) ∧
  ((k' = kd ∧ ts' = L :: ts) ∨ .abs kd (m :: L :: ts) ∈ l2)
 | [], _, _, _, _, _, h => by cases h
 | c :: hs, m, kd, ek, L, ts, h => by
  obtain ⟨hm, K, hk⟩ := qH h
  have hnd : ∀ ek, kd ≠ .deep ek := by rcases hk with ⟨rfl, _⟩ | ⟨rfl, _⟩ <;> (intro ek h; cases h)
  -- the first map at that block
  clear h hk
  revert hm
  generalize c :: hs = l
  intro hm
  induction l with
  | nil => cases hm
  | cons x l ih =>
   by_cases hx : ∃ k' ts', x = .abs k' (m :: ts') ∧ ∀ ek, k' ≠ .deep ek
   ·obtain ⟨k', ts', rfl, hk'⟩ := hx
    refine ⟨[], l, k', ts', rfl, fun c => by cases k' <;> first | exact absurd rfl (hk' _) | simp [bG], hk', ?_⟩
    rcases List.mem_cons.1 hm with he | hm
    ·cases he; exact .inl ⟨rfl, rfl⟩
    ·exact .inr hm
   ·have hm : .abs kd (m :: L :: ts) ∈ l := by
     rcases List.mem_cons.1 hm with he | hm
     ·exact absurd ⟨kd, L :: ts, he.symm, hnd⟩ hx
     ·exact hm
    obtain ⟨l1, l2, k', ts', e1, e2, e3, e4⟩ := ih hm
    refine ⟨x :: l1, l2, k', ts', by rw [e1]; rfl, fun c => ?_, e3, e4⟩
    have : bG m c (x :: l) = x :: bG m c l := by
     cases x with
     | abs k ts0 =>
      cases ts0 with
      | nil => rfl
      | cons b0 ts0 =>
       by_cases hb0 : b0 = m
       ·subst hb0
        have hd : ∃ ek, k = .deep ek := by
         cases k <;> first | exact ⟨_, rfl⟩ | exact absurd ⟨_, ts0, rfl, (fun ek h => by cases h)⟩ hx
        obtain ⟨ek, rfl⟩ := hd
        rfl
       ·cases k <;> simp [bG, hb0]
     | _ => rfl
    rw [this, e2 c]; rfl
theorem aK9 {n : Nat} {r : D} (hr : r.snd.toN = n) : ∀ (L : LD), aP (lC L n r) = aP L
 | [] => rfl
 | x :: L => by
  unfold lC
  split
  ·rename_i h
   have h : x.snd.toN = n := by simpa using h
   simp [aP, hr, h]
  ·have := aK9 hr L
   simp only [aP, List.map_cons] at this ⊢
   rw [this]
theorem aZ8 {n : Nat} {r : D} {L : LD} (hr : r.key = (iY L n).key) : (lC L n r).map D.key = L.map D.key := by
 induction L with
 | nil => rfl
 | cons x L ih =>
  unfold lC
  unfold iY at hr ih
  rw [List.find?_cons] at hr
  by_cases hx : (x.snd.toN == n) = true
  ·rw [if_pos hx]
   rw [hx] at hr
   simp only [Option.getD_some] at hr
   simp [hr]
  ·rw [if_neg hx]
   have hx' : (x.snd.toN == n) = false := by simpa using hx
   rw [hx'] at hr
   rw [List.map_cons, List.map_cons, ih hr]
theorem aQ1 {L L' : LD} (h : L'.map D.key = L.map D.key) (hk : bT L) : bT L' := by
 have e : ∀ M : LD, bT M ↔ (M.map D.key).Pairwise fun a b => eX a b = false := fun M => by rw [bT, List.pairwise_map]
 rw [e] at hk ⊢
 rw [h]; exact hk
theorem aV2 {w w' : World} {K : CK} {ek : EK} {n : Nat} {r : D} {cs' : Array Value} {te : TypeId} {fz : Nat × Nat} (hn : r.snd.toN = n) (hrow : r = .L (r.key :: .N r.snd.toN :: r.toL.drop 2)) (hok : fJ ek (r.toL.drop 2))
  (hb : w'.heap[n]? = some (.cells cs' te fz)) (hfz : eG fz cs'.size) (hcs : cs'.toList = dY ek (r.toL.drop 2)) (ho : ∀ b, b ≠ n → w'.heap[b]? = w.heap[b]?) :
  ∀ {es : List MapEntry} {L : LD}, r.key = (iY L n).key → (aP L).Nodup → iL w K ek es L → kY L n = true → iL w' K ek es (lC L n r)
 | [], [], _, _, _, h => by cases h
 | [], _ :: _, _, _, h, _ => h.elim
 | _ :: _, [], _, _, h, _ => h.elim
 | e :: es, x :: L, hr, hnd, h, hh => by
  unfold lC
  unfold iY at hr
  rw [List.find?_cons] at hr
  simp only [aP, List.map_cons, List.nodup_cons] at hnd
  by_cases hx : (x.snd.toN == n) = true
  ·rw [if_pos hx]
   rw [hx] at hr
   simp only [Option.getD_some] at hr
   have hx2 : x.snd.toN = n := by simpa using hx
   obtain ⟨⟨h1, h2, h3, h4, h5, _⟩, hrest⟩ := h
   refine ⟨⟨by rw [hr]; exact h1, by rw [hr]; exact h2, by rw [h3, hn, hx2], hrow, hok, cs', te, fz, by rw [hn]; exact hb, hfz, hcs⟩, ?_⟩
   exact yS (fun b hbb => ho b (by rintro rfl; exact hnd.1 (by rw [hx2]; exact hbb))) hrest
  ·rw [if_neg hx]
   have hx' : (x.snd.toN == n) = false := by simpa using hx
   rw [hx'] at hr
   obtain ⟨⟨h1, h2, h3, h4, h5, cs, t, fz', h6, h7⟩, hrest⟩ := h
   refine ⟨⟨h1, h2, h3, h4, h5, cs, t, fz', by rw [ho _ (by simpa using hx')]; exact h6, h7⟩, ?_⟩
   exact aV2 hn hrow hok hb hfz hcs ho hr hnd.2 hrest (by simpa [kY, hx'] using hh)
theorem Rel.bO2 (h : Rel G w0 D0 R0 ρ S a w) {m : Tm} {kd : Kd} {ek : EK} {L : Tm} (hf : kK S.heap = some (m, kd, ek, L, [])) {b : Tm} (hb : kY (L.den ρ).toL (b.den ρ).toN = true) {cs : Array Value} {e : TypeId} {fz : Nat × Nat}
  (hg : w.heap[(b.den ρ).toN]? = some (.cells cs e fz)) (hfz : eG fz cs.size) {rt : Tm} {cs' : Array Value} (hsz : cs'.size = cs.size) (hq : cs'.toList = dY ek (rt.den ρ).toL) (hok : fJ ek (rt.den ρ).toL) :
  Rel G w0 D0 R0 ρ { S with heap := bG m (.abs kd [m, .o3 .nset L b (.o2 .lcons (.o2 .lget (kZ L b) (.int 0)) (.o2 .lcons (.o1 .asN (.o2 .lget (kZ L b) (.int 1))) rt))]) S.heap } a (putCells w (b.den ρ).toN cs' e fz) := by
 obtain ⟨hin, K, hk⟩ := qH hf
 obtain ⟨rfl, _⟩ : kd = .mpp K ek ∧ True := by
  rcases hk with ⟨rfl, _⟩ | ⟨rfl, hc⟩
  ·exact ⟨rfl, trivial⟩
  ·cases hc
 obtain ⟨l1, l2, k', ts', e1, e2, e3, e4⟩ := bE1 hf
 obtain ⟨rfl, rfl⟩ : k' = .mpp K ek ∧ ts' = [L] := by
  rcases e4 with e4 | e4
  ·exact e4
  ·exfalso
   have hnd := h.heap.nodup
   rw [e1, bJ, List.nodup_append] at hnd
   have hnd := hnd.2.1
   simp only [owns, List.flatMap_cons, List.nodup_append] at hnd
   refine hnd.2.2 (m.den ρ).toN ?_ (m.den ρ).toN ?_ rfl
   ·cases k' with
    | deep ek' => exact absurd rfl (e3 _)
    | _ => simp [Ch.own, Kd.own, arg]
   ·rw [List.mem_flatMap]
    exact ⟨_, e4, by simp [Ch.own, Kd.own, arg]⟩
 generalize hnew : Tm.o3 .nset L b (.o2 .lcons (.o2 .lget (kZ L b) (.int 0)) (.o2 .lcons (.o1 .asN (.o2 .lget (kZ L b) (.int 1))) rt)) = L'
 have p1 : S.heap.Perm ([.abs (.mpp K ek) [m, L]] ++ (l1 ++ l2)) := by rw [e1]; exact iC l1 l2 _
 have p2 : (bG m (.abs (.mpp K ek) [m, L']) S.heap).Perm ([.abs (.mpp K ek) [m, L']] ++ (l1 ++ l2)) := by rw [e2]; exact iC l1 l2 _
 obtain ⟨g1, g2⟩ := aK8 hb
 generalize hr : (D.L (((iY (L.den ρ).toL (b.den ρ).toN).toL.getD 0 default) :: .N ((iY (L.den ρ).toL (b.den ρ).toN).toL.getD 1 default).toN :: (rt.den ρ).toL)) = r
 have hL' : (L'.den ρ).toL = lC (L.den ρ).toL (b.den ρ).toN r := by rw [← hnew, ← hr]; rfl
 have hrk : r.key = (iY (L.den ρ).toL (b.den ρ).toN).key := by rw [← hr]; rfl
 have hrn : r.snd.toN = (b.den ρ).toN := by rw [← hr]; exact g2
 have hrd : r.toL.drop 2 = (rt.den ρ).toL := by rw [← hr]; rfl
 have hro : r = .L (r.key :: .N r.snd.toN :: r.toL.drop 2) := by rw [hrd, ← hr]; rfl
 obtain ⟨es, clock, m1, m2, m3⟩ := (qQ (h.heap.perm p1)).1
 have hbl := (Array.getElem?_eq_some_iff.1 hg).1
 have hpo : owns ρ [Ch.abs (.mpp K ek) [m, L]] = (m.den ρ).toN :: aP (L.den ρ).toL := by simp [owns, Ch.own, Kd.own, arg]
 have hpo' : owns ρ [Ch.abs (.mpp K ek) [m, L']] = (m.den ρ).toN :: aP (L.den ρ).toL := by simp [owns, Ch.own, Kd.own, arg, hL', aK9 hrn]
 have hnd : ((m.den ρ).toN :: aP (L.den ρ).toL).Nodup := by
  have := (wX.1 (h.heap.perm p1)).1.nodup
  rwa [hpo] at this
 have hmem : (b.den ρ).toN ∈ aP (L.den ρ).toL := aZ7.1 hb
 have hne : (m.den ρ).toN ≠ (b.den ρ).toN := by
  intro he
  rw [List.nodup_cons] at hnd
  exact hnd.1 (he ▸ hmem)
 refine h.swap p1 p2 ⟨?_, ?_, ?_⟩ (by rw [rQ]; exact Nat.le_refl _) ?_ rfl rfl rfl ?_ ?_
 ·intro c hc
  rw [List.mem_singleton] at hc
  subst hc
  refine ⟨es, clock, m1.congr (nD hne), ?_, ?_⟩
  ·show iL _ K ek es (L'.den ρ).toL
   rw [hL']
   exact aV2 hrn hro (by rw [hrd]; exact hok) (rP hbl) (by rw [hsz]; exact hfz) (by rw [hrd]; exact hq) (fun x hx => nD hx) hrk (List.nodup_cons.1 hnd).2 m2 hb
  ·show bT (L'.den ρ).toL
   rw [hL']
   exact aQ1 (aZ8 hrk) m3
 ·rw [hpo']; exact hnd
 ·intro c hc x hx
  rw [List.mem_singleton] at hc
  subst hc
  cases hx
 ·intro x _ hx
  refine nD ?_
  rintro rfl
  exact hx (by rw [hpo]; exact List.mem_cons_of_mem _ hmem)
 ·intro x hx
  rw [hpo'] at hx
  exact .inl (by rw [hpo]; exact hx)
 ·intro x hx
  obtain ⟨c, hc, hcx⟩ := dN.1 hx
  rw [List.mem_singleton] at hc
  subst hc
  cases hcx
theorem iR (w : World) (o : Obj) : Ext w (w.alloc o) :=
 ⟨by show w.heap.size ≤ (w.heap.push o).size; rw [Array.size_push]; omega, fun b hb => by show (w.heap.push o)[b]? = _; rw [Array.getElem?_push, if_neg (by omega)], rfl, rfl, rfl⟩
theorem alloc_at (w : World) (o : Obj) : (w.alloc o).heap[w.heap.size]? = some o := by
 show (w.heap.push o)[w.heap.size]? = _; simp
theorem aC8 (w : World) : Ext w w.drew := ⟨Nat.le_refl _, fun _ _ => rfl, rfl, rfl, rfl⟩
theorem kL {S : St} {s : Srt} {k : Tm → St → M} {vc : VC} (hr : Rel G w0 D0 R0 ρ S a w) (h : fresh S s k = .ok vc) (hd : vc.den E ρ) {d : D} (hs : s.ok d) :
  ∃ vc', k (.at S.aA.length) { S with aA := S.aA ++ [s] } = .ok vc' ∧ vc'.den E (ρ ++ [d]) ∧ Rel G w0 D0 R0 (ρ ++ [d]) { S with aA := S.aA ++ [s] } a w ∧
   (Tm.at S.aA.length).den (ρ ++ [d]) = d := by
 unfold fresh at h
 split at h
 ·rename_i hu
  split at h
  ·rename_i v hv
   cases h
   refine ⟨v, hv, VC.aM4 hd hs, hr.fresh hu hs, ?_⟩
   have : ρ.length = S.aA.length := bH hr.aA
   simp [Tm.den, ← this, List.getD]
  ·cases h
 ·cases h
theorem bI5 {ek : EK} {t : Tm} (h : (t.den ρ).toV = .slice none 0 0) (w : World) : (Ch.osl t ek (jM ek)).holds ρ w := by
 have h1 : ek.cells ((jM ek).den ρ) = [] ∧ ek.len ((jM ek).den ρ) = 0 ∧ ek.ok ((jM ek).den ρ) := by
  rcases ek with _ | ⟨c, _ | ⟨c', cs⟩⟩
  ·exact ⟨rfl, rfl, by intro x hx; simp [jM, Tm.den] at hx⟩
  ·cases c <;> exact ⟨rfl, rfl, by intro x hx; simp [jM, Tm.den] at hx⟩
  ·cases c <;> exact ⟨rfl, rfl, by intro x hx; simp [jM, Tm.den] at hx⟩
 exact ⟨.inl ⟨h, h1.2.1, h1.1⟩, h1.2.2⟩
theorem aG4 : ∀ {lay : List LK} {ps : List Pt} {S : St} {ρ : LD} {k : List Pt → St → M} {vc : VC} {vs : List Value}, Rel G w0 D0 R0 ρ S a w → jE lay ps S k = .ok vc → vc.den E ρ → ps.all (Pt.under ρ.length) = true → aG ρ ps vs →
  ∃ σ qs S' vc', k qs S' = .ok vc' ∧ vc'.den E (ρ ++ σ) ∧ aG (ρ ++ σ) qs vs ∧ Rel G w0 D0 R0 (ρ ++ σ) S' a w ∧ S'.tmps = S.tmps := by
 intro lay
 induction lay with
 | nil =>
  intro ps S ρ k vc vs hr h hd hu hv
  exact ⟨[], ps, S, vc, by simpa [jE] using h, by simpa using hd, by simpa using hv, by simpa using hr, rfl⟩
 | cons l lay ih =>
  intro ps S ρ k vc vs hr h hd hu hv
  cases ps with
  | nil => exact ⟨[], [], S, vc, by cases l <;> simpa [jE] using h, by simpa using hd, by simpa using hv, by simpa using hr, rfl⟩
  | cons p ps =>
   simp only [List.all_cons, Bool.and_eq_true] at hu
   have plain : jE lay ps S (fun qs S => k (p :: qs) S) = .ok vc → ∃ σ qs S' vc', k qs S' = .ok vc' ∧ vc'.den E (ρ ++ σ) ∧ aG (ρ ++ σ) qs vs ∧ Rel G w0 D0 R0 (ρ ++ σ) S' a w ∧ S'.tmps = S.tmps := by
    intro h
    obtain ⟨us, r, rfl, hl, hp, hv⟩ := iJ.1 hv
    obtain ⟨σ, qs, S', vc', h1, h2, h3, h4, h5⟩ := ih hr h hd hu.2 hv
    exact ⟨σ, _, S', vc', h1, h2, iJ.2 ⟨us, r, rfl, hl, by rw [mY (by simp [hu.1])]; exact hp, h3⟩, h4, h5⟩
   by_cases hcase : (∃ ek, l = .slice ek) ∧ p = .lf .nilsl
   ·obtain ⟨⟨ek, rfl⟩, rfl⟩ := hcase
    simp only [jE] at h
    obtain ⟨v, r, rfl, hv0, _, hv⟩ := hv
    simp only [Lf.holds] at hv0
    subst hv0
    obtain ⟨vc1, h1, h2, h3, h4⟩ := kL hr h hd (d := .V (.slice none 0 0)) ⟨_, rfl⟩
    have hr' := h3.new (Ext.refl w) (c := .osl (.at S.aA.length) ek (jM ek)) (bI5 (by rw [h4]; rfl) w) (fun b hb => by rw [Ch.dR, h4] at hb; cases hb) (fun b hb => by cases hb)
    obtain ⟨σ, qs, S', vc', g1, g2, g3, g4, g5⟩ := ih hr' h1 h2 (List.all_eq_true.2 fun x hx => by
     have := List.all_eq_true.1 hu.2 x hx
     cases x with
     | lf l => exact (show l.under _ = true by
       have : l.under ρ.length = true := this
       exact Lf.gU this (by simp))
     | ints k n L => exact Tm.gU (t := L) this (by simp)) (by rw [mY hu.2]; exact hv)
    refine ⟨[.V (.slice none 0 0)] ++ σ, _, S', vc', g1, by rw [← List.append_assoc]; exact g2, ?_, by rw [← List.append_assoc]; exact g4, g5⟩
    rw [← List.append_assoc]
    refine ⟨_, r, rfl, ?_, rfl, g3⟩
    simp only [Lf.holds]
    rw [Tm.aQ (by simp [Tm.under, bH hr.aA]), h4]
    rfl
   ·have : jE (l :: lay) (p :: ps) S k = jE lay ps S (fun qs S => k (p :: qs) S) := by
     cases l with
     | slice ek =>
      cases p with
      | lf f => cases f <;> first | rfl | exact absurd ⟨⟨ek, rfl⟩, rfl⟩ hcase
      | ints k n L => rfl
     | cell => rfl
     | ints k n => rfl
    rw [this] at h
    exact plain h
end
end Go.Vc
namespace Go.Vc
section
variable {E : Env} {G : List Glob} {w0 : World} {D0 R0 : List Nat} {ρ : LD} {S : St} {a : Act} {w : World} {cx : Cx} {vc : VC}
theorem bD6 {S S' : St} (h : S'.tmps = S.tmps) (t : TypeId) (x : Operand) : evT cx S' t x = evT cx S t x := by
 cases x <;> simp [evT, h]
theorem xQ {t : TypeId} {v : SV} {k : SV → St → M} {u : Value} (hr : Rel G w0 D0 R0 ρ S a w) (h : oL cx t v S k = .ok vc) (hd : vc.den E ρ) (hv : v.holds ρ u) :
  ∃ σ v' S' vc', k v' S' = .ok vc' ∧ vc'.den E (ρ ++ σ) ∧ v'.holds (ρ ++ σ) u ∧ Rel G w0 D0 R0 (ρ ++ σ) S' a w ∧ S'.tmps = S.tmps := by
 unfold oL at h
 split at h
 ·split at h
  ·rename_i lay hl
   simp only [SV.holds, S0.holds, Lf.holds] at hv
   subst hv
   obtain ⟨σ, qs, S', vc', h1, h2, h3, h4, h5⟩ := aG4 hr h hd (ps := [.lf .nilsl]) rfl ⟨_, [], rfl, rfl, rfl, rfl⟩
   split at h1
   ·obtain ⟨v, r, hvr, h6, _, _⟩ := h3
    cases hvr
    exact ⟨σ, _, S', vc', h1, h2, h6, h4, h5⟩
   ·cases h1
  ·exact ⟨[], _, S, vc, h, by simpa using hd, by simpa using hv, by simpa using hr, rfl⟩
 ·rename_i ps
  split at h
  ·split at h
   ·rename_i lay hl
    split at h
    ·rename_i hu
     obtain ⟨cs, hc, hp⟩ := hv
     rw [← bH hr.aA] at hu
     obtain ⟨σ, qs, S', vc', h1, h2, h3, h4, h5⟩ := aG4 hr h hd hu hp
     exact ⟨σ, _, S', vc', h1, h2, ⟨cs, hc, h3⟩, h4, h5⟩
    ·cases h
   ·exact ⟨[], _, S, vc, h, by simpa using hd, by simpa using hv, by simpa using hr, rfl⟩
  ·exact ⟨[], _, S, vc, h, by simpa using hd, by simpa using hv, by simpa using hr, rfl⟩
 ·exact ⟨[], v, S, vc, h, by simpa using hd, by simpa using hv, by simpa using hr, rfl⟩
theorem aQ8 {l : Lf} {v : Value} (hh : aJ ρ S.heap w) (hv : l.holds ρ v) (ho : yA S.heap l = true) : one v := by
 cases l with
 | int k t => obtain ⟨rfl, _⟩ := hv; rfl
 | bool t => simp only [Lf.holds] at hv; subst hv; rfl
 | str t => obtain ⟨rfl, _⟩ := hv; rfl
 | ptr b o => simp only [Lf.holds] at hv; subst hv; rfl
 | aptr b o i n => obtain ⟨rfl, _⟩ := hv; rfl
 | eptr t i es o => obtain ⟨_, _, _, _, _, _, _, rfl⟩ := hv; rfl
 | bsl b o n => obtain ⟨_, rfl, _⟩ := hv; rfl
 | nilp => simp only [Lf.holds] at hv; subst hv; rfl
 | sl t =>
  simp only [yA] at ho
  obtain ⟨⟨own, ek, L⟩, hf⟩ := Option.isSome_iff_exists.1 ho
  have hc := (jG hh hf).1
  simp only [Lf.holds] at hv
  rcases hc with ⟨h, _⟩ | ⟨_, _, h, _⟩ | ⟨_, _, h, _⟩ <;> (rw [hv, h]; rfl)
 | fn f => simp only [Lf.holds] at hv; subst hv; rfl
 | nilfn => simp only [Lf.holds] at hv; subst hv; rfl
 | nilsl => simp only [Lf.holds] at hv; subst hv; rfl
 | mp b => simp only [Lf.holds] at hv; subst hv; rfl
 | nilmp => simp only [Lf.holds] at hv; subst hv; rfl
 | clo f fs cs => simp only [Lf.holds] at hv; subst hv; rfl
 | junk => cases ho
 | undef => cases ho
theorem aT0 {v : Value} (h : one v) : v.cells = #[v] := by cases v <;> first | rfl | cases h
theorem aJ6 {v : SV} {ps : List Pt} {u : Value} (hh : aJ ρ S.heap w) (h : zF S.heap v = some ps) (hv : v.holds ρ u) : aG ρ ps u.cells.toList := by
 unfold zF at h
 split at h
 ·split at h
  ·rename_i ho
   cases h
   have h1 := aQ8 hh hv ho
   rw [aT0 h1]
   exact ⟨u, [], rfl, hv, h1, rfl⟩
  ·cases h
 ·cases h; obtain ⟨cs, rfl, hv⟩ := hv; exact hv
 ·cases h
def Out (E : Env) (G : List Glob) (w0 : World) (D0 R0 : List Nat) (ρ : LD) (a : Act) (k : SV → St → M) (run : Result Value) : Prop :=
 ∃ σ x S' vc v w', k x S' = .ok vc ∧ vc.den E (ρ ++ σ) ∧ x.holds (ρ ++ σ) v ∧ Rel G w0 D0 R0 (ρ ++ σ) S' a w' ∧ run = .ok v w'
theorem xW {t : TypeId} {ps : List Pt} {k : SV → St → M} {u : Value} (hr : Rel G w0 D0 R0 ρ S a w) (h : xU cx S t ps k = .ok vc) (hd : vc.den E ρ) (hv : aG ρ ps u.cells.toList) :
  Out E G w0 D0 R0 ρ a k ((do pure (.pointer (some (← newVar t u))) : Sem Value).run cx.P w) := by
 unfold xU at h
 split at h
 ·cases h
 ·rename_i lay _
  split at h
  ·rename_i hu
   rw [← bH hr.aA] at hu
   obtain ⟨σ, qs, S', vc', h1, h2, h3, h4, h5⟩ := aG4 hr h hd hu hv
   split at h1
   ·rename_i hu'
    rw [← bH h4.aA] at hu'
    obtain ⟨vc2, g1, g2, g3, g4⟩ := kL h4 h1 h2 (d := .N w.heap.size) ⟨_, rfl⟩
    refine ⟨σ ++ [.N w.heap.size], _, _, vc2, .pointer (some ⟨w.heap.size, 0, none⟩), w.alloc (.cells u.cells t), g1, by rw [← List.append_assoc]; exact g2, ?_, ?_, rfl⟩
    ·rw [← List.append_assoc]; simp only [SV.holds, S0.holds, Lf.holds, g4]; rfl
    ·rw [← List.append_assoc]
     refine g3.new (iR w _) (c := .box (.at S'.aA.length) qs) ?_ (fun b hb => ?_) (fun b hb => by cases hb)
     ·refine ⟨u.cells, t, (0, 0), by rw [g4]; exact alloc_at w _, fun j _ hj => by simp only at hj; omega, ?_⟩
      rw [mY hu']; exact h3
     ·rw [Ch.dR, g4] at hb; cases hb; exact Nat.le_refl _
   ·cases h1
  ·cases h
theorem uP {ek : EK} {L : Tm} {k : SV → St → M} {v : Value} {w' : World} (hr : Rel G w0 D0 R0 ρ S a w) (h : kN S ek L k = .ok vc) (hd : vc.den E ρ) (e : Ext w w')
  (ho : gW w' v ek.width (ek.len (L.den ρ)) (ek.cells (L.den ρ))) (hk : ek.ok (L.den ρ)) (hb : ∀ b, v.ownBlock = some b → w.heap.size ≤ b) : Out E G w0 D0 R0 ρ a k (.ok v w') := by
 unfold kN at h
 split at h
 ·rename_i hu
  rw [← bH hr.aA] at hu
  obtain ⟨vc2, g1, g2, g3, g4⟩ := kL hr h hd (d := .V v) ⟨_, rfl⟩
  refine ⟨[.V v], _, _, vc2, v, w', g1, g2, ?_, ?_, rfl⟩
  ·simp only [SV.holds, S0.holds, Lf.holds, g4]; rfl
  ·refine g3.new e (c := .osl (.at S.aA.length) ek L) ⟨?_, ?_⟩ (fun b hb' => ?_) (fun b hb => by cases hb)
   ·rw [g4, Tm.aQ hu]; exact ho
   ·rw [Tm.aQ hu]; exact hk
   ·rw [Ch.dR, g4] at hb'; exact hb b hb'
 ·cases h
theorem aD5 {w : World} : ∀ {cs : EK} {ds : LD}, dQ cs = true → kJ w cs ds ∧ gB cs ds = []
 | [], _, _ => ⟨trivial, rfl⟩
 | _ :: _, [], _ => ⟨trivial, rfl⟩
 | c :: cs, d :: ds, h => by
  have h : (flatK c && cs.all flatK) = true := h
  rw [Bool.and_eq_true] at h
  obtain ⟨h1, h2⟩ := aD5 (w := w) (cs := cs) (ds := ds) h.2
  cases c with
  | sl ek => exact absurd h.1 (by simp [flatK])
  | _ => exact ⟨⟨trivial, h1⟩, by simp [gB, CK.blks, h2]⟩
theorem uF {w : World} {ek : EK} {d : D} (h : dQ ek = true) : gX w ek d ∧ dK ek d = [] := by
 refine ⟨fun x _ => (aD5 h).1, ?_⟩
 rw [dK, List.flatMap_eq_nil_iff]
 exact fun x _ => (aD5 (w := w) h).2
theorem aH2 (ek : EK) : aI ek (.L []) = [] := by
 rcases ek with _ | ⟨c0, _ | ⟨c1, cs'⟩⟩
 ·rfl
 ·cases c0 <;> rfl
 ·cases c0 <;> rfl
theorem tJ {hs : List Ch} {w : World} {ek : EK} {L : Tm} (hh : aJ ρ hs w) (h : nV hs ek L = true) : gX w ek (L.den ρ) ∧ ∀ b ∈ dK ek (L.den ρ), b ∈ ros ρ hs := by
 unfold nV at h
 simp only [Bool.or_eq_true, decide_eq_true_eq, List.any_eq_true] at h
 rcases h with (h | h) | ⟨c, hc, h⟩
 ·obtain ⟨h1, h2⟩ := uF (w := w) (d := L.den ρ) h
  exact ⟨h1, by rw [h2]; intro b hb; cases hb⟩
 ·subst h
  have e : aI ek (Tm.den ρ .lnil) = [] := aH2 ek
  exact ⟨(fun x hx => by rw [e] at hx; cases hx), (fun b hb => by rw [dK, e] at hb; cases hb)⟩
 ·have hx := hh.holds c hc
  subst h
  exact ⟨hx, fun b hb => dN.2 ⟨_, hc, hb⟩⟩
theorem Rel.deep (h : Rel G w0 D0 R0 ρ S a w) {ek : EK} {L : Tm} (hd : gX w ek (L.den ρ)) (hr : ∀ b ∈ dK ek (L.den ρ), b ∈ ros ρ S.heap) :
  Rel G w0 D0 R0 ρ (jI ek L S) a w := by
 unfold jI
 split
 ·exact h
 ·exact h.new (Ext.refl w) (c := .abs (.deep ek) [L]) hd (fun b hb => by cases hb) (fun b hb => .inr (hr b hb)) (by simp [Ch.own, Kd.own])
theorem aJ2 {hs : List Ch} {w : World} (hh : aJ ρ hs w) : nS ρ hs := fun _ _ _ _ hf => (jG hh hf).2
theorem zD {size o : Nat} {ps qs : List Pt} {v : SV} {u : Value} {vs : List Value} (hh : aJ ρ S.heap w) (h : sK S.heap size o ps v = some qs) (hv : v.holds ρ u) (hp : aG ρ ps vs) :
  ∃ pre old r, vs = pre ++ (old ++ r) ∧ pre.length = o ∧ old.length = u.cells.toList.length ∧ u.cells.size = size ∧ (∀ x ∈ u.cells.toList, one x) ∧ aG ρ qs (pre ++ (u.cells.toList ++ r)) := by
 have ones : ∀ {ps : List Pt} {vs : List Value}, aG ρ ps vs → ∀ x ∈ vs, one x := by
  intro ps
  induction ps with
  | nil => intro vs h x hx; simp only [aG] at h; subst h; simp at hx
  | cons p ps ih =>
   intro vs h x hx
   cases p with
   | lf l =>
    obtain ⟨v, r, rfl, _, h1, h2⟩ := h
    rcases List.mem_cons.1 hx with rfl | hx
    ·exact h1
    ·exact ih h2 x hx
   | ints k n L =>
    obtain ⟨r, rfl, _, _, h2⟩ := h
    rcases List.mem_append.1 hx with hx | hx
    ·obtain ⟨y, _, rfl⟩ := List.mem_map.1 hx; rfl
    ·exact ih h2 x hx
 unfold sK at h
 split at h
 ·split at h
  ·rename_i hs
   obtain ⟨cs, rfl, hv⟩ := hv
   obtain ⟨pre, old, r, h1, h2, h3, h4⟩ := aW5 hv h hp
   exact ⟨pre, old, r, h1, h2, h3, by rw [← hs, ← rO hv]; simp [Value.cells], ones hv, h4⟩
  ·cases h
 ·split at h
  ·rename_i hs
   obtain ⟨hs, ho⟩ := hs
   have h1 := aQ8 hh hv ho
   obtain ⟨h2, h3⟩ := aW4 hv h1 h hp
   rw [aT0 h1]
   refine ⟨vs.take o, [vs[o]], vs.drop (o + 1), ?_, by simp; omega, rfl, by simp [hs], by simpa using h1, ?_⟩
   ·simp
   ·rw [List.set_eq_take_append_cons_drop, if_pos h3] at h2
    simpa using h2
  ·cases h
 ·cases h
theorem bM2 {t : TypeId} {xo vo : Operand} {x v : SV} {k : St → M} (hr : Rel G w0 D0 R0 ρ S a w) (hx : evT cx S 0 xo = .ok x) (hv : evT cx S t vo = .ok v)
  (h : aJ4 cx S t x v k = .ok vc) (hd : vc.den E ρ) :
  ∃ σ S' vc' w', k S' = .ok vc' ∧ vc'.den E (ρ ++ σ) ∧ Rel G w0 D0 R0 (ρ ++ σ) S' a w' ∧ (Instr.storeAt t (a.eval xo) (a.eval vo)).run cx.P w = .ok () w' := by
 unfold aJ4 at h
 simp only at h
 split at h
 ·cases h
 rename_i hne
 have hc : cx.P.cellsOf t ≠ 0 := by simpa using hne
 obtain ⟨σ, v', S', vc', h1, h2, h3, h4, h5⟩ := xQ hr h hd (aO hr hv)
 have hx' : x.holds (ρ ++ σ) (a.eval xo) := aO h4 (by rw [bD6 h5]; exact hx)
 generalize a.eval xo = ux at hx'
 generalize a.eval vo = uv at h3
 split at h1
 ·rename_i b o
  split at h1
  ·rename_i ps hps
   split at h1
   ·rename_i qs hqs
    obtain ⟨cs, e, fz, hg, hfz, hp⟩ := lX h4.heap hps
    obtain ⟨pre, old, r, e1, e2, e3, e4, e5, e6⟩ := zD h4.heap hqs h3 hp
    have hw := nR e1 e3
    simp only [SV.holds, S0.holds, Lf.holds] at hx'
    subst hx'
    have hlen : cs.size = o + uv.cells.toList.length + r.length := by
     have := congrArg List.length e1
     simp only [List.length_append, Array.length_toList] at this e3 ⊢; omega
    refine ⟨σ, _, vc', _, h1, h2, h4.write hps hg hfz (cs' := fG cs o uv.cells.toList) (kT _ _ _) (by rw [← e2, hw]; exact e6), ?_⟩
    have := sG (P := cx.P) (vs := uv.cells.toList) (w := w) (b := (b.den (ρ ++ σ)).toN) (o := o) (i := 0) hg hfz (by omega) e5
    simp only [Nat.add_zero] at this
    simp [Instr.storeAt, Instr.sureAddr, storeVar, eU hc, e4, this]
   ·cases h1
  ·split at h1
   ·rename_i m kd ek L ts hfa
    split at h1
    ·rename_i qs hqs
     split at h1
     ·rename_i rt hrt
      split at h1
      ·rename_i hflat
       subst hflat
       obtain ⟨hb, vc2, h1, h2⟩ := aH4 h1 h2
       obtain ⟨cs, e, fz, hg, hfz, hp⟩ := aL0 h4.heap hfa hb
       obtain ⟨pre, old, r, e1, e2, e3, e4, e5, e6⟩ := zD h4.heap hqs h3 hp
       have hw := nR e1 e3
       simp only [SV.holds, S0.holds, Lf.holds] at hx'
       subst hx'
       have hlen : cs.size = o + uv.cells.toList.length + r.length := by
        have := congrArg List.length e1
        simp only [List.length_append, Array.length_toList] at this e3 ⊢; omega
       obtain ⟨z1, z2⟩ := vF (aJ2 h4.heap) hrt e6
       refine ⟨σ, _, vc2, _, h1, h2, h4.bO2 hfa hb hg hfz (cs' := fG cs o uv.cells.toList) (kT _ _ _) (by rw [← e2, hw]; exact z1) z2, ?_⟩
       have := sG (P := cx.P) (vs := uv.cells.toList) (w := w) (b := (b.den (ρ ++ σ)).toN) (o := o) (i := 0) hg hfz (by omega) e5
       simp only [Nat.add_zero] at this
       simp [Instr.storeAt, Instr.sureAddr, storeVar, eU hc, e4, this]
      ·cases h1
     ·cases h1
    ·cases h1
   ·cases h1
 ·rename_i b o i n
  split at h1
  ·rename_i ps k' u hps
   split at h1
   ·rename_i k1 L hL
    split at h1
    ·rename_i hk
     obtain ⟨hk, hsz⟩ := hk
     subst hk
     split at h1
     ·rename_i qs hqs
      obtain ⟨cs, e, fz, hg, hfz, hp⟩ := lX h4.heap hps
      obtain ⟨pre, r, e1, e2, e3, e4, e5⟩ := uI hL hp
      obtain ⟨rfl, h0, hi⟩ := hx'
      obtain ⟨rfl, hu⟩ := h3
      have hlt : (i.den (ρ ++ σ)).toI.toNat < (L.den (ρ ++ σ)).aB.length := by omega
      have e6 := e5 (.o3 .liset L i u) (by simp [Tm.den, O3.den, e3]) (by
       intro y hy
       simp only [Tm.den, O3.den, D.toLi_Z] at hy
       rcases List.mem_or_eq_of_mem_set hy with hy | rfl
       ·exact e4 y hy
       ·exact hu) qs hqs
      have hsz' : o + (i.den (ρ ++ σ)).toI.toNat < cs.size := by
       have := congrArg List.length e1
       simp only [List.length_append, Array.length_toList, List.length_map] at this; omega
      refine ⟨σ, _, vc', _, h1, h2, h4.write hps hg hfz (cs' := cs.setIfInBounds (o + (i.den (ρ ++ σ)).toI.toNat) (.int k' (u.den (ρ ++ σ)).toI)) (by simp) ?_, ?_⟩
      ·rw [Array.toList_setIfInBounds, e1, ← e2, List.set_append_right _ _ (by omega), Nat.add_sub_cancel_left, List.set_append_left _ _ (by simpa using hlt), ← List.map_set]
       simpa [Tm.den, O3.den] using e6
      ·have := aV6 (P := cx.P) (w := w) (v := .int k' (u.den (ρ ++ σ)).toI) hg hfz hsz' rfl
       simp [Instr.storeAt, Instr.sureAddr, storeVar, eU hc, Value.cells, hsz, storeCells, Addr.add_plain, this]
     ·cases h1
    ·cases h1
   ·cases h1
  ·cases h1
 ·rename_i ta i es o
  split at h1
  ·rename_i ek L hf
   split at h1
   ·rename_i hes
    subst hes
    split at h1
    ·rename_i qs hqs
     split at h1
     ·rename_i u hu
      split at h1
      rotate_left
      ·cases h1
      obtain ⟨ad, n, c, hva, hsp, h0, hi, rfl⟩ := hx'
      obtain ⟨hown, hok⟩ := aJ3 h4.heap hf
      rw [hva] at hown
      rcases hown with ⟨hbad, _⟩ | ⟨g, cap, cs, e, fz, he, hg, hfz, g1, g2, g3, g4, g5⟩
      ·cases hbad
      ·cases he
       obtain ⟨y, hy, hyo, hyp⟩ := aN0 hok h0 hi
       obtain ⟨pre, old, r, e1, e2, e3, e4, e5, e6⟩ := zD h4.heap hqs h3 hyp
       obtain ⟨z, z1, z2, z3⟩ := aC4 (aJ2 h4.heap) hu e6
       have hall : ∀ y ∈ aI ek (L.den (ρ ++ σ)), (fK ek y).length = ek.width := fun y hy => tX ((fE ek _).1 hok y hy)
       obtain ⟨f1, f2⟩ := wQ hall hy
       -- the list with the element in its place
       generalize hLL : aC1 ek L i u = L' at h1
       have hL' : aI ek (L'.den (ρ ++ σ)) = (aI ek (L.den (ρ ++ σ))).set (i.den (ρ ++ σ)).toI.toNat z := by
        rw [z3, ← hLL]
        rcases ek with _ | ⟨c0, _ | ⟨c1, cs'⟩⟩
        ·rfl
        ·cases c0 <;> first | rfl | simp [aI, aC1, Tm.den, O3.den, oV, List.map_set]
        ·cases c0 <;> rfl
       have hilt : (i.den (ρ ++ σ)).toI.toNat < (aI ek (L.den (ρ ++ σ))).length := (List.getElem?_eq_some_iff.1 hy).1
       have hset : (aI ek (L'.den (ρ ++ σ)))[(i.den (ρ ++ σ)).toI.toNat]? = some z := by rw [hL']; simp [hilt]
       have hok' : ek.ok (L'.den (ρ ++ σ)) := by
        rw [fE, hL']
        intro q hq
        rcases List.mem_or_eq_of_mem_set hq with hq | rfl
        ·exact (fE ek _).1 hok q hq
        ·exact z2
       have hall' : ∀ y ∈ aI ek (L'.den (ρ ++ σ)), (fK ek y).length = ek.width := fun y hy => tX ((fE ek _).1 hok' y hy)
       obtain ⟨f3, f4⟩ := wQ hall' hset
       have hlen' : ek.len (L'.den (ρ ++ σ)) = ek.len (L.den (ρ ++ σ)) := by rw [len_eq, len_eq, hL', List.length_set]
       -- the cells ahead and behind are the same
       have t1 : ((aI ek (L'.den (ρ ++ σ))).take (i.den (ρ ++ σ)).toI.toNat) = ((aI ek (L.den (ρ ++ σ))).take (i.den (ρ ++ σ)).toI.toNat) := by rw [hL', List.take_set_of_le (Nat.le_refl _)]
       have t2 : ((aI ek (L'.den (ρ ++ σ))).drop ((i.den (ρ ++ σ)).toI.toNat + 1)) = ((aI ek (L.den (ρ ++ σ))).drop ((i.den (ρ ++ σ)).toI.toNat + 1)) := by rw [hL', List.drop_set_of_lt (by omega)]
       rw [t1, t2] at f3
       have hcells := cells_length hok
       have hbig : cs.toList = (((aI ek (L.den (ρ ++ σ))).take (i.den (ρ ++ σ)).toI.toNat).flatMap (fK ek) ++ pre) ++ (old ++ (r ++ (((aI ek (L.den (ρ ++ σ))).drop ((i.den (ρ ++ σ)).toI.toNat + 1)).flatMap (fK ek) ++ cs.toList.drop (ek.len (L.den (ρ ++ σ)) * ek.width)))) := by
        have h0 := (List.take_append_drop (ek.len (L.den (ρ ++ σ)) * ek.width) cs.toList).symm
        rw [g5, iG, f1, e1] at h0
        exact h0.trans (by simp)
       have hw := nR (vs := uv.cells.toList) hbig e3
       have hplen : (((aI ek (L.den (ρ ++ σ))).take (i.den (ρ ++ σ)).toI.toNat).flatMap (fK ek) ++ pre).length = (i.den (ρ ++ σ)).toI.toNat * ek.width + o := by
        rw [List.length_append, f2, e2]
       rw [hplen] at hw
       have hnew : (fG cs ((i.den (ρ ++ σ)).toI.toNat * ek.width + o) uv.cells.toList).toList = ek.cells (L'.den (ρ ++ σ)) ++ cs.toList.drop (ek.len (L.den (ρ ++ σ)) * ek.width) := by
        rw [hw, iG, f3, ← z1]; simp
       have hb := (Array.getElem?_eq_some_iff.1 hg).1
       have hroom : (i.den (ρ ++ σ)).toI.toNat * ek.width + o + uv.cells.toList.length ≤ cs.size := by
        have := congrArg List.length hbig
        simp only [List.length_append, Array.length_toList] at this hplen e3
        simp only [Array.length_toList] at *
        omega
       refine ⟨σ, _, vc', _, h1, h2, h4.aZ2 hf hva hg (cs' := fG cs ((i.den (ρ ++ σ)).toI.toNat * ek.width + o) uv.cells.toList) ⟨?_, hok'⟩, ?_⟩
       ·rw [hva]
        refine .inr ⟨g, c, _, e, fz, by rw [hlen'], rP hb, by rw [kT]; exact hfz, by rw [hlen']; exact g1, g2, by rw [kT]; exact g3, cells_length hok', ?_⟩
        rw [hnew, ← cells_length hok', List.take_left']
        rfl
       ·have := sG (P := cx.P) (vs := uv.cells.toList) (w := w) (b := g) (o := (i.den (ρ ++ σ)).toI.toNat * ek.width + o) (i := 0) hg hfz.pred (by omega) e5
        simp only [Nat.add_zero] at this
        simp [Instr.storeAt, Instr.sureAddr, storeVar, eU hc, e4, this]
     ·cases h1
    ·cases h1
   ·cases h1
  ·cases h1
 ·cases h1
end
end Go.Vc
namespace Go.Vc
theorem nY (ek : EK) (L : Tm) (ρ : LD) : ((iZ ek L).den ρ).toI = ek.len (L.den ρ) := by
 rcases ek with _ | ⟨c0, _ | ⟨c1, cs'⟩⟩
 ·rfl
 ·cases c0 <;> rfl
 ·cases c0 <;> rfl
theorem bC9 (ek : EK) (ρ : LD) : aI ek ((jM ek).den ρ) = [] := by
 rcases ek with _ | ⟨c0, _ | ⟨c1, cs'⟩⟩
 ·rfl
 ·cases c0 <;> rfl
 ·cases c0 <;> rfl
theorem tN (ek : EK) (L L' : Tm) (ρ : LD) : aI ek ((lD ek L L').den ρ) = aI ek (L.den ρ) ++ aI ek (L'.den ρ) := by
 rcases ek with _ | ⟨c0, _ | ⟨c1, cs'⟩⟩
 ·rfl
 ·cases c0 <;> first | rfl | simp [aI, lD, Tm.den, O2.den]
 ·cases c0 <;> rfl
theorem bD1 (ek : EK) (L i : Tm) (ρ : LD) : aI ek ((wL ek L i).den ρ) = (aI ek (L.den ρ)).take (i.den ρ).toI.toNat := by
 rcases ek with _ | ⟨c0, _ | ⟨c1, cs'⟩⟩
 ·rfl
 ·cases c0 <;> first | rfl | simp [aI, wL, Tm.den, O2.den, List.map_take]
 ·cases c0 <;> rfl
theorem bC8 (ek : EK) (L i : Tm) (ρ : LD) : aI ek ((aB9 ek L i).den ρ) = (aI ek (L.den ρ)).drop (i.den ρ).toI.toNat := by
 rcases ek with _ | ⟨c0, _ | ⟨c1, cs'⟩⟩
 ·rfl
 ·cases c0 <;> first | rfl | simp [aI, aB9, Tm.den, O2.den, List.map_drop]
 ·cases c0 <;> rfl
theorem aM8 {ek : EK} {L l h : Tm} {ρ : LD} (_h0 : 0 ≤ (l.den ρ).toI) (_h1 : (l.den ρ).toI ≤ (h.den ρ).toI) (_h2 : (h.den ρ).toI ≤ ek.len (L.den ρ)) :
  aI ek ((nX ek L l h).den ρ) = ((aI ek (L.den ρ)).take (h.den ρ).toI.toNat).drop (l.den ρ).toI.toNat := by
 unfold nX
 have hh : aI ek ((if h = iZ ek L then L else wL ek L h).den ρ) = (aI ek (L.den ρ)).take (h.den ρ).toI.toNat := by
  split
  ·rename_i e
   rw [e, nY, len_eq]; simp
  ·exact bD1 ..
 simp only
 split
 ·rename_i e
  rw [hh, e]; simp [Tm.den]
 ·rw [bC8, hh]
section
variable {E : Env} {G : List Glob} {w0 : World} {D0 R0 : List Nat} {ρ : LD} {S : St} {a : Act} {w : World} {cx : Cx} {vc : VC} {ret : SV → M} {k : SV → St → M}
theorem aO8 {t : TypeId} {x ix : SV} {u v : Value} (hr : Rel G w0 D0 R0 ρ S a w) (h : aE9 cx S t x ix ret = .ok vc) (hd : vc.den E ρ) (hx : x.holds ρ u) (hi : ix.holds ρ v) :
  ∃ z, Met E ρ ret z ∧ ∀ w, (Instr.indexAt t u v).run cx.P w = .ok z w := by
 unfold aE9 at h
 split at h
 ·rename_i kk i
  obtain ⟨rfl, hk⟩ := hi
  split at h
  ·rename_i len e hu
   split at h
   ·rename_i b o
    simp only [SV.holds, S0.holds, Lf.holds] at hx
    subst hx
    split at h
    ·rename_i n
     split at h
     ·rename_i hn
      obtain ⟨h0, h1, hc⟩ := hn
      refine ⟨_, ⟨_, vc, h, hd, rfl⟩, ?_⟩
      intro w
      simp [Instr.indexAt, asIntOf, run_underlying hu, Instr.sureAddr, Tm.den, h0, h1, eU hc, Addr.add_plain]
     ·cases h
    ·split at h
     ·rename_i hc
      obtain ⟨h0, vc1, h', hd'⟩ := dV h hd
      obtain ⟨h1, vc2, h'', hd''⟩ := uQ h' hd'
      have h0 : 0 ≤ (i.den ρ).toI := h0
      have h1 : (i.den ρ).toI < len := h1
      have hs : ∀ w, (sizeOf e).run cx.P w = .ok 1 w := fun w => by rw [eU (by omega), hc]
      refine ⟨_, ⟨_, vc2, h'', hd'', rfl, h0, h1⟩, ?_⟩
      intro w
      simp [Instr.indexAt, asIntOf, run_underlying hu, Instr.sureAddr, h0, h1, hs, Addr.add_plain]
     ·cases h
   ·cases h
  ·rename_i e hu
   split at h
   ·rename_i ta
    simp only [SV.holds, S0.holds, Lf.holds] at hx
    subst hx
    split at h
    ·rename_i own ek L hf
     split at h
     ·rename_i hw
      obtain ⟨hw, hc⟩ := hw
      obtain ⟨h0, vc1, h', hd'⟩ := dV h hd
      obtain ⟨h1, vc2, h'', hd''⟩ := uQ h' hd'
      have h0 : 0 ≤ (i.den ρ).toI := h0
      rw [nY] at h1
      obtain ⟨hrd, hok⟩ := jG hr.heap hf
      rcases hrd with ⟨_, hz, _⟩ | ⟨_, _, _, hz, _⟩ | ⟨ad, cap, he, g1, g2, g3, g4, g5, g6⟩
      ·omega
      ·omega
      ·have hs := fun w => eU (P := cx.P) (t := e) hc w
       refine ⟨_, ⟨_, vc2, h'', hd'', ad, _, cap, he, g1, h0, h1, rfl⟩, ?_⟩
       intro w
       simp [Instr.indexAt, asIntOf, run_underlying hu, he, h0, h1, hs, Addr.nT g1, hw]
     ·cases h
    ·cases h
   ·rename_i b o n
    obtain ⟨c, rfl, hn⟩ := hx
    split at h
    ·rename_i hc
     obtain ⟨h0, vc1, h', hd'⟩ := dV h hd
     obtain ⟨h1, vc2, h'', hd''⟩ := uQ h' hd'
     have h0 : 0 ≤ (i.den ρ).toI := h0
     have h1 : (i.den ρ).toI < n := h1
     have hs : ∀ w, (sizeOf e).run cx.P w = .ok 1 w := fun w => by rw [eU (by omega), hc]
     refine ⟨_, ⟨_, vc2, h'', hd'', rfl, h0, h1⟩, ?_⟩
     intro w
     simp [Instr.indexAt, asIntOf, run_underlying hu, h0, h1, hs, Addr.add_plain]
    ·cases h
   ·cases h
  ·cases h
 ·cases h
theorem aO9 {t : TypeId} {x ix : SV} {u v : Value} (h : aF0 cx t x ix ret = .ok vc) (hd : vc.den E ρ) (hx : x.holds ρ u) (hi : ix.holds ρ v) :
  ∃ z, Met E ρ ret z ∧ ∀ w, (Instr.index t u v).run cx.P w = .ok z w := by
 unfold aF0 at h
 split at h
 ·rename_i kk i
  obtain ⟨rfl, hk⟩ := hi
  split at h
  ·rename_i s hu
   obtain ⟨rfl, _⟩ := hx
   obtain ⟨h0, vc1, h', hd'⟩ := dV h hd
   obtain ⟨h1, vc2, h'', hd''⟩ := uQ h' hd'
   have h0 : 0 ≤ (i.den ρ).toI := h0
   have h1 : (i.den ρ).toI < (s.den ρ).toS.size := h1
   have hlt : (i.den ρ).toI.toNat < (s.den ρ).toS.size := by omega
   refine ⟨.int .u8 (byteAt (s.den ρ).toS (i.den ρ).toI), Met.int h'' hd'' rfl (bE7 _ _), ?_⟩
   have hget : (s.den ρ).toS[(i.den ρ).toI.toNat]? = some ((s.den ρ).toS.data.toList.getD (i.den ρ).toI.toNat 0) := by
    have hl2 : (i.den ρ).toI.toNat < (s.den ρ).toS.data.size := hlt
    rw [getElem?_pos (s.den ρ).toS _ hlt]
    have e1 : (s.den ρ).toS.data[(i.den ρ).toI.toNat]? = some ((s.den ρ).toS.data[(i.den ρ).toI.toNat]'hl2) := getElem?_pos (s.den ρ).toS.data _ hl2
    simp only [List.getD, Array.getElem?_toList, e1]
    rfl
   intro w
   simp [Instr.index, asIntOf, run_underlying hu, h0, hget, byteAt]
  ·rename_i len e kk2 n L hu
   obtain ⟨cs, rfl, r, he, hn, hall, hr⟩ := hx
   simp only [aG] at hr
   subst hr
   split at h
   ·rename_i hc
    obtain ⟨rfl, hc, ha, hue⟩ := hc
    obtain ⟨h0, vc1, h', hd'⟩ := dV h hd
    obtain ⟨h1, vc2, h'', hd''⟩ := uQ h' hd'
    have h0 : 0 ≤ (i.den ρ).toI := h0
    have h1 : (i.den ρ).toI < n := h1
    have hs : ∀ w, (sizeOf e).run cx.P w = .ok 1 w := fun w => by rw [eU (by omega), hc]
    have hlt : (i.den ρ).toI.toNat < (L.den ρ).aB.length := by omega
    refine ⟨.int kk2 ((L.den ρ).aB.getD (i.den ρ).toI.toNat 0), Met.int h'' hd'' rfl (wW hall _), ?_⟩
    have hcs : cs[(i.den ρ).toI.toNat]? = some (.int kk2 ((L.den ρ).aB.getD (i.den ρ).toI.toNat 0)) := by
     rw [← Array.getElem?_toList, he]; simp [List.getD, hlt]
    obtain ⟨d, hue⟩ := Option.isSome_iff_exists.1 hue
    intro w
    simp [Instr.index, asIntOf, run_underlying hu, h0, h1, hs, part, jQ hue, ha, hcs]
   ·cases h
  ·cases h
 ·cases h
theorem bE0 {t : TypeId} {x : SV} {f : Nat} {u : Value} (h : aD0 cx t x f ret = .ok vc) (hd : vc.den E ρ) (hx : x.holds ρ u) :
  ∃ z, Met E ρ ret z ∧ ∀ w, (Instr.field t u f).run cx.P w = .ok z w := by
 unfold aD0 at h
 split at h
 ·rename_i fs ps hu
  obtain ⟨cs, rfl, hv⟩ := hx
  split at h
  ·rename_i fd hf
   split at h
   ·cases h
   ·rename_i hne
    simp only [Bool.or_eq_true, Option.isNone_iff_eq_none, beq_iff_eq, not_or] at hne
    obtain ⟨d, hue⟩ := Option.ne_none_iff_exists'.1 hne.1
    obtain ⟨z, hz, hrun⟩ := bJ1 hue hne.2 h hd hv
    exact ⟨z, hz, fun w => by simp [Instr.field, run_underlying hu, hf, asAgg, hrun]⟩
  ·cases h
 ·cases h
theorem iF.cut {w : World} {v : Value} {ek : EK} {d d' : D} {l h : Nat} (hr : iF w v ek.width (ek.len d) (ek.cells d)) (hok : ek.ok d) (hl : l ≤ h) (hh : h ≤ ek.len d)
  (he : aI ek d' = ((aI ek d).take h).drop l) (x : Option Addr) (n c : Nat) (hv : v = .slice x n c) :
  ∃ v', v' = .slice (if c = l then x else x.map (·.add (l * ek.width))) (h - l) (c - l) ∧ iF w v' ek.width (ek.len d') (ek.cells d') ∧ ek.ok d' ∧ (∀ b, roB v' = some b → roB v = some b) ∧ n = ek.len d ∧ h ≤ c := by
 refine ⟨_, rfl, ?_⟩
 have hok' : ek.ok d' := by
  rw [fE] at hok ⊢
  intro y hy
  rw [he] at hy
  exact hok y (List.mem_of_mem_take (List.mem_of_mem_drop hy))
 have hlen' : ek.len d' = h - l := by
  rw [len_eq, he, List.length_drop, List.length_take]
  rw [len_eq] at hh; omega
 have hnil : ek.len d = 0 → ek.cells d' = [] := fun h0 => by
  have := cells_length hok'
  rw [hlen', show h - l = 0 from by omega] at this
  exact List.eq_nil_of_length_eq_zero (by simpa using this)
 rcases hr with ⟨h1, h2, h3⟩ | ⟨ad, cap, h1, h2, h3⟩ | ⟨ad, cap, h1, h2, h3, h4, h5, h6, h7⟩
 ·rw [hv] at h1; cases h1
  have hz : h = 0 := by omega
  have lz : l = 0 := by omega
  subst hz lz
  exact ⟨.inl ⟨by simp, by omega, hnil h2⟩, hok', fun b hb => (by simp [roB] at hb), by omega, by omega⟩
 ·rw [hv] at h1; cases h1
  have hz : h = 0 := by omega
  have lz : l = 0 := by omega
  subst hz lz
  refine ⟨.inr (.inl ⟨if c = 0 then ad else ad.add (0 * ek.width), c - 0, ?_, by omega, hnil h2⟩), hok', fun b hb => ?_, by omega, by omega⟩
  ·split <;> rfl
  ·have hb := hb
   unfold roB at hb
   split at hb
   ·rename_i heq
    injection heq with _ h9
    cases h9
   ·cases hb
 ·rw [hv] at h1; cases h1
  have hcells : ∀ j u, (ek.cells d')[j]? = some u → (ek.cells d)[l * ek.width + j]? = some u := by
   intro j u hj
   rw [iG] at hj ⊢
   rw [he] at hj
   have hall := fun y hy => tX ((fE ek d).1 hok y hy)
   have e1 : (aI ek d).flatMap (fK ek) = ((aI ek d).take l).flatMap (fK ek) ++ ((((aI ek d).take h).drop l).flatMap (fK ek) ++ ((aI ek d).drop h).flatMap (fK ek)) := by
    rw [← List.flatMap_append, ← List.flatMap_append]
    congr 1
    rw [show (aI ek d).take l = ((aI ek d).take h).take l by rw [List.take_take]; congr 1; omega]
    rw [← List.append_assoc, List.take_append_drop, List.take_append_drop]
   have e2 : (((aI ek d).take l).flatMap (fK ek)).length = l * ek.width := by
    rw [wR (fun y hy => hall y (List.mem_of_mem_take hy)), List.length_take]
    rw [len_eq] at hh
    congr 1; omega
   rw [e1, ← e2, List.getElem?_mid j (List.getElem?_eq_some_iff.1 hj).1]
   exact hj
  refine ⟨.inr (.inr ⟨if c = l then ad else ad.add (l * ek.width), c - l, ?_, ?_, ?_, by omega, by omega, cells_length hok', ?_⟩), hok', ?_, rfl, by omega⟩
  ·rw [hlen']; split <;> rfl
  ·split
   ·exact h2
   ·rw [Addr.nT h2]
  ·split
   ·exact h3
   ·rw [Addr.nT h2]; exact h3
  ·intro j u hj
   split
   ·rename_i hcl
    have hz : ek.len d' = 0 := by omega
    have := cells_length hok'
    rw [hz] at this
    have : ek.cells d' = [] := List.eq_nil_of_length_eq_zero (by simpa using this)
    rw [this] at hj; cases hj
   ·have := h7 _ u (hcells j u hj)
    rw [Addr.nT h2] at this ⊢
    rw [Addr.nT rfl]
    simp only at this ⊢
    rw [← this]; congr 2; omega
  ·intro b hb
   rw [hv]
   have hpos : h - l ≠ 0 := fun h0 => by rw [h0] at hb; unfold roB at hb; split at hb; (rename_i heq; injection heq with _ h9; cases h9); cases hb
   obtain ⟨q, hq⟩ : ∃ q, ek.len d = q + 1 := ⟨ek.len d - 1, by omega⟩
   have hb := vC hb
   show roB (.slice (some ad) (ek.len d) c) = some b
   rw [hq]
   show some ad.block = some b
   rw [← hb]
   by_cases hcl : c = l
   ·simp [Value.ownBlock, hcl]
   ·simp [Value.ownBlock, hcl, Addr.nT h2]
theorem aE0 {t : Tm} {own : Bool} {ek : EK} {L : Tm} (hr : Rel G w0 D0 R0 ρ S a w) (hf : aS t S.heap = some (own, ek, L)) :
  Rel G w0 D0 R0 ρ { S with heap := dB t S.heap } a w ∧ ∀ b, roB (t.den ρ).toV = some b → b ∈ ros ρ (dB t S.heap) := by
 obtain ⟨l1, l2, he, _, hfr⟩ := jO hf
 have p1 : S.heap.Perm (nK own t ek L :: (l1 ++ l2)) := he ▸ iC l1 l2 _
 have p2 : (dB t S.heap).Perm (.rsl t ek L :: (l1 ++ l2)) := hfr ▸ iC l1 l2 _
 obtain ⟨hc, hrest, hown, hro⟩ := qQ (hr.heap.perm p1)
 have hmem : ∀ b, roB (t.den ρ).toV = some b → b ∈ ros ρ (dB t S.heap) := fun b hb => (eP p2).2 (iK.2 (.inl hb))
 refine ⟨?_, hmem⟩
 have hh : aJ ρ (.rsl t ek L :: (l1 ++ l2)) w := by
  refine (qP rfl).2 ⟨?_, hrest, fun (b : Nat) hb => (by cases hb), fun (b : Nat) hb => ?_⟩
  ·cases own with
   | true => exact ⟨hc.1.rd, hc.2⟩
   | false => exact hc
  ·cases own with
   | true => exact (hown b (vC hb)).1
   | false => exact hro b hb
 refine hr.nG (hs := dB t S.heap) (aJ.perm p2.symm hh) (Nat.le_refl _) (fun _ _ _ => rfl) rfl rfl rfl ?_ ?_
 ·intro b hb
  rw [bV p2, fO] at hb
  rcases hb with hb | hb
  ·cases hb
  ·exact .inl ((bV p1).2 (fO.2 (.inr hb)))
 ·intro b hb
  rw [eP p2, iK] at hb
  rcases hb with hb | hb
  ·cases own with
   | true => exact .inl ((bV p1).2 (fO.2 (.inl (vC hb))))
   | false => exact .inr (.inl ((eP p1).2 (iK.2 (.inl hb))))
  ·exact .inr (.inl ((eP p1).2 (iK.2 (.inr hb))))
end
end Go.Vc