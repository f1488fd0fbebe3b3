/-
 Litmus tests: plain conditions, first part.
 Litmus tests: plain conditions, second part.
 Litmus tests: plain conditions, third part.
-/
import Derived.Test.YtfhmokjjjnjhjaaGreatDoorReadp
import Derived.Test.YtfhmokjjjnjhjaaGreatDoorReadn
set_option linter.unusedVariables false
set_option linter.unusedSimpArgs false
set_option linter.unnecessarySimpa false
open _root_.Go.IntKind (wrap)
namespace Go.Vc
set_option maxRecDepth 10000
set_option linter.unusedSimpArgs false
@[simp] theorem arg_z (d : D) (l : LD) : arg (d :: l) 0 = d := rfl
@[simp] theorem arg_s (d : D) (l : LD) (n : Nat) : arg (d :: l) (n + 1) = arg l n := rfl
theorem lOf.pure : lOf.Pure := by
 unfold lOf.Pure
 repeat' first | refine And.intro ?_ ?_ | intro _
 all_goals simp_all [arg, Lt.reads, Lt.writes]
theorem dW.pure : dW.Pure := by
 unfold dW.Pure
 repeat' first | refine And.intro ?_ ?_ | intro _
 all_goals simp_all [arg, Lt.lV, lOf.sig, dW.sig]
theorem iW.pure : iW.Pure := by
 unfold iW.Pure
 repeat' first | refine And.intro ?_ ?_ | intro _
 all_goals (simp [Lt.sets, iW.sig]; try grind)
theorem jV.pure : jV.Pure := by
 unfold jV.Pure
 repeat' first | refine And.intro ?_ ?_ | intro _
 all_goals (simp [Lt.aF5, jV.sig, *]; try grind)
theorem aT4 {t : Lt.Test} {l : LD} (h : eH l t) : (arg l 2).toL.length = t.locs.length ∧ (arg l 4).toL.length = t.threads.length ∧ (arg l 6).toL.length = t.asks.length := by
 obtain ⟨h1, h2, h3⟩ := h
 refine ⟨by rw [h1, List.length_map], ?_, by rw [h3, List.length_map]⟩
 generalize (arg l 4).toL = L at h2
 generalize t.threads = M at h2
 induction L generalizing M with
 | nil => cases M <;> simp_all [kQ]
 | cons r L ih => cases M with
  | nil => simp [kQ] at h2
  | cons m M => simp [ih M h2.2]
theorem gQ.pure : gQ.Pure := by
 unfold gQ.Pure
 repeat' first | refine And.intro ?_ ?_ | intro _
 all_goals
  rename_i ht
  obtain ⟨e1, e2, e3⟩ := aT4 ht
  simp at e1 e2 e3
  simp [Lt.qL]
  grind
theorem kL.pure : kL.Pure := by
 unfold kL.Pure
 repeat' first | refine And.intro ?_ ?_ | intro _
 all_goals (simp [Lt.before, kL.sig]; try grind)
theorem aC.c4 : ∀ {x0 x1 x2 x3 x4 x5 x6 x7 x8 x9 x10 x11 x12}, aC.C4 x0 x1 x2 x3 x4 x5 x6 x7 x8 x9 x10 x11 x12 := by
 intros; intro _ _ _ _ _ _ _ _ _ _ _ _ _ _ _ _ _ _ _ _ _ _ _ _ _ h
 exact h
theorem aC.c3 : ∀ {x0 x1 x2 x3 x4 x5 x6 x7 x8 x9 x10 x11 x12}, aC.C3 x0 x1 x2 x3 x4 x5 x6 x7 x8 x9 x10 x11 x12 := by
 intros
 repeat' first | exact aC.c4 | refine And.intro ?_ ?_ | intro _
 all_goals (simp_all [aC.J3, aC.J4, bK, Lt.bk1, Lt.bk2, Lt.bk3, Lt.bk4, Lt.qK, Lt.Ins.zero, dW.sig, lOf.sig, Lt.rM, Lt.hasB]; try grind [Lt.writes])
theorem aC.c2 : ∀ {x0 x1 x2 x3 x4 x5 x6 x7 x8 x9 x10 x11 x12}, aC.C2 x0 x1 x2 x3 x4 x5 x6 x7 x8 x9 x10 x11 x12 := by
 intros
 repeat' first | exact aC.c3 | refine And.intro ?_ ?_ | intro _
 all_goals (simp_all [aC.J2, aC.J3, bK, Lt.bk1, Lt.bk2, Lt.bk3, Lt.bk4, Lt.qK, Lt.Ins.zero, dW.sig, lOf.sig, Lt.rM, Lt.hasB]; try grind [Lt.writes])
theorem aC.c1 : ∀ {x0 x1 x2 x3 x4 x5 x6 x7 x8 x9 x10 x11 x12}, aC.C1 x0 x1 x2 x3 x4 x5 x6 x7 x8 x9 x10 x11 x12 := by
 intros
 repeat' first | exact aC.c2 | refine And.intro ?_ ?_ | intro _
 all_goals (simp_all [aC.J1, aC.J2, bK, Lt.bk1, Lt.bk2, Lt.bk3, Lt.bk4, Lt.qK, Lt.Ins.zero, dW.sig, lOf.sig, Lt.rM, Lt.hasB]; try grind [Lt.writes])
theorem aC.c0 : ∀ {x0 x1 x2 x3 x4 x5 x6 x7 x8 x9 x10 x11 x12}, aC.C0 x0 x1 x2 x3 x4 x5 x6 x7 x8 x9 x10 x11 x12 := by
 intros
 repeat' first | exact aC.c1 | refine And.intro ?_ ?_ | intro _
 all_goals (simp_all [aC.J0, aC.J1, bK, Lt.bk1, Lt.bk2, Lt.bk3, Lt.bk4, Lt.qK, Lt.Ins.zero, dW.sig, lOf.sig, Lt.rM, Lt.hasB]; try grind [Lt.writes])
theorem aC.pure : aC.Pure := by
 unfold aC.Pure
 repeat' first | exact aC.c0 | refine And.intro ?_ ?_ | intro _
 all_goals first | trivial | simp_all [aC.J0, bK, Lt.bk1, Lt.Ins.zero, iW.sig]
theorem aG.c3 : ∀ {x0 x1 x2 x3 x4 x5 x6 x7 x8 x9 x10 x11 x12 x13 x14 x15 x16 x17 x18 x19 x20}, aG.C3 x0 x1 x2 x3 x4 x5 x6 x7 x8 x9 x10 x11 x12 x13 x14 x15 x16 x17 x18 x19 x20 := by
 intros
 repeat' first | refine And.intro ?_ ?_ | intro _
 all_goals first | trivial | (simp_all [aG.J3, Lt.ck3, Lt.ck4, Lt.ck5, Lt.ck6, bK, lOf.sig, aG.sig]; done) | (simp_all [aG.J3, Lt.ck3, Lt.ck4, Lt.ck5, Lt.ck6, bK, lOf.sig, aG.sig]; grind)
theorem aG.c2 : ∀ {x0 x1 x2 x3 x4 x5 x6 x7 x8 x9 x10 x11 x12 x13 x14 x15 x16 x17 x18 x19 x20}, aG.C2 x0 x1 x2 x3 x4 x5 x6 x7 x8 x9 x10 x11 x12 x13 x14 x15 x16 x17 x18 x19 x20 := by
 intros
 repeat' first | exact aG.c3 | refine And.intro ?_ ?_ | intro _
 all_goals first | trivial | (simp_all [aG.J2, aG.J3, Lt.ck3, Lt.ck4, Lt.ck5, Lt.ck6, bK, lOf.sig, aG.sig]; done) | (simp_all [aG.J2, aG.J3, Lt.ck3, Lt.ck4, Lt.ck5, Lt.ck6, bK, lOf.sig, aG.sig]; grind)
theorem aG.c1 : ∀ {x0 x1 x2 x3 x4 x5 x6 x7 x8 x9 x10 x11 x12 x13 x14 x15 x16 x17 x18 x19 x20}, aG.C1 x0 x1 x2 x3 x4 x5 x6 x7 x8 x9 x10 x11 x12 x13 x14 x15 x16 x17 x18 x19 x20 := by
 intros
 repeat' first | exact aG.c2 | refine And.intro ?_ ?_ | intro _
 all_goals first | trivial | (simp_all [aG.J1, aG.J2, Lt.ck3, Lt.ck4, Lt.ck5, Lt.ck6, bK, lOf.sig, aG.sig]; done) | (simp_all [aG.J1, aG.J2, Lt.ck3, Lt.ck4, Lt.ck5, Lt.ck6, bK, lOf.sig, aG.sig]; grind)
theorem aG.c0 : ∀ {x0 x1 x2 x3 x4 x5 x6 x7 x8 x9 x10 x11 x12 x13 x14 x15 x16 x17 x18 x19 x20}, aG.C0 x0 x1 x2 x3 x4 x5 x6 x7 x8 x9 x10 x11 x12 x13 x14 x15 x16 x17 x18 x19 x20 := by
 intros
 repeat' first | exact aG.c1 | refine And.intro ?_ ?_ | intro _
 all_goals first | trivial | (simp_all [aG.J0, aG.J1, Lt.ck3, Lt.ck4, Lt.ck5, Lt.ck6, bK, lOf.sig, aG.sig]; done) | (simp_all [aG.J0, aG.J1, Lt.ck3, Lt.ck4, Lt.ck5, Lt.ck6, bK, lOf.sig, aG.sig]; grind)
theorem bS4 {a b c e g k m n p : Int} {d f h j : Bool} {a' b' c' e' g' k' m' n' p' : Int} {d' f' h' j' : Bool} 
  (H : aC.sig.post [.I a, .I b, .I c, .B d, .I e, .B f, .I g, .B h, .B j, .I k, .I m, .I n, .I p, .I a', .I b', .I c', .B d', .I e', .B f', .I g', .B h', .B j', .I k', .I m', .I n', .I p']) (he : 0 ≤ e) (hg : 0 ≤ g) (he' : 0 ≤ e') (hg' : 0 ≤ g') :
  Lt.qK ⟨a, b, c, d, e.toNat, f, g.toNat, h, j, k, m, n, p⟩ = ⟨a, b, c, d, e.toNat, f, g.toNat, h, j, k, m, n, p⟩ ↔ a' = a ∧ b' = b ∧ c' = c ∧ (d' = d ∧ e' = e) ∧ (f' = f ∧ g' = g) ∧ h' = h ∧ j' = j ∧ k' = k ∧ m' = m ∧ n' = n ∧ p' = p := by
 have H : (⟨a', b', c', d', e'.toNat, f', g'.toNat, h', j', k', m', n', p'⟩ : Lt.Ins) = Lt.qK ⟨a, b, c, d, e.toNat, f, g.toNat, h, j, k, m, n, p⟩ := H
 rw [← H, Lt.Ins.mk.injEq]
 have : e'.toNat = e.toNat ↔ e' = e := by omega
 have : g'.toNat = g.toNat ↔ g' = g := by omega
 grind
theorem aG.pure : aG.Pure := by
 unfold aG.Pure
 repeat' first | exact aG.c0 | refine And.intro ?_ ?_ | intro _
 all_goals try trivial
 all_goals try (simp [aG.sig, bK, Lt.oN]; omega)
 all_goals have hb := bS4 ‹aC.sig.post _› (by omega) (by omega) (by omega) (by omega)
 all_goals simp [aG.J0, aG.sig, jV.sig, dW.sig, bK, Lt.oN] at *
 all_goals grind
end Go.Vc
namespace Go.Vc
set_option linter.unusedSimpArgs false
theorem pO {L : LD} {M : List (List Lt.Ins)} (h : kQ L M) : L.length = M.length ∧ ∀ i, i < M.length → ((L.getD i default).toL.getD 1 default).toL = (M.getD i []).map rO := by
 induction L generalizing M with
 | nil => cases M <;> simp_all [kQ]
 | cons r L ih => cases M with
  | nil => simp [kQ] at h
  | cons m M =>
   obtain ⟨⟨v, rfl⟩, h2⟩ := h
   obtain ⟨e, ih⟩ := ih h2
   refine ⟨by simp [e], fun i hi => ?_⟩
   cases i with
   | zero => rfl
   | succ i => simpa using ih i (by simpa using hi)
theorem getD_map {α : Type} (f : α → D) (m : List α) (d : α) {k : Nat} (h : k < m.length) : (m.map f).getD k default = f (m.getD k d) := by simp [List.getD, h]
theorem kW {α : Type} (m : List α) (d : α) {k : Nat} (h : k < m.length) : m.drop k = m.getD k d :: m.drop (k + 1) := by
 rw [List.drop_eq_getElem_cons h]; simp [List.getD, h]
theorem bW0 {L : List (List Lt.Ins)} {i : Nat} (h : i < L.length) : Lt.oU (L.drop i) = Lt.evL (L.getD i []) + Lt.oU (L.drop (i + 1)) := by
 rw [kW L [] h]; simp [Lt.oU]
theorem bV7 {L : List Lt.Ins} {i : Nat} (h : i < L.length) : Lt.evL (L.drop i) = Lt.evI (L.getD i Lt.Ins.zero) + Lt.evL (L.drop (i + 1)) := by
 rw [kW L Lt.Ins.zero h]; simp [Lt.evL]
theorem i64 {i : Int} (h : -9223372036854775808 ≤ i) (h' : i < 9223372036854775808) : IntKind.i64.wrap i = i := wrap64 h h'
theorem bC.pure : bC.Pure := by
 intro s _ _
 have hl : (tx s).length = s.size := rfl
 have hb : ∀ k, byteAt s k = ((tx s).getD k.toNat 0).toNat := fun _ => rfl
 have okE : ∀ k, okc s k ↔ (Lx.small ((tx s).getD k 0) = true ∨ 0 < k ∧ Lx.digit ((tx s).getD k 0) = true) := fun k => by
  simp only [okc, hb, Int.toNat_natCast, Lx.small, Lx.digit, Bool.and_eq_true, decide_eq_true_eq]; omega
 have all : Lt.zM (tx s) = true ↔ ∀ k < s.size, okc s k := by
  rw [← hl]
  simp only [okE]
  cases tx s with
  | nil => simp [Lt.zM]
  | cons c r =>
   simp only [Lt.zM, Bool.and_eq_true, List.all_eq_true, Lx.bP, Bool.or_eq_true]
   constructor
   ·rintro ⟨h1, h2⟩ k hk
    cases k with
    | zero => exact .inl h1
    | succ k =>
     have hk : k < r.length := by simpa using hk
     have := h2 r[k] (List.getElem_mem hk)
     simpa [List.getD, hk] using this
   ·intro h
    refine ⟨by simpa using h 0 (by simp), fun x hx => ?_⟩
    obtain ⟨k, hk, rfl⟩ := List.mem_iff_getElem.1 hx
    have := h (k + 1) (by simpa using hk)
    simpa [List.getD, hk] using this
 have bad : ∀ k : Nat, k < s.size → ¬ okc s k → bC.sig.post [.S s, .B false] := fun k hk h => by
  show false = Lt.jW (tx s)
  have : ¬ Lt.zM (tx s) = true := fun e => h (all.1 e k hk)
  simp [Lt.jW, Bool.eq_false_iff.2 this]
 have fin : (∀ k < s.size, okc s k) → ∀ b : Bool, b = (!Lt.sG (tx s) && decide (tx s ≠ []) && decide ((tx s).length ≤ 16)) → bC.sig.post [.S s, .B b] := fun h b e => by
  show b = Lt.jW (tx s)
  rw [e, Lt.jW, all.2 h]; simp
 have step : ∀ i : Int, bC.I0 [.S s, .I i] → i < s.size → okc s i.toNat → bC.I0 [.S s, .I (IntKind.i64.wrap (i + 1))] ∧ bC.I0M [.S s, .I (IntKind.i64.wrap (i + 1))] < bC.I0M [.S s, .I i] := fun i ⟨h1, h2, h3⟩ hlt ho => by
  simp only [arg_z, arg_s, D.toI_I, D.toS_S] at h1 h2 h3
  rw [i64 (by omega) (by omega)]
  refine ⟨⟨by simp only [arg_z, arg_s, D.toI_I]; omega, by simp only [arg_z, arg_s, D.toI_I, D.toS_S]; omega, fun k hk => ?_⟩, by simp only [bC.I0M, arg_z, arg_s, D.toI_I, D.toS_S]; omega⟩
  simp only [arg_z, arg_s, D.toI_I] at hk
  by_cases e : (k : Int) < i
  ·exact h3 k e
  ·have : k = i.toNat := by omega
   subst this; exact ho
 refine ⟨⟨by simp, by simp, fun k hk => absurd hk (by simp)⟩, fun i1 _ hI => ⟨fun hlt => ⟨hI.1, fun h0 => ?_⟩, fun hge => ?_⟩⟩
 ·have e : ((i1.toNat : Nat) : Int) = i1 := Int.toNat_of_nonneg h0
  have hb1 : byteAt s i1.toNat = byteAt s i1 := by rw [e]
  have hk : i1.toNat < s.size := by omega
  have no : ¬ ((97 ≤ byteAt s i1 ∧ byteAt s i1 ≤ 122) ∨ (0 < i1 ∧ 48 ≤ byteAt s i1 ∧ byteAt s i1 ≤ 57)) → bC.sig.post [.S s, .B false] := fun h => bad _ hk (by unfold okc; rw [hb1]; omega)
  have ys : ((97 ≤ byteAt s i1 ∧ byteAt s i1 ≤ 122) ∨ (0 < i1 ∧ 48 ≤ byteAt s i1 ∧ byteAt s i1 ≤ 57)) → bC.I0 [.S s, .I (IntKind.i64.wrap (i1 + 1))] ∧ bC.I0M [.S s, .I (IntKind.i64.wrap (i1 + 1))] < bC.I0M [.S s, .I i1] := fun h => step i1 hI hlt (by unfold okc; rw [hb1]; omega)
  clear hI bad fin step all okE
  repeat' first | exact no (by omega) | exact ys (by omega) | refine And.intro ?_ ?_ | intro _
 ·have hA : ∀ k < s.size, okc s k := fun k hk => hI.2.2 k (by simp only [arg_z, arg_s, D.toI_I]; omega)
  have hn : s = ⟨#[]⟩ ↔ tx s = [] := ⟨fun e => by rw [e]; rfl, fun e => sZ (by rw [e]; rfl)⟩
  have F := fin hA
  clear hI bad fin step all okE hA
  have b0 := hb 0
  have b1 := hb 1
  have hr : Lt.sG (tx s) = true ↔ s.size = 2 ∧ byteAt s 0 = 114 ∧ byteAt s 1 ≤ 57 := by
   rw [b0, b1, ← hl]
   rcases tx s with _ | ⟨a, _ | ⟨b, _ | ⟨c, r⟩⟩⟩ <;> simp [Lt.sG]
   by_cases e : a = 114
   ·subst e
    have : Lt.sG [114, b] = decide (b.toNat ≤ 57) := rfl
    simp [this]; try omega
   ·have : a.toNat ≠ 114 := fun h => e (UInt8.toNat_inj.1 h)
    have : Lt.sG [a, b] = false := by unfold Lt.sG; split <;> simp_all
    show Lt.sG [a, b] = true ↔ _
    rw [this]; simp; omega
  repeat' first | refine And.intro ?_ ?_ | intro _
  all_goals first | omega | apply F
  all_goals (rw [Bool.eq_iff_iff]; simp only [Bool.and_eq_true, Bool.not_eq_true', decide_eq_true_eq, ← Bool.not_eq_true, hr, hn, hl, ne_eq] at *; simp_all; try omega)
end Go.Vc
namespace Go.Vc
set_option linter.unusedSimpArgs false
set_option maxRecDepth 10000
theorem bV8 {L : List Lt.Ins} {i : Nat} (h : L.length ≤ i) : Lt.evL (L.drop i) = 0 := by rw [List.drop_eq_nil_of_le h]; rfl
theorem bW1 {L : List (List Lt.Ins)} {i : Nat} (h : L.length ≤ i) : Lt.oU (L.drop i) = 0 := by rw [List.drop_eq_nil_of_le h]; rfl
theorem bU.pure : bU.Pure := by
 intro n0 v1 l2 v3 l4 v5 l6 _ _ _ hp
 obtain ⟨t, ht, h4, h8⟩ := hp
 obtain ⟨e, hr⟩ := pO ht.2.1
 simp only [arg_z, arg_s, D.toL_L] at e hr
 have row : ∀ i : Nat, i < l4.length → ((l4.getD i default).toL.getD 1 default).toL.length ≤ 8 := fun i hi => by
  rw [hr i (by omega), List.length_map]
  have hi : i < t.threads.length := by omega
  have := h8 _ (List.getElem_mem hi)
  simpa [List.getD, hi] using this
 refine ⟨⟨by simp, by simp, by simp, by simp, fun t ht => by simp⟩, fun i7 i8 _ _ hI => ?_⟩
 obtain ⟨a1, a2, a3, a4, a5⟩ := hI
 simp only [arg_z, arg_s, D.toL_L, D.toI_I] at a1 a2 a3 a4 a5
 refine ⟨fun hlt => ⟨a1, fun _ => ⟨⟨by simp, by simpa using a3, by simp only [arg_z, arg_s, D.toI_I]; omega, fun t' ht' => ?_⟩, fun i9 i10 _ _ hJ => ?_⟩⟩, fun hge => fun t' ht' => ?_⟩
 ·obtain ⟨e', _⟩ := pO ht'.2.1
  simp only [arg_z, arg_s, D.toL_L] at e'
  have := a5 t' ht'
  rw [bW0 (by omega)] at this
  simp only [arg_z, arg_s, D.toI_I, Int.toNat_zero, List.drop_zero]; omega
 ·obtain ⟨c1, c2, c3, c4⟩ := hJ
  simp only [arg_z, arg_s, D.toL_L, D.toI_I] at c1 c2 c3 c4
  have hrw := row i8.toNat (by omega)
  refine ⟨fun hlt2 => ⟨c1, fun _ n11 => ⟨trivial, fun b12 b13 hk n14 => ?_⟩⟩, fun hge => ?_⟩
  ·have hlt2 : i10 < ((((l4.getD i8.toNat default)).toL.getD 1 default)).toL.length := hlt2
   have key : ∀ i9', i9' = i9 + ((if b12 then 1 else 0) + (if b13 then 1 else 0)) → bU.I1 [.N n0, .V v1, .L l2, .V v3, .L l4, .V v5, .L l6, .I i8, .I i9', .I (IntKind.i64.wrap (i10 + 1))] ∧ bU.I1M [.N n0, .V v1, .L l2, .V v3, .L l4, .V v5, .L l6, .I i8, .I i9', .I (IntKind.i64.wrap (i10 + 1))] < bU.I1M [.N n0, .V v1, .L l2, .V v3, .L l4, .V v5, .L l6, .I i8, .I i9, .I i10] := by
    intro i9' he
    rw [i64 (by omega) (by omega)]
    refine ⟨⟨by simp; omega, by simp only [arg_z, arg_s, D.toI_I]; split at he <;> split at he <;> omega, by simp only [arg_z, arg_s, D.toI_I]; split at he <;> split at he <;> omega, fun t' ht' => ?_⟩, by simp only [bU.I1M, arg_z, arg_s, D.toI_I]; omega⟩
    obtain ⟨d1, d2⟩ := c4 t' ht'
    obtain ⟨e', hr'⟩ := pO ht'.2.1
    simp only [arg_z, arg_s, D.toL_L] at e' hr'
    have hrr := hr' i8.toNat (by omega)
    rw [hrr, List.length_map] at hlt2
    simp only [arg_z, arg_s, D.toI_I]
    have hx := getD_map rO (t'.threads.getD i8.toNat []) Lt.Ins.zero (k := i10.toNat) (by omega)
    rw [← hrr] at hx
    have e1 : (i10 + 1).toNat = i10.toNat + 1 := by omega
    rw [bV7 (by omega)] at d2
    generalize (t'.threads.getD i8.toNat []).getD i10.toNat Lt.Ins.zero = x at hx d2
    have k1 := hk.1
    have k2 := hk.2
    simp only [arg_z, arg_s, D.toB_B, D.toI_I, Int.toNat_one, hx] at k1 k2
    have k1 : b12 = Lt.reads x.op := k1
    have k2 : b13 = Lt.writes x.op := k2
    rw [k1, k2] at he
    have : Lt.evI x = (if Lt.reads x.op then 1 else 0) + (if Lt.writes x.op then 1 else 0) := rfl
    rw [e1]
    exact ⟨by omega, by omega⟩
   have w1 := i64 (i := i9 + 1) (by omega) (by omega)
   have w2 := i64 (i := i9 + 1 + 1) (by omega) (by omega)
   repeat' first | exact key _ (by simp [*]; try omega) | refine And.intro ?_ ?_ | intro _
  ·have hge : ((((l4.getD i8.toNat default)).toL.getD 1 default).toL.length : Int) ≤ i10 := hge
   rw [i64 (by omega) (by omega)]
   refine ⟨⟨by simp; omega, by simp only [arg_z, arg_s, D.toI_I, D.toL_L]; omega, by simp; exact c2, ?_, fun t' ht' => ?_⟩, by simp only [bU.I0M, arg_z, arg_s, D.toI_I, D.toL_L]; omega⟩
   ·obtain ⟨d1, d2⟩ := c4 t ht
    have := hr i8.toNat (by omega)
    rw [this, List.length_map] at hge hrw
    simp only [arg_z, arg_s, D.toI_I]; omega
   ·obtain ⟨d1, d2⟩ := c4 t' ht'
    obtain ⟨e', hr'⟩ := pO ht'.2.1
    simp only [arg_z, arg_s, D.toL_L] at e' hr'
    rw [hr' i8.toNat (by omega), List.length_map] at hge
    rw [bV8 (by omega)] at d2
    simp only [arg_z, arg_s, D.toI_I]
    rw [show (i8 + 1).toNat = i8.toNat + 1 by omega]; omega
 ·obtain ⟨e', _⟩ := pO ht'.2.1
  simp only [arg_z, arg_s, D.toL_L] at e'
  have := a5 t' ht'
  rw [bW1 (by omega)] at this
  simp only [arg_z, arg_s, D.toI_I]
  show i7 = Lt.events t'
  unfold Lt.events; omega
theorem dX.pure : dX.Pure := by
 intro n0 v1 l2 v3 l4 v5 l6 _ _ _ hp
 obtain ⟨t, ht⟩ := hp
 have len := fun t ht => aT4 (l := [.N n0, .V v1, .L l2, .V v3, .L l4, .V v5, .L l6]) (t := t) ht
 simp only [arg_z, arg_s, D.toL_L] at len
 have e0 : ∀ t : Lt.Test, (t.threads = []) ↔ t.threads.length = 0 := fun t => by simp
 have one : ∀ c : Int, (∀ t, eH [.N n0, .V v1, .L l2, .V v3, .L l4, .V v5, .L l6] t → Lt.sizes t = c) → dX.sig.post [.N n0, .V v1, .L l2, .V v3, .L l4, .V v5, .L l6, .I c] := fun c h t ht => (h t ht).symm
 refine ⟨fun h => one _ fun t ht => ?_, fun h => ⟨fun h1 => one _ fun t ht => ?_, fun h1 => ⟨fun h2 => one _ fun t ht => ?_, fun h2 => ⟨fun h3 => one _ fun t ht => ?_, fun h3 => ⟨⟨by simp, by simp, fun t ht => ?_⟩, fun i7 _ hI => ?_⟩⟩⟩⟩⟩
 ·have := len t ht; rw [Lt.sizes, if_pos ((e0 t).2 (by omega))]
 ·have := len t ht; rw [Lt.sizes, if_neg (by rw [e0]; omega), if_pos (by omega)]
 ·have := len t ht; rw [Lt.sizes, if_neg (by rw [e0]; omega), if_pos (by omega)]
 ·have := len t ht; rw [Lt.sizes, if_neg (by rw [e0]; omega), if_pos (by omega)]
 ·have := len t ht; exact ⟨by rw [Lt.sizes, if_neg (by rw [e0]; omega), if_neg (by omega)]; simp, fun k hk => absurd hk (by simp)⟩
 ·obtain ⟨a1, a2, a3⟩ := hI
  simp only [arg_z, arg_s, D.toL_L, D.toI_I] at a1 a2 a3
  refine ⟨fun hlt => ⟨a1, fun _ => ⟨fun h8 => one _ fun t ht => ?_, fun h8 => ?_⟩⟩, fun hge => ⟨⟨t, ht, ?_, ?_⟩, fun i8 h8 _ => ⟨fun h => one _ fun t ht => ?_, fun h => one _ fun t ht => ?_⟩⟩⟩
  ·have h8 : 8 < ((((l4.getD i7.toNat default)).toL.getD 1 default).toL.length : Int) := h8
   have := len t ht
   rw [(pO (L := l4) ht.2.1).2 i7.toNat (by omega), List.length_map] at h8
   rw [(a3 t ht).1, kW t.threads [] (by omega), Lt.vN, if_pos (by simp only [List.any_cons, Bool.or_eq_true, decide_eq_true_eq]; left; omega)]
  ·have h8 : ((((l4.getD i7.toNat default)).toL.getD 1 default).toL.length : Int) ≤ 8 := h8
   rw [i64 (by omega) (by omega)]
   refine ⟨⟨by simp; omega, by simp only [arg_z, arg_s, D.toI_I, D.toL_L]; omega, fun t ht => ?_⟩, by simp only [dX.I0M, arg_z, arg_s, D.toI_I, D.toL_L]; omega⟩
   have := len t ht
   rw [(pO (L := l4) ht.2.1).2 i7.toNat (by omega), List.length_map] at h8
   obtain ⟨b1, b2⟩ := a3 t ht
   simp only [arg_z, arg_s, D.toI_I]
   refine ⟨?_, fun k hk => ?_⟩
   ·rw [b1, kW t.threads [] (by omega), show (i7 + 1).toNat = i7.toNat + 1 by omega]
    have e8 : ¬ 8 < (t.threads.getD i7.toNat []).length := by omega
    simp only [Lt.vN, List.any_cons, e8, decide_false, Bool.false_or]
   ·by_cases e : (k : Int) < i7
    ·exact b2 k e
    ·have : k = i7.toNat := by omega
     subst this; omega
  ·have := len t ht; omega
  ·intro x hx
   obtain ⟨k, hk, rfl⟩ := List.mem_iff_getElem.1 hx
   have := len t ht
   have := (a3 t ht).2 k (by omega)
   simpa [List.getD, hk] using this
  ·have := len t ht
   have hE : i8 = Lt.events t := h8 t ht
   rw [(a3 t ht).1, List.drop_eq_nil_of_le (by omega), Lt.vN, if_neg (by simp), if_pos (by omega)]
  ·have := len t ht
   have hE : i8 = Lt.events t := h8 t ht
   rw [(a3 t ht).1, List.drop_eq_nil_of_le (by omega), Lt.vN, if_neg (by simp), if_neg (by omega)]
theorem cA5 {p : Option Tx} {x : Tx × Nat} {r : List (Tx × Nat)} (h : Lt.jW x.1 = false) : Lt.kH p (x :: r) = 11 := by cases p <;> simp [Lt.kH, h]
theorem cA6 {p : Option Tx} {x : Tx × Nat} {r : List (Tx × Nat)} (h : Lt.jW x.1 = true) (h' : ∀ q, p = some q → (Lt.nY x.1 q || x.1 == q) = false) : Lt.kH p (x :: r) = Lt.kH (some x.1) r := by
 cases p with
 | none => simp [Lt.kH, h]
 | some q => have := h' q rfl; simp_all [Lt.kH]
theorem cA7 {q : Tx} {x : Tx × Nat} {r : List (Tx × Nat)} (h : Lt.jW x.1 = true) (h' : (Lt.nY x.1 q || x.1 == q) = true) : Lt.kH (some q) (x :: r) = 16 := by simp_all [Lt.kH]
theorem bR6 {t : Lt.Test} {p : Option (Int × Int × Nat)} {x : Int × Int × Nat} {r : List (Int × Int × Nat)} (h : Lt.qL t x ≠ 0) : Lt.mF t p (x :: r) = Lt.qL t x := by cases p <;> simp [Lt.mF, h]
theorem bR7 {t : Lt.Test} {p : Option (Int × Int × Nat)} {x : Int × Int × Nat} {r : List (Int × Int × Nat)} (h : Lt.qL t x = 0) (h' : ∀ q, p = some q → Lt.before q x = true) : Lt.mF t p (x :: r) = Lt.mF t (some x) r := by
 cases p with
 | none => simp [Lt.mF, h]
 | some q => have := h' q rfl; simp_all [Lt.mF]
theorem bR8 {t : Lt.Test} {q x : Int × Int × Nat} {r : List (Int × Int × Nat)} (h : Lt.qL t x = 0) (h' : Lt.before q x = false) : Lt.mF t (some q) (x :: r) = 16 := by simp_all [Lt.mF]
theorem cG9 {t : Lt.Test} (h : Lt.sizes t = 0) : t.locs.length ≤ 8 ∧ t.threads.length ≤ 4 ∧ t.asks.length ≤ 40 ∧ ∀ x ∈ t.threads, x.length ≤ 8 := by
 unfold Lt.sizes at h
 split at h
 ·omega
 split at h
 ·omega
 rename_i h1
 refine ⟨by omega, by omega, by omega, fun x hx => ?_⟩
 unfold Lt.vN at h
 split at h
 ·omega
 ·rename_i h2
  simp only [List.any_eq_true, decide_eq_true_eq, not_exists, not_and] at h2
  have := h2 x hx; omega
theorem aD5 (n : Tx) : (bx n).toList = n := by rw [ByteArray.toList_eq]; rfl
theorem bA4 {a b : Tx} : bx a = bx b ↔ a = b := ⟨bA5, fun h => by rw [h]⟩
theorem aQ.pure : aQ.Pure := by
 intro n0 v1 l2 v3 l4 v5 l6 _ _ _ hp
 obtain ⟨t0, ht0⟩ := hp
 have len := fun t ht => aT4 (l := [.N n0, .V v1, .L l2, .V v3, .L l4, .V v5, .L l6]) (t := t) ht
 simp only [arg_z, arg_s, D.toL_L] at len
 have rL : ∀ t, eH [.N n0, .V v1, .L l2, .V v3, .L l4, .V v5, .L l6] t → ∀ i : Nat, i < t.locs.length → l2.getD i default = bD (t.locs.getD i ([], 0)) := fun t ht i hi => by
  have h : l2 = t.locs.map bD := ht.1
  rw [h]; exact getD_map _ _ _ hi
 have rA : ∀ t, eH [.N n0, .V v1, .L l2, .V v3, .L l4, .V v5, .L l6] t → ∀ i : Nat, i < t.asks.length → l6.getD i default = jC (t.asks.getD i (0, 0, 0)) := fun t ht i hi => by
  have h : l6 = t.asks.map jC := ht.2.2
  rw [h]; exact getD_map _ _ _ hi
 have one : ∀ c : Int, (∀ t, eH [.N n0, .V v1, .L l2, .V v3, .L l4, .V v5, .L l6] t → Lt.check t = c) → aQ.sig.post [.N n0, .V v1, .L l2, .V v3, .L l4, .V v5, .L l6, .I c] := fun c h t ht => (h t ht).symm
 refine ⟨⟨t0, ht0⟩, fun i7 h7 _ => ⟨fun h => one _ fun t ht => ?_, fun h => ⟨⟨by simp, by simp, fun t ht => ?_⟩, fun i8 _ hI => ?_⟩⟩⟩
 ·have := h7 t ht
  have : i7 = Lt.sizes t := this
  rw [Lt.check, if_pos (by omega), this]
 ·have : i7 = Lt.sizes t := h7 t ht
  rw [Lt.check, if_neg (by omega)]; rfl
 obtain ⟨z1, z2, z3, z4⟩ := cG9 (t := t0) (by have : i7 = Lt.sizes t0 := h7 t0 ht0; omega)
 have zl := len t0 ht0
 obtain ⟨a1, a2, a3⟩ := hI
 simp only [arg_z, arg_s, D.toL_L, D.toI_I] at a1 a2 a3
 refine ⟨fun hlt => ⟨a1, fun _ n9 => ⟨trivial, fun b10 h10 => ⟨fun hb => one _ fun t ht => ?_, fun hb => ?_⟩⟩⟩, fun hge => ⟨⟨by simp, by simp, fun t ht => ?_⟩, fun i9 _ hJ => ?_⟩⟩
 ·have := len t ht
  have h10 : b10 = Lt.jW (tx (((l2.getD i8.toNat default).toL.getD 0 default).toS)) := h10
  rw [rL t ht i8.toNat (by omega)] at h10
  have h10 : b10 = Lt.jW (t.locs.getD i8.toNat ([], 0)).1 := h10
  rw [a3 t ht, kW t.locs ([], 0) (by omega), Lt.vZ, cA5 (by rw [← h10, hb])]; rfl
 ·have go : (∀ t, eH [.N n0, .V v1, .L l2, .V v3, .L l4, .V v5, .L l6] t → 0 < i8 → (Lt.nY (t.locs.getD i8.toNat ([], 0)).1 (t.locs.getD (i8.toNat - 1) ([], 0)).1 || (t.locs.getD i8.toNat ([], 0)).1 == (t.locs.getD (i8.toNat - 1) ([], 0)).1) = false) →
    aQ.I0 [.N n0, .V v1, .L l2, .V v3, .L l4, .V v5, .L l6, .I (IntKind.i64.wrap (i8 + 1))] ∧ aQ.I0M [.N n0, .V v1, .L l2, .V v3, .L l4, .V v5, .L l6, .I (IntKind.i64.wrap (i8 + 1))] < aQ.I0M [.N n0, .V v1, .L l2, .V v3, .L l4, .V v5, .L l6, .I i8] := by
   intro hg
   rw [i64 (by omega) (by omega)]
   refine ⟨⟨by simp; omega, by simp only [arg_z, arg_s, D.toI_I, D.toL_L]; omega, fun t ht => ?_⟩, by simp only [aQ.I0M, arg_z, arg_s, D.toI_I, D.toL_L]; omega⟩
   have := len t ht
   have h10 : b10 = Lt.jW (tx (((l2.getD i8.toNat default).toL.getD 0 default).toS)) := h10
   rw [rL t ht i8.toNat (by omega)] at h10
   have h10 : b10 = Lt.jW (t.locs.getD i8.toNat ([], 0)).1 := h10
   simp only [arg_z, arg_s, D.toI_I]
   have e1 : Lt.kH (aA1 t.locs i8.toNat) (t.locs.drop i8.toNat) = Lt.kH (aA1 t.locs (i8 + 1).toNat) (t.locs.drop (i8 + 1).toNat) := by
    rw [kW t.locs ([], 0) (by omega), show (i8 + 1).toNat = i8.toNat + 1 by omega, cA6 (by rw [← h10, hb]) (fun q hq => ?_)]
    ·rfl
    ·unfold aA1 at hq
     split at hq
     ·cases hq
     ·cases hq; exact hg t ht (by omega)
   rw [a3 t ht, Lt.vZ, e1]; rfl
  refine ⟨fun h0 => ?_, fun h0 => go fun t ht h => absurd h (by omega)⟩
  have w := i64 (i := i8 - 1) (by omega) (by omega)
  rw [w]
  refine ⟨by omega, fun _ => ⟨by omega, fun _ => ⟨fun hc => one _ fun t ht => ?_, fun hc => go fun t ht _ => ?_⟩⟩⟩
  ·have := len t ht
   have h10 : b10 = Lt.jW (tx (((l2.getD i8.toNat default).toL.getD 0 default).toS)) := h10
   rw [rL t ht i8.toNat (by omega)] at h10 hc
   rw [show (i8 - 1).toNat = i8.toNat - 1 by omega, rL t ht (i8.toNat - 1) (by omega)] at hc
   have h10 : b10 = Lt.jW (t.locs.getD i8.toNat ([], 0)).1 := h10
   have hc : Op.bytesLess (bx (t.locs.getD i8.toNat ([], 0)).1).toList (bx (t.locs.getD (i8.toNat - 1) ([], 0)).1).toList = true ∨ bx (t.locs.getD i8.toNat ([], 0)).1 = bx (t.locs.getD (i8.toNat - 1) ([], 0)).1 := hc
   rw [aD5, aD5, bA4] at hc
   rw [a3 t ht, kW t.locs ([], 0) (by omega), show aA1 t.locs i8.toNat = some (t.locs.getD (i8.toNat - 1) ([], 0)).1 from if_neg (by omega), Lt.vZ, cA7 (by rw [← h10, hb]) (by simpa [Lt.nY] using hc)]; rfl
  ·have := len t ht
   rw [rL t ht i8.toNat (by omega), show (i8 - 1).toNat = i8.toNat - 1 by omega, rL t ht (i8.toNat - 1) (by omega)] at hc
   have hc : Op.bytesLess (bx (t.locs.getD i8.toNat ([], 0)).1).toList (bx (t.locs.getD (i8.toNat - 1) ([], 0)).1).toList = false ∧ bx (t.locs.getD i8.toNat ([], 0)).1 ≠ bx (t.locs.getD (i8.toNat - 1) ([], 0)).1 := hc
   rw [aD5, aD5, ne_eq, bA4] at hc
   simpa [Lt.nY] using hc
 ·have := len t ht
  rw [a3 t ht, List.drop_eq_nil_of_le (by omega)]
  simp [Lt.vZ, Lt.kH]
 obtain ⟨b1, b2, b3⟩ := hJ
 simp only [arg_z, arg_s, D.toL_L, D.toI_I] at b1 b2 b3
 refine ⟨fun hlt => ⟨b1, fun _ => ⟨⟨by simp, fun t ht => ?_⟩, fun i10 _ hK => ?_⟩⟩, fun hge => ⟨⟨by simp, by simp, fun t ht => ?_⟩, fun i10 _ hK => ?_⟩⟩
 ·have := len t ht
  refine ⟨by simp, ?_⟩
  rw [b3 t ht, kW t.threads [] (by omega)]
  simp only [Lt.yR, Lt.yS, Lt.aD8, arg_z, arg_s, D.toI_I, Int.toNat_zero, List.drop_zero]
  split <;> simp_all
 ·obtain ⟨c1, c2⟩ := hK
  simp only [arg_z, arg_s, D.toL_L, D.toI_I] at c1 c2
  have row : ∀ t, eH [.N n0, .V v1, .L l2, .V v3, .L l4, .V v5, .L l6] t → ((l4.getD i9.toNat default).toL.getD 1 default).toL = (t.threads.getD i9.toNat []).map rO := fun t ht => by
   have := len t ht; exact (pO (L := l4) ht.2.1).2 i9.toNat (by omega)
  have z8 : ((l4.getD i9.toNat default).toL.getD 1 default).toL.length ≤ 8 := by
   rw [row t0 ht0, List.length_map]
   have hk : i9.toNat < t0.threads.length := by omega
   have := z4 _ (List.getElem_mem hk)
   simpa [List.getD, hk] using this
  refine ⟨fun hlt2 => ⟨c1, fun _ n11 => ⟨trivial, fun i12 h12 _ => ?_⟩⟩, fun hge => ?_⟩
  ·have hlt2 : i10 < ((l4.getD i9.toNat default).toL.getD 1 default).toL.length := hlt2
   have key : ∀ t, eH [.N n0, .V v1, .L l2, .V v3, .L l4, .V v5, .L l6] t → Lt.check t = (if i12 ≠ 0 then i12 else Lt.aD8 t ((t.threads.getD i9.toNat []).drop (i10.toNat + 1)) (t.threads.drop (i9.toNat + 1))) := fun t ht => by
    have hl := len t ht
    obtain ⟨d1, d2⟩ := c2 t ht
    have hr := row t ht
    rw [hr, List.length_map] at hlt2 z8
    have hx := getD_map rO (t.threads.getD i9.toNat []) Lt.Ins.zero (k := i10.toNat) (by omega)
    rw [← hr] at hx
    have h12 := h12
    rw [show (1 : Int).toNat = 1 from rfl, hx] at h12
    rw [d2, kW (t.threads.getD i9.toNat []) Lt.Ins.zero (by omega)]
    have hlen : (((t.threads.getD i9.toNat []).drop (i10.toNat + 1)).length : Int) = (t.threads.getD i9.toNat []).length - i10 - 1 := by rw [List.length_drop]; omega
    rw [hr, List.length_map] at h12
    generalize (t.threads.getD i9.toNat []).getD i10.toNat Lt.Ins.zero = x at h12
    rw [i64 (i := ((t.threads.getD i9.toNat []).length : Int) - i10) (by omega) (by omega), i64 (by omega) (by omega)] at h12
    have h12 : i12 = Lt.oN l2.length x ((t.threads.getD i9.toNat []).length - i10 - 1) := h12
    rw [← hlen, hl.1] at h12
    simp only [Lt.aD8, Lt.wB, ← h12]
    split <;> simp_all
   refine ⟨fun h => one _ fun t ht => by rw [key t ht, if_pos h], fun h => ?_⟩
   rw [i64 (by omega) (by omega)]
   refine ⟨⟨by simp; omega, fun t ht => ?_⟩, by simp only [aQ.I2M, arg_z, arg_s, D.toI_I, D.toL_L]; omega⟩
   rw [row t ht, List.length_map] at hlt2
   simp only [arg_z, arg_s, D.toI_I]
   rw [show (i10 + 1).toNat = i10.toNat + 1 by omega]
   exact ⟨by omega, by rw [key t ht, if_neg (by omega)]⟩
  ·have hge : (((l4.getD i9.toNat default).toL.getD 1 default).toL.length : Int) ≤ i10 := hge
   rw [i64 (by omega) (by omega)]
   refine ⟨⟨by simp; omega, by simp only [arg_z, arg_s, D.toI_I, D.toL_L]; omega, fun t ht => ?_⟩, by simp only [aQ.I1M, arg_z, arg_s, D.toI_I, D.toL_L]; omega⟩
   rw [row t ht, List.length_map] at hge
   obtain ⟨d1, d2⟩ := c2 t ht
   rw [List.drop_eq_nil_of_le (by omega)] at d2
   simp only [arg_z, arg_s, D.toI_I]
   rw [d2, show (i9 + 1).toNat = i9.toNat + 1 by omega]; rfl
 ·have := len t ht
  rw [b3 t ht, List.drop_eq_nil_of_le (by omega)]
  simp [Lt.yR, Lt.yS, aA0]
 ·obtain ⟨c1, c2, c3⟩ := hK
  simp only [arg_z, arg_s, D.toL_L, D.toI_I] at c1 c2 c3
  refine ⟨fun hlt => ⟨c1, fun _ n11 => ⟨trivial, fun i12 h12 _ => ?_⟩⟩, fun hge => one _ fun t ht => ?_⟩
  ·have hA : ∀ t, eH [.N n0, .V v1, .L l2, .V v3, .L l4, .V v5, .L l6] t → i12 = Lt.qL t (t.asks.getD i10.toNat (0, 0, 0)) := fun t ht => by
    have hl := len t ht
    have h12 := h12 t ht
    rw [rA t ht i10.toNat (by omega)] at h12
    exact h12
   have go : (∀ t, eH [.N n0, .V v1, .L l2, .V v3, .L l4, .V v5, .L l6] t → 0 < i10 → Lt.before (t.asks.getD (i10.toNat - 1) (0, 0, 0)) (t.asks.getD i10.toNat (0, 0, 0)) = true) → i12 = 0 →
     aQ.I3 [.N n0, .V v1, .L l2, .V v3, .L l4, .V v5, .L l6, .I (IntKind.i64.wrap (i10 + 1))] ∧ aQ.I3M [.N n0, .V v1, .L l2, .V v3, .L l4, .V v5, .L l6, .I (IntKind.i64.wrap (i10 + 1))] < aQ.I3M [.N n0, .V v1, .L l2, .V v3, .L l4, .V v5, .L l6, .I i10] := by
    intro hg h0
    rw [i64 (by omega) (by omega)]
    refine ⟨⟨by simp; omega, by simp only [arg_z, arg_s, D.toI_I, D.toL_L]; omega, fun t ht => ?_⟩, by simp only [aQ.I3M, arg_z, arg_s, D.toI_I, D.toL_L]; omega⟩
    have hl := len t ht
    simp only [arg_z, arg_s, D.toI_I]
    rw [c3 t ht, kW t.asks (0, 0, 0) (by omega), show (i10 + 1).toNat = i10.toNat + 1 by omega, bR7 (by rw [← hA t ht, h0]) (fun q hq => ?_)]
    ·rfl
    ·unfold aA0 at hq
     split at hq
     ·cases hq
     ·cases hq; exact hg t ht (by omega)
   refine ⟨fun h => one _ fun t ht => ?_, fun h => ⟨fun h0 => ?_, fun h0 => go (fun t ht h => absurd h (by omega)) h⟩⟩
   ·have hl := len t ht
    rw [c3 t ht, kW t.asks (0, 0, 0) (by omega), bR6 (by rw [← hA t ht]; exact h), hA t ht]
   ·have w := i64 (i := i10 - 1) (by omega) (by omega)
    rw [w]
    refine ⟨by omega, fun _ => ⟨by omega, fun _ => ⟨trivial, fun b13 h13 => ?_⟩⟩⟩
    have hB : ∀ t, eH [.N n0, .V v1, .L l2, .V v3, .L l4, .V v5, .L l6] t → b13 = Lt.before (t.asks.getD (i10.toNat - 1) (0, 0, 0)) (t.asks.getD i10.toNat (0, 0, 0)) := fun t ht => by
     have hl := len t ht
     have h13 := h13
     rw [rA t ht i10.toNat (by omega), show (i10 - 1).toNat = i10.toNat - 1 by omega, rA t ht (i10.toNat - 1) (by omega)] at h13
     exact h13
    refine ⟨fun hb => one _ fun t ht => ?_, fun hb => go (fun t ht _ => by rw [← hB t ht, hb]) h⟩
    have hl := len t ht
    rw [c3 t ht, kW t.asks (0, 0, 0) (by omega), show aA0 t.asks i10.toNat = some (t.asks.getD (i10.toNat - 1) (0, 0, 0)) from if_neg (by omega), bR8 (by rw [← hA t ht, h]) (by rw [← hB t ht, hb])]
  ·have := len t ht
   rw [c3 t ht, List.drop_eq_nil_of_le (by omega)]
   cases aA0 t.asks i10.toNat <;> rfl
end Go.Vc