/-
 Locations of a draft: plain conditions.
 The test that was read: plain conditions.
 Parse: plain conditions.
-/
import Derived.Test.YtfhmokjjjnjhjaaGreatDoorReadt
import Derived.Test.YtfhmokjjjnjhjaaGreatDoorLexb
set_option linter.unusedVariables false
set_option linter.unusedSimpArgs false
set_option linter.unnecessarySimpa false
open _root_.Go.IntKind (wrap)
namespace Go.Vc
set_option linter.unusedSimpArgs false
set_option maxRecDepth 10000
theorem oM.pure : oM.Pure := cName.pure
theorem pK.pure : pK.Pure := cName.pure
theorem iI.pure : iI.Pure := dK.pure
theorem iQ.pure : iQ.Pure := dK.pure
theorem oW.pure : oW.Pure := mP.pure
theorem dAt.pure : dAt.Pure := by
 intro s0 n1 v2 l3 v4 v5 _ _ hp n6
 refine ⟨hp, fun i7 h7 _ => fun q hq => ?_⟩
 have h7 : i7 = Lt.idxBy (fun i => i.1 == tx s0) q := h7 q hq
 show kZ i7 0 = max (Lt.idxBy (fun i => i.1 == tx s0) q) 0
 rw [h7]; unfold kZ; omega
theorem kU.pure : kU.Pure := by
 intro s0 n1 v2 l3 _ _ hp n4
 have hp : l3.length ≤ 1000000000 := hp
 have e0 : s0 = ⟨#[]⟩ ↔ tx s0 = [] := ⟨fun e => by rw [e]; rfl, fun e => sZ (by rw [e]; rfl)⟩
 refine ⟨fun h => ⟨hp, fun b5 h5 => ⟨fun hb v6 => ⟨by simp; omega, fun _ v7 => fun q hq => ?_⟩, fun hb q hq => ?_⟩⟩, fun h q hq => ?_⟩
 ·have h5 : b5 = q.any (fun i => i.1 == tx s0) := h5 q hq
  have hq : l3 = q.map bD := hq
  show l3 ++ [_] = (Lt.iT q (tx s0)).map bD
  rw [Lt.iT, if_neg (by rw [← h5, hb, ← e0]; simp [h]), List.map_append, hq]
  simp [bD]
 ·have h5 : b5 = q.any (fun i => i.1 == tx s0) := h5 q hq
  show l3 = (Lt.iT q (tx s0)).map bD
  rw [Lt.iT, if_pos (.inr (by rw [← h5, hb]))]; exact hq
 ·show l3 = (Lt.iT q (tx s0)).map bD
  rw [Lt.iT, if_pos (.inl (e0.1 h))]; exact hq
theorem bH4 {L : LD} {M : List (List (Lt.Ins × Tx))} (h : oZ L M) : L.length = M.length ∧ ∀ i, i < M.length → ((L.getD i default).toL.getD 1 default).toL = (M.getD i []).map nP := by
 refine ⟨wV h, ?_⟩
 induction L generalizing M with
 | nil => cases M with
  | nil => intro i hi; simp at hi
  | cons => exact h.elim
 | cons r L ih => cases M with
  | nil => exact h.elim
  | cons m M =>
   obtain ⟨⟨v, rfl⟩, h2⟩ := h
   intro i hi
   cases i with
   | zero => rfl
   | succ i => simpa using ih h2 i (by simpa using hi)
theorem yF {α : Type} (m : List α) (d : α) {k : Nat} (h : k < m.length) : m.take (k + 1) = m.take k ++ [m.getD k d] := by
 rw [List.take_add_one]; simp [List.getD, h]
theorem cC9 {T : List (List (Lt.Ins × Tx))} {i : Nat} (h : i < T.length) : nmT (T.take (i + 1)) = nmT (T.take i) ++ (T.getD i []).map (·.2) := by
 rw [yF T [] h]; simp [nmT]
theorem aM3 (n : List Tx) (q : List (Tx × Nat)) : (n.foldl Lt.iT q).length ≤ q.length + n.length := by
 induction n generalizing q with
 | nil => simp
 | cons a n ih =>
  have : (Lt.iT q a).length ≤ q.length + 1 := by unfold Lt.iT; split <;> simp
  have := ih (Lt.iT q a)
  simp only [List.foldl_cons, List.length_cons]; omega
theorem cC7 (T : List (List (Lt.Ins × Tx))) : (nmT T).length ≤ (T.map fun t => t.length + 1).sum := by
 induction T with
 | nil => simp [nmT]
 | cons a T ih =>
  have : nmT (a :: T) = a.map (·.2) ++ nmT T := rfl
  simp only [this, List.length_append, List.length_map, List.map_cons, List.sum_cons]; omega
theorem cC8 {T : List (List (Lt.Ins × Tx))} {i k : Nat} (h : i < T.length) : (nmT (T.take i) ++ ((T.getD i []).take k).map (·.2)).length ≤ (nmT T).length := by
 have h1 : T = T.take i ++ (T.getD i [] :: T.drop (i + 1)) := by rw [← kW T [] h, List.take_append_drop]
 have h2 : nmT T = nmT (T.take i) ++ ((T.getD i []).map (·.2) ++ nmT (T.drop (i + 1))) := by
  conv => lhs; rw [h1]
  simp [nmT]
 rw [h2]
 simp only [List.length_append, List.length_map, List.length_take]; omega
theorem bT.pure : bT.Pure := by
 intro n0 v1 l2 v3 l4 v5 l6 v7 l8 l9 _ _ _ _ hp v10
 obtain ⟨d0, hd0, hs0⟩ := hp
 have rows : ∀ d : Lt.bI, dP [.N n0, .V v1, .L l2, .V v3, .L l4, .V v5, .L l6, .V v7, .L l8, .L l9] 1 d → l2 = d.inits.map bD ∧ l6 = d.asks.map fB ∧ oZ l4 d.threads := fun d h => ⟨h.1, h.2.1, aL4 h.2.2⟩
 obtain ⟨y1, y2, y3⟩ := rows d0 hd0
 have hz : iF d0 ≤ 100000000 := hs0
 unfold iF at hz
 have hn := cC7 d0.threads
 have sm := aX2 hs0
 have c2 : l2.length = d0.inits.length := by rw [y1, List.length_map]
 have c4 := wV y3
 have c6 : l6.length = d0.asks.length := by rw [y2, List.length_map]
 refine ⟨by show l2.length ≤ 1000000000; omega, fun v11 l12 hC _ v13 n14 => ⟨?_, ⟨by simp, by simp, fun d hd => ?_⟩, fun i15 v16 l17 _ _ hI => ?_⟩⟩
 ·show D.L _ = D.L _
  rcases hd0.2.2 with ⟨e1, e2, e3, e4⟩ | ⟨p, q, e1, e2, e3, e4⟩
  ·have e1 : l4 = [] := e1
   rw [e1]; rfl
  ·have e4 : l4 = l9 ++ [.L [.V v7, .L l8]] := e4
   exact congrArg D.L (by rw [e4, List.take_of_length_le (by simp)])
 ·have hC : l12 = l2 := hC
  simp [nmT, hC, (rows d hd).1]
 obtain ⟨a1, a2, a3⟩ := hI
 simp only [arg_z, arg_s, D.toL_L, D.toI_I] at a1 a2 a3
 refine ⟨fun hlt => ⟨a1, fun _ => ⟨⟨by simp, fun d hd => ?_⟩, fun i18 v19 l20 _ _ hJ => ?_⟩⟩, fun hge => ⟨⟨by simp, by simp, fun d hd => ?_⟩, fun i18 v19 l20 _ _ hK => ?_⟩⟩
 ·have := a3 d hd
  simp only [arg_z, arg_s, D.toI_I, D.toL_L, Int.toNat_zero, List.take_zero, List.map_nil, List.append_nil]
  exact ⟨by simp, this⟩
 ·obtain ⟨b1, b2⟩ := hJ
  simp only [arg_z, arg_s, D.toL_L, D.toI_I] at b1 b2
  have row : ∀ d : Lt.bI, dP [.N n0, .V v1, .L l2, .V v3, .L l4, .V v5, .L l6, .V v7, .L l8, .L l9] 1 d → i15.toNat < d.threads.length ∧ ((l4.getD i15.toNat default).toL.getD 1 default).toL = (d.threads.getD i15.toNat []).map nP := fun d hd => by
   have := bH4 (rows d hd).2.2
   exact ⟨by omega, this.2 _ (by omega)⟩
  have h20 : l20.length ≤ 1000000000 := by
   obtain ⟨g1, g2⟩ := b2 d0 hd0
   have h1 := aM3 (nmT (d0.threads.take i15.toNat) ++ ((d0.threads.getD i15.toNat []).take i18.toNat).map (·.2)) d0.inits
   have h2 := cC8 (T := d0.threads) (i := i15.toNat) (k := i18.toNat) (by omega)
   rw [g2, List.length_map]; omega
  have r0 := row d0 hd0
  have l8' : (d0.threads.getD i15.toNat []).length ≤ 100000000 := by
   have := sm.2.2.2 _ (List.getElem_mem r0.1)
   simpa [List.getD, r0.1] using this
  refine ⟨fun hlt2 => ⟨b1, fun _ n21 => ⟨h20, fun v22 l23 hA _ => ?_⟩⟩, fun hge => ?_⟩
  ·have hlt2 : i18 < ((l4.getD i15.toNat default).toL.getD 1 default).toL.length := hlt2
   have hl0 := hlt2
   rw [r0.2, List.length_map] at hl0
   rw [i64 (by omega) (by omega)]
   refine ⟨⟨by simp; omega, fun d hd => ?_⟩, by simp only [bT.I1M, arg_z, arg_s, D.toI_I, D.toL_L]; omega⟩
   obtain ⟨g1, g2⟩ := b2 d hd
   obtain ⟨f1, f2⟩ := row d hd
   have hA := hA _ g2
   rw [show (1 : Int).toNat = 1 from rfl, f2] at hA
   rw [f2, List.length_map] at hlt2
   have hx := getD_map nP (d.threads.getD i15.toNat []) (Lt.Ins.zero, []) (k := i18.toNat) (by omega)
   rw [hx] at hA
   simp only [arg_z, arg_s, D.toI_I, D.toL_L]
   refine ⟨by omega, ?_⟩
   rw [show (i18 + 1).toNat = i18.toNat + 1 by omega, yF (d.threads.getD i15.toNat []) (Lt.Ins.zero, []) (by omega), List.map_append, ← List.append_assoc, List.foldl_append]
   exact hA
  ·have hge : (((l4.getD i15.toNat default).toL.getD 1 default).toL.length : Int) ≤ i18 := hge
   rw [i64 (by omega) (by omega)]
   refine ⟨⟨by simp; omega, by simp only [arg_z, arg_s, D.toI_I, D.toL_L]; omega, fun d hd => ?_⟩, by simp only [bT.I0M, arg_z, arg_s, D.toI_I, D.toL_L]; omega⟩
   obtain ⟨g1, g2⟩ := b2 d hd
   obtain ⟨f1, f2⟩ := row d hd
   rw [f2, List.length_map] at hge
   simp only [arg_z, arg_s, D.toI_I, D.toL_L]
   rw [show (i15 + 1).toNat = i15.toNat + 1 by omega, cC9 f1, g2, List.take_of_length_le (l := d.threads.getD i15.toNat []) (by omega)]
 ·have := wV (rows d hd).2.2
  have h3 := a3 d hd
  rw [List.take_of_length_le (by omega)] at h3
  simp only [arg_z, arg_s, D.toI_I, D.toL_L, Int.toNat_zero, List.take_zero, List.map_nil, List.foldl_nil]
  exact h3
 ·obtain ⟨b1, b2, b3⟩ := hK
  simp only [arg_z, arg_s, D.toL_L, D.toI_I] at b1 b2 b3
  have h20 : l20.length ≤ 1000000000 := by
   have h1 := aM3 ((d0.asks.take i18.toNat).map (·.loc)) ((nmT d0.threads).foldl Lt.iT d0.inits)
   have h2 := aM3 (nmT d0.threads) d0.inits
   have h3 : ((d0.asks.take i18.toNat).map (·.loc)).length ≤ d0.asks.length := by rw [List.length_map, List.length_take]; omega
   rw [b3 d0 hd0, List.length_map]; omega
  refine ⟨fun hlt => ⟨b1, fun _ n21 => ⟨h20, fun v22 l23 hA _ => ?_⟩⟩, fun hge => ⟨⟨h20, _, b3 d0 hd0⟩, fun l21 hS _ => ⟨by show l21.length ≤ 1000000000; have : l21.length = l20.length := hS.1; omega, fun d hd => ?_⟩⟩⟩
  ·rw [i64 (by omega) (by omega)]
   refine ⟨⟨by simp; omega, by simp only [arg_z, arg_s, D.toI_I, D.toL_L]; omega, fun d hd => ?_⟩, by simp only [bT.I2M, arg_z, arg_s, D.toI_I, D.toL_L]; omega⟩
   have hr := (rows d hd).2.1
   have hlt' : i18 < d.asks.length := by rw [hr, List.length_map] at hlt; exact hlt
   have hA := hA _ (b3 d hd)
   have hx := getD_map fB d.asks ⟨0, 0, 0, []⟩ (k := i18.toNat) (by omega)
   rw [← hr] at hx
   rw [hx] at hA
   simp only [arg_z, arg_s, D.toI_I, D.toL_L]
   rw [show (i18 + 1).toNat = i18.toNat + 1 by omega, yF d.asks ⟨0, 0, 0, []⟩ (by omega), List.map_append, List.foldl_append]
   exact hA
  ·have hr := (rows d hd).2.1
   have h3 := b3 d hd
   rw [List.take_of_length_le (by rw [hr, List.length_map] at hge; omega)] at h3
   exact hS.2 _ h3
end Go.Vc
namespace Go.Vc
set_option linter.unusedSimpArgs false
set_option maxRecDepth 10000
theorem cI8 {L : LD} {M : List (List Lt.Ins)} {r : D} {m : List Lt.Ins} (h : kQ L M) (hr : ∃ v : Value, r = .L [.V v, .L (m.map rO)]) : kQ (L ++ [r]) (M ++ [m]) := by
 induction L generalizing M with
 | nil => cases M with
  | nil => exact ⟨hr, trivial⟩
  | cons => exact h.elim
 | cons a L ih => cases M with
  | nil => exact h.elim
  | cons b M => exact ⟨h.1, ih h.2⟩
theorem bY2 {α : Type} (p : α → Bool) (q : List α) : Lt.idxBy p q ≤ q.length := by
 unfold Lt.idxBy
 cases h : q.findIdx? p with
 | none => show (-1 : Int) ≤ _; omega
 | some i => obtain ⟨hi, _⟩ := List.findIdx?_eq_some_iff_getElem.1 h; show (i : Int) ≤ _; omega
theorem aZ9 (L : List (Tx × Nat)) (n : Tx) : 0 ≤ Lt.oL L n ∧ Lt.oL L n ≤ L.length := by
 have := bY2 (fun i => i.1 == n) L
 unfold Lt.oL; omega
theorem cI6 (d : Lt.bI) : Lt.test d = ⟨Lt.locs d, d.threads.map fun m => m.map (cvI d), Lt.jA Lt.ltA (d.asks.map (cvA d))⟩ := rfl
theorem bG.pure : bG.Pure := by
 intro n0 v1 l2 v3 l4 v5 l6 v7 l8 l9 _ _ _ _ hp v10 v11 v12 n13
 obtain ⟨d0, hd0, hs0, ha0⟩ := hp
 have rows : ∀ d : Lt.bI, dP [.N n0, .V v1, .L l2, .V v3, .L l4, .V v5, .L l6, .V v7, .L l8, .L l9] 1 d → l2 = d.inits.map bD ∧ l6 = d.asks.map fB ∧ oZ l4 d.threads := fun d h => ⟨h.1, h.2.1, aL4 h.2.2⟩
 obtain ⟨y1, y2, y3⟩ := rows d0 hd0
 have hz : iF d0 ≤ 100000000 := hs0
 unfold iF at hz
 have sm := aX2 hs0
 have c4 := wV y3
 have c6 : l6.length = d0.asks.length := by rw [y2, List.length_map]
 refine ⟨⟨d0, hd0, hs0⟩, fun v14 l15 hL1 _ v16 v17 v18 n19 v20 v21 => ⟨⟨by simp, by simp, by simp, fun d hd => by simp [kQ]⟩, fun i22 v23 l24 _ _ hI => ?_⟩⟩
 have hL : ∀ d : Lt.bI, dP [.N n0, .V v1, .L l2, .V v3, .L l4, .V v5, .L l6, .V v7, .L l8, .L l9] 1 d → l15 = (Lt.locs d).map bD := hL1.2
 have l15s : l15.length ≤ 1000000000 := hL1.1
 have e0 : ∀ s : BA, s = ⟨#[]⟩ ↔ tx s = [] := fun s => ⟨fun e => by rw [e]; rfl, fun e => sZ (by rw [e]; rfl)⟩
 obtain ⟨a1, a2, a3, a4⟩ := hI
 simp only [arg_z, arg_s, D.toL_L, D.toI_I] at a1 a2 a3 a4
 refine ⟨fun hlt => ⟨a1, fun _ v25 => ⟨⟨by simp, by simp, fun d hd => by simp⟩, fun v26 l27 i28 _ _ hJ => ?_⟩⟩, fun hge => ⟨⟨by simp, by simp, by simp, fun d hd => by simp⟩, fun i25 v26 l27 _ _ hK => ?_⟩⟩
 ·obtain ⟨b1, b0, b2⟩ := hJ
  simp only [arg_z, arg_s, D.toL_L, D.toI_I] at b1 b0 b2
  have row : ∀ d : Lt.bI, dP [.N n0, .V v1, .L l2, .V v3, .L l4, .V v5, .L l6, .V v7, .L l8, .L l9] 1 d → i22.toNat < d.threads.length ∧ ((l4.getD i22.toNat default).toL.getD 1 default).toL = (d.threads.getD i22.toNat []).map nP := fun d hd => by
   have := bH4 (rows d hd).2.2
   exact ⟨by omega, this.2 _ (by omega)⟩
  have r0 := row d0 hd0
  have l8' : (d0.threads.getD i22.toNat []).length ≤ 100000000 := by
   have := sm.2.2.2 _ (List.getElem_mem r0.1)
   simpa [List.getD, r0.1] using this
  refine ⟨fun hlt2 => ⟨b1, fun _ n29 => ?_⟩, fun hge v29 => ?_⟩
  ·have hlt2 : i28 < ((l4.getD i22.toNat default).toL.getD 1 default).toL.length := hlt2
   have hl0 := hlt2
   rw [r0.2, List.length_map] at hl0
   have hw : IntKind.i64.wrap (i28 + 1) = i28 + 1 := i64 (by omega) (by omega)
   have len : ∀ R : D, ((l27 ++ [R]).length : Int) ≤ 1466015503701 := fun R => by simp; omega
   have hx : ∀ d : Lt.bI, dP [.N n0, .V v1, .L l2, .V v3, .L l4, .V v5, .L l6, .V v7, .L l8, .L l9] 1 d → i28.toNat < (d.threads.getD i22.toNat []).length ∧ (((l4.getD i22.toNat default).toL.getD 1 default).toL.getD i28.toNat default) = nP ((d.threads.getD i22.toNat []).getD i28.toNat (Lt.Ins.zero, [])) := fun d hd => by
    have h2 := hlt2
    rw [(row d hd).2, List.length_map] at h2
    exact ⟨by omega, by rw [(row d hd).2]; exact getD_map nP _ _ (by omega)⟩
   have key : ∀ R : D, (∀ d : Lt.bI, dP [.N n0, .V v1, .L l2, .V v3, .L l4, .V v5, .L l6, .V v7, .L l8, .L l9] 1 d → R = rO (cvI d ((d.threads.getD i22.toNat []).getD i28.toNat (Lt.Ins.zero, [])))) →
     bG.I1 [.N n0, .V v1, .L l2, .V v3, .L l4, .V v5, .L l6, .V v7, .L l8, .L l9, .I i22, .L (l27 ++ [R]), .I (IntKind.i64.wrap (i28 + 1))] ∧ bG.I1M [.N n0, .V v1, .L l2, .V v3, .L l4, .V v5, .L l6, .V v7, .L l8, .L l9, .I i22, .L (l27 ++ [R]), .I (IntKind.i64.wrap (i28 + 1))] < bG.I1M [.N n0, .V v1, .L l2, .V v3, .L l4, .V v5, .L l6, .V v7, .L l8, .L l9, .I i22, .L l27, .I i28] := fun R hR => by
    rw [hw]
    refine ⟨⟨by simp; omega, by simp; omega, fun d hd => ?_⟩, by simp only [bG.I1M, arg_z, arg_s, D.toI_I, D.toL_L]; omega⟩
    obtain ⟨g1, g2⟩ := b2 d hd
    have := (hx d hd).1
    simp only [arg_z, arg_s, D.toI_I, D.toL_L]
    refine ⟨by omega, ?_⟩
    rw [show (i28 + 1).toNat = i28.toNat + 1 by omega, yF (d.threads.getD i22.toNat []) (Lt.Ins.zero, []) (by omega), List.map_append, List.map_append, ← g2, hR d hd]; rfl
   refine ⟨fun hs => ⟨l15s, fun i30 hA _ v31 => ⟨len _, fun _ v32 => key _ fun d hd => ?_⟩⟩, fun hs v30 => ⟨len _, fun _ v31 => key _ fun d hd => ?_⟩⟩
   ·have hA := hA _ (hL d hd)
    rw [show (1 : Int).toNat = 1 from rfl, (hx d hd).2] at hs hA
    rw [show (1 : Int).toNat = 1 from rfl, (hx d hd).2]
    generalize (d.threads.getD i22.toNat []).getD i28.toNat (Lt.Ins.zero, []) = x at hs hA
    have hs : bx x.2 ≠ ⟨#[]⟩ := hs
    rw [ne_eq, e0] at hs
    have hs : ¬ x.2 = [] := hs
    have hA : i30 = Lt.oL (Lt.locs d) x.2 := hA
    rw [cvI, if_pos hs, hA]; rfl
   ·rw [show (1 : Int).toNat = 1 from rfl, (hx d hd).2] at hs
    rw [show (1 : Int).toNat = 1 from rfl, (hx d hd).2]
    generalize (d.threads.getD i22.toNat []).getD i28.toNat (Lt.Ins.zero, []) = x at hs
    have hs : bx x.2 = ⟨#[]⟩ := hs
    rw [e0] at hs
    have hs : x.2 = [] := hs
    rw [cvI, if_neg (fun h => h hs)]; rfl
  ·have hge : (((l4.getD i22.toNat default).toL.getD 1 default).toL.length : Int) ≤ i28 := hge
   refine ⟨by simp; omega, fun _ v30 => ?_⟩
   rw [i64 (by omega) (by omega)]
   refine ⟨⟨by simp; omega, by simp only [arg_z, arg_s, D.toI_I, D.toL_L]; omega, by simp; omega, fun d hd => ?_⟩, by simp only [bG.I0M, arg_z, arg_s, D.toI_I, D.toL_L]; omega⟩
   obtain ⟨g1, g2⟩ := b2 d hd
   obtain ⟨f1, f2⟩ := row d hd
   rw [f2, List.length_map] at hge
   rw [List.take_of_length_le (by omega)] at g2
   simp only [arg_z, arg_s, D.toI_I, D.toL_L]
   rw [show (i22 + 1).toNat = i22.toNat + 1 by omega, yF d.threads [] f1, List.map_append]
   exact cI8 (a4 d hd) ⟨v26, by rw [g2]⟩
 ·obtain ⟨b1, b2, b0, b3⟩ := hK
  simp only [arg_z, arg_s, D.toL_L, D.toI_I] at b1 b2 b0 b3
  refine ⟨fun hlt => ⟨b1, fun _ n28 => ?_⟩, fun hge => ⟨⟨by show l27.length ≤ 1000000000; omega, _, b3 d0 hd0, fun x hx => ?_⟩, fun l28 hS _ => fun d hd hok => ?_⟩⟩
  ·have hw : IntKind.i64.wrap (i25 + 1) = i25 + 1 := i64 (by omega) (by omega)
   have len : ∀ R : D, ((l27 ++ [R]).length : Int) ≤ 5864062014805 := fun R => by simp; omega
   have hx : ∀ d : Lt.bI, dP [.N n0, .V v1, .L l2, .V v3, .L l4, .V v5, .L l6, .V v7, .L l8, .L l9] 1 d → i25.toNat < d.asks.length ∧ l6.getD i25.toNat default = fB (d.asks.getD i25.toNat ⟨0, 0, 0, []⟩) := fun d hd => by
    have h2 := hlt
    rw [(rows d hd).2.1, List.length_map] at h2
    exact ⟨by omega, by rw [(rows d hd).2.1]; exact getD_map fB _ _ (by omega)⟩
   have key : ∀ R : D, (∀ d : Lt.bI, dP [.N n0, .V v1, .L l2, .V v3, .L l4, .V v5, .L l6, .V v7, .L l8, .L l9] 1 d → R = jC (cvA d (d.asks.getD i25.toNat ⟨0, 0, 0, []⟩))) →
     bG.I2 [.N n0, .V v1, .L l2, .V v3, .L l4, .V v5, .L l6, .V v7, .L l8, .L l9, .I (IntKind.i64.wrap (i25 + 1)), .L (l27 ++ [R])] ∧ bG.I2M [.N n0, .V v1, .L l2, .V v3, .L l4, .V v5, .L l6, .V v7, .L l8, .L l9, .I (IntKind.i64.wrap (i25 + 1)), .L (l27 ++ [R])] < bG.I2M [.N n0, .V v1, .L l2, .V v3, .L l4, .V v5, .L l6, .V v7, .L l8, .L l9, .I i25, .L l27] := fun R hR => by
    rw [hw]
    refine ⟨⟨by simp; omega, by simp only [arg_z, arg_s, D.toI_I, D.toL_L]; omega, by simp; omega, fun d hd => ?_⟩, by simp only [bG.I2M, arg_z, arg_s, D.toI_I, D.toL_L]; omega⟩
    have := (hx d hd).1
    simp only [arg_z, arg_s, D.toI_I, D.toL_L]
    rw [show (i25 + 1).toNat = i25.toNat + 1 by omega, yF d.asks ⟨0, 0, 0, []⟩ (by omega), List.map_append, List.map_append, ← b3 d hd, hR d hd]; rfl
   refine ⟨fun hs => ⟨l15s, fun i29 hA _ v30 => ⟨len _, fun _ v31 => key _ fun d hd => ?_⟩⟩, fun hs v29 => ⟨len _, fun _ v30 => key _ fun d hd => ?_⟩⟩
   ·have hA := hA _ (hL d hd)
    rw [(hx d hd).2] at hs hA
    rw [(hx d hd).2]
    generalize d.asks.getD i25.toNat ⟨0, 0, 0, []⟩ = x at hs hA
    have hs : bx x.loc ≠ ⟨#[]⟩ := hs
    rw [ne_eq, e0] at hs
    have hs : ¬ x.loc = [] := hs
    have hA : i29 = Lt.oL (Lt.locs d) x.loc := hA
    rw [cvA, if_pos hs, hA]; rfl
   ·rw [(hx d hd).2] at hs
    rw [(hx d hd).2]
    generalize d.asks.getD i25.toNat ⟨0, 0, 0, []⟩ = x at hs
    have hs : bx x.loc = ⟨#[]⟩ := hs
    rw [e0] at hs
    have hs : x.loc = [] := hs
    rw [cvA, if_neg (fun h => h hs)]; rfl
  ·obtain ⟨q, hq, rfl⟩ := List.mem_map.1 hx
   obtain ⟨k1, k2, k3, k4⟩ := ha0 q (List.mem_of_mem_take hq)
   have h1 := aZ9 (Lt.locs d0) q.loc
   have h2 : (Lt.locs d0).length = l15.length := by rw [hL d0 hd0, List.length_map]
   simp only [cvA]
   split <;> omega
  ·have h3 := b3 d hd
   have hr := (rows d hd).2.1
   rw [List.take_of_length_le (by rw [hr, List.length_map] at hge; omega)] at h3
   have h4 := a4 d hd
   have := wV (rows d hd).2.2
   rw [List.take_of_length_le (by omega)] at h4
   rw [cI6]
   refine ⟨hL d hd, h4, hS _ h3 fun x hx => ?_⟩
   obtain ⟨q, hq, rfl⟩ := List.mem_map.1 hx
   obtain ⟨k1, k2, k3, k4⟩ := hok q hq
   have h1 := aZ9 (Lt.locs d) q.loc
   have h2 : (Lt.locs d).length = l15.length := by rw [hL d hd, List.length_map]
   simp only [cvA]
   split <;> omega
end Go.Vc
namespace Go.Vc
set_option linter.unusedSimpArgs false
set_option maxRecDepth 10000
open Lt (Rd Rg)
theorem bO1 : ∀ (k : Nat) (d : List (Tx × Nat)) (r : Rd), (Lt.jZ k d r).1.length ≤ d.length + r.t.length
 | 0, d, r => by show d.length ≤ _; omega
 | k + 1, d, r => by
  rw [Lt.jZ]
  split
  ·show d.length ≤ _; omega
  ·rename_i h
   simp only [not_or, Decidable.not_not] at h
   have ih := bO1 k (d ++ [(r.loc.1, ((r.loc.2.sign [61]).number).1)]) (if d.any (fun i => i.1 == r.loc.1) then ((r.loc.2.sign [61]).number).2.fail 14 else ((r.loc.2.sign [61]).number).2)
   have e : (if d.any (fun i => i.1 == r.loc.1) then ((r.loc.2.sign [61]).number).2.fail 14 else ((r.loc.2.sign [61]).number).2).t = ((r.loc.2.sign [61]).number).2.t := by split <;> simp [kK]
   have t1 := aH6 h.1 h.2
   have t2 := pG r.loc.2
   have t3 := pG (r.loc.2.sign [61])
   rw [aT5] at t2
   rw [aB5] at t3
   rw [e, uU, List.length_append] at ih
   simp only [List.length_cons, List.length_nil] at ih
   exact Nat.le_trans ih (by omega)
theorem bR4 (r : Rd) (t : Lx.Tok) : -1 ≤ (Lt.dD r t).1.th ∧ (Lt.dD r t).1.th ≤ 4 ∧ 0 ≤ (Lt.dD r t).1.at_ ∧ (Lt.dD r t).1.at_ ≤ 7 := by
 unfold Lt.dD
 split
 ·have := aW0 (r.number.2.sign [58])
  simp only; omega
 ·simp
theorem aZ8 : ∀ (k : Nat) (d : List Lt.Ask) (r : Rd), (Lt.iU k d r).1.length ≤ d.length + r.t.length ∧ ((∀ q ∈ d, -1 ≤ q.th ∧ q.th ≤ 4 ∧ 0 ≤ q.at_ ∧ q.at_ ≤ 7) → ∀ q ∈ (Lt.iU k d r).1, -1 ≤ q.th ∧ q.th ≤ 4 ∧ 0 ≤ q.at_ ∧ q.at_ ≤ 7)
 | 0, d, r => ⟨by show d.length ≤ _; omega, fun h => h⟩
 | k + 1, d, r => by
  rw [Lt.iU]
  split
  ·exact ⟨by show d.length ≤ _; omega, fun h => h⟩
  ·rename_i t ts ht
   split
   ·exact ⟨by show d.length ≤ _; omega, fun h => h⟩
   ·rename_i h
    have ih := aZ8 k (d ++ [{ (Lt.dD r t).1 with v := (((Lt.dD r t).2.sign [61]).number).1 }]) (if d.any (Lt.iC (Lt.dD r t).1) then (((Lt.dD r t).2.sign [61]).number).2.fail 14 else (((Lt.dD r t).2.sign [61]).number).2)
    have e : (if d.any (Lt.iC (Lt.dD r t).1) then (((Lt.dD r t).2.sign [61]).number).2.fail 14 else (((Lt.dD r t).2.sign [61]).number).2).t = (((Lt.dD r t).2.sign [61]).number).2.t := by split <;> simp [kK]
    have t1 := aH6 (r := r) (by rw [ht]; simp) (by simpa using h)
    have t2 := aZ6 r t
    have t3 := pG (Lt.dD r t).2
    have t4 := pG ((Lt.dD r t).2.sign [61])
    rw [aB5] at t4
    rw [e, uU, List.length_append] at ih
    simp only [List.length_cons, List.length_nil] at ih
    refine ⟨Nat.le_trans ih.1 (by omega), fun hd => ih.2 fun q hq => ?_⟩
    rcases List.mem_append.1 hq with hq | hq
    ·exact hd q hq
    ·rcases List.mem_singleton.1 hq with rfl
     exact bR4 r t
theorem zA (d : Lt.bI) (r : Rd) : (Lt.fin d r).1 = d := by unfold Lt.fin; split <;> rfl
theorem bZ2 (T : List (List (Lt.Ins × Tx))) (x : Lt.Ins × Tx) : ((Lt.uO T x).map fun t => t.length + 1).sum ≤ (T.map fun t => t.length + 1).sum + 2 := by
 rcases List.eq_nil_or_concat T with rfl | ⟨p, q, rfl⟩
 ·simp [Lt.uO]
 ·rw [List.concat_eq_append, bG6]; simp; omega
theorem cI4 (d : Lt.bI) (t : List Lx.Tok) : iF (Lt.take d t).1 ≤ iF d + t.length + 2 ∧ (yJ d → yJ (Lt.take d t).1) := by
 have tk := aY6 t
 rw [sU]
 split
 ·split
  ·exact ⟨by show iF d ≤ _; omega, fun h => h⟩
  ·rw [zA]
   have := bO1 ((tkI t).2.t.length + 1) d.inits (tkI t).2
   exact ⟨by unfold iF; simp only; omega, fun h => h⟩
 ·split
  ·split
   ·exact ⟨by show iF d ≤ _; omega, fun h => h⟩
   ·rw [zA]
    exact ⟨by unfold iF; simp; omega, fun h => h⟩
  ·split
   ·split
    ·exact ⟨by show iF d ≤ _; omega, fun h => h⟩
    ·rw [zA]
     have := aZ8 ((tkA t).2.t.length + 1) d.asks (tkA t).2
     exact ⟨by unfold iF; simp only; omega, fun h => this.2 h⟩
   ·split
    ·exact ⟨by show iF d ≤ _; omega, fun h => h⟩
    ·split
     ·rw [zA]
      have := bZ2 d.threads ((tkA t).2.instr.x, (tkA t).2.instr.l)
      exact ⟨by unfold iF; simp only; omega, fun h => h⟩
     ·rw [zA]; exact ⟨by show iF d ≤ _; omega, fun h => h⟩
theorem bH8 : ∀ s : Tx, (aS s).length ≤ s.length + 1 ∧ ∀ l ∈ aS s, l.length ≤ s.length
 | [] => by simp [aS]
 | c :: r => by
  obtain ⟨h1, h2⟩ := bH8 r
  unfold aS
  split
  ·simp only [List.length_cons, List.mem_cons, forall_eq_or_imp, List.length_nil]
   exact ⟨by omega, by omega, fun l hl => by have := h2 l hl; omega⟩
  ·split
   ·rename_i x xs e
    rw [e] at h1 h2
    simp only [List.length_cons, List.mem_cons, forall_eq_or_imp] at h1 h2 ⊢
    exact ⟨by omega, by omega, fun l hl => by have := h2.2 l hl; omega⟩
   ·simp
theorem bE1 : ∀ (L : List Tx) (n : Nat) (r : List (Nat × List Lx.Tok)), Lx.gU n L = .ok r → r.length ≤ L.length ∧ ∀ x ∈ r, ∃ l ∈ L, Lx.toks (Lx.trim l) = some x.2
 | [], n, r, h => by cases h; simp
 | l :: L, n, r, h => by
  rw [Lx.gU] at h
  cases ht : Lx.toks (Lx.trim l) with
  | none => rw [ht] at h; cases h
  | some T =>
   rw [ht] at h
   cases hr : Lx.gU (n + 1) L with
   | error k => simp only [hr] at h; cases h
   | ok q =>
    simp only [hr] at h
    cases h
    obtain ⟨h1, h2⟩ := bE1 L (n + 1) q hr
    split
    ·exact ⟨by simp; omega, fun x hx => by obtain ⟨m, hm, e⟩ := h2 x hx; exact ⟨m, List.mem_cons_of_mem _ hm, e⟩⟩
    ·refine ⟨by simp; omega, fun x hx => ?_⟩
     rcases List.mem_cons.1 hx with rfl | hx
     ·exact ⟨l, List.mem_cons_self .., ht⟩
     ·obtain ⟨m, hm, e⟩ := h2 x hx; exact ⟨m, List.mem_cons_of_mem _ hm, e⟩
theorem cA2 (s : Tx) : (Lx.lines s).1.length ≤ 2001 ∧ ∀ x ∈ (Lx.lines s).1, x.2.length ≤ 2000 := by
 unfold Lx.lines
 split
 ·simp
 ·rename_i hl
  split
  ·simp
  ·rename_i r hr
   obtain ⟨h1, h2⟩ := bE1 _ _ _ hr
   obtain ⟨h3, h4⟩ := bH8 s
   refine ⟨by simp only; omega, fun x hx => ?_⟩
   obtain ⟨l, hm, e⟩ := h2 x hx
   have t1 := bP2 e
   have t2 := bR9 (Lx.trim l)
   have t3 : (Lx.trim l).length ≤ l.length := by unfold Lx.trim; split <;> simp
   have t4 := h4 l hm
   omega
theorem bH9 : ∀ {L : LD} {M : List (Nat × List Lx.Tok)}, rU L M → L.length = M.length ∧ ∀ i, i < M.length → ∃ v : Value, L.getD i default = .L [.I (M.getD i (0, [])).1, .L [.V v, .L ((M.getD i (0, [])).2.map aV)]]
 | [], [], _ => ⟨rfl, fun i h => absurd h (by simp)⟩
 | [], _ :: _, h => h.elim
 | _ :: _, [], h => h.elim
 | r :: L, m :: M, h => by
  obtain ⟨e, ih⟩ := bH9 h.2
  refine ⟨by simp [e], fun i hi => ?_⟩
  cases i with
  | zero => exact h.1
  | succ i => simpa using ih i (by simpa using hi)
theorem dN.pure : dN.Pure := by
 intro s0 l1 _ _ hp v2 v3 v4 n5
 have zero : ∀ {v v' v''} {i j : Int}, (Lt.parse (tx s0)) = (Lt.Test.zero, i, j) → (dN.sig 0).post [.S s0, .L l1, .V v, .L [], .V v', .L [], .V v'', .L [], .I i, .I j] := fun {v v' v'' i j} h => by
  have h1 : (Lt.parse (tx s0)).1 = Lt.Test.zero := by rw [h]
  have h2 : (Lt.parse (tx s0)).2 = (i, j) := by rw [h]
  refine ⟨?_, ?_, ?_, ?_, ?_⟩ <;> simp [h1, h2, Lt.Test.zero, kQ]
 refine ⟨trivial, fun v6 l7 i8 i9 hl _ _ _ => ?_⟩
 obtain ⟨hr, h8, h9⟩ := hl
 simp only [arg_z, arg_s, D.toL_L, D.toI_I, D.toS_S] at hr h8 h9
 obtain ⟨q1, q2⟩ := bH9 hr
 obtain ⟨z1, z2⟩ := cA2 (tx s0)
 refine ⟨fun h v10 v11 v12 => zero ?_, fun h v10 v11 v12 n13 v14 => ⟨⟨by simp, by simp, Lt.bI.zero, ⟨rfl, rfl, .inl ⟨rfl, rfl, rfl, rfl⟩⟩, by simp [iF, Lt.bI.zero], fun q hq => absurd hq (by simp [Lt.bI.zero]), by simp⟩, fun i15 v16 l17 v18 l19 v20 l21 v22 l23 l24 _ _ _ _ _ hI => ?_⟩⟩
 ·unfold Lt.parse
  simp only
  have hh : (Lx.lines (tx s0)).2.2 ≠ 0 := by omega
  rw [if_pos hh, h8, h9]
 have h0 : ¬ (Lx.lines (tx s0)).2.2 ≠ 0 := by omega
 have pq : Lt.parse (tx s0) = match Lt.jQ Lt.bI.zero (Lx.lines (tx s0)).1 with
   | .error (n, e) => (Lt.Test.zero, (n : Int), e)
   | .ok d => if Lt.check (Lt.test d) ≠ 0 then (Lt.Test.zero, 0, Lt.check (Lt.test d)) else (Lt.test d, 0, 0) := by
  unfold Lt.parse
  simp only
  rw [if_neg h0]
  cases Lt.jQ Lt.bI.zero (Lx.lines (tx s0)).1 <;> rfl
 obtain ⟨a1, a2, d, a3, a4, a5, a6⟩ := hI
 simp only [arg_z, arg_s, D.toI_I, D.toS_S] at a1 a2 a4 a6
 refine ⟨fun hlt => ⟨a1, fun _ v25 n26 => ?_⟩, fun hge => ⟨⟨d, a3, by unfold tX; omega, a5⟩, fun v25 l26 v27 l28 v29 l30 hT _ _ _ v31 v32 v33 n34 => ⟨?_, fun i35 hC _ => ?_⟩⟩⟩
 ·obtain ⟨v, hv⟩ := q2 i15.toNat (by omega)
  have hm : (Lx.lines (tx s0)).1.getD i15.toNat (0, []) ∈ (Lx.lines (tx s0)).1 := by
   have : i15.toNat < (Lx.lines (tx s0)).1.length := by omega
   simp [List.getD, this]
  have z3 := z2 _ hm
  have hd := kW (Lx.lines (tx s0)).1 (0, []) (k := i15.toNat) (by omega)
  rw [hv]
  generalize (Lx.lines (tx s0)).1.getD i15.toNat (0, []) = ln at *
  obtain ⟨t1, t2⟩ := cI4 d ln.2
  refine ⟨⟨hp, d, ln.2, a3, rfl, by unfold tX; omega, by omega⟩, fun v27 l28 v29 l30 v31 l32 v33 l34 l35 i36 hK _ _ _ _ _ => ?_⟩
  obtain ⟨k1, k2⟩ := hK d ln.2 a3 rfl
  have k2 : i36 = (Lt.take d ln.2).2 := k2
  have er : i36 ≠ 0 → Lt.parse (tx s0) = (Lt.Test.zero, (ln.1 : Int), i36) := fun h => by
   rw [pq, a6, hd, Lt.jQ]
   simp only
   rw [if_pos (by rw [← k2]; exact h), k2]
  refine ⟨fun h => ⟨fun _ _ _ => zero (er h), fun _ _ _ => zero (er h)⟩, fun h => ?_⟩
  rw [i64 (by omega) (by omega)]
  refine ⟨⟨by simp; omega, by simp only [arg_z, arg_s, D.toI_I, D.toS_S]; omega, (Lt.take d ln.2).1, k1, by simp only [arg_z, arg_s, D.toI_I]; omega, t2 a5, ?_⟩, by simp only [dN.I0M, arg_z, arg_s, D.toI_I, D.toS_S]; omega⟩
  simp only [arg_z, arg_s, D.toI_I, D.toS_S]
  rw [a6, hd, Lt.jQ, show (i15 + 1).toNat = i15.toNat + 1 by omega]
  simp only
  rw [if_neg (by rw [← k2, h]; simp)]
 all_goals
  obtain ⟨x1, x2, x3⟩ := hT d a3 a5
 ·exact ⟨Lt.test d, x1, x2, x3⟩
 ·have hC : i35 = Lt.check (Lt.test d) := hC (Lt.test d) ⟨x1, x2, x3⟩
  rw [List.drop_eq_nil_of_le (by omega)] at a6
  have pd : Lt.parse (tx s0) = if Lt.check (Lt.test d) ≠ 0 then (Lt.Test.zero, 0, Lt.check (Lt.test d)) else (Lt.test d, 0, 0) := by
   rw [pq, a6]; rfl
  refine ⟨fun h v36 v37 v38 => zero ?_, fun h => ?_⟩
  ·rw [pd, if_pos (by rw [← hC]; exact h), hC]
  ·rw [if_neg (by rw [← hC, h]; simp)] at pd
   have h1 : (Lt.parse (tx s0)).1 = Lt.test d := by rw [pd]
   have h2 : (Lt.parse (tx s0)).2 = (0, 0) := by rw [pd]
   refine ⟨?_, ?_, ?_, ?_, ?_⟩
   ·show l26 = (Lt.parse (tx s0)).1.locs.map bD; rw [h1]; exact x1
   ·show kQ l28 (Lt.parse (tx s0)).1.threads; rw [h1]; exact x2
   ·show l30 = (Lt.parse (tx s0)).1.asks.map jC; rw [h1]; exact x3
   ·show (0 : Int) = (Lt.parse (tx s0)).2.1; rw [h2]
   ·show (0 : Int) = (Lt.parse (tx s0)).2.2; rw [h2]
end Go.Vc