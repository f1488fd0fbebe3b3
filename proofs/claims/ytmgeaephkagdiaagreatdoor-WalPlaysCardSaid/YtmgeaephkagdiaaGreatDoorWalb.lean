/-
 The log: plain conditions of Sync, turn, Append.
 The log: plain conditions of turn, Append, Retire.
 The log: plain conditions of Append, Retire, Next.
 The log: plain conditions of Retire, Next.
 The log: plain conditions of Open.
 The log: contracts in which its words are one.
-/
import Derived.Test.YtmgeaephkagdiaaGreatDoorWala
import Derived.Test.YtmgeaephkagdiaaGreatDoorFrame
set_option linter.unusedVariables false
set_option linter.unusedSimpArgs false
namespace Go.Vc
open Dk (Ds)
theorem Mid.small {x : Ds} (h : Mid x) : Small x := Lim.small h (by omega) (by omega)
theorem lim_ok {n : Nat} {x : Ds} (h : Lim n 100000000 x) (hn : n ≤ 1000000) : Small x := h.small hn (by omega)
theorem wSync.pure : wSync.Pure := by
 intro n0 n1 i2 i3 s4 i5 b6 v7 l8 l9 _ _ _ _ _ ⟨⟨x0, hx0, mx0⟩, hg, _⟩
 have hx0 : RepL l9 x0 := hx0
 have hfl : l8.length ≤ 50000 := by
  have := hg.found
  have e : (lgOf [D.N n0, .N n1, .I i2, .I i3, .S s4, .I i5, .B b6, .V v7, .L l8, .L l9] 2).found = l8.map fun d => tx d.toS := rfl
  rw [e, List.length_map] at this; exact this
 refine ⟨⟨⟨rfl, rfl, rfl, rfl, rfl⟩, hfl, fun x hx mx => ⟨x, hx, Lim.mono mx (by show 50000 ≤ 100000 - l8.length; omega) (Nat.le_refl _), rfl⟩⟩, ?_⟩
 intro i10 i11 s12 i13 b14 v15 l16 l17 _ _ _ _ _ ⟨⟨e1, e2, e3, e4, e5⟩, hl, hinv⟩
 obtain rfl : i10 = i2 := D.I.inj (show D.I i10 = .I i2 from e1)
 obtain rfl : i11 = i3 := D.I.inj (show D.I i11 = .I i3 from e2)
 obtain rfl : s12 = s4 := D.S.inj (show D.S s12 = .S s4 from e3)
 obtain rfl : i13 = i5 := D.I.inj (show D.I i13 = .I i5 from e4)
 obtain rfl : b14 = b6 := D.B.inj (show D.B b14 = .B b6 from e5)
 have hl : l16.length ≤ 50000 := hl
 have hinv : ∀ x, RepL l9 x → Mid x → ∃ y, RepL l17 y ∧ Lim (100000 - l16.length) 100000000 y ∧ Wl.syncFound x (fnd l8) = Wl.syncFound y (fnd l16) := hinv
 obtain ⟨y0, hy0, ly0, _⟩ := hinv x0 hx0 mx0
 have sy0 : Small y0 := lim_ok ly0 (by omega)
 refine ⟨fun hpos => ?_, fun hzero => ?_⟩
 ·cases l16 with
  | nil => simp at hpos
  | cons d r =>
   refine ⟨⟨y0, hy0, sy0⟩, fun l18 i19 hq _ => ?_⟩
   have hq : ∀ y, RepL l17 y → Small y → RepL l18 (Dk.sync y (tx d.toS)).1 ∧ i19 = (Dk.sync y (tx d.toS)).2 := hq
   refine ⟨fun hne => ?_, fun he => ⟨?_, fun _ v20 => ⟨⟨⟨rfl, rfl, rfl, rfl, rfl⟩, ?_, fun x hx mx => ?_⟩, ?_⟩⟩⟩
   ·intro x hx mx
    obtain ⟨y, hy, ly, hsf⟩ := hinv x hx mx
    obtain ⟨q1, q2⟩ := hq y hy (lim_ok ly (by omega))
    have hs : Wl.syncFound x (fnd l8) = ((Dk.sync y (tx d.toS)).1, tx d.toS :: fnd r, (Dk.sync y (tx d.toS)).2) := by
     rw [hsf]
     show Wl.syncFound y (tx d.toS :: fnd r) = _
     rw [Wl.syncFound]
     rw [if_pos (by rw [← q2]; exact hne)]
    have hsy : Wl.sync x ⟨i10, i11.toNat, tx s12, i13, b14, fnd l8⟩ = ((Dk.sync y (tx d.toS)).1, ⟨i10, i11.toNat, tx s12, i13, b14, tx d.toS :: fnd r⟩, (Dk.sync y (tx d.toS)).2) := by
     unfold Wl.sync Wl.sync1
     rw [hs]
     dsimp only
     rw [if_pos (by rw [← q2]; exact hne)]
    show RepL l18 (Wl.sync x ⟨i10, i11.toNat, tx s12, i13, b14, fnd l8⟩).1 ∧ (⟨i10, i11.toNat, tx s12, i13, b14, fnd (d :: r)⟩ : Wl.Lg) = (Wl.sync x ⟨i10, i11.toNat, tx s12, i13, b14, fnd l8⟩).2.1 ∧ i19 = (Wl.sync x ⟨i10, i11.toNat, tx s12, i13, b14, fnd l8⟩).2.2
    rw [hsy]
    exact ⟨q1, rfl, q2⟩
   ·simp only [List.length_cons]; omega
   ·show r.length ≤ 50000
    simp only [List.length_cons] at hl; omega
   ·obtain ⟨y, hy, ly, hsf⟩ := hinv x hx mx
    obtain ⟨q1, q2⟩ := hq y hy (lim_ok ly (by omega))
    refine ⟨_, q1, (lim_sync ly _).mono ?_ (Nat.le_refl _), ?_⟩
    ·show 100000 - (d :: r).length + 1 ≤ 100000 - r.length
     simp only [List.length_cons] at hl ⊢; omega
    ·show Wl.syncFound x (fnd l8) = Wl.syncFound _ (fnd r)
     rw [hsf]
     show Wl.syncFound y (tx d.toS :: fnd r) = _
     rw [Wl.syncFound]
     rw [if_neg (by rw [← q2, he]; simp)]
   ·show r.length < (d :: r).length
    simp
 ·cases l16 with
  | cons d r => simp only [List.length_cons] at hzero; omega
  | nil =>
   refine ⟨fun hb => ?_, fun hb => ⟨⟨y0, hy0, sy0⟩, fun l18 i19 hq _ => ?_⟩⟩
   ·intro x hx mx
    obtain ⟨y, hy, ly, hsf⟩ := hinv x hx mx
    have hsf : Wl.syncFound x (fnd l8) = (y, [], 0) := hsf
    have hsy : Wl.sync x ⟨i10, i11.toNat, tx s12, i13, b14, fnd l8⟩ = (y, ⟨i10, i11.toNat, tx s12, i13, b14, []⟩, 0) := by
     unfold Wl.sync Wl.sync1 Wl.sync2
     rw [hsf]
     dsimp only
     rw [if_neg (by simp), if_pos hb]
    show RepL l17 (Wl.sync x ⟨i10, i11.toNat, tx s12, i13, b14, fnd l8⟩).1 ∧ (⟨i10, i11.toNat, tx s12, i13, b14, fnd []⟩ : Wl.Lg) = (Wl.sync x ⟨i10, i11.toNat, tx s12, i13, b14, fnd l8⟩).2.1 ∧ (0 : Int) = (Wl.sync x ⟨i10, i11.toNat, tx s12, i13, b14, fnd l8⟩).2.2
    rw [hsy]
    exact ⟨hy, rfl, rfl⟩
   ·have hq : ∀ y, RepL l17 y → Small y → RepL l18 (Dk.sync y (tx s12)).1 ∧ i19 = (Dk.sync y (tx s12)).2 := hq
    refine ⟨fun hne => ?_, fun he => ?_⟩
    ·intro x hx mx
     obtain ⟨y, hy, ly, hsf⟩ := hinv x hx mx
     obtain ⟨q1, q2⟩ := hq y hy (lim_ok ly (by omega))
     have hsf : Wl.syncFound x (fnd l8) = (y, [], 0) := hsf
     have hsy : Wl.sync x ⟨i10, i11.toNat, tx s12, i13, b14, fnd l8⟩ = ((Dk.sync y (tx s12)).1, ⟨i10, i11.toNat, tx s12, i13, b14, []⟩, (Dk.sync y (tx s12)).2) := by
      unfold Wl.sync Wl.sync1 Wl.sync2
      rw [hsf]
      dsimp only
      rw [if_neg (by simp), if_neg (by rw [hb]; simp), if_pos (by rw [← q2]; exact hne)]
     show RepL l18 (Wl.sync x ⟨i10, i11.toNat, tx s12, i13, b14, fnd l8⟩).1 ∧ (⟨i10, i11.toNat, tx s12, i13, b14, fnd []⟩ : Wl.Lg) = (Wl.sync x ⟨i10, i11.toNat, tx s12, i13, b14, fnd l8⟩).2.1 ∧ i19 = (Wl.sync x ⟨i10, i11.toNat, tx s12, i13, b14, fnd l8⟩).2.2
     rw [hsy]
     exact ⟨q1, rfl, q2⟩
    ·intro x hx mx
     obtain ⟨y, hy, ly, hsf⟩ := hinv x hx mx
     obtain ⟨q1, q2⟩ := hq y hy (lim_ok ly (by omega))
     have hsf : Wl.syncFound x (fnd l8) = (y, [], 0) := hsf
     have hsy : Wl.sync x ⟨i10, i11.toNat, tx s12, i13, b14, fnd l8⟩ = ((Dk.sync y (tx s12)).1, ⟨i10, i11.toNat, tx s12, i13, false, []⟩, 0) := by
      unfold Wl.sync Wl.sync1 Wl.sync2
      rw [hsf]
      dsimp only
      rw [if_neg (by simp), if_neg (by rw [hb]; simp), if_neg (by rw [← q2, he]; simp)]
     show RepL l18 (Wl.sync x ⟨i10, i11.toNat, tx s12, i13, b14, fnd l8⟩).1 ∧ (⟨i10, i11.toNat, tx s12, i13, false, fnd []⟩ : Wl.Lg) = (Wl.sync x ⟨i10, i11.toNat, tx s12, i13, b14, fnd l8⟩).2.1 ∧ (0 : Int) = (Wl.sync x ⟨i10, i11.toNat, tx s12, i13, b14, fnd l8⟩).2.2
     rw [hsy]
     exact ⟨q1, rfl, rfl⟩
end Go.Vc
namespace Go.Vc
open Dk (Ds)
theorem lim_syncFound : ∀ {fs : List Tx} {n b : Nat} {x : Ds}, Lim n b x → Lim (n + fs.length) b (Wl.syncFound x fs).1
 | [], _, _, _, h => h
 | f :: fs, n, b, x, h => by
  rw [Wl.syncFound]
  split
  ·exact (lim_sync h f).mono (by simp only [List.length_cons]; omega) (Nat.le_refl _)
  ·exact (lim_syncFound (fs := fs) (lim_sync h f)).mono (by simp only [List.length_cons]; omega) (Nat.le_refl _)
theorem lim_wsync {n b : Nat} {x : Ds} {g : Wl.Lg} (h : Lim n b x) : Lim (n + g.found.length + 1) b (Wl.sync x g).1 := by
 have h1 := lim_syncFound (fs := g.found) h
 unfold Wl.sync Wl.sync1
 split
 ·exact h1.mono (by omega) (Nat.le_refl _)
 ·unfold Wl.sync2
  split
  ·exact h1.mono (by omega) (Nat.le_refl _)
  ·split <;> exact (lim_sync h1 _).mono (by omega) (Nat.le_refl _)
theorem sync_lg (x : Ds) (g : Wl.Lg) : (Wl.sync x g).2.1.next = g.next ∧ (Wl.sync x g).2.1.limit = g.limit ∧ (Wl.sync x g).2.1.size = g.size ∧ (Wl.sync x g).2.1.name = g.name := by
 unfold Wl.sync Wl.sync1
 split
 ·exact ⟨rfl, rfl, rfl, rfl⟩
 ·unfold Wl.sync2
  split
  ·exact ⟨rfl, rfl, rfl, rfl⟩
  ·split <;> exact ⟨rfl, rfl, rfl, rfl⟩
theorem turn_lg (x : Ds) (g : Wl.Lg) : (Wl.turn x g).2.1.next = g.next ∧ (Wl.turn x g).2.1.limit = g.limit ∧ ((Wl.turn x g).2.1.size = g.size ∨ (Wl.turn x g).2.1.size = 0) := by
 obtain ⟨h1, h2, h3, _⟩ := sync_lg x g
 unfold Wl.turn Wl.turn1
 split
 ·exact ⟨h1, h2, .inl h3⟩
 ·split
  ·exact ⟨h1, h2, .inl h3⟩
  ·have h4 : ∀ y G, (Wl.turn3 y G).2.1.next = G.next ∧ (Wl.turn3 y G).2.1.limit = G.limit ∧ ((Wl.turn3 y G).2.1.size = G.size ∨ (Wl.turn3 y G).2.1.size = 0) := by
    intro y G
    unfold Wl.turn3
    split
    ·exact ⟨rfl, rfl, .inl rfl⟩
    ·unfold Wl.turn4
     split
     ·exact ⟨rfl, rfl, .inl rfl⟩
     ·exact ⟨rfl, rfl, .inr rfl⟩
   unfold Wl.turn2
   rw [← h1, ← h2, ← h3]
   split
   ·split
    ·exact ⟨rfl, rfl, .inl rfl⟩
    ·exact h4 _ _
   ·exact h4 _ _
theorem lim_turn3 {n b : Nat} {x : Ds} {g : Wl.Lg} (h : Lim n b x) : Lim (n + 2) b (Wl.turn3 x g).1 := by
 have h1 := lim_create h (Wl.name g.next)
 unfold Wl.turn3
 split
 ·exact h1.mono (by omega) (Nat.le_refl _)
 ·have h2 := lim_syncNames h1
  unfold Wl.turn4
  split <;> exact h2
theorem lim_wturn {n b : Nat} {x : Ds} {g : Wl.Lg} (h : Lim n b x) : Lim (n + g.found.length + 4) b (Wl.turn x g).1 := by
 have h1 := lim_wsync (g := g) h
 unfold Wl.turn Wl.turn1
 split
 ·exact h1.mono (by omega) (Nat.le_refl _)
 ·split
  ·exact h1.mono (by omega) (Nat.le_refl _)
  ·have h2 := lim_remove h1 (Wl.name (Wl.sync x g).2.1.next)
   unfold Wl.turn2
   split
   ·split
    ·exact h2.mono (by omega) (Nat.le_refl _)
    ·exact lim_turn3 h2
   ·exact (lim_turn3 h1).mono (by omega) (Nat.le_refl _)
theorem wTurn.pure : wTurn.Pure := by
 intro n0 n1 i2 i3 s4 i5 b6 v7 l8 l9 _ _ _ _ _ ⟨⟨x0, hx0, mx0⟩, hg, _⟩
 have hx0 : RepL l9 x0 := hx0
 have hfl : l8.length ≤ 50000 := by
  have := hg.found
  have e : (lgOf [D.N n0, .N n1, .I i2, .I i3, .S s4, .I i5, .B b6, .V v7, .L l8, .L l9] 2).found = l8.map fun d => tx d.toS := rfl
  rw [e, List.length_map] at this; exact this
 refine ⟨⟨⟨x0, hx0, mx0⟩, hg, trivial⟩, ?_⟩
 intro i10 i11 s12 i13 b14 v15 l16 l17 i18 hsy _ _ _ _ _ _
 have K : ∀ x, RepL l9 x → Mid x → ∃ y, RepL l17 y ∧ Lim 100001 100000000 y ∧ Wl.sync x ⟨i2, i3.toNat, tx s4, i5, b6, fnd l8⟩ = (y, ⟨i10, i11.toNat, tx s12, i13, b14, fnd l16⟩, i18) := by
  intro x hx mx
  obtain ⟨q1, q2, q3⟩ := hsy x hx mx
  have q1 : RepL l17 (Wl.sync x ⟨i2, i3.toNat, tx s4, i5, b6, fnd l8⟩).1 := q1
  have q2 : (⟨i10, i11.toNat, tx s12, i13, b14, fnd l16⟩ : Wl.Lg) = (Wl.sync x ⟨i2, i3.toNat, tx s4, i5, b6, fnd l8⟩).2.1 := q2
  have q3 : i18 = (Wl.sync x ⟨i2, i3.toNat, tx s4, i5, b6, fnd l8⟩).2.2 := q3
  have hl : (fnd l8).length ≤ 50000 := by simpa [fnd] using hfl
  have := lim_wsync (g := ⟨i2, i3.toNat, tx s4, i5, b6, fnd l8⟩) mx
  exact ⟨_, q1, this.mono (by dsimp only; omega) (Nat.le_refl _), by rw [q2, q3]⟩
 clear hsy
 refine ⟨fun hne x hx mx => ?_, fun he => ⟨trivial, fun s19 hnm _ => ?_⟩⟩
 ·obtain ⟨y, hy, ly, hs⟩ := K x hx mx
  have ht : Wl.turn x ⟨i2, i3.toNat, tx s4, i5, b6, fnd l8⟩ = (y, ⟨i10, i11.toNat, tx s12, i13, b14, fnd l16⟩, i18) := by
   unfold Wl.turn Wl.turn1
   rw [hs, if_pos hne]
  show RepL l17 (Wl.turn x ⟨i2, i3.toNat, tx s4, i5, b6, fnd l8⟩).1 ∧ (⟨i10, i11.toNat, tx s12, i13, b14, fnd l16⟩ : Wl.Lg) = (Wl.turn x ⟨i2, i3.toNat, tx s4, i5, b6, fnd l8⟩).2.1 ∧ i18 = (Wl.turn x ⟨i2, i3.toNat, tx s4, i5, b6, fnd l8⟩).2.2
  rw [ht]; exact ⟨hy, rfl, rfl⟩
 have hnm : s19 = bx (Wl.name i11.toNat) := hnm
 subst hnm he
 obtain ⟨y0, hy0, ly0, _⟩ := K x0 hx0 mx0
 have sy0 := lim_ok ly0 (by omega)
 refine ⟨⟨y0, hy0, sy0⟩, fun v20 l21 i22 hq _ _ => ?_⟩
 have hq : ∀ y, RepL l17 y → Small y → i22 = (if y.dead then 9 else 0) ∧ l21 = if y.dead then [] else y.names.map fun p => .S (bx p.1) := hq
 have hln : l21.length ≤ 1000000000 := by
  have h1 := (hq y0 hy0 sy0).2
  rw [h1]
  split
  ·simp
  ·rw [List.length_map]
   have := ly0.hist.names ly0.inv
   have := ly0.files
   omega
 refine ⟨fun hne x hx mx => ?_, fun he => ⟨hln, fun b23 hc => ?_⟩⟩
 ·obtain ⟨y, hy, ly, hs⟩ := K x hx mx
  have hd : y.dead = true := Classical.byContradiction fun hd => by
   rw [Bool.not_eq_true] at hd
   have := (hq y hy (lim_ok ly (by omega))).1
   rw [hd] at this
   exact hne this
  have h22 : i22 = 9 := by
   have := (hq y hy (lim_ok ly (by omega))).1
   rw [hd] at this; exact this
  have ht : Wl.turn x ⟨i2, i3.toNat, tx s4, i5, b6, fnd l8⟩ = (y, ⟨i10, i11.toNat, tx s12, i13, b14, fnd l16⟩, 9) := by
   unfold Wl.turn Wl.turn1
   rw [hs]
   dsimp only
   rw [if_neg (by simp), if_pos hd]
  show RepL l17 (Wl.turn x ⟨i2, i3.toNat, tx s4, i5, b6, fnd l8⟩).1 ∧ (⟨i10, i11.toNat, tx s12, i13, b14, fnd l16⟩ : Wl.Lg) = (Wl.turn x ⟨i2, i3.toNat, tx s4, i5, b6, fnd l8⟩).2.1 ∧ i22 = (Wl.turn x ⟨i2, i3.toNat, tx s4, i5, b6, fnd l8⟩).2.2
  rw [ht]; exact ⟨hy, rfl, h22⟩
 subst he
 have hlive : ∀ y, RepL l17 y → Small y → y.dead = false := by
  intro y hy sy
  have := (hq y hy sy).1
  cases hd : y.dead with
  | false => rfl
  | true => rw [hd] at this; exact absurd this (by decide)
 have hany : ∀ y, RepL l17 y → Small y → y.names.any (fun p => p.1 == Wl.name i11.toNat) = b23 := by
  intro y hy sy
  have hl := (hq y hy sy).2
  rw [hlive y hy sy] at hl
  have hl : l21 = y.names.map fun p => .S (bx p.1) := hl
  have hc : b23 = true ↔ ∃ d ∈ l21, d.toS = bx (Wl.name i11.toNat) := hc
  rw [Bool.eq_iff_iff, hc, List.any_eq_true]
  constructor
  ·rintro ⟨p, hp, he⟩
   refine ⟨.S (bx p.1), by rw [hl]; exact List.mem_map_of_mem hp, ?_⟩
   show bx p.1 = _
   rw [eq_of_beq he]
  ·rintro ⟨d, hd, he⟩
   rw [hl] at hd
   obtain ⟨p, hp, rfl⟩ := List.mem_map.1 hd
   exact ⟨p, hp, by rw [bx_inj (show bx p.1 = bx (Wl.name i11.toNat) from he)]; exact beq_self_eq_true _⟩
 -- from the file's removal on
 have rest : ∀ (lz : List D) (lim : Nat), lim ≤ 100002 → (∃ z0, RepL lz z0 ∧ Lim lim 100000000 z0) →
   (∀ x, RepL l9 x → Mid x → ∃ z, RepL lz z ∧ Lim lim 100000000 z ∧ Wl.turn x ⟨i2, i3.toNat, tx s4, i5, b6, fnd l8⟩ = Wl.turn3 z ⟨i10, i11.toNat, tx s12, i13, b14, fnd l16⟩) →
   qCreate.sig.pre [.N n1, .L lz, .S (bx (Wl.name i11.toNat))] ∧ (∀ (l26 : List D) (i27 : Int), qCreate.sig.post [.N n1, .L lz, .S (bx (Wl.name i11.toNat)), .L l26, .I i27] → (-9223372036854775808 ≤ i27 ∧ i27 < 9223372036854775808) →
    ((i27 ≠ 0 → wTurn.sig.post [.N n0, .N n1, .I i2, .I i3, .S s4, .I i5, .B b6, .V v7, .L l8, .L l9, .I i10, .I i11, .S s12, .I i13, .B b14, .V v15, .L l16, .L l26, .I i27]) ∧ (i27 = 0 →
      qSyncNames.sig.pre [.N n1, .L l26] ∧ (∀ (l28 : List D) (i29 : Int), qSyncNames.sig.post [.N n1, .L l26, .L l28, .I i29] → (-9223372036854775808 ≤ i29 ∧ i29 < 9223372036854775808) →
       ((i29 ≠ 0 → wTurn.sig.post [.N n0, .N n1, .I i2, .I i3, .S s4, .I i5, .B b6, .V v7, .L l8, .L l9, .I i10, .I i11, .S s12, .I i13, .B b14, .V v15, .L l16, .L l28, .I i29]) ∧ (i29 = 0 →
         wTurn.sig.post [.N n0, .N n1, .I i2, .I i3, .S s4, .I i5, .B b6, .V v7, .L l8, .L l9, .I i10, .I i11, .S (bx (Wl.name i11.toNat)), .I 0, .B b14, .V v15, .L l16, .L l28, .I 0])))))) := by
  rintro lz lim hlim ⟨z0, hz0, lz0⟩ KZ
  have sz0 := lim_ok lz0 (by omega)
  refine ⟨⟨z0, hz0, sz0⟩, fun l26 i27 h26 _ => ?_⟩
  have h26 : ∀ z, RepL lz z → Small z → RepL l26 (Dk.create z (Wl.name i11.toNat)).1 ∧ i27 = (Dk.create z (Wl.name i11.toNat)).2 := h26
  have s26 : ∃ z, RepL l26 z ∧ Small z := ⟨_, (h26 z0 hz0 sz0).1, lim_ok (lim_create lz0 _) (by omega)⟩
  refine ⟨fun hne x hx mx => ?_, fun he => ⟨s26, fun l28 i29 h28 _ => ?_⟩⟩
  ·obtain ⟨z, hz, lz, ht⟩ := KZ x hx mx
   obtain ⟨c1, c2⟩ := h26 z hz (lim_ok lz (by omega))
   have ht : Wl.turn x ⟨i2, i3.toNat, tx s4, i5, b6, fnd l8⟩ = ((Dk.create z (Wl.name i11.toNat)).1, ⟨i10, i11.toNat, tx s12, i13, b14, fnd l16⟩, (Dk.create z (Wl.name i11.toNat)).2) := by
    rw [ht]; unfold Wl.turn3
    rw [if_pos (by rw [← c2]; exact hne)]
   show RepL l26 (Wl.turn x ⟨i2, i3.toNat, tx s4, i5, b6, fnd l8⟩).1 ∧ (⟨i10, i11.toNat, tx s12, i13, b14, fnd l16⟩ : Wl.Lg) = (Wl.turn x ⟨i2, i3.toNat, tx s4, i5, b6, fnd l8⟩).2.1 ∧ i27 = (Wl.turn x ⟨i2, i3.toNat, tx s4, i5, b6, fnd l8⟩).2.2
   rw [ht]; exact ⟨c1, rfl, c2⟩
  ·subst he
   have h28 : ∀ z, RepL l26 z → Small z → RepL l28 (Dk.syncNames z).1 ∧ i29 = (Dk.syncNames z).2 := h28
   refine ⟨fun hne x hx mx => ?_, fun he x hx mx => ?_⟩
   ·obtain ⟨z, hz, lz, ht⟩ := KZ x hx mx
    obtain ⟨c1, c2⟩ := h26 z hz (lim_ok lz (by omega))
    obtain ⟨d1, d2⟩ := h28 _ c1 (lim_ok (lim_create lz _) (by omega))
    have ht : Wl.turn x ⟨i2, i3.toNat, tx s4, i5, b6, fnd l8⟩ = ((Dk.syncNames (Dk.create z (Wl.name i11.toNat)).1).1, ⟨i10, i11.toNat, tx s12, i13, b14, fnd l16⟩, (Dk.syncNames (Dk.create z (Wl.name i11.toNat)).1).2) := by
     rw [ht]; unfold Wl.turn3 Wl.turn4
     dsimp only
     rw [if_neg (by rw [← c2]; simp), if_pos (by rw [← d2]; exact hne)]
    show RepL l28 (Wl.turn x ⟨i2, i3.toNat, tx s4, i5, b6, fnd l8⟩).1 ∧ (⟨i10, i11.toNat, tx s12, i13, b14, fnd l16⟩ : Wl.Lg) = (Wl.turn x ⟨i2, i3.toNat, tx s4, i5, b6, fnd l8⟩).2.1 ∧ i29 = (Wl.turn x ⟨i2, i3.toNat, tx s4, i5, b6, fnd l8⟩).2.2
    rw [ht]; exact ⟨d1, rfl, d2⟩
   ·obtain ⟨z, hz, lz, ht⟩ := KZ x hx mx
    obtain ⟨c1, c2⟩ := h26 z hz (lim_ok lz (by omega))
    obtain ⟨d1, d2⟩ := h28 _ c1 (lim_ok (lim_create lz _) (by omega))
    have ht : Wl.turn x ⟨i2, i3.toNat, tx s4, i5, b6, fnd l8⟩ = ((Dk.syncNames (Dk.create z (Wl.name i11.toNat)).1).1, ⟨i10, i11.toNat, Wl.name i11.toNat, 0, b14, fnd l16⟩, 0) := by
     rw [ht]; unfold Wl.turn3 Wl.turn4
     dsimp only
     rw [if_neg (by rw [← c2]; simp), if_neg (by rw [← d2, he]; simp)]
    show RepL l28 (Wl.turn x ⟨i2, i3.toNat, tx s4, i5, b6, fnd l8⟩).1 ∧ (⟨i10, i11.toNat, tx (bx (Wl.name i11.toNat)), 0, b14, fnd l16⟩ : Wl.Lg) = (Wl.turn x ⟨i2, i3.toNat, tx s4, i5, b6, fnd l8⟩).2.1 ∧ (0 : Int) = (Wl.turn x ⟨i2, i3.toNat, tx s4, i5, b6, fnd l8⟩).2.2
    rw [ht]; exact ⟨d1, rfl, rfl⟩
 refine ⟨fun hb => ⟨⟨y0, hy0, sy0⟩, fun l24 i25 h24 _ => ?_⟩, fun hb => ?_⟩
 ·have h24 : ∀ y, RepL l17 y → Small y → RepL l24 (Dk.remove y (Wl.name i11.toNat)).1 ∧ i25 = (Dk.remove y (Wl.name i11.toNat)).2 := h24
  refine ⟨fun hne x hx mx => ?_, fun he => rest l24 100002 (by omega) ⟨_, (h24 y0 hy0 sy0).1, lim_remove ly0 _⟩ fun x hx mx => ?_⟩
  ·obtain ⟨y, hy, ly, hs⟩ := K x hx mx
   have sy := lim_ok ly (by omega)
   obtain ⟨c1, c2⟩ := h24 y hy sy
   have ht : Wl.turn x ⟨i2, i3.toNat, tx s4, i5, b6, fnd l8⟩ = ((Dk.remove y (Wl.name i11.toNat)).1, ⟨i10, i11.toNat, tx s12, i13, b14, fnd l16⟩, (Dk.remove y (Wl.name i11.toNat)).2) := by
    unfold Wl.turn Wl.turn1 Wl.turn2
    rw [hs]
    dsimp only
    rw [if_neg (by simp), if_neg (by rw [hlive y hy sy]; simp), if_pos (by rw [hany y hy sy]; exact hb), if_pos (by rw [← c2]; exact hne)]
   show RepL l24 (Wl.turn x ⟨i2, i3.toNat, tx s4, i5, b6, fnd l8⟩).1 ∧ (⟨i10, i11.toNat, tx s12, i13, b14, fnd l16⟩ : Wl.Lg) = (Wl.turn x ⟨i2, i3.toNat, tx s4, i5, b6, fnd l8⟩).2.1 ∧ i25 = (Wl.turn x ⟨i2, i3.toNat, tx s4, i5, b6, fnd l8⟩).2.2
   rw [ht]; exact ⟨c1, rfl, c2⟩
  ·obtain ⟨y, hy, ly, hs⟩ := K x hx mx
   have sy := lim_ok ly (by omega)
   obtain ⟨c1, c2⟩ := h24 y hy sy
   refine ⟨_, c1, lim_remove ly _, ?_⟩
   unfold Wl.turn Wl.turn1 Wl.turn2
   rw [hs]
   dsimp only
   rw [if_neg (by simp), if_neg (by rw [hlive y hy sy]; simp), if_pos (by rw [hany y hy sy]; exact hb), if_neg (by rw [← c2, he]; simp)]
 ·refine rest l17 100002 (by omega) ⟨y0, hy0, ly0.mono (by omega) (Nat.le_refl _)⟩ fun x hx mx => ?_
  obtain ⟨y, hy, ly, hs⟩ := K x hx mx
  have sy := lim_ok ly (by omega)
  refine ⟨y, hy, ly.mono (by omega) (Nat.le_refl _), ?_⟩
  unfold Wl.turn Wl.turn1 Wl.turn2
  rw [hs]
  dsimp only
  rw [if_neg (by simp), if_neg (by rw [hlive y hy sy]; simp), if_neg (by rw [hany y hy sy, hb]; simp)]
end Go.Vc
namespace Go.Vc
open Dk (Ds)
theorem nameNil {s : ByteArray} : s = (⟨#[]⟩ : ByteArray) ↔ tx s = [] := ⟨fun h => by rw [h]; rfl, fun h => tx_inj h⟩
theorem wAppend.pure : wAppend.Pure := by
 intro n0 n1 i2 i3 s4 i5 b6 v7 l8 l9 s10 _ _ ⟨u0, u1⟩ _ _ _ ⟨⟨x0, hx0, mx0⟩, hg, hsz⟩
 have hx0 : RepL l9 x0 := hx0
 have hsz : s10.size ≤ 900000000 := hsz
 have hlim : 1 ≤ i2 ∧ i2 < 9223372036854775808 := hg.limit
 have hsize : 0 ≤ i5 ∧ i5 ≤ 1000000000000 := hg.size
 have hnat : ((i3.toNat : Nat) : Int) = i3 := by omega
 refine ⟨hsz, fun s11 i12 hw _ _ => ?_⟩
 have hw : if s10.size > 4194304 then s11 = ByteArray.empty ∧ i12 = 12 else s11 = textOf (frameB i3 s10) ∧ i12 = 0 := hw
 refine ⟨fun hne x hx mx => ?_, fun he => ?_⟩
 ·have hbig : s10.size > 4194304 := Classical.byContradiction fun h => by rw [if_neg h] at hw; exact hne hw.2
  rw [if_pos hbig] at hw
  have ha : Wl.append x ⟨i2, i3.toNat, tx s4, i5, b6, fnd l8⟩ (tx s10) = (x, ⟨i2, i3.toNat, tx s4, i5, b6, fnd l8⟩, 12) := by
   unfold Wl.append; rw [if_pos (by rw [tx_size]; exact hbig)]
  show RepL l9 (Wl.append x ⟨i2, i3.toNat, tx s4, i5, b6, fnd l8⟩ (tx s10)).1 ∧ (⟨i2, i3.toNat, tx s4, i5, b6, fnd l8⟩ : Wl.Lg) = (Wl.append x ⟨i2, i3.toNat, tx s4, i5, b6, fnd l8⟩ (tx s10)).2.1 ∧ i12 = (Wl.append x ⟨i2, i3.toNat, tx s4, i5, b6, fnd l8⟩ (tx s10)).2.2
  rw [ha]; exact ⟨hx, rfl, hw.2⟩
 have hsm : ¬ s10.size > 4194304 := fun h => by rw [if_pos h] at hw; rw [hw.2] at he; cases he
 rw [if_neg hsm] at hw
 obtain ⟨hs11, _⟩ := hw
 have hfr : tx s11 = Wl.frT i3.toNat (tx s10) := by rw [hs11, Wl.frT, hnat, bx_tx]
 have hl11 : s11.size = 18 + s10.size := by rw [hs11, textOf_size, frameB_len]
 have hlf : (Wl.frT i3.toNat (tx s10)).length = s11.size := by rw [← hfr, tx_size]
 clear hs11
 have hwl : IntKind.i64.wrap (i2 - ((s11.size : Nat) : Int)) = i2 - ((s11.size : Nat) : Int) := wrap64 (by omega) (by omega)
 rw [hwl]
 -- what an append to the file comes to
 have app : ∀ (i13 i14 : Int) (s15 : ByteArray) (i16 : Int) (b17 : Bool) (v18 : Value) (l19 l20 : List D), 0 ≤ i16 ∧ i16 ≤ 1000000000000 → (0 ≤ i14 ∧ i14 < 18446744073709551616) → (∃ z, RepL l20 z ∧ Lim 200000 100000000 z) →
   (∀ x, RepL l9 x → Mid x → ∃ z, RepL l20 z ∧ Lim 200000 100000000 z ∧ Wl.append x ⟨i2, i3.toNat, tx s4, i5, b6, fnd l8⟩ (tx s10) = Wl.app2 (Wl.frT i3.toNat (tx s10)) z ⟨i13, i14.toNat, tx s15, i16, b17, fnd l19⟩) →
   qAppend.sig.pre [.N n1, .L l20, .S s15, .S s11] ∧ (∀ (l22 : List D) (i23 : Int), qAppend.sig.post [.N n1, .L l20, .S s15, .S s11, .L l22, .I i23] → (-9223372036854775808 ≤ i23 ∧ i23 < 9223372036854775808) →
    ((i23 ≠ 0 → wAppend.sig.post [.N n0, .N n1, .I i2, .I i3, .S s4, .I i5, .B b6, .V v7, .L l8, .L l9, .S s10, .I i13, .I i14, .S s15, .I i16, .B b17, .V v18, .L l19, .L l22, .I i23]) ∧
     (i23 = 0 → wAppend.sig.post [.N n0, .N n1, .I i2, .I i3, .S s4, .I i5, .B b6, .V v7, .L l8, .L l9, .S s10, .I i13, .I (IntKind.u64.wrap (i14 + 1)), .S s15, .I (IntKind.i64.wrap (i16 + ((s11.size : Nat) : Int))), .B true, .V v18, .L l19, .L l22, .I 0]))) := by
  rintro i13 i14 s15 i16 b17 v18 l19 l20 hi16 hi14 ⟨z0, hz0, lz0⟩ KZ
  refine ⟨⟨z0, hz0, lim_ok lz0 (by omega)⟩, fun l22 i23 hq _ => ?_⟩
  have hq : ∀ z, RepL l20 z → Small z → RepL l22 (Dk.append z (tx s15) (tx s11)).1 ∧ i23 = (Dk.append z (tx s15) (tx s11)).2 := hq
  refine ⟨fun hne x hx mx => ?_, fun he x hx mx => ?_⟩
  ·obtain ⟨z, hz, lz, ha⟩ := KZ x hx mx
   obtain ⟨c1, c2⟩ := hq z hz (lim_ok lz (by omega))
   rw [hfr] at c1 c2
   have ha : Wl.append x ⟨i2, i3.toNat, tx s4, i5, b6, fnd l8⟩ (tx s10) = ((Dk.append z (tx s15) (Wl.frT i3.toNat (tx s10))).1, ⟨i13, i14.toNat, tx s15, i16, b17, fnd l19⟩, (Dk.append z (tx s15) (Wl.frT i3.toNat (tx s10))).2) := by
    rw [ha]; unfold Wl.app2
    rw [if_pos (by rw [← c2]; exact hne)]
   show RepL l22 (Wl.append x ⟨i2, i3.toNat, tx s4, i5, b6, fnd l8⟩ (tx s10)).1 ∧ (⟨i13, i14.toNat, tx s15, i16, b17, fnd l19⟩ : Wl.Lg) = (Wl.append x ⟨i2, i3.toNat, tx s4, i5, b6, fnd l8⟩ (tx s10)).2.1 ∧ i23 = (Wl.append x ⟨i2, i3.toNat, tx s4, i5, b6, fnd l8⟩ (tx s10)).2.2
   rw [ha]; exact ⟨c1, rfl, c2⟩
  ·obtain ⟨z, hz, lz, ha⟩ := KZ x hx mx
   obtain ⟨c1, c2⟩ := hq z hz (lim_ok lz (by omega))
   rw [hfr] at c1 c2
   have ha : Wl.append x ⟨i2, i3.toNat, tx s4, i5, b6, fnd l8⟩ (tx s10) = ((Dk.append z (tx s15) (Wl.frT i3.toNat (tx s10))).1, ⟨i13, (i14.toNat + 1) % 18446744073709551616, tx s15, i16 + ((Wl.frT i3.toNat (tx s10)).length : Int), true, fnd l19⟩, 0) := by
    rw [ha]; unfold Wl.app2
    rw [if_neg (by rw [← c2, he]; simp)]
   show RepL l22 (Wl.append x ⟨i2, i3.toNat, tx s4, i5, b6, fnd l8⟩ (tx s10)).1 ∧ (⟨i13, (IntKind.u64.wrap (i14 + 1)).toNat, tx s15, IntKind.i64.wrap (i16 + ((s11.size : Nat) : Int)), true, fnd l19⟩ : Wl.Lg) = (Wl.append x ⟨i2, i3.toNat, tx s4, i5, b6, fnd l8⟩ (tx s10)).2.1 ∧ (0 : Int) = (Wl.append x ⟨i2, i3.toNat, tx s4, i5, b6, fnd l8⟩ (tx s10)).2.2
   rw [ha]
   refine ⟨c1, ?_, rfl⟩
   have e1 : (IntKind.u64.wrap (i14 + 1)).toNat = (i14.toNat + 1) % 18446744073709551616 := by rw [IntKind.wrap_u64]; omega
   rw [e1, wrap64 (by omega) (by omega), hlf]
 -- with a new file
 have viaTurn : (tx s4 = [] ∨ (i5 > 0 ∧ i5 > i2 - (Wl.frT i3.toNat (tx s10)).length)) →
   wTurn.sig.pre [.N n0, .N n1, .I i2, .I i3, .S s4, .I i5, .B b6, .V v7, .L l8, .L l9] ∧ (∀ (i13 i14 : Int) (s15 : ByteArray) (i16 : Int) (b17 : Bool) (v18 : Value) (l19 l20 : List D) (i21 : Int),
    wTurn.sig.post [.N n0, .N n1, .I i2, .I i3, .S s4, .I i5, .B b6, .V v7, .L l8, .L l9, .I i13, .I i14, .S s15, .I i16, .B b17, .V v18, .L l19, .L l20, .I i21] → (-9223372036854775808 ≤ i21 ∧ i21 < 9223372036854775808) →
    (-9223372036854775808 ≤ i13 ∧ i13 < 9223372036854775808) → (0 ≤ i14 ∧ i14 < 18446744073709551616) → ((s15.size : Int) ≤ 9223372036854775807) → (-9223372036854775808 ≤ i16 ∧ i16 < 9223372036854775808) → EK.ok [.str] (.L l19) →
    ((i21 ≠ 0 → wAppend.sig.post [.N n0, .N n1, .I i2, .I i3, .S s4, .I i5, .B b6, .V v7, .L l8, .L l9, .S s10, .I i13, .I i14, .S s15, .I i16, .B b17, .V v18, .L l19, .L l20, .I i21]) ∧ (i21 = 0 →
      qAppend.sig.pre [.N n1, .L l20, .S s15, .S s11] ∧ (∀ (l22 : List D) (i23 : Int), qAppend.sig.post [.N n1, .L l20, .S s15, .S s11, .L l22, .I i23] → (-9223372036854775808 ≤ i23 ∧ i23 < 9223372036854775808) →
    ((i23 ≠ 0 → wAppend.sig.post [.N n0, .N n1, .I i2, .I i3, .S s4, .I i5, .B b6, .V v7, .L l8, .L l9, .S s10, .I i13, .I i14, .S s15, .I i16, .B b17, .V v18, .L l19, .L l22, .I i23]) ∧
     (i23 = 0 → wAppend.sig.post [.N n0, .N n1, .I i2, .I i3, .S s4, .I i5, .B b6, .V v7, .L l8, .L l9, .S s10, .I i13, .I (IntKind.u64.wrap (i14 + 1)), .S s15, .I (IntKind.i64.wrap (i16 + ((s11.size : Nat) : Int))), .B true, .V v18, .L l19, .L l22, .I 0])))))) := by
  intro hc
  refine ⟨⟨⟨x0, hx0, mx0⟩, hg, trivial⟩, ?_⟩
  intro i13 i14 s15 i16 b17 v18 l19 l20 i21 ht _ _ h14 _ _ _
  have hfl : (fnd l8).length ≤ 50000 := hg.found
  have K : ∀ x, RepL l9 x → Mid x → ∃ z, RepL l20 z ∧ Lim 200000 100000000 z ∧ Wl.turn x ⟨i2, i3.toNat, tx s4, i5, b6, fnd l8⟩ = (z, ⟨i13, i14.toNat, tx s15, i16, b17, fnd l19⟩, i21) := by
   intro x hx mx
   obtain ⟨q1, q2, q3⟩ := ht x hx mx
   have q1 : RepL l20 (Wl.turn x ⟨i2, i3.toNat, tx s4, i5, b6, fnd l8⟩).1 := q1
   have q2 : (⟨i13, i14.toNat, tx s15, i16, b17, fnd l19⟩ : Wl.Lg) = (Wl.turn x ⟨i2, i3.toNat, tx s4, i5, b6, fnd l8⟩).2.1 := q2
   have q3 : i21 = (Wl.turn x ⟨i2, i3.toNat, tx s4, i5, b6, fnd l8⟩).2.2 := q3
   have := lim_wturn (g := ⟨i2, i3.toNat, tx s4, i5, b6, fnd l8⟩) mx
   exact ⟨_, q1, this.mono (by dsimp only; omega) (Nat.le_refl _), by rw [q2, q3]⟩
  have hap : ∀ x, RepL l9 x → Mid x → ∃ z, RepL l20 z ∧ Lim 200000 100000000 z ∧ Wl.append x ⟨i2, i3.toNat, tx s4, i5, b6, fnd l8⟩ (tx s10) = Wl.app1 (Wl.frT i3.toNat (tx s10)) (z, ⟨i13, i14.toNat, tx s15, i16, b17, fnd l19⟩, i21) := by
   intro x hx mx
   obtain ⟨z, hz, lz, hs⟩ := K x hx mx
   refine ⟨z, hz, lz, ?_⟩
   unfold Wl.append
   rw [if_neg (by rw [tx_size]; exact hsm), if_pos hc, hs]
  refine ⟨fun hne x hx mx => ?_, fun h21 => ?_⟩
  ·obtain ⟨z, hz, lz, ha⟩ := hap x hx mx
   have ha : Wl.append x ⟨i2, i3.toNat, tx s4, i5, b6, fnd l8⟩ (tx s10) = (z, ⟨i13, i14.toNat, tx s15, i16, b17, fnd l19⟩, i21) := by
    rw [ha]; unfold Wl.app1; rw [if_pos hne]
   show RepL l20 (Wl.append x ⟨i2, i3.toNat, tx s4, i5, b6, fnd l8⟩ (tx s10)).1 ∧ (⟨i13, i14.toNat, tx s15, i16, b17, fnd l19⟩ : Wl.Lg) = (Wl.append x ⟨i2, i3.toNat, tx s4, i5, b6, fnd l8⟩ (tx s10)).2.1 ∧ i21 = (Wl.append x ⟨i2, i3.toNat, tx s4, i5, b6, fnd l8⟩ (tx s10)).2.2
   rw [ha]; exact ⟨hz, rfl, rfl⟩
  ·obtain ⟨z0, hz0, lz0, hs0⟩ := K x0 hx0 mx0
   have h16 : 0 ≤ i16 ∧ i16 ≤ 1000000000000 := by
    have h := (turn_lg x0 ⟨i2, i3.toNat, tx s4, i5, b6, fnd l8⟩).2.2
    rw [hs0] at h
    rcases h with h | h
    ·have h : i16 = i5 := h
     omega
    ·have h : i16 = 0 := h
     omega
   refine app i13 i14 s15 i16 b17 v18 l19 l20 h16 h14 ⟨z0, hz0, lz0⟩ fun x hx mx => ?_
   obtain ⟨z, hz, lz, ha⟩ := hap x hx mx
   refine ⟨z, hz, lz, ?_⟩
   rw [ha]; unfold Wl.app1; rw [if_neg (by rw [h21]; simp)]
 have direct : ¬ (tx s4 = [] ∨ (i5 > 0 ∧ i5 > i2 - (Wl.frT i3.toNat (tx s10)).length)) → ∀ x, RepL l9 x → Mid x → ∃ z, RepL l9 z ∧ Lim 200000 100000000 z ∧ Wl.append x ⟨i2, i3.toNat, tx s4, i5, b6, fnd l8⟩ (tx s10) = Wl.app2 (Wl.frT i3.toNat (tx s10)) z ⟨i2, i3.toNat, tx s4, i5, b6, fnd l8⟩ := by
  intro hc x hx mx
  refine ⟨x, hx, Lim.mono mx (by omega) (Nat.le_refl _), ?_⟩
  unfold Wl.append
  rw [if_neg (by rw [tx_size]; exact hsm), if_neg hc]
 have l0 : ∃ z, RepL l9 z ∧ Lim 200000 100000000 z := ⟨x0, hx0, Lim.mono mx0 (by omega) (Nat.le_refl _)⟩
 refine ⟨fun hn => viaTurn (.inl (nameNil.1 hn)), fun hn => ⟨fun hp => ⟨fun hlt => viaTurn (.inr ⟨hp, by rw [hlf]; exact hlt⟩), fun hge => ?_⟩, fun hp => ?_⟩⟩
 ·exact app i2 i3 s4 i5 b6 v7 l8 l9 hsize ⟨u0, u1⟩ l0 (direct (by
   rintro (h | ⟨_, h⟩)
   ·exact hn (nameNil.2 h)
   ·rw [hlf] at h; omega))
 ·exact app i2 i3 s4 i5 b6 v7 l8 l9 hsize ⟨u0, u1⟩ l0 (direct (by
   rintro (h | ⟨h, _⟩)
   ·exact hn (nameNil.2 h)
   ·omega))
end Go.Vc
namespace Go.Vc
open Dk (Ds)
theorem wNext.pure : wNext.Pure := by
 unfold wNext.Pure
 intros
 trivial
theorem Mid.names {x : Ds} (h : Mid x) : x.names.length ≤ 60000 := by
 have := h.hist.names h.inv
 have := h.files
 omega
theorem files_len {x : Ds} (h : Mid x) : (Wl.files x).length ≤ 60000 := Nat.le_trans (List.length_filterMap_le _ _) h.names
theorem cast_inj {l m : List Nat} (h : (l.map fun n : Nat => (n : Int)) = m.map fun n : Nat => (n : Int)) : l = m := by
 have : ∀ {l m : List Nat}, (l.map fun n : Nat => (n : Int)) = m.map (fun n : Nat => (n : Int)) → l = m := by
  intro l
  induction l with
  | nil => intro m h; cases m with | nil => rfl | cons => simp at h
  | cons a l ih =>
   intro m h
   cases m with
   | nil => simp at h
   | cons b m =>
    simp only [List.map_cons, List.cons.injEq] at h
    rw [ih h.2, show a = b from by omega]
 exact this h
theorem wRetire.pure : wRetire.Pure := by
 intro n0 n1 i2 i3 s4 i5 b6 v7 l8 l9 _ _ _ _ _ ⟨⟨x0, hx0, mx0⟩, hg, _⟩
 have hx0 : RepL l9 x0 := hx0
 refine ⟨⟨x0, hx0, mx0.small, mx0.names⟩, fun v10 z11 i12 hf _ _ => ?_⟩
 have hf : ∀ x, RepL l9 x → Small x → i12 = (if x.dead then 9 else 0) ∧ z11 = if x.dead then [] else (Wl.files x).map fun n : Nat => (n : Int) := hf
 refine ⟨fun hne x hx mx => ?_, fun he v13 => ?_⟩
 ·have h := hf x hx mx.small
  have hd : x.dead = true := Classical.byContradiction fun hd => by rw [Bool.not_eq_true] at hd; rw [hd] at h; exact hne h.1
  rw [hd] at h
  have hr : Wl.retire x ⟨i2, i3.toNat, tx s4, i5, b6, fnd l8⟩ = (x, ⟨i2, i3.toNat, tx s4, i5, b6, fnd l8⟩, 9) := by unfold Wl.retire; rw [if_pos hd]
  show RepL l9 (Wl.retire x ⟨i2, i3.toNat, tx s4, i5, b6, fnd l8⟩).1 ∧ (⟨i2, i3.toNat, tx s4, i5, b6, fnd l8⟩ : Wl.Lg) = (Wl.retire x ⟨i2, i3.toNat, tx s4, i5, b6, fnd l8⟩).2.1 ∧ i12 = (Wl.retire x ⟨i2, i3.toNat, tx s4, i5, b6, fnd l8⟩).2.2
  rw [hr]; exact ⟨hx, rfl, h.1⟩
 subst he
 have live : ∀ x, RepL l9 x → Mid x → x.dead = false := by
  intro x hx mx
  have h := (hf x hx mx.small).1
  cases hd : x.dead with
  | false => rfl
  | true => rw [hd] at h; exact absurd h (by decide)
 have hz : ∀ x, RepL l9 x → Mid x → z11 = (Wl.files x).map fun n : Nat => (n : Int) := by
  intro x hx mx
  have h := (hf x hx mx.small).2
  rw [live x hx mx] at h; exact h
 have hfl : ∀ x, RepL l9 x → Mid x → Wl.files x = Wl.files x0 := fun x hx mx => cast_inj ((hz x hx mx).symm.trans (hz x0 hx0 mx0))
 have hzl : z11.length = (Wl.files x0).length := by rw [hz x0 hx0 mx0, List.length_map]
 have hl0 := files_len mx0
 refine ⟨⟨Int.le_refl _, fun x hx mx => ⟨live x hx mx, (by show (0 : Int) ≤ ((Wl.files x).length : Int); omega), x, hx, Lim.mono mx (by omega) (Nat.le_refl _), rfl⟩⟩, ?_⟩
 intro i14 l15 _ ⟨g1, hinv⟩
 have g1 : 0 ≤ i14 := g1
 have hinv : ∀ x, RepL l9 x → Mid x → x.dead = false ∧ i14 ≤ ((Wl.files x).length : Int) ∧ ∃ y, RepL l15 y ∧ Lim (50000 + i14.toNat) 100000000 y ∧ Wl.removeAll x (Wl.files x) = Wl.removeAll y ((Wl.files x).drop i14.toNat) := hinv
 obtain ⟨_, g2, y0, hy0, ly0, _⟩ := hinv x0 hx0 mx0
 have sy0 := lim_ok ly0 (by omega)
 have K : ∀ x, RepL l9 x → Mid x → ∃ y, RepL l15 y ∧ Lim (50000 + i14.toNat) 100000000 y ∧ Wl.removeAll x (Wl.files x0) = Wl.removeAll y ((Wl.files x0).drop i14.toNat) := by
  intro x hx mx
  obtain ⟨_, _, y, hy, ly, h⟩ := hinv x hx mx
  rw [hfl x hx mx] at h
  exact ⟨y, hy, ly, h⟩
 have ret : ∀ x, RepL l9 x → Mid x → Wl.retire x ⟨i2, i3.toNat, tx s4, i5, b6, fnd l8⟩ = Wl.ret2 (Wl.files x0) ⟨i2, i3.toNat, [], 0, false, []⟩ (Wl.removeAll x (Wl.files x0)) := by
  intro x hx mx
  unfold Wl.retire
  rw [if_neg (by rw [live x hx mx]; simp), hfl x hx mx]; rfl
 refine ⟨fun hlt => ⟨g1, fun _ => ⟨trivial, fun s16 hnm _ => ?_⟩⟩, fun hge => ?_⟩
 ·have hi : i14.toNat < (Wl.files x0).length := by omega
  have hget : z11.getD i14.toNat 0 = (((Wl.files x0)[i14.toNat] : Nat) : Int) := by
   rw [hz x0 hx0 mx0, List.getD, List.getElem?_map, List.getElem?_eq_getElem hi]; rfl
  have hnm : s16 = bx (Wl.name (z11.getD i14.toNat 0).toNat) := hnm
  rw [hget, Int.toNat_natCast] at hnm
  have hdrop : (Wl.files x0).drop i14.toNat = (Wl.files x0)[i14.toNat] :: (Wl.files x0).drop (i14.toNat + 1) := List.drop_eq_getElem_cons hi
  generalize (Wl.files x0)[i14.toNat] = q at hnm hdrop
  subst hnm
  refine ⟨⟨y0, hy0, sy0⟩, fun l17 i18 hq _ => ?_⟩
  have hq : ∀ y, RepL l15 y → Small y → RepL l17 (Dk.remove y (Wl.name q)).1 ∧ i18 = (Dk.remove y (Wl.name q)).2 := hq
  have hw : IntKind.i64.wrap (i14 + 1) = i14 + 1 := wrap64 (by omega) (by omega)
  refine ⟨fun hne x hx mx => ?_, fun he => ?_⟩
  ·obtain ⟨y, hy, ly, h⟩ := K x hx mx
   obtain ⟨c1, c2⟩ := hq y hy (lim_ok ly (by omega))
   have hr : Wl.retire x ⟨i2, i3.toNat, tx s4, i5, b6, fnd l8⟩ = ((Dk.remove y (Wl.name q)).1, ⟨i2, i3.toNat, [], 0, false, []⟩, (Dk.remove y (Wl.name q)).2) := by
    rw [ret x hx mx, h, hdrop, Wl.removeAll, if_pos (by rw [← c2]; exact hne)]
    unfold Wl.ret2
    rw [if_pos (by rw [← c2]; exact hne)]
   show RepL l17 (Wl.retire x ⟨i2, i3.toNat, tx s4, i5, b6, fnd l8⟩).1 ∧ (⟨i2, i3.toNat, [], 0, false, []⟩ : Wl.Lg) = (Wl.retire x ⟨i2, i3.toNat, tx s4, i5, b6, fnd l8⟩).2.1 ∧ i18 = (Wl.retire x ⟨i2, i3.toNat, tx s4, i5, b6, fnd l8⟩).2.2
   rw [hr]; exact ⟨c1, rfl, c2⟩
  ·rw [hw]
   refine ⟨⟨(by omega : 0 ≤ i14 + 1), fun x hx mx => ?_⟩, (by omega : (60001 - (i14 + 1)).toNat < (60001 - i14).toNat)⟩
   obtain ⟨y, hy, ly, h⟩ := K x hx mx
   obtain ⟨c1, c2⟩ := hq y hy (lim_ok ly (by omega))
   have e : (i14 + 1).toNat = i14.toNat + 1 := by omega
   refine ⟨live x hx mx, (by show i14 + 1 ≤ ((Wl.files x).length : Int); rw [hfl x hx mx]; omega), _, c1, (lim_remove ly _).mono (by show 50000 + i14.toNat + 1 ≤ 50000 + (i14 + 1).toNat; omega) (Nat.le_refl _), ?_⟩
   show Wl.removeAll x (Wl.files x) = Wl.removeAll _ ((Wl.files x).drop (i14 + 1).toNat)
   rw [hfl x hx mx, e, h, hdrop, Wl.removeAll, if_neg (by rw [← c2, he]; simp)]
 ·have hall : (Wl.files x0).drop i14.toNat = [] := List.drop_of_length_le (by omega)
  have K2 : ∀ x, RepL l9 x → Mid x → ∃ y, RepL l15 y ∧ Lim (50000 + i14.toNat) 100000000 y ∧ Wl.removeAll x (Wl.files x0) = (y, 0) := by
   intro x hx mx
   obtain ⟨y, hy, ly, h⟩ := K x hx mx
   rw [hall] at h
   exact ⟨y, hy, ly, h⟩
  refine ⟨fun hz0 x hx mx => ?_, fun hnz => ⟨⟨y0, hy0, sy0⟩, fun l16 i17 hq _ x hx mx => ?_⟩⟩
  ·obtain ⟨y, hy, ly, h⟩ := K2 x hx mx
   have hr : Wl.retire x ⟨i2, i3.toNat, tx s4, i5, b6, fnd l8⟩ = (y, ⟨i2, i3.toNat, [], 0, false, []⟩, 0) := by
    rw [ret x hx mx, h]
    unfold Wl.ret2
    rw [if_neg (by simp), if_pos (List.eq_nil_of_length_eq_zero (by omega))]
   show RepL l15 (Wl.retire x ⟨i2, i3.toNat, tx s4, i5, b6, fnd l8⟩).1 ∧ (⟨i2, i3.toNat, [], 0, false, []⟩ : Wl.Lg) = (Wl.retire x ⟨i2, i3.toNat, tx s4, i5, b6, fnd l8⟩).2.1 ∧ (0 : Int) = (Wl.retire x ⟨i2, i3.toNat, tx s4, i5, b6, fnd l8⟩).2.2
   rw [hr]; exact ⟨hy, rfl, rfl⟩
  ·obtain ⟨y, hy, ly, h⟩ := K2 x hx mx
   obtain ⟨c1, c2⟩ := hq y hy (lim_ok ly (by omega))
   have c1 : RepL l16 (Dk.syncNames y).1 := c1
   have c2 : i17 = (Dk.syncNames y).2 := c2
   have hr : Wl.retire x ⟨i2, i3.toNat, tx s4, i5, b6, fnd l8⟩ = ((Dk.syncNames y).1, ⟨i2, i3.toNat, [], 0, false, []⟩, (Dk.syncNames y).2) := by
    rw [ret x hx mx, h]
    unfold Wl.ret2
    rw [if_neg (by simp), if_neg (fun hn => hnz (by rw [hzl, hn]; rfl))]
   show RepL l16 (Wl.retire x ⟨i2, i3.toNat, tx s4, i5, b6, fnd l8⟩).1 ∧ (⟨i2, i3.toNat, [], 0, false, []⟩ : Wl.Lg) = (Wl.retire x ⟨i2, i3.toNat, tx s4, i5, b6, fnd l8⟩).2.1 ∧ i17 = (Wl.retire x ⟨i2, i3.toNat, tx s4, i5, b6, fnd l8⟩).2.2
   rw [hr]; exact ⟨c1, rfl, c2⟩
end Go.Vc
namespace Go.Vc
open Dk (Ds)
theorem scan_len0 : ∀ (f : Nat) (l : List Int) (q : Int), (fScan f l q).1.length ≤ f
 | 0, _, _ => Nat.le_refl _
 | f + 1, l, q => by
  unfold fScan
  dsimp only
  split
  ·simp
  ·simp only [List.length_cons]
   have := scan_len0 f (l.drop (fRead l).2.2.1.toNat) ((q + 1) % 18446744073709551616)
   omega
theorem scanF_len (s : ByteArray) (q : Int) : (scanF (bytesOf s) q).1.length ≤ s.size + 1 := by
 have := scan_len0 ((bytesOf s).length + 1) (bytesOf s) q
 have e : (bytesOf s).length = s.size := by rw [bytesOf, List.length_map, Array.length_toList]; rfl
 unfold scanF
 rw [e] at this ⊢
 exact this
theorem txts_scan (s : ByteArray) (q : Nat) : txts (scanF (bytesOf s) (q : Int)).1 = txD (Wl.scanT (tx s) q) := by
 unfold txts txD Wl.scanT
 rw [List.map_map, bx_tx]
 exact List.map_congr_left fun l _ => by simp [Function.comp, bx_tx]
theorem read_len {x : Ds} (nm : Tx) : (Dk.read x nm).1.length ≤ tot x := by
 unfold Dk.read
 split
 ·simp
 ·split
  ·simp
  ·rename_i i _
   show (Dk.fileAt x i).data.length ≤ tot x
   unfold Dk.fileAt tot
   by_cases hi : i < x.files.length
   ·rw [List.getD, List.getElem?_eq_getElem hi]
    have : ∀ (l : List Dk.Fi) (j : Nat) (hj : j < l.length), l[j].data.length ≤ (l.map fun f => f.data.length).sum := by
     intro l
     induction l with
     | nil => intro j hj; simp at hj
     | cons a l ih =>
      intro j hj
      cases j with
      | zero => simp
      | succ j => have := ih j (by simpa using hj); simp only [List.getElem_cons_succ, List.map_cons, List.sum_cons]; omega
    exact this _ _ hi
   ·rw [List.getD, List.getElem?_eq_none (by omega)]; simp
theorem wOpen.pure : wOpen.Pure := by
 intro n0 l1 i2 hr2 ⟨x0, hx0, mx0⟩ v3
 have hx0 : RepL l1 x0 := hx0
 refine ⟨⟨x0, hx0, mx0.small, mx0.names⟩, fun v4 z5 i6 hf _ hz5 => ?_⟩
 have hf : ∀ x, RepL l1 x → Small x → i6 = (if x.dead then 9 else 0) ∧ z5 = if x.dead then [] else (Wl.files x).map fun n : Nat => (n : Int) := hf
 refine ⟨fun hne v7 => ⟨fun x hx mx => ?_, trivial⟩, fun he v7 n8 v9 => ?_⟩
 ·have h := hf x hx mx.small
  have hd : x.dead = true := Classical.byContradiction fun hd => by rw [Bool.not_eq_true] at hd; rw [hd] at h; exact hne h.1
  rw [hd] at h
  have h9 : i6 = 9 := h.1
  refine ⟨hne, rfl, ?_⟩
  show Wl.opened x i2 = (none, i6)
  unfold Wl.opened; rw [if_pos hd, h9]
 subst he
 have live : ∀ x, RepL l1 x → Mid x → x.dead = false := by
  intro x hx mx
  have h := (hf x hx mx.small).1
  cases hd : x.dead with
  | false => rfl
  | true => rw [hd] at h; exact absurd h (by decide)
 have hz : ∀ x, RepL l1 x → Mid x → z5 = (Wl.files x).map fun n : Nat => (n : Int) := by
  intro x hx mx
  have h := (hf x hx mx.small).2
  rw [live x hx mx] at h; exact h
 have hfl : ∀ x, RepL l1 x → Mid x → Wl.files x = Wl.files x0 := fun x hx mx => cast_inj ((hz x hx mx).symm.trans (hz x0 hx0 mx0))
 have hzl : z5.length = (Wl.files x0).length := by rw [hz x0 hx0 mx0, List.length_map]
 have hl0 : (Wl.files x0).length ≤ 50000 := Nat.le_trans (List.length_filterMap_le _ _) (Nat.le_trans (mx0.hist.names mx0.inv) mx0.files)
 have hmax : maxI i2 1 = max i2 1 := dmaxI_eq i2 1
 refine ⟨⟨Int.le_refl _, hmax, rfl, rfl, rfl, fun x hx mx => ⟨live x hx mx, (by show (0 : Int) ≤ ((Wl.files x).length : Int); omega), [], [], rfl, rfl, (by simp), (by simp), ?_⟩⟩, ?_⟩
 ·show if (0 : Int) = 0 then _ else _
  rw [if_pos rfl]; exact ⟨rfl, rfl, rfl⟩
 intro v10 l11 i12 i13 i14 s15 i16 b17 v18 l19 _ _ _ h14 _ _ _ ⟨g1, g2, g3, g4, g5, hinv⟩
 have g1 : 0 ≤ i12 := g1
 obtain rfl : i13 = max i2 1 := g2
 obtain rfl : s15 = ByteArray.empty := g3
 obtain rfl : i16 = 0 := g4
 obtain rfl : b17 = false := g5
 have hinv : ∀ x, RepL l1 x → Mid x → x.dead = false ∧ i12 ≤ ((Wl.files x).length : Int) ∧ ∃ O F, l11 = txD O ∧ l19 = txD F ∧ O.length ≤ i12.toNat * 100000002 ∧ F.length ≤ i12.toNat ∧
  (if i12 = 0 then i14 = 1 ∧ O = [] ∧ F = [] else Wl.openAll x (Wl.files x) ((Wl.files x).headD 1) [] [] = Wl.openAll x ((Wl.files x).drop i12.toNat) i14.toNat O F) := hinv
 have K : ∀ x, RepL l1 x → Mid x → ∃ O F, l11 = txD O ∧ l19 = txD F ∧ O.length ≤ i12.toNat * 100000002 ∧ F.length ≤ i12.toNat ∧
   Wl.openAll x (Wl.files x0) ((Wl.files x0).headD 1) [] [] = Wl.openAll x ((Wl.files x0).drop i12.toNat) (if i12 = 0 then (Wl.files x0).headD 1 else i14.toNat) O F := by
  intro x hx mx
  obtain ⟨_, _, O, F, h1, h2, h3, h4, h5⟩ := hinv x hx mx
  refine ⟨O, F, h1, h2, h3, h4, ?_⟩
  by_cases h0 : i12 = 0
  ·rw [if_pos h0] at h5 ⊢
   obtain ⟨_, rfl, rfl⟩ := h5
   rw [h0]; rfl
  ·rw [if_neg h0] at h5 ⊢
   rw [hfl x hx mx] at h5; exact h5
 obtain ⟨_, g6, O0, F0, hO0, hF0, hOl, hFl, _⟩ := hinv x0 hx0 mx0
 have hll11 : l11.length ≤ i12.toNat * 100000002 := by rw [hO0, txD, List.length_map]; exact hOl
 have hll19 : l19.length ≤ i12.toNat := by rw [hF0, txD, List.length_map]; exact hFl
 have txD_inj : ∀ {a b : List Tx}, txD a = txD b → a = b := by
  intro a
  induction a with
  | nil => intro b h; cases b with | nil => rfl | cons => simp [txD] at h
  | cons p a ih =>
   intro b h
   cases b with
   | nil => simp [txD] at h
   | cons q b =>
    simp only [txD, List.map_cons, List.cons.injEq] at h
    rw [ih h.2, bx_inj (D.S.inj h.1)]
 -- the end
 have done : ∀ (nx : Int), 0 ≤ nx → (∀ x, RepL l1 x → Mid x → ∀ O F, l11 = txD O → l19 = txD F → Wl.openAll x ((Wl.files x0).drop i12.toNat) (if i12 = 0 then (Wl.files x0).headD 1 else i14.toNat) O F = (nx.toNat, O, F, 0)) →
   wOpen.sig.post [.N n0, .L l1, .I i2, .N n8, .I (max i2 1), .I nx, .S ByteArray.empty, .I 0, .B false, .V v18, .L l19, .V v10, .L l11] := by
  intro nx hnx h x hx mx
  obtain ⟨O, F, h1, h2, _, _, h5⟩ := K x hx mx
  refine ⟨O, ?_, h1, hnx⟩
  show Wl.opened x i2 = (some (⟨max i2 1, nx.toNat, [], 0, false, fnd l19⟩, O), 0)
  have hfn : fnd l19 = F := by
   rw [h2]; unfold fnd txD
   rw [List.map_map]
   refine (List.map_congr_left (g := id) fun t _ => ?_).trans (List.map_id _)
   exact tx_bx t
  unfold Wl.opened
  rw [if_neg (by rw [live x hx mx]; simp), hfl x hx mx, h5, h x hx mx O F h1 h2]
  unfold Wl.openR
  rw [if_neg (by simp), hfn]
 refine ⟨fun hlt => ⟨g1, fun _ => ?_⟩, fun hge => ?_⟩
 rotate_left
 ·-- all files
  have hall : (Wl.files x0).drop i12.toNat = [] := List.drop_of_length_le (by omega)
  refine done i14 h14.1 fun x hx mx O F h1 h2 => ?_
  rw [hall]
  by_cases h0 : i12 = 0
  ·rw [if_pos h0]
   obtain ⟨_, _, O', F', _, _, _, _, h5⟩ := hinv x hx mx
   rw [if_pos h0] at h5
   have : Wl.files x0 = [] := List.eq_nil_of_length_eq_zero (by omega)
   rw [this, h5.1]; rfl
  ·rw [if_neg h0]; rfl
 have hi : i12.toNat < (Wl.files x0).length := by omega
 have hget : z5.getD i12.toNat 0 = (((Wl.files x0)[i12.toNat] : Nat) : Int) := by
  rw [hz x0 hx0 mx0, List.getD, List.getElem?_map, List.getElem?_eq_getElem hi]; rfl
 have hdrop : (Wl.files x0).drop i12.toNat = (Wl.files x0)[i12.toNat] :: (Wl.files x0).drop (i12.toNat + 1) := List.drop_eq_getElem_cons hi
 have hhead : i12 = 0 → (Wl.files x0).headD 1 = (Wl.files x0)[i12.toNat] := by
  intro h0
  have e : i12.toNat = 0 := by rw [h0]; rfl
  have h1 : (Wl.files x0)[i12.toNat]? = some ((Wl.files x0)[i12.toNat]) := List.getElem?_eq_getElem hi
  have h3 : (Wl.files x0)[0]? = some ((Wl.files x0)[i12.toNat]) := by rw [← h1, e]
  have h2 : (Wl.files x0).headD 1 = ((Wl.files x0)[0]?).getD 1 := by rw [List.headD_eq_head?_getD, List.head?_eq_getElem?]
  rw [h2, h3]; rfl
 have hq64 : (Wl.files x0)[i12.toNat] < 18446744073709551616 := by
  have h1 := hz5 (z5.getD i12.toNat 0) (by rw [List.getD, List.getElem?_eq_getElem (by omega)]; exact List.getElem_mem _)
  rw [hget] at h1
  have := ((u64_has _).1 h1).2
  rw [show (2 : Int) ^ 64 = 18446744073709551616 from by decide] at this
  omega
 generalize (Wl.files x0)[i12.toNat] = q at hget hdrop hhead hq64
 rw [hget]
 -- a file that goes on
 have next : (if i12 = 0 then (Wl.files x0).headD 1 else i14.toNat) = q → ∀ (s20 : ByteArray), s20 = bx (Wl.name q) → ∀ (s21 : ByteArray) (i22 : Int), (∀ x, RepL l1 x → Small x → (tx s21, i22) = Dk.read x (tx s20)) →
   (i22 ≠ 0 → ∀ v23 : Value, wOpen.sig.post2 [.N n0, .L l1, .I i2, .V v23, .L [], .I i22]) ∧
   (i22 = 0 → s21.size ≤ 1000000000 ∧ ∀ l24 : List D, l24 = txts (scanF (bytesOf s21) (q : Int)).1 →
    (((l11 ++ l24).length : Nat) : Int) ≤ 8796093022208 ∧ ∀ s27 : ByteArray, s27 = bx (Wl.name q) → (((l19 ++ [D.S s27]).length : Nat) : Int) ≤ 8796093022208 ∧
      (wOpen.I0 [.N n0, .L l1, .I i2, .L (l11 ++ l24), .I (IntKind.i64.wrap (i12 + 1)), .I (max i2 1), .I (IntKind.u64.wrap ((q : Int) + IntKind.u64.wrap ((l24.length : Nat) : Int))), .S ByteArray.empty, .I 0, .B false, .L (l19 ++ [.S s27])] ∧
       wOpen.I0M [.N n0, .L l1, .I i2, .L (l11 ++ l24), .I (IntKind.i64.wrap (i12 + 1)), .I (max i2 1), .I (IntKind.u64.wrap ((q : Int) + IntKind.u64.wrap ((l24.length : Nat) : Int))), .S ByteArray.empty, .I 0, .B false, .L (l19 ++ [.S s27])] < wOpen.I0M [.N n0, .L l1, .I i2, .L l11, .I i12, .I (max i2 1), .I i14, .S ByteArray.empty, .I 0, .B false, .L l19])) := by
  rintro hnx s20 rfl s21 i22 hrd
  have hrd : ∀ x, RepL l1 x → Small x → (tx s21, i22) = Dk.read x (Wl.name q) := hrd
  refine ⟨fun hne v23 x hx mx => ⟨hne, rfl, ?_⟩, fun h22 => ?_⟩
  ·obtain ⟨O, F, h1, h2, _, _, h5⟩ := K x hx mx
   have h6 := hrd x hx mx.small
   show Wl.opened x i2 = (none, i22)
   unfold Wl.opened
   rw [if_neg (by rw [live x hx mx]; simp), hfl x hx mx, h5, hnx, hdrop, Wl.openAll, if_neg (by simp), if_pos (by rw [← h6]; exact hne), ← h6]
   unfold Wl.openR
   rw [if_pos hne]
  have hsz : s21.size ≤ 100000000 := by
   have h6 := hrd x0 hx0 mx0.small
   have h7 := read_len (x := x0) (Wl.name q)
   rw [← h6] at h7
   have h7 : (tx s21).length ≤ tot x0 := h7
   rw [tx_size] at h7
   exact Nat.le_trans h7 mx0.bytes
  refine ⟨by omega, fun l24 h24 => ?_⟩
  have hlen24 : l24.length ≤ s21.size + 1 := by rw [h24, txts, List.length_map]; exact scanF_len _ _
  have hsum : (l11 ++ l24).length ≤ (i12 + 1).toNat * 100000002 := by
   rw [List.length_append, show (i12 + 1).toNat = i12.toNat + 1 from by omega, Nat.add_mul]
   omega
  have hcap : (i12 + 1).toNat * 100000002 ≤ 50000 * 100000002 := Nat.mul_le_mul_right _ (by omega)
  refine ⟨by omega, fun s27 h27 => ?_⟩
  subst h27
  have hf19 : (l19 ++ [D.S (bx (Wl.name q))]).length ≤ (i12 + 1).toNat := by rw [List.length_append]; show l19.length + 1 ≤ _; omega
  refine ⟨by omega, ?_⟩
  have hw : IntKind.i64.wrap (i12 + 1) = i12 + 1 := wrap64 (by omega) (by omega)
  rw [hw]
  refine ⟨⟨(by omega : 0 ≤ i12 + 1), rfl, rfl, rfl, rfl, fun x hx mx => ?_⟩, (by omega : (60001 - (i12 + 1)).toNat < (60001 - i12).toNat)⟩
  obtain ⟨O, F, h1, h2, _, _, h5⟩ := K x hx mx
  have h6 := hrd x hx mx.small
  have e24 : l24 = txD (Wl.scanT (tx s21) q) := by rw [h24]; exact txts_scan s21 q
  have en : (i12 + 1).toNat = i12.toNat + 1 := by omega
  refine ⟨live x hx mx, (by show i12 + 1 ≤ ((Wl.files x).length : Int); rw [hfl x hx mx]; omega), O ++ Wl.scanT (tx s21) q, F ++ [Wl.name q], ?_, ?_, ?_, ?_, ?_⟩
  ·show l11 ++ l24 = txD _
   rw [h1, e24]; simp [txD]
  ·show l19 ++ [D.S (bx (Wl.name q))] = txD _
   rw [h2]; simp [txD]
  ·show (O ++ Wl.scanT (tx s21) q).length ≤ (i12 + 1).toNat * 100000002
   have : (l11 ++ l24).length = (O ++ Wl.scanT (tx s21) q).length := by rw [h1, e24]; simp [txD]
   omega
  ·show (F ++ [Wl.name q]).length ≤ (i12 + 1).toNat
   have : (l19 ++ [D.S (bx (Wl.name q))]).length = (F ++ [Wl.name q]).length := by rw [h2]; simp [txD]
   omega
  ·show if i12 + 1 = 0 then _ else Wl.openAll x (Wl.files x) ((Wl.files x).headD 1) [] [] = Wl.openAll x ((Wl.files x).drop (i12 + 1).toNat) (IntKind.u64.wrap ((q : Int) + IntKind.u64.wrap ((l24.length : Nat) : Int))).toNat (O ++ Wl.scanT (tx s21) q) (F ++ [Wl.name q])
   rw [if_neg (by omega), hfl x hx mx, h5, hnx, hdrop, Wl.openAll, if_neg (by simp), ← h6, if_neg (by rw [h22]; simp), en]
   have hlq : l24.length = (Wl.scanT (tx s21) q).length := by rw [e24]; simp [txD]
   have ew : (IntKind.u64.wrap ((q : Int) + IntKind.u64.wrap ((l24.length : Nat) : Int))).toNat = (q + (Wl.scanT (tx s21) q).length) % 18446744073709551616 := by
    rw [wrap_u64_eq (v := ((l24.length : Nat) : Int)) (by omega) (by omega), IntKind.wrap_u64, hlq]
    omega
   rw [ew]
 refine ⟨fun h0 => ?_, fun h0 => ⟨fun hne => ?_, fun heq => ?_⟩⟩
 rotate_left
 ·refine done i14 h14.1 fun x hx mx O F h1 h2 => ?_
  rw [if_neg h0, hdrop, Wl.openAll, if_pos (by omega)]
 ·have hnx : (if i12 = 0 then (Wl.files x0).headD 1 else i14.toNat) = q := by rw [if_neg h0]; omega
  refine ⟨trivial, fun s20 hs20 _ => ⟨⟨x0, hx0, mx0.small⟩, fun s21 i22 hrd _ _ => ?_⟩⟩
  have N := next hnx s20 (by have := hs20; exact this) s21 i22 hrd
  rw [← heq]
  refine ⟨fun hne v23 => ⟨N.1 hne v23, trivial⟩, fun h22 => ?_⟩
  obtain ⟨N1, N2⟩ := N.2 h22
  refine ⟨N1, fun v23 l24 i25 hsc _ _ => ?_⟩
  obtain ⟨M1, M2⟩ := N2 l24 hsc.1
  refine ⟨M1, fun _ v26 => ⟨⟨trivial, fun s27 h27 _ v28 => ⟨(M2 s27 h27).1, fun _ v29 => (M2 s27 h27).2⟩⟩, trivial, fun s27 h27 _ => ⟨fun v28 => ⟨(M2 s27 h27).1, fun _ v29 => (M2 s27 h27).2⟩, fun v28 => ⟨(M2 s27 h27).1, fun _ v29 => (M2 s27 h27).2⟩⟩⟩⟩
 ·have hnx : (if i12 = 0 then (Wl.files x0).headD 1 else i14.toNat) = q := by rw [if_pos h0]; exact hhead h0
  refine ⟨fun h => absurd rfl h, fun _ => ⟨trivial, fun s20 hs20 _ => ⟨⟨x0, hx0, mx0.small⟩, fun s21 i22 hrd _ _ => ?_⟩⟩⟩
  have N := next hnx s20 (by have := hs20; exact this) s21 i22 hrd
  refine ⟨fun hne v23 => ⟨N.1 hne v23, trivial⟩, fun h22 => ?_⟩
  obtain ⟨N1, N2⟩ := N.2 h22
  refine ⟨N1, fun v23 l24 i25 hsc _ _ => ?_⟩
  obtain ⟨M1, M2⟩ := N2 l24 hsc.1
  refine ⟨M1, fun _ v26 => ⟨⟨trivial, fun s27 h27 _ v28 => ⟨(M2 s27 h27).1, fun _ v29 => (M2 s27 h27).2⟩⟩, trivial, fun s27 h27 _ => ⟨fun v28 => ⟨(M2 s27 h27).1, fun _ v29 => (M2 s27 h27).2⟩, fun v28 => ⟨(M2 s27 h27).1, fun _ v29 => (M2 s27 h27).2⟩⟩⟩⟩
end Go.Vc
namespace Go.Vc
open Dk (Ds)
theorem kept_pack2 {P : Program} {G : List Glob} {f : FuncId} {s s' : Sig} (hk : Kept P G f s) (θ τ τ2 : List Tm) {r2 : SV} {h2 : List Ch} {n2 n2' : List Srt} (ha : s.alt = some (r2, h2, n2)) (ha' : s'.alt = some (r2.subst 0 (θ ++ τ2), h2.map (Ch.subst 0 (θ ++ τ2)), n2'))
  (e1 : s'.args = s.args.map (SV.subst 0 θ)) (e2 : s'.heap = s.heap.map (Ch.subst 0 θ)) (e3 : s'.res = s.res.subst 0 (θ ++ τ)) (e4 : s'.heap' = s.heap'.map (Ch.subst 0 (θ ++ τ)))
  (hu : θ.all (Tm.under s'.srts.length) = true)
  (hs : ∀ ρ, srtsOk s'.srts ρ → s'.pre ρ → srtsOk s.srts (θ.map (Tm.den ρ)) ∧ s.pre (θ.map (Tm.den ρ)))
  (hn : ∀ ρ σ, srtsOk s'.srts ρ → s'.pre ρ → srtsOk s.news σ → s.post (θ.map (Tm.den ρ) ++ σ) → ∃ σ', srtsOk s'.news σ' ∧ τ.map (Tm.den (ρ ++ σ')) = σ ∧ s'.post (ρ ++ σ'))
  (hn2 : ∀ ρ σ, srtsOk s'.srts ρ → s'.pre ρ → srtsOk n2 σ → s.post2 (θ.map (Tm.den ρ) ++ σ) → ∃ σ', srtsOk n2' σ' ∧ τ2.map (Tm.den (ρ ++ σ')) = σ ∧ s'.post2 (ρ ++ σ')) : Kept P G f s' := by
 refine ⟨?_, hk.body⟩
 intro w args ρ hsr hp hargs hh hg
 obtain ⟨hsr1, hp1⟩ := hs ρ hsr hp
 have hargs1 : svsHold (θ.map (Tm.den ρ)) s.args args.toList := by
  rw [e1] at hargs
  have := svsHold_subst (ρ := []) (σ := ρ) (θ := θ) s.args args.toList
  rw [List.nil_append, List.nil_append, List.length_nil] at this
  rw [← this]; exact hargs
 have hh1 : HeapOk (θ.map (Tm.den ρ)) s.heap w := by
  rw [e2] at hh
  exact HeapOk.of_subst (ρ := []) (σ := ρ) (θ := θ) hh
 have ho : owns ρ s'.heap = owns (θ.map (Tm.den ρ)) s.heap := by
  rw [e2]; exact owns_subst (ρ := []) (σ := ρ) (θ := θ) s.heap
 have hr : ros ρ s'.heap = ros (θ.map (Tm.den ρ)) s.heap := by
  rw [e2]; exact ros_subst (ρ := []) (σ := ρ) (θ := θ) s.heap
 -- one form
 have form : ∀ (tau : List Tm) (R R' : SigR) (po po' : List D → Prop) (v : Value) (w' : World), R.heap = s.heap → R'.heap = s'.heap → R'.res = R.res.subst 0 (θ ++ tau) → R'.heap' = R.heap'.map (Ch.subst 0 (θ ++ tau)) →
   (∀ σ, srtsOk R.news σ → po (θ.map (Tm.den ρ) ++ σ) → ∃ σ', srtsOk R'.news σ' ∧ tau.map (Tm.den (ρ ++ σ')) = σ ∧ po' (ρ ++ σ')) → Fit po R (θ.map (Tm.den ρ)) w v w' → Fit po' R' ρ w v w' := by
  rintro tau R R' po po' v w' i1 i2 i3 i4 hnn ⟨σ, h1, h2, h3, h4, h5, h6, h7⟩
  obtain ⟨σ', k1, k2, k3⟩ := hnn σ h1 h2
  have hρ : (θ ++ tau).map (Tm.den (ρ ++ σ')) = θ.map (Tm.den ρ) ++ σ := by
   rw [List.map_append, k2]
   refine congrArg (· ++ σ) (List.map_congr_left fun t ht => ?_)
   have hl := srtsOk_length hsr
   exact Tm.den_below (by rw [hl]; exact List.all_eq_true.1 hu t ht)
  have ho' : owns (ρ ++ σ') R'.heap' = owns (θ.map (Tm.den ρ) ++ σ) R.heap' := by
   rw [i4, ← hρ]; exact owns_subst (ρ := []) (σ := ρ ++ σ') (θ := θ ++ tau) R.heap'
  have hr' : ros (ρ ++ σ') R'.heap' = ros (θ.map (Tm.den ρ) ++ σ) R.heap' := by
   rw [i4, ← hρ]; exact ros_subst (ρ := []) (σ := ρ ++ σ') (θ := θ ++ tau) R.heap'
  rw [i1] at h5 h6 h7
  refine ⟨σ', k1, k3, ?_, ?_, ?_, ?_, ?_⟩
  ·have := SV.holds_subst (ρ := []) (σ := ρ ++ σ') (θ := θ ++ tau) R.res v
   rw [List.nil_append, List.nil_append, List.length_nil, hρ] at this
   rw [i3, this]; exact h3
  ·rw [i4]
   refine HeapOk.to_subst (ρ := []) (σ := ρ ++ σ') (θ := θ ++ tau) ?_
   rw [List.nil_append, List.nil_append, hρ]; exact h4
  ·intro b hb
   rw [ho'] at hb
   rw [i2, ho]; exact h5 b hb
  ·intro b hb
   rw [hr'] at hb
   rw [i2, ho, hr]; exact h6 b hb
  ·rw [i2, ho]; exact h7
 refine (hk.holds w args (θ.map (Tm.den ρ)) hsr1 hp1 hargs1 hh1 (by rw [← ho]; exact hg)).mono ?_
 rintro e w' ⟨v, rfl, hfit⟩
 refine ⟨v, rfl, ?_⟩
 rcases hfit with hfit | ⟨r, hr2, hfit⟩
 ·exact .inl (form τ s.toSigR s'.toSigR s.post s'.post v w' rfl rfl e3 e4 (fun σ h1 h2 => hn ρ σ hsr hp h1 h2) hfit)
 ·have es : s.toSigR.second = some { s.toSigR with res := r2, heap' := h2, news := n2, alt := none } := by
   unfold SigR.second
   have : s.toSigR.alt = some (r2, h2, n2) := ha
   rw [this]
  have es' : s'.toSigR.second = some { s'.toSigR with res := r2.subst 0 (θ ++ τ2), heap' := h2.map (Ch.subst 0 (θ ++ τ2)), news := n2', alt := none } := by
   unfold SigR.second
   have : s'.toSigR.alt = some (r2.subst 0 (θ ++ τ2), h2.map (Ch.subst 0 (θ ++ τ2)), n2') := ha'
   rw [this]
  rw [es] at hr2
  cases hr2
  exact .inr ⟨_, es', form τ2 { s.toSigR with res := r2, heap' := h2, news := n2, alt := none } { s'.toSigR with res := r2.subst 0 (θ ++ τ2), heap' := h2.map (Ch.subst 0 (θ ++ τ2)), news := n2', alt := none } s.post2 s'.post2 v w' rfl rfl rfl rfl (fun σ h1 h2 => hn2 ρ σ hsr hp h1 h2) hfit⟩
def LgRep (l : List D) (g : Wl.Lg) : Prop := srtsOk lgS l ∧ lgOf l 0 = g
theorem lg_cases {l : List D} (h : srtsOk lgS l) : ∃ i1 i2 s3 i4 b5 v6 l7, l = [.I i1, .I i2, .S s3, .I i4, .B b5, .V v6, .L l7] := by
 match l, h with
 | [_, _, _, _, _, _, _], h =>
  obtain ⟨⟨a, rfl⟩, ⟨b, rfl⟩, ⟨c, rfl⟩, ⟨d, rfl⟩, ⟨e, rfl⟩, ⟨f, rfl⟩, ⟨g, rfl⟩, _⟩ := h
  exact ⟨_, _, _, _, _, _, _, rfl⟩
def lT0 : List Tm := [.at 0, .at 1] ++ pkTms lgS 2 ++ [.at 3]
def lR0 : List Tm := pkTms lgS 4 ++ [.at 5, .at 6]
def p0 (old : Sig) (op : Ds → Wl.Lg → Ds × Wl.Lg × Int) : Sig :=
 { args := old.args.map (SV.subst 0 lT0), heap := old.heap.map (Ch.subst 0 lT0), srts := [.N, .N, .L, .L], res := old.res.subst 0 (lT0 ++ lR0), heap' := old.heap'.map (Ch.subst 0 (lT0 ++ lR0)), news := [.L, .L, .I],
   pre := fun l => (∃ x, RepL (arg l 3).toL x ∧ Mid x) ∧ srtsOk lgS (arg l 2).toL ∧ LgOk (lgOf (arg l 2).toL 0),
   post := fun l => ∀ x g, RepL (arg l 3).toL x → Mid x → LgRep (arg l 2).toL g → RepL (arg l 5).toL (op x g).1 ∧ LgRep (arg l 4).toL (op x g).2.1 ∧ (arg l 6).toI = (op x g).2.2 }
theorem p0_of {P : Program} {G : List Glob} {f : FuncId} {op : Ds → Wl.Lg → Ds × Wl.Lg × Int} (hk : Kept P G f (opW [] [] fun _ x g => op x g)) : Kept P G f (p0 (opW [] [] fun _ x g => op x g) op) := by
 refine kept_pack hk lT0 lR0 rfl rfl rfl rfl rfl rfl (show lT0.all (Tm.under 4) = true from by decide) ?_ ?_
 ·intro ρ hs hp
  match ρ, hs with
  | [a, b, e, dk], hs =>
   obtain ⟨ha, hb, ⟨lg, rfl⟩, ⟨dl, rfl⟩, _⟩ := hs
   obtain ⟨⟨x, hx, mx⟩, hl, hg⟩ := hp
   have hl : srtsOk lgS lg := hl
   obtain ⟨i1, i2, s3, i4, b5, v6, l7, rfl⟩ := lg_cases hl
   exact ⟨⟨ha, hb, ⟨_, rfl⟩, ⟨_, rfl⟩, ⟨_, rfl⟩, ⟨_, rfl⟩, ⟨_, rfl⟩, ⟨_, rfl⟩, ⟨_, rfl⟩, ⟨_, rfl⟩, trivial⟩, ⟨x, hx, mx⟩, hg, trivial⟩
 ·intro ρ σ hs hp hσ hpo
  match ρ, hs with
  | [a, b, e, dk], hs =>
   obtain ⟨ha, hb, ⟨lg, rfl⟩, ⟨dl, rfl⟩, _⟩ := hs
   obtain ⟨⟨x, hx, mx⟩, hl, hg⟩ := hp
   have hl : srtsOk lgS lg := hl
   obtain ⟨i1, i2, s3, i4, b5, v6, l7, rfl⟩ := lg_cases hl
   obtain ⟨lg', r, rfl, hl', hr⟩ := srtsOk_split (xs := lgS) (bs := [.L, .I]) hσ
   obtain ⟨j1, j2, t3, j4, c5, u6, k7, rfl⟩ := lg_cases hl'
   match r, hr with
   | [_, _], hr =>
    obtain ⟨⟨dl', rfl⟩, ⟨e', rfl⟩, _⟩ := hr
    refine ⟨[.L [.I j1, .I j2, .S t3, .I j4, .B c5, .V u6, .L k7], .L dl', .I e'], ⟨⟨_, rfl⟩, ⟨_, rfl⟩, ⟨_, rfl⟩, trivial⟩, rfl, ?_⟩
    rintro x g hx mx ⟨_, rfl⟩
    obtain ⟨q1, q2, q3⟩ := hpo x hx mx
    exact ⟨q1, ⟨hl', q2⟩, q3⟩
def lT1 : List Tm := [.at 0, .at 1] ++ pkTms lgS 2 ++ [.at 3, .at 4]
def lR1 : List Tm := pkTms lgS 5 ++ [.at 6, .at 7]
def pSync.sig : Sig := p0 wSync.sig Wl.sync
def pRetire.sig : Sig := p0 wRetire.sig Wl.retire
def pAppend.sig : Sig :=
 { args := wAppend.sig.args.map (SV.subst 0 lT1), heap := wAppend.sig.heap.map (Ch.subst 0 lT1), srts := [.N, .N, .L, .L, .S], res := wAppend.sig.res.subst 0 (lT1 ++ lR1), heap' := wAppend.sig.heap'.map (Ch.subst 0 (lT1 ++ lR1)), news := [.L, .L, .I],
   pre := fun l => (∃ x, RepL (arg l 3).toL x ∧ Mid x) ∧ srtsOk lgS (arg l 2).toL ∧ LgOk (lgOf (arg l 2).toL 0) ∧ (arg l 4).toS.size ≤ 900000000,
   post := fun l => ∀ x g, RepL (arg l 3).toL x → Mid x → LgRep (arg l 2).toL g → RepL (arg l 6).toL (Wl.append x g (tx (arg l 4).toS)).1 ∧ LgRep (arg l 5).toL (Wl.append x g (tx (arg l 4).toS)).2.1 ∧ (arg l 7).toI = (Wl.append x g (tx (arg l 4).toS)).2.2 }
section
variable {P : Program} {G : List Glob} {f : FuncId}
theorem pSync_of (hk : Kept P G f wSync.sig) : Kept P G f pSync.sig := p0_of hk
theorem pRetire_of (hk : Kept P G f wRetire.sig) : Kept P G f pRetire.sig := p0_of hk
theorem pAppend_of (hk : Kept P G f wAppend.sig) : Kept P G f pAppend.sig := by
 refine kept_pack hk lT1 lR1 rfl rfl rfl rfl rfl rfl (by decide) ?_ ?_
 ·intro ρ hs hp
  match ρ, hs with
  | [a, b, e, dk, s], hs =>
   obtain ⟨ha, hb, ⟨lg, rfl⟩, ⟨dl, rfl⟩, hs5, _⟩ := hs
   obtain ⟨⟨x, hx, mx⟩, hl, hg, hz⟩ := hp
   have hl : srtsOk lgS lg := hl
   obtain ⟨i1, i2, s3, i4, b5, v6, l7, rfl⟩ := lg_cases hl
   exact ⟨⟨ha, hb, ⟨_, rfl⟩, ⟨_, rfl⟩, ⟨_, rfl⟩, ⟨_, rfl⟩, ⟨_, rfl⟩, ⟨_, rfl⟩, ⟨_, rfl⟩, ⟨_, rfl⟩, hs5, trivial⟩, ⟨x, hx, mx⟩, hg, hz⟩
 ·intro ρ σ hs hp hσ hpo
  match ρ, hs with
  | [a, b, e, dk, s], hs =>
   obtain ⟨ha, hb, ⟨lg, rfl⟩, ⟨dl, rfl⟩, hs5, _⟩ := hs
   obtain ⟨⟨x, hx, mx⟩, hl, hg, hz⟩ := hp
   have hl : srtsOk lgS lg := hl
   obtain ⟨i1, i2, s3, i4, b5, v6, l7, rfl⟩ := lg_cases hl
   obtain ⟨lg', r, rfl, hl', hr⟩ := srtsOk_split (xs := lgS) (bs := [.L, .I]) hσ
   obtain ⟨j1, j2, t3, j4, c5, u6, k7, rfl⟩ := lg_cases hl'
   match r, hr with
   | [_, _], hr =>
    obtain ⟨⟨dl', rfl⟩, ⟨e', rfl⟩, _⟩ := hr
    refine ⟨[.L [.I j1, .I j2, .S t3, .I j4, .B c5, .V u6, .L k7], .L dl', .I e'], ⟨⟨_, rfl⟩, ⟨_, rfl⟩, ⟨_, rfl⟩, trivial⟩, rfl, ?_⟩
    rintro x g hx mx ⟨_, rfl⟩
    obtain ⟨q1, q2, q3⟩ := hpo x hx mx
    exact ⟨q1, ⟨hl', q2⟩, q3⟩
def oT : List Tm := [.at 0, .at 1, .at 2]
def oR : List Tm := .at 3 :: pkTms lgS 4 ++ [.at 5, .at 6]
def oR2 : List Tm := [.at 3, .at 4, .at 5]
def pOpen.sig : Sig :=
 { args := wOpen.sig.args.map (SV.subst 0 oT), heap := wOpen.sig.heap.map (Ch.subst 0 oT), srts := [.N, .L, .I], res := wOpen.sig.res.subst 0 (oT ++ oR), heap' := wOpen.sig.heap'.map (Ch.subst 0 (oT ++ oR)), news := [.N, .L, .V, .L],
   pre := fun l => ∃ x, RepL (arg l 1).toL x ∧ Mid x,
   post := fun l => ∀ x, RepL (arg l 1).toL x → Mid x → ∃ g r, Wl.opened x (arg l 2).toI = (some (g, r), 0) ∧ LgRep (arg l 4).toL g ∧ (arg l 6).toL = txD r ∧ 0 ≤ (arg (arg l 4).toL 1).toI,
   alt := some ((SV.tup [.lf .nilp, .lf (.sl (.at 3)), .lf (.int .i64 (.at 5))]).subst 0 (oT ++ oR2), (.osl (.at 3) [.str] (.at 4) :: dskT 0 1).map (Ch.subst 0 (oT ++ oR2)), [.V, .L, .I]),
   post2 := fun l => ∀ x, RepL (arg l 1).toL x → Mid x → (arg l 5).toI ≠ 0 ∧ (arg l 4).toL = [] ∧ Wl.opened x (arg l 2).toI = (none, (arg l 5).toI) }
theorem pOpen_of (hk : Kept P G f wOpen.sig) : Kept P G f pOpen.sig := by
 refine kept_pack2 hk oT oR oR2 (n2' := [.V, .L, .I]) rfl rfl rfl rfl rfl rfl (by decide) ?_ ?_ ?_
 ·intro ρ hs hp
  match ρ, hs with
  | [a, b, c], hs => exact ⟨hs, hp⟩
 ·intro ρ σ hs hp hσ hpo
  match ρ, hs with
  | [a, b, c], hs =>
   match σ, hσ with
   | n :: σ, hσ =>
    obtain ⟨lg', r, rfl, hl', hr⟩ := srtsOk_split (xs := lgS) (bs := [.V, .L]) hσ.2
    obtain ⟨j1, j2, t3, j4, c5, u6, k7, rfl⟩ := lg_cases hl'
    match r, hr with
    | [_, _], hr =>
     obtain ⟨⟨v, rfl⟩, ⟨e', rfl⟩, _⟩ := hr
     refine ⟨[n, .L [.I j1, .I j2, .S t3, .I j4, .B c5, .V u6, .L k7], .V v, .L e'], ⟨hσ.1, ⟨_, rfl⟩, ⟨_, rfl⟩, ⟨_, rfl⟩, trivial⟩, rfl, ?_⟩
     intro x hx mx
     obtain ⟨r, q1, q2⟩ := hpo x hx mx
     exact ⟨_, r, q1, ⟨hl', rfl⟩, q2⟩
 ·intro ρ σ hs hp hσ hpo
  match ρ, hs with
  | [a, b, c], hs =>
   match σ, hσ with
   | [u, v, w], hσ => exact ⟨[u, v, w], hσ, rfl, hpo⟩
def lT2 : List Tm := [.at 0, .at 1] ++ pkTms lgS 2
def pNext.sig : Sig :=
 { args := wNext.sig.args.map (SV.subst 0 lT2), heap := wNext.sig.heap.map (Ch.subst 0 lT2), srts := [.N, .N, .L], res := wNext.sig.res.subst 0 lT2,
   heap' := wNext.sig.heap.map (Ch.subst 0 lT2), news := [],
   pre := fun l => srtsOk lgS (arg l 2).toL, post := fun _ => True }
theorem pNext_of (hk : Kept P G f wNext.sig) : Kept P G f pNext.sig := by
 refine kept_pack hk lT2 [] rfl rfl rfl rfl rfl rfl (by decide) ?_ ?_
 ·intro ρ hs hp
  match ρ, hs with
  | [a, b, e], hs =>
   obtain ⟨ha, hb, ⟨lg, rfl⟩, _⟩ := hs
   have hl : srtsOk lgS lg := hp
   obtain ⟨i1, i2, s3, i4, b5, v6, l7, rfl⟩ := lg_cases hl
   exact ⟨⟨ha, hb, ⟨_, rfl⟩, ⟨_, rfl⟩, ⟨_, rfl⟩, ⟨_, rfl⟩, ⟨_, rfl⟩, ⟨_, rfl⟩, ⟨_, rfl⟩, trivial⟩, trivial⟩
 ·intro ρ σ hs hp hσ hpo
  obtain rfl := no_S hσ
  exact ⟨[], trivial, rfl, trivial⟩
end
end Go.Vc