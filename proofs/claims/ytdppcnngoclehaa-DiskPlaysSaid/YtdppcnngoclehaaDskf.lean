/-
 The disk: how much there is, at the most, behind so many calls.
 The disk: what a call may make of it.
 The disk's laws: contracts, with the disk as one word.
 Printed by wip/vct.py: the conditions of functions, by their contracts.
 DiskKeeps: plain.
 DiskSwap: plain.
-/
import Derived.Test.YtdppcnngoclehaaDskb
import Derived.Test.YtdppcnngoclehaaDske
import Derived.Test.YtdppcnngoclehaaDskd
import Derived.KernelRfl
set_option linter.unusedVariables false
set_option linter.unusedSimpArgs false
open _root_.Go.IntKind (wrap)
namespace Go.Vc
open Dk (Ds Fi Cg)
def Hist (x : Ds) : Prop := ∀ k, ((x.pend.take k).foldl Dk.apply x.safe).length ≤ x.files.length
structure Lim (n b : Nat) (x : Ds) : Prop where
 inv : Dk.Inv x
 files : x.files.length ≤ n
 hist : Hist x
 pend : x.pend.length ≤ n
 calls0 : 0 ≤ x.calls
 calls : x.calls ≤ n
 room : 0 ≤ x.room
 bytes : tot x ≤ b
theorem Hist.safe {x : Ds} (h : Hist x) : x.safe.length ≤ x.files.length := h 0
theorem Hist.names {x : Ds} (h : Hist x) (hi : Dk.Inv x) : x.names.length ≤ x.files.length := by
 have := h x.pend.length
 rw [List.take_length, ← hi.names] at this
 exact this
theorem Hist.same {x y : Ds} (h : Hist x) (e1 : y.files.length = x.files.length) (e2 : y.safe = x.safe) (e3 : y.pend = x.pend) : Hist y := by
 intro k; rw [e2, e3, e1]; exact h k
theorem Lim.small {n b : Nat} {x : Ds} (h : Lim n b x) (hn : n ≤ 1000000) (hb : b ≤ 100000000000) : Small x :=
 ⟨h.inv, by have := h.files; omega, by have := h.hist.safe; have := h.files; have := h.pend; omega, ⟨h.calls0, by have := h.calls; omega⟩, h.room, by have := h.bytes; omega⟩
theorem Lim.mono {n b m c : Nat} {x : Ds} (h : Lim n b x) (hn : n ≤ m) (hb : b ≤ c) : Lim m c x := by
 obtain ⟨a1, a2, a3, a5, a6, a7, a8, a9⟩ := h
 exact ⟨a1, by omega, a3, by omega, a6, by omega, a8, by omega⟩
theorem cC4 (room : Int) : Lim 0 0 (Dk.new room) := ⟨Dk.aR1 room, by simp [Dk.new], by intro k; simp [Dk.new], by simp [Dk.new], by simp [Dk.new], by simp [Dk.new], by simp only [Dk.new]; omega, by simp [Dk.new, tot]⟩
theorem bU4 (d : Ds) : (Dk.begin d).1.calls = d.calls ∨ (Dk.begin d).1.calls = d.calls + 1 := by
 unfold Dk.begin
 split
 ·exact .inl rfl
 ·split
  ·exact .inl rfl
  ·dsimp only
   split <;> split <;> first | exact .inl rfl | (split <;> exact .inr rfl)
theorem bT9 {l : List (Tx × Nat)} {c : Cg} (h : ∃ p ∈ l, p.1 = c.gone) : (Dk.apply l c).length ≤ l.length := by
 obtain ⟨p, hp, hg⟩ := h
 have h1 : (l.filter fun q => decide (q.1 ≠ c.gone ∧ q.1 ≠ c.name)).length < l.length := by
  refine Nat.lt_of_le_of_ne (List.length_filter_le _ _) fun he => ?_
  have := List.length_filter_eq_length_iff.1 he p hp
  simp [hg] at this
 unfold Dk.apply
 dsimp only
 split
 ·omega
 ·rw [(Dk.aQ9 _ _).length_eq, List.length_cons]; omega
theorem bW4 {α : Type} (l : List α) (a : α) (k : Nat) : (l ++ [a]).take k = l.take k ∨ (l ++ [a]).take k = l ++ [a] := by
 by_cases h : k ≤ l.length
 ·exact .inl (by rw [List.take_append_of_le_length h])
 ·exact .inr (List.take_of_length_le (by simp; omega))
theorem Hist.turn {x : Ds} {c : Cg} (h : Hist x) (hi : Dk.Inv x) (hl : (Dk.apply x.names c).length ≤ x.files.length) : Hist (Dk.turn x c) := by
 intro k
 rcases bW4 x.pend c k with e | e
 ·show (((x.pend ++ [c]).take k).foldl Dk.apply x.safe).length ≤ x.files.length
  rw [e]; exact h k
 ·show (((x.pend ++ [c]).take k).foldl Dk.apply x.safe).length ≤ x.files.length
  rw [e, List.foldl_append, ← hi.names]; exact hl
theorem cM5 {x y : Ds} (h : x.files = y.files) : tot x = tot y := by unfold tot; rw [h]
theorem Lim.begin {n b : Nat} {x : Ds} (h : Lim n b x) : Lim (n + 1) b (Dk.begin x).1 := by
 obtain ⟨e1, e2, e3, e4, e5⟩ := Dk.iR x
 obtain ⟨a1, a2, a3, a5, a6, a7, a8, a9⟩ := h
 have hc := bU4 x
 exact ⟨a1.begin, by rw [e1]; omega, a3.same (by rw [e1]) e3 e4, by rw [e4]; omega, by omega, by omega, by rw [e5]; exact a8, by rw [cM5 e1]; exact a9⟩
theorem Lim.begin_ {n b : Nat} {x : Ds} (h : Lim n b x) : (Dk.begin x).1.files.length ≤ n ∧ (Dk.begin x).1.pend.length ≤ n := by
 obtain ⟨e1, e2, e3, e4, e5⟩ := Dk.iR x
 exact ⟨by rw [e1]; exact h.files, by rw [e4]; exact h.pend⟩
theorem bQ7 {x : Ds} {i : Nat} {f : Fi} (hi : i < x.files.length) : tot (Dk.set x i f) + (Dk.fileAt x i).data.length = tot x + f.data.length := by
 unfold tot Dk.set Dk.fileAt
 dsimp only
 generalize x.files = l at hi
 induction l generalizing i with
 | nil => simp at hi
 | cons g l ih =>
  cases i with
  | zero => simp; omega
  | succ i =>
   have := ih (i := i) (by simpa using hi)
   simp only [List.set_cons_succ, List.map_cons, List.sum_cons, List.getD_cons_succ]
   omega
theorem cC3 {n b : Nat} {x : Ds} (h : Lim n b x) (nm : Tx) : Lim (n + 1) b (Dk.create x nm).1 := by
 have hi := Dk.aR0 h.inv nm
 unfold Dk.create at hi ⊢
 split
 ·exact h.mono (by omega) (Nat.le_refl _)
 ·split
  ·exact h.mono (by omega) (Nat.le_refl _)
  ·split
   ·exact h.mono (by omega) (Nat.le_refl _)
   ·rename_i c1 c2 c3
    rw [if_neg c1, if_neg c2, if_neg c3] at hi
    have hb := h.begin
    have hb' := h.begin_
    generalize Dk.begin x = y at hi hb hb' ⊢
    obtain ⟨d', stops, e⟩ := y
    dsimp only at hi hb hb' ⊢
    split at hi
    ·rename_i c4; rw [if_pos c4]; exact hb
    ·rename_i c4
     rw [if_neg c4]
     have hm : Hist ({ d' with files := d'.files ++ [⟨[], 0⟩] } : Ds) := fun k => Nat.le_trans (hb.hist k) (by simp)
     refine ⟨hi, ?_, hm.turn hb.inv.more ?_, ?_, hb.calls0, hb.calls, hb.room, ?_⟩
     ·simp only [Dk.turn, List.length_append, List.length_cons, List.length_nil]; omega
     ·have h1 := Dk.aY7 d'.names ⟨[], nm, d'.files.length⟩
      have h2 := hb.hist.names hb.inv
      simp only [List.length_append, List.length_cons, List.length_nil]
      omega
     ·simp only [Dk.turn, List.length_append, List.length_cons, List.length_nil]; omega
     ·have := hb.bytes
      simp only [tot, Dk.turn, List.map_append, List.sum_append, List.map_cons, List.map_nil, List.sum_cons, List.sum_nil, List.length_nil] at this ⊢
      omega
theorem cC0 {n b : Nat} {x : Ds} (h : Lim n b x) (nm s : Tx) : Lim (n + 1) (b + s.length) (Dk.append x nm s).1 := by
 have hi := Dk.bG1 h.inv nm s
 unfold Dk.append at hi ⊢
 split
 ·exact h.mono (by omega) (by omega)
 ·rename_i c1
  rw [if_neg c1] at hi
  split
  ·exact h.mono (by omega) (by omega)
  ·rename_i i hf
   rw [hf] at hi
   dsimp only at hi
   split
   ·exact h.mono (by omega) (by omega)
   ·rename_i c2
    rw [if_neg c2] at hi
    have hb := h.begin
    have hb' := h.begin_
    have hs := Dk.iR x
    have hl := h.inv.inn _ (Dk.lV hf)
    generalize Dk.begin x = y at hi hb hb' hs ⊢
    obtain ⟨d', stops, e⟩ := y
    dsimp only at hi hb hb' hs ⊢
    split at hi
    ·rename_i c3; rw [if_pos c3]; exact hb.mono (Nat.le_refl _) (by omega)
    ·rename_i c3
     rw [if_neg c3]
     refine ⟨hi, ?_, hb.hist.same (by simp only [Dk.set, List.length_set]) rfl rfl, hb.pend, hb.calls0, hb.calls, hb.room, ?_⟩
     ·simp only [Dk.set, List.length_set]; exact hb.files
     ·have := bQ7 (x := d') (i := i) (f := ⟨(Dk.fileAt d' i).data ++ s, (Dk.fileAt d' i).safe⟩) (by rw [hs.1]; exact hl)
      have h9 := hb.bytes
      simp only [List.length_append] at this
      dsimp only
      omega
theorem cC8 {n b : Nat} {x : Ds} (h : Lim n b x) (nm : Tx) : Lim (n + 1) b (Dk.sync x nm).1 := by
 have hi := Dk.cA3 h.inv nm
 unfold Dk.sync at hi ⊢
 split
 ·exact h.mono (by omega) (by omega)
 ·rename_i c1
  rw [if_neg c1] at hi
  split
  ·exact h.mono (by omega) (by omega)
  ·rename_i i hf
   rw [hf] at hi
   dsimp only at hi
   have hb := h.begin
   have hs := Dk.iR x
   have hl := h.inv.inn _ (Dk.lV hf)
   generalize Dk.begin x = y at hi hb hs ⊢
   obtain ⟨d', stops, e⟩ := y
   dsimp only at hi hb hs ⊢
   split at hi
   ·rename_i c3; rw [if_pos c3]; exact hb
   ·rename_i c3
    rw [if_neg c3]
    refine ⟨hi, ?_, hb.hist.same (by simp only [Dk.set, List.length_set]) rfl rfl, hb.pend, hb.calls0, hb.calls, hb.room, ?_⟩
    ·simp only [Dk.set, List.length_set]; exact hb.files
    ·have := bQ7 (x := d') (i := i) (f := ⟨(Dk.fileAt d' i).data, (Dk.fileAt d' i).data.length⟩) (by rw [hs.1]; exact hl)
     have h9 := hb.bytes
     dsimp only at this ⊢
     omega
theorem cC9 {n b : Nat} {x : Ds} (h : Lim n b x) : Lim (n + 1) b (Dk.fM x).1 := by
 have hi := Dk.bG2 h.inv
 unfold Dk.fM at hi ⊢
 have hb := h.begin
 generalize Dk.begin x = y at hi hb ⊢
 obtain ⟨d', stops, e⟩ := y
 dsimp only at hi hb ⊢
 split at hi
 ·rename_i c3; rw [if_pos c3]; exact hb
 ·rename_i c3
  rw [if_neg c3]
  exact ⟨hi, hb.files, fun k => by rw [List.take_nil]; exact hb.hist.names hb.inv, Nat.zero_le _, hb.calls0, hb.calls, hb.room, hb.bytes⟩
theorem bI1 {n b : Nat} {x : Ds} {c : Cg} (hi : Dk.Inv (Dk.turn x c)) (hb : Lim (n + 1) b x) (hb' : x.files.length ≤ n ∧ x.pend.length ≤ n) (hg : ∃ p ∈ x.names, p.1 = c.gone) : Lim (n + 1) b (Dk.turn x c) := by
 refine ⟨hi, hb.files, hb.hist.turn hb.inv (Nat.le_trans (bT9 hg) (hb.hist.names hb.inv)), ?_, hb.calls0, hb.calls, hb.room, hb.bytes⟩
 simp only [Dk.turn, List.length_append, List.length_cons, List.length_nil]; omega
theorem cC6 {n b : Nat} {x : Ds} (h : Lim n b x) (fr to : Tx) : Lim (n + 1) b (Dk.rename x fr to).1 := by
 have hi := Dk.cA2 h.inv fr to
 unfold Dk.rename at hi ⊢
 split
 ·exact h.mono (by omega) (by omega)
 ·rename_i c1
  rw [if_neg c1] at hi
  split
  ·exact h.mono (by omega) (by omega)
  ·rename_i i hf
   rw [hf] at hi
   dsimp only at hi
   split
   ·exact h.mono (by omega) (by omega)
   ·rename_i c2
    rw [if_neg c2] at hi
    have hb := h.begin
    have hb' := h.begin_
    have hs := Dk.iR x
    generalize Dk.begin x = y at hi hb hb' hs ⊢
    obtain ⟨d', stops, e⟩ := y
    dsimp only at hi hb hb' hs ⊢
    split at hi
    ·rename_i c3; rw [if_pos c3]; exact hb
    ·rename_i c3
     rw [if_neg c3]
     exact bI1 hi hb hb' ⟨_, by rw [hs.2.1]; exact Dk.lV hf, rfl⟩
theorem cC5 {n b : Nat} {x : Ds} (h : Lim n b x) (nm : Tx) : Lim (n + 1) b (Dk.remove x nm).1 := by
 have hi := Dk.cA1 h.inv nm
 unfold Dk.remove at hi ⊢
 split
 ·exact h.mono (by omega) (by omega)
 ·rename_i c1
  rw [if_neg c1] at hi
  split
  ·exact h.mono (by omega) (by omega)
  ·rename_i i hf
   rw [hf] at hi
   dsimp only at hi
   have hb := h.begin
   have hb' := h.begin_
   have hs := Dk.iR x
   generalize Dk.begin x = y at hi hb hb' hs ⊢
   obtain ⟨d', stops, e⟩ := y
   dsimp only at hi hb hb' hs ⊢
   split at hi
   ·rename_i c3; rw [if_pos c3]; exact hb
   ·rename_i c3
    rw [if_neg c3]
    exact bI1 hi hb hb' ⟨_, by rw [hs.2.1]; exact Dk.lV hf, rfl⟩
theorem aM9 (d : Ds) (ch : LI) : ∀ (i k : Nat) (fs : List Fi), ((Dk.cut d ch i k fs).map fun f => f.data.length).sum ≤ (fs.map fun f => f.data.length).sum
 | _, _, [] => by simp [Dk.cut]
 | i, k, f :: fs => by
  unfold Dk.cut
  split
  ·have := aM9 d ch (i + 1) (k + 1) fs
   simp only [List.map_cons, List.sum_cons, List.length_take]
   omega
  ·have := aM9 d ch (i + 1) k fs
   simp only [List.map_cons, List.sum_cons]
   omega
theorem cC7 {n b : Nat} {x : Ds} (h : Lim n b x) (ch : LI) : Lim n b (Dk.restart x ch) := by
 obtain ⟨a1, a2, a3, a5, a6, a7, a8, a9⟩ := h
 refine ⟨Dk.aR2 a1 ch, ?_, fun k => ?_, Nat.zero_le _, a6, a7, a8, ?_⟩
 ·show (Dk.cut _ _ _ _ _).length ≤ _
  rw [Dk.tN]; exact a2
 ·show ((([] : List Cg).take k).foldl Dk.apply _).length ≤ (Dk.cut _ _ _ _ _).length
  rw [Dk.tN, List.take_nil]; exact a3 _
 ·exact Nat.le_trans (aM9 _ _ _ _ _) a9
end Go.Vc
namespace Go.Vc
open Dk (Ds Fi Cg fileAt)
structure Core (x y : Ds) : Prop where
 files : y.files = x.files
 names : y.names = x.names
 safe : y.safe = x.safe
 pend : y.pend = x.pend
 room : y.room = x.room
theorem Core.refl (x : Ds) : Core x x := ⟨rfl, rfl, rfl, rfl, rfl⟩
theorem Core.at {x y : Ds} (h : Core x y) (i : Nat) : fileAt y i = fileAt x i := by unfold fileAt; rw [h.files]
end Go.Vc
namespace Go.Vc
def actK : EK := [.int .i64, .int .i64, .str, .str, .sl [.int .i64]]
def actP (a b : Nat) : List Pt := [.lf (.int .i64 (.at 0)), .lf (.int .i64 (.at 1)), .lf (.str (.at a)), .lf (.str (.at b)), .lf (.sl (.at 4))]
def lT.sig : Sig :=
 { args := [.one (.agg (actP 2 3))], heap := [.rsl (.at 4) [.int .i64] (.at 5)], aA := [.I, .I, .S, .S, .V, .Z], res := .one (.agg (actP 6 7)), heap' := [.rsl (.at 4) [.int .i64] (.at 5)], news := [.S, .S],
   pre := fun _ => True, post := fun l => (arg l 6).toS = (arg l 2).toS.extract 0 8 ∧ (arg l 7).toS = if (arg l 0).toI = 5 then ((arg l 3).toS.extract 0 100).extract 0 8 else (arg l 3).toS.extract 0 100 }
def mN : Tx := [109, 105, 110, 101]
def Gd (l : List (Tx × Nat)) : Prop := (mN, 0) ∈ l ∧ ∀ p ∈ l, p.2 = 0 → p.1 = mN
def gC (c : Dk.Cg) : Prop := c.gone ≠ mN ∧ c.name ≠ mN ∧ (c.name ≠ [] → c.file ≠ 0)
structure Mine (m : Tx) (x : Dk.Ds) : Prop where
 file : ∃ r, x.files = ⟨m, m.length⟩ :: r
 names : Gd x.names
 safe : Gd x.safe
 pend : ∀ c ∈ x.pend, gC c
end Go.Vc
namespace Go.Vc
set_option linter.unusedVariables false
set_option maxRecDepth 100000
def lT.Pure : Prop :=
 ∀ i0 i1 : Int,
 ∀ s2 s3 : BA,
 ∀ v4 : Value,
 ∀ z5 : LI,
 R64 i0 →
 R64 i1 →
 ((s2.size : Int) ≤ 9223372036854775807) →
 ((s3.size : Int) ≤ 9223372036854775807) →
 (∀ x ∈ z5, IntKind.has .i64 x) →
 lT.sig.pre [.I i0, .I i1, .S s2, .S s3, .V v4, .Z z5] →
 ∀ n6 : Nat,
 ∀ v7 : Value,
 ∀ n8 : Nat,
 jE.sig.pre [.S s2, .I 8] ∧ (
 ∀ s9 : BA,
 jE.sig.post [.S s2, .I 8, .S s9] →
 ((s9.size : Int) ≤ 9223372036854775807) →
 jE.sig.pre [.S s3, .I 100] ∧ (
 ∀ s10 : BA,
 jE.sig.post [.S s3, .I 100, .S s10] →
 ((s10.size : Int) ≤ 9223372036854775807) →
 ((
 (i0 = 5) →
  jE.sig.pre [.S s10, .I 8] ∧ (
 ∀ s11 : BA,
  jE.sig.post [.S s10, .I 8, .S s11] →
 ((s11.size : Int) ≤ 9223372036854775807) →
  lT.sig.post [.I i0, .I i1, .S s2, .S s3, .V v4, .Z z5, .S s9, .S s11])) ∧ (
 (i0 ≠ 5) →
  lT.sig.post [.I i0, .I i1, .S s2, .S s3, .V v4, .Z z5, .S s9, .S s10]))))
end Go.Vc
namespace Go.Vc
open Dk (Ds Fi Cg fileAt)
theorem Gd.apply {l : List (Tx × Nat)} {c : Cg} (h : Gd l) (hc : gC c) : Gd (Dk.apply l c) := by
 refine ⟨Dk.pX.2 (.inr ⟨h.1, fun h => hc.1 h.symm, fun h => hc.2.1 h.symm⟩), fun p hp h0 => ?_⟩
 rcases Dk.pX.1 hp with ⟨h1, rfl⟩ | ⟨h1, _⟩
 ·exact absurd h0 (hc.2.2 h1)
 ·exact h.2 p h1 h0
theorem Mine.turn {m : Tx} {x : Ds} (h : Mine m x) {c : Cg} (hc : gC c) : Mine m (Dk.turn x c) :=
 ⟨h.file, h.names.apply hc, h.safe, fun c' h' => by
  rcases List.mem_append.1 h' with h' | h'
  ·exact h.pend c' h'
  ·rw [List.mem_singleton] at h'; subst h'; exact hc⟩
theorem Mine.set {m : Tx} {x : Ds} (h : Mine m x) {i : Nat} {f : Fi} (hi : i ≠ 0) : Mine m (Dk.set x i f) := by
 obtain ⟨⟨r, hr⟩, h2, h3, h4⟩ := h
 refine ⟨?_, h2, h3, h4⟩
 cases i with
 | zero => exact absurd rfl hi
 | succ i => exact ⟨r.set i f, by simp [Dk.set, hr]⟩
theorem Mine.other {m : Tx} {x : Ds} (h : Mine m x) {nm : Tx} {i : Nat} (hn : nm ≠ mN) (hf : Dk.find x.names nm = some i) : i ≠ 0 := fun h0 => hn (h.names.2 _ (Dk.lV hf) h0)
theorem lT.pure : lT.Pure := by
 intro i0 i1 s2 s3 v4 z5 _ _ _ _ _ _ n6 v7 n8
 refine ⟨(by decide : (0 : Int) ≤ 8), fun s9 (h9 : s9 = s2.extract 0 8) _ => ⟨(by decide : (0 : Int) ≤ 100), fun s10 (h10 : s10 = s3.extract 0 100) _ => ⟨fun h5 => ⟨(by decide : (0 : Int) ≤ 8), fun s11 (h11 : s11 = s10.extract 0 8) _ => ⟨h9, ?_⟩⟩, fun h5 => ⟨h9, ?_⟩⟩⟩⟩
 ·show s11 = if i0 = 5 then _ else _
  rw [if_pos h5, h11, h10]; rfl
 ·show s10 = if i0 = 5 then _ else _
  rw [if_neg h5, h10]; rfl
end Go.Vc
namespace Go.Vc
open Dk (Ds Fi Cg fileAt)
theorem cC1 {n b : Nat} {x : Ds} (h : Lim n b x) (c : Int) : Lim n b { x with crash := c } := ⟨h.inv.same rfl rfl rfl rfl, h.files, h.hist, h.pend, h.calls0, h.calls, h.room, h.bytes⟩
end Go.Vc