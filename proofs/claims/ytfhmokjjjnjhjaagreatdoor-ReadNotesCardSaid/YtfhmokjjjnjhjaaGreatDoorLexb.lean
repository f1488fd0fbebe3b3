/-
 The lexer's laws: contracts of the document's functions, and of the laws' own.
 Printed by wip/vct.py: the conditions of functions, by their contracts.
 The lexer's laws: plain conditions of the document's numbers and tokens.
 The lexer's laws: plain conditions of the document's tokens.
 The lexer's laws: plain conditions of the document's lines.
 The lexer's laws: plain conditions of the laws.
-/
import Derived.Test.YtfhmokjjjnjhjaaGreatDoorLexm
import Derived.KernelRfl
import Derived.Test.YtfhmokjjjnjhjaaGreatDoorLexa
set_option linter.unusedVariables false
set_option linter.unusedSimpArgs false
open _root_.Go.IntKind (wrap)
namespace Go.Vc
def nO.sig : Sig := eX [.s, .i .i64] [.s] (fun l => 0 ≤ (arg l 1).toI) fun l => (arg l 2).toS = (arg l 0).toS.extract 0 (arg l 1).toI.toNat
end Go.Vc
namespace Go.Vc
set_option linter.unusedVariables false
set_option maxRecDepth 100000
def nO.Pure : Prop :=
 ∀ s0 : BA,
 ∀ i1 : Int,
 ((s0.size : Int) ≤ 9223372036854775807) →
 R64 i1 →
 nO.sig.pre [.S s0, .I i1] →
 ((
 (i1 < (s0.size : Int)) →
 Im (0 ≤ i1) (
 Im (i1 ≤ (s0.size : Int)) (
  nO.sig.post [.S s0, .I i1, .S (s0.extract (0 : Int).toNat i1.toNat)]))) ∧ (
 ((s0.size : Int) ≤ i1) →
  nO.sig.post [.S s0, .I i1, .S s0]))
end Go.Vc
namespace Go.Vc
open Lx
theorem nO.pure : nO.Pure := by
 intro s0 i1 _ _ hp
 have hp : 0 ≤ i1 := hp
 refine ⟨fun h => ⟨hp, fun _ => ⟨by omega, fun _ => rfl⟩⟩, fun h => ?_⟩
 show s0 = s0.extract 0 i1.toNat
 apply sZ
 rw [yH, List.drop_zero, List.take_of_length_le (by rw [cJ6]; omega)]
theorem cP5 (s : BA) (i : Int) : byteAt s i = (((tx s).getD i.toNat 0).toNat : Int) := by rw [bA6, aO0]
end Go.Vc
namespace Go.Vc
open Lx
theorem cP4 (l : Tx) : (Lx.bare l).takeWhile bP = l.takeWhile bP ∧ (Lx.bare l).dropWhile bP = Lx.bare (l.dropWhile bP) := by
 induction l with
 | nil => exact ⟨rfl, rfl⟩
 | cons c l ih =>
  unfold Lx.bare at ih ⊢
  by_cases h : c = 35
  ·subst h
   have : bP 35 = false := by decide
   rw [List.takeWhile_cons_of_neg (by simp), List.dropWhile_cons_of_neg (by simp [this]), List.takeWhile_cons_of_neg (by simp [this]), List.takeWhile_cons_of_neg (by simp)]
   exact ⟨rfl, rfl⟩
  ·rw [List.takeWhile_cons_of_pos (by simpa using h)]
   by_cases ha : bP c = true
   ·rw [List.takeWhile_cons_of_pos ha, List.takeWhile_cons_of_pos ha, List.dropWhile_cons_of_pos ha, List.dropWhile_cons_of_pos ha, ih.1, ih.2]; exact ⟨rfl, rfl⟩
   ·rw [List.takeWhile_cons_of_neg ha, List.takeWhile_cons_of_neg ha, List.dropWhile_cons_of_neg ha, List.dropWhile_cons_of_neg ha, List.takeWhile_cons_of_pos (by simpa using h)]; exact ⟨rfl, rfl⟩
theorem cN0 {c : UInt8} (h : c ≠ 35) (r : Tx) : Lx.bare (c :: r) = c :: Lx.bare r := List.takeWhile_cons_of_pos (by simpa using h)
theorem bR9 (l : Tx) : (Lx.bare l).length ≤ l.length := (List.takeWhile_sublist _).length_le
theorem cQ3 {c : UInt8} (h : c ≠ 35) (r : Tx) : next (c :: Lx.bare r) = (next (c :: r)).map fun p => (p.1, Lx.bare p.2) := by
 have hb := cP4 (c :: r)
 rw [cN0 h] at hb
 simp only [next, hb.1, hb.2]
 split
 ·rfl
 ·split
  ·cases num ((c :: r).takeWhile bP) <;> rfl
  ·split <;> rfl
theorem cN6 (r : Tx) : toks (35 :: r) = some [] := by
 have : Lx.bare (35 :: r) = [] := List.takeWhile_cons_of_neg (by simp)
 rw [toks, this]; rfl
theorem cM9 {c : UInt8} (hb : Lx.blank c = true) (r : Tx) : toks (c :: r) = toks r := by
 have hc : c ≠ 35 := fun e => by subst e; exact absurd hb (by decide)
 have hl := bR9 r
 have hd : ((Lx.bare r).dropWhile Lx.blank).length ≤ (Lx.bare r).length := (List.dropWhile_sublist _).length_le
 rw [toks, cN0 hc, bP1 (g := r.length + 1) (by simp only [List.length_cons]; omega) (by rw [List.dropWhile_cons_of_pos hb]; omega), List.dropWhile_cons_of_pos hb, toks, cJ2]
theorem cM3 {c : UInt8} (h : c ≠ 35) (hb : Lx.blank c = false) (r : Tx) : toks (c :: r) = match next (c :: r) with
  | none => none
  | some (t, s') => (toks s').map (t :: ·) := by
 rw [toks, cN0 h]
 simp only [eP]
 rw [List.dropWhile_cons_of_neg (by rw [hb]; simp)]
 simp only [cQ3 h]
 cases hn : next (c :: r) with
 | none => rfl
 | some p =>
  obtain ⟨t, s'⟩ := p
  have := aU8 hn
  have hl := bR9 s'
  simp only [List.length_cons] at this
  show (eP (c :: r).length (Lx.bare s')).map _ = (eP (s'.length + 1) (Lx.bare s')).map _
  rw [bP3 (c :: r).length (s'.length + 1) (Lx.bare s') (by simp only [List.length_cons]; omega) (by omega)]
end Go.Vc
namespace Go.Vc
open Lx
theorem cM8 (l : Tx) : aS l ≠ [] := by
 cases l with
 | nil => simp [aS]
 | cons c l =>
  simp only [aS]
  split
  ·simp
  ·split <;> simp
end Go.Vc
namespace Go.Vc
open Lx
theorem bP2 : ∀ {f : Nat} {s : Tx} {T : List Tok}, eP f s = some T → T.length ≤ s.length
 | 0, _, _, h => by simp [eP] at h
 | f + 1, s, T, h => by
  have hd : (s.dropWhile Lx.blank).length ≤ s.length := (List.dropWhile_sublist _).length_le
  simp only [eP] at h
  split at h
  ·cases h; simp
  ·rename_i c r he
   rw [he] at hd
   split at h
   ·cases h
   ·rename_i t s' hn
    have := aU8 hn
    cases hx : eP f s' with
    | none => rw [hx] at h; cases h
    | some T' =>
     rw [hx] at h; cases h
     have := bP2 hx
     simp only [List.length_cons] at *; omega
end Go.Vc