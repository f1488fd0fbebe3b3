/-
 Notes and blanks change nothing of what is read: plain law.
 What is read of a text that sets one location: plain law.
-/
import Derived.Test.YtfhmokjjjnjhjaaGreatDoorReadm
import Derived.Test.YtfhmokjjjnjhjaaGreatDoorLexb
import Derived.KernelRfl
set_option linter.unusedVariables false
set_option linter.unusedSimpArgs false
set_option linter.unnecessarySimpa false
open _root_.Go.IntKind (wrap)
namespace Go.Vc
namespace Lt
open Lx
theorem cO5 : ∀ {f : Nat} {s : Tx} {T : List Tok}, eP f s = some T → (13 : UInt8) ∉ s
 | 0, _, _, h => by cases h
 | f + 1, s, T, h => by
  have hs : s = s.takeWhile Lx.blank ++ s.dropWhile Lx.blank := (List.takeWhile_append_dropWhile).symm
  have ht : (13 : UInt8) ∉ s.takeWhile Lx.blank := fun hm => by
   have := List.all_takeWhile (p := Lx.blank) (l := s)
   exact absurd (List.all_eq_true.1 this _ hm) (by decide)
  have hd : (13 : UInt8) ∉ s.dropWhile Lx.blank := by
   simp only [eP] at h
   split at h
   ·rename_i e; rw [e]; simp
   ·rename_i c r e
    rw [e]
    split at h
    ·cases h
    ·rename_i t s' hn
     cases hq : eP f s' with
     | none => rw [hq] at h; cases h
     | some T' =>
      have ih := cO5 hq
      simp only [next] at hn
      have tw : ∀ l : Tx, (13 : UInt8) ∉ l.dropWhile bP → (13 : UInt8) ∉ l := fun l hl hm => by
       rw [← List.takeWhile_append_dropWhile (p := bP) (l := l)] at hm
       rcases List.mem_append.1 hm with hm | hm
       ·exact absurd (List.all_eq_true.1 (List.all_takeWhile (p := bP) (l := l)) _ hm) (by decide)
       ·exact hl hm
      split at hn
      ·cases hn; exact tw _ ih
      ·split at hn
       ·cases hm : num ((c :: r).takeWhile bP) with
        | none => rw [hm] at hn; cases hn
        | some m => rw [hm] at hn; cases hn; exact tw _ ih
       ·split at hn
        ·rename_i hc
         cases hn
         intro hm
         rcases List.mem_cons.1 hm with hm | hm
         ·subst hm; rcases hc with hc | hc <;> exact absurd hc (by decide)
         ·exact ih hm
        ·cases hn
  rw [hs]
  exact fun hm => (List.mem_append.1 hm).elim ht hd
theorem cO9 (l : Tx) (hl : (13 : UInt8) ∉ Lx.bare l) (q : Tx) : toks (Lx.bare l ++ 35 :: q) = toks l ∧ toks (Lx.bare l) = toks l := by
 have hb : Lx.bare (Lx.bare l) = Lx.bare l := by
  unfold Lx.bare
  induction l with
  | nil => rfl
  | cons c l ih =>
   by_cases h : c = 35
   ·rw [List.takeWhile_cons_of_neg (by simpa using h)]; rfl
   ·rw [List.takeWhile_cons_of_pos (by simpa using h), List.takeWhile_cons_of_pos (by simpa using h), ih (by
     intro hm; exact hl (by unfold Lx.bare; rw [List.takeWhile_cons_of_pos (by simpa using h)]; exact List.mem_cons_of_mem _ hm))]
 have hc : Lx.bare (Lx.bare l ++ 35 :: q) = Lx.bare l := by
  have : ∀ m : Tx, Lx.bare m = m → Lx.bare (m ++ 35 :: q) = m := fun m => by
   induction m with
   | nil => intro _; exact List.takeWhile_cons_of_neg (by simp)
   | cons c m ih =>
    intro h
    unfold Lx.bare at h ih ⊢
    by_cases h3 : c = 35
    ·rw [List.takeWhile_cons_of_neg (by simpa using h3)] at h; cases h
    ·rw [List.takeWhile_cons_of_pos (by simpa using h3)] at h
     rw [List.cons_append, List.takeWhile_cons_of_pos (by simpa using h3), ih (List.cons.inj h).2]
  exact this _ hb
 have hle := bR9 l
 refine ⟨?_, ?_⟩
 ·rw [toks, hc, toks]; exact bP3 _ _ _ (by simp only [List.length_append, List.length_cons]; omega) (by omega)
 ·rw [toks, hb, toks]; exact bP3 _ _ _ (by omega) (by omega)
theorem cN7 (n : Tx) : ∀ (k : Nat) (l : Tx), l.length ≤ k → toks (l ++ 32 :: 35 :: n) = toks l
 | k, [], _ => by show toks (32 :: 35 :: n) = _; rw [cM9 (by decide), cN6]; rfl
 | 0, c :: l, h => absurd h (by simp)
 | k + 1, c :: l, h => by
  simp only [List.length_cons] at h
  by_cases h3 : c = 35
  ·subst h3; rw [List.cons_append, cN6, cN6]
  ·by_cases hb : Lx.blank c = true
   ·rw [List.cons_append, cM9 hb, cM9 hb, cN7 n k l (by omega)]
   ·have hb : Lx.blank c = false := by simpa using hb
    rw [List.cons_append, cM3 h3 hb, cM3 h3 hb]
    have tw : ∀ m : Tx, (m ++ 32 :: 35 :: n).takeWhile bP = m.takeWhile bP ∧ (m ++ 32 :: 35 :: n).dropWhile bP = m.dropWhile bP ++ 32 :: 35 :: n := fun m => by
     induction m with
     | nil => exact ⟨List.takeWhile_cons_of_neg (by decide), List.dropWhile_cons_of_neg (by decide)⟩
     | cons x m ih =>
      by_cases hx : bP x = true
      ·rw [List.cons_append, List.takeWhile_cons_of_pos hx, List.takeWhile_cons_of_pos hx, List.dropWhile_cons_of_pos hx, List.dropWhile_cons_of_pos hx, ih.1, ih.2]; exact ⟨rfl, rfl⟩
      ·rw [List.cons_append, List.takeWhile_cons_of_neg hx, List.takeWhile_cons_of_neg hx, List.dropWhile_cons_of_neg hx, List.dropWhile_cons_of_neg hx]; exact ⟨rfl, rfl⟩
    have hn : next (c :: (l ++ 32 :: 35 :: n)) = (next (c :: l)).map fun p => (p.1, p.2 ++ 32 :: 35 :: n) := by
     have := tw (c :: l)
     rw [List.cons_append] at this
     simp only [next, this.1, this.2]
     split
     ·rfl
     ·split
      ·cases num ((c :: l).takeWhile bP) <;> rfl
      ·split <;> rfl
    rw [hn]
    cases hx : next (c :: l) with
    | none => rfl
    | some p =>
     have := aU8 hx
     simp only [List.length_cons] at this
     simp only [Option.map_some, cN7 n k p.2 (by omega)]
def cL2 (l : Tx) : Tx := l.filter (· != 13)
theorem cO6 (l : Tx) : Lx.bare (cL2 l) = cL2 (Lx.bare l) := by
 unfold Lx.bare cL2
 induction l with
 | nil => rfl
 | cons c l ih =>
  by_cases h : c = 35
  ·subst h; rfl
  ·rw [List.takeWhile_cons_of_pos (by simpa using h)]
   by_cases h' : c = 13
   ·subst h'; exact ih
   ·rw [List.filter_cons_of_pos (by simpa using h'), List.filter_cons_of_pos (by simpa using h'), List.takeWhile_cons_of_pos (by simpa using h), ih]
theorem cR2 {l : Tx} {T : List Tok} (h : toks l = some T) : toks (cL2 l) = some T := by
 have hn := cO5 h
 have hf : cL2 (Lx.bare l) = Lx.bare l := List.filter_eq_self.2 fun x hx => by
  by_cases e : x = 13
  ·subst e; exact absurd hx hn
  ·simpa using e
 have h1 := (cO9 l hn []).2
 have h2 := (cO9 (cL2 l) (by rw [cO6, hf]; exact hn) []).2
 rw [← h2, cO6, hf, h1, h]
theorem cR3 (l : Tx) : cL2 (trim l) = cL2 l := by
 unfold trim
 split
 ·rename_i h
  have hne : l ≠ [] := fun e => by subst e; cases h
  have hl := List.dropLast_concat_getLast hne
  have : l.getLast hne = 13 := by rw [List.getLast?_eq_some_getLast hne] at h; exact Option.some.inj h
  conv => rhs; rw [← hl, this]
  unfold cL2
  rw [List.filter_append]; simp
 ·rfl
theorem cP0 {l n : Tx} {T : List Tok} (h : toks (trim l) = some T) : toks (trim (cL2 l ++ 32 :: 35 :: n)) = some T := by
 have h1 := cR2 h
 rw [cR3] at h1
 have : ∃ n', trim (cL2 l ++ 32 :: 35 :: n) = cL2 l ++ 32 :: 35 :: n' := by
  unfold trim
  split
  ·rename_i hh
   rcases List.eq_nil_or_concat n with rfl | ⟨m, x, rfl⟩
   ·rw [show cL2 l ++ [32, 35] = (cL2 l ++ [32]) ++ [35] by simp, List.getLast?_concat] at hh
    exact absurd (Option.some.inj hh) (by decide)
   ·refine ⟨m, ?_⟩
    rw [List.concat_eq_append, show cL2 l ++ 32 :: 35 :: (m ++ [x]) = (cL2 l ++ 32 :: 35 :: m) ++ [x] by simp, List.dropLast_concat]
  ·exact ⟨n, rfl⟩
 obtain ⟨n', hn'⟩ := this
 rw [hn', cN7 n' _ _ (Nat.le_refl _), h1]
def noted (note : Tx) : Tx → Tx
 | [] => []
 | c :: r => (if c = 10 then 32 :: 35 :: note else []) ++ (if c = 13 then [] else [c]) ++ noted note r
def cL6 (note : Tx) : List Tx → List Tx
 | [] => []
 | [l] => [cL2 l ++ [32, 35]]
 | l :: m :: ls => (cL2 l ++ 32 :: 35 :: note) :: cL6 note (m :: ls)
theorem cM8 : ∀ s : Tx, aS s ≠ []
 | [] => by simp [aS]
 | c :: r => by unfold aS; split; · simp
                split <;> simp
theorem cM6 (r : Tx) : ∀ a : Tx, (10 : UInt8) ∉ a → aS (a ++ r) = (a ++ (aS r).headD []) :: (aS r).tail
 | [], _ => by
  cases h : aS r with
  | nil => exact absurd h (cM8 r)
  | cons x xs => rw [List.nil_append, h]; rfl
 | c :: a, h => by
  have hc : c ≠ 10 := fun e => h (e ▸ List.mem_cons_self ..)
  rw [List.cons_append, aS, if_neg hc, cM6 r a (fun hm => h (List.mem_cons_of_mem _ hm))]; rfl
theorem cQ5 (note : Tx) (x y : Tx) (xs : List Tx) (h : cL2 x = cL2 y) : cL6 note (x :: xs) = cL6 note (y :: xs) := by
 cases xs <;> simp [cL6, h]
theorem cQ6 (note : Tx) (c : UInt8) (hc : c ≠ 13) (x : Tx) (xs : List Tx) : cL6 note ((c :: x) :: xs) = (c :: (cL6 note (x :: xs)).headD []) :: (cL6 note (x :: xs)).tail := by
 have : cL2 (c :: x) = c :: cL2 x := List.filter_cons_of_pos (by simpa using hc)
 cases xs <;> simp [cL6, this]
theorem cO3 (note : Tx) (hn : (10 : UInt8) ∉ note) : ∀ s : Tx, aS (noted note s ++ [32, 35]) = cL6 note (aS s)
 | [] => rfl
 | c :: r => by
  have ih := cO3 note hn r
  unfold noted
  by_cases h0 : c = 10
  ·subst h0
   rw [if_pos rfl, if_neg (by decide), List.append_assoc, List.append_assoc, cM6 _ _ (by simpa using hn)]
   show (32 :: 35 :: note ++ (aS (10 :: (noted note r ++ [32, 35]))).headD []) :: (aS (10 :: (noted note r ++ [32, 35]))).tail = cL6 note ([] :: aS r)
   rw [aS, if_pos rfl, ih]
   cases h : aS r with
   | nil => exact absurd h (cM8 r)
   | cons x xs => simp [cL6, cL2]
  ·rw [if_neg h0, List.nil_append]
   have e : aS (c :: r) = (c :: (aS r).headD []) :: (aS r).tail := by
    have := cM6 r [c] (by simpa using Ne.symm h0)
    exact this
   rw [e]
   cases h : aS r with
   | nil => exact absurd h (cM8 r)
   | cons x xs =>
    rw [h] at ih
    by_cases h1 : c = 13
    ·subst h1
     rw [if_pos rfl, List.nil_append, ih]
     exact cQ5 note _ _ _ rfl
    ·rw [if_neg h1, List.append_assoc]
     have := cM6 (noted note r ++ [32, 35]) [c] (by simpa using Ne.symm h0)
     rw [this, ih]
     exact (cQ6 note c h1 x xs).symm
theorem cO0 (note : Tx) : ∀ (L : List Tx) (n : Nat) (r : List (Nat × List Tok)), gU n L = .ok r → gU n (cL6 note L) = .ok r
 | [], _, _, h => h
 | [l], n, r, h => by
  simp only [gU, cL6] at h ⊢
  cases ht : toks (trim l) with
  | none => rw [ht] at h; cases h
  | some T => rw [ht] at h; rw [cP0 ht]; exact h
 | l :: m :: ls, n, r, h => by
  rw [gU] at h
  rw [cL6, gU]
  cases ht : toks (trim l) with
  | none => rw [ht] at h; cases h
  | some T =>
   rw [ht] at h
   rw [cP0 ht]
   cases hr : gU (n + 1) (m :: ls) with
   | error k => simp only [hr] at h; cases h
   | ok q => simp only [hr] at h; simp only [cO0 note (m :: ls) (n + 1) q hr]; exact h
theorem cR0 {s note : Tx} (hn : (10 : UInt8) ∉ note) (hl : (noted note s).length + 2 ≤ 2000) (h : (parse s).2.2 = 0) : parse (noted note s ++ [32, 35]) = parse s := by
 have hs : (lines s).2.2 = 0 := by
  unfold parse at h
  by_cases e : (lines s).2.2 = 0
  ·exact e
  ·simp only at h
   rw [if_pos e] at h
   have h : ((lines s).2.2 : Int) = 0 := h
   omega
 have he : lines (noted note s ++ [32, 35]) = lines s := by
  unfold lines at hs ⊢
  split at hs
  ·cases hs
  ·rename_i hlen
   rw [if_neg (by simp only [List.length_append, List.length_cons, List.length_nil]; omega), if_neg hlen, cO3 note hn]
   cases hf : gU 1 (aS s) with
   | error k => rw [hf] at hs; cases hs
   | ok r => rw [cO0 note _ _ _ hf]
 unfold parse
 rw [he]
end Lt
end Go.Vc
namespace Go.Vc
namespace Lt
open Lx
def dig (n : Nat) : UInt8 := UInt8.ofNat (if n < 10 then 48 + n else 87 + n)
theorem cN9 {l : Tx} : ((∀ x ∈ l, bP x = true) → l.takeWhile bP = l) ∧ ((∀ x ∈ l, bP x = true) → l.dropWhile bP = []) := by
 constructor <;> intro h <;> induction l with
 | nil => rfl
 | cons c l ih =>
  first | rw [List.takeWhile_cons_of_pos (h c (List.mem_cons_self ..)), ih fun x hx => h x (List.mem_cons_of_mem _ hx)] | rw [List.dropWhile_cons_of_pos (h c (List.mem_cons_self ..)), ih fun x hx => h x (List.mem_cons_of_mem _ hx)]
def hexOf : Nat → Nat → Tx
 | 0, _ => []
 | k + 1, v => hexOf k (v / 16) ++ [dig (v % 16)]
theorem cN1 : ∀ n, n < 16 → val (dig n) = n ∧ bP (dig n) = true ∧ dig n ≠ 13 ∧ dig n ≠ 10 := by decide
theorem cM5 : ∀ k v, (hexOf k v).length = k
 | 0, _ => rfl
 | k + 1, v => by simp [hexOf, cM5 k]
theorem cN2 : ∀ (k v : Nat), ∀ c ∈ hexOf k v, bP c = true ∧ c ≠ 10
 | 0, _, _, h => by cases h
 | k + 1, v, c, h => by
  rcases List.mem_append.1 h with h | h
  ·exact cN2 k _ c h
  ·rcases List.mem_singleton.1 h with rfl
   have := cN1 (v % 16) (Nat.mod_lt _ (by decide))
   exact ⟨this.2.1, this.2.2.2⟩
theorem cO1 : ∀ (k v n : Nat) (r : Tx), n * 16 ^ k + v % 16 ^ k < 18446744073709551616 → iJ 16 n (hexOf k v ++ r) = iJ 16 (n * 16 ^ k + v % 16 ^ k) r
 | 0, v, n, r, _ => by simp [hexOf, Nat.mod_one]
 | k + 1, v, n, r, h => by
  have e : v % 16 ^ (k + 1) = (v / 16 % 16 ^ k) * 16 + v % 16 := by rw [Nat.pow_succ, Nat.mul_comm, Nat.mod_mul]; omega
  have e2 : n * 16 ^ (k + 1) = n * 16 ^ k * 16 := by rw [Nat.pow_succ, Nat.mul_assoc]
  rw [e, e2] at h ⊢
  have hd := (cN1 (v % 16) (Nat.mod_lt _ (by decide))).1
  rw [hexOf, List.append_assoc, cO1 k (v / 16) n _ (by omega), List.singleton_append, iJ, hd, if_pos ⟨Nat.mod_lt _ (by decide), by omega⟩]
  congr 1; omega
def cM1 : Tx := [105, 110, 105, 116, 32, 98, 61, 48, 120]
set_option maxRecDepth 10000 in
theorem cQ2 (v : Nat) (hv : v < 18446744073709551616) : toks (trim (cM1 ++ hexOf 16 v)) = some [⟨1, [105, 110, 105, 116], 0⟩, ⟨1, [98], 0⟩, ⟨3, [61], 0⟩, ⟨2, 48 :: 120 :: hexOf 16 v, v⟩] := by
 have ht : trim (cM1 ++ hexOf 16 v) = cM1 ++ hexOf 16 v := by
  unfold trim
  rw [if_neg]
  rw [hexOf, ← List.append_assoc, List.getLast?_concat]
  intro h
  exact (cN1 (v % 16) (Nat.mod_lt _ (by decide))).2.2.1 (Option.some.inj h)
 rw [ht]
 have hn := cO1 16 v 0 [] (by rw [Nat.mod_eq_of_lt (by omega)]; omega)
 rw [List.append_nil] at hn
 have hal := cN2 16 v
 have hne : hexOf 16 v ≠ [] := fun e => by have := cM5 16 v; rw [e] at this; cases this
 generalize hexOf 16 v = H at *
 have ta : (48 :: 120 :: H : Tx).takeWhile bP = 48 :: 120 :: H := cN9.1 fun x hx => by
  rcases List.mem_cons.1 hx with rfl | hx
  ·rfl
  ·rcases List.mem_cons.1 hx with rfl | hx
   ·rfl
   ·exact (hal x hx).1
 have tb : (48 :: 120 :: H : Tx).dropWhile bP = [] := cN9.2 fun x hx => by
  rcases List.mem_cons.1 hx with rfl | hx
  ·rfl
  ·rcases List.mem_cons.1 hx with rfl | hx
   ·rfl
   ·exact (hal x hx).1
 have hm : num (48 :: 120 :: H) = some v := by
  show (if H = [] then none else iJ 16 0 H) = some v
  rw [if_neg hne, hn, Nat.mod_eq_of_lt (by omega)]; simp [iJ]
 have h4 : next (48 :: 120 :: H) = some (⟨2, 48 :: 120 :: H, v⟩, []) := by
  simp only [next]
  rw [if_neg (by decide), if_pos (by decide), ta, tb, hm]; rfl
 show toks (105 :: 110 :: 105 :: 116 :: 32 :: 98 :: 61 :: 48 :: 120 :: H) = _
 rw [cM3 (by decide) (by decide), show next (105 :: 110 :: 105 :: 116 :: 32 :: 98 :: 61 :: 48 :: 120 :: H) = some (⟨1, [105, 110, 105, 116], 0⟩, 32 :: 98 :: 61 :: 48 :: 120 :: H) by rfl]
 simp only
 rw [cM9 (by decide), cM3 (by decide) (by decide), show next (98 :: 61 :: 48 :: 120 :: H) = some (⟨1, [98], 0⟩, 61 :: 48 :: 120 :: H) by rfl]
 simp only
 rw [cM3 (by decide) (by decide), show next (61 :: 48 :: 120 :: H) = some (⟨3, [61], 0⟩, 48 :: 120 :: H) by rfl]
 simp only
 rw [cM3 (by decide) (by decide), h4]
 rfl
def cN8 : Tx := [116, 104, 114, 101, 97, 100, 10, 115, 116, 111, 114, 101, 32, 97, 32, 49, 10, 108, 111, 97, 100, 32, 114, 51, 32, 98, 10]
def cL5 : Nat → Tx
 | 0 => []
 | n + 1 => cN8 ++ cL5 n
def named (n v : Nat) : Tx := cM1 ++ hexOf 16 v ++ 10 :: cL5 n
theorem cQ7 {s : Tx} {L : List (Nat × List Tok)} {d : bI} (h : lines s = (L, 0, 0)) (hd : jQ bI.zero L = .ok d) (hc : check (test d) = 0) : parse s = (test d, 0, 0) := by
 unfold parse
 rw [h]
 simp [hd, hc]
theorem cQ1 (n v : Nat) (hv : v < 18446744073709551616) (h4 : n ≤ 4) {R : List (Nat × List Tok)} (hR : gU 2 (aS (cL5 n)) = .ok R) :
  lines (named n v) = ((1, [⟨1, [105, 110, 105, 116], 0⟩, ⟨1, [98], 0⟩, ⟨3, [61], 0⟩, ⟨2, 48 :: 120 :: hexOf 16 v, v⟩]) :: R, 0, 0) := by
 have hl : ∀ n, (cL5 n).length = 27 * n := fun n => by induction n with
  | zero => rfl
  | succ n ih => rw [cL5, List.length_append, ih]; show 27 + _ = _; omega
 have hp : aS (named n v) = (cM1 ++ hexOf 16 v) :: aS (cL5 n) := by
  unfold named
  rw [cM6 _ _ (fun hm => by
   rcases List.mem_append.1 hm with hm | hm
   ·revert hm; decide
   ·exact (cN2 16 v _ hm).2 rfl)]
  show (cM1 ++ hexOf 16 v ++ (aS (10 :: cL5 n)).headD []) :: (aS (10 :: cL5 n)).tail = _
  rw [aS, if_pos rfl]; simp
 unfold lines
 rw [if_neg (by unfold named; simp only [List.length_append, List.length_cons, hl, cM5]; show ¬ _ < 9 + 16 + _; omega), hp, gU, cQ2 v hv]
 simp only [hR]
 rfl
def cM2 (n v : Nat) : Test := ⟨[([97], 0), ([98], v)], List.replicate n [{ Ins.zero with op := 10, loc := 0, an := 1 }, { Ins.zero with op := 9, rd := 3, loc := 1 }], []⟩
def cN3 : Nat → Nat → List (Nat × List Tok)
 | 0, _ => []
 | n + 1, k => (k, [⟨1, [116, 104, 114, 101, 97, 100], 0⟩]) :: (k + 1, [⟨1, [115, 116, 111, 114, 101], 0⟩, ⟨1, [97], 0⟩, ⟨2, [49], 1⟩]) :: (k + 2, [⟨1, [108, 111, 97, 100], 0⟩, ⟨1, [114, 51], 0⟩, ⟨1, [98], 0⟩]) :: cN3 n (k + 3)
def cO4 (n v : Nat) : bI := ⟨[([98], v)], List.replicate n [({ Ins.zero with op := 10, an := 1 }, [97]), ({ Ins.zero with op := 9, rd := 3 }, [98])], []⟩
theorem cQ8 (n v : Nat) (hv : v < 18446744073709551616) (h1 : 1 ≤ n) (h4 : n ≤ 4) : parse (named n v) = (cM2 n v, 0, 0) := by
 have key : gU 2 (aS (cL5 n)) = .ok (cN3 n 2) →
   jQ bI.zero ((1, [⟨1, [105, 110, 105, 116], 0⟩, ⟨1, [98], 0⟩, ⟨3, [61], 0⟩, ⟨2, 48 :: 120 :: hexOf 16 v, v⟩]) :: cN3 n 2) = .ok (cO4 n v) → check (cM2 n v) = 0 → test (cO4 n v) = cM2 n v → parse (named n v) = (cM2 n v, 0, 0) :=
  fun hR hd hc ht => by rw [← ht]; exact cQ7 (cQ1 n v hv h4 hR) hd (by rw [ht]; exact hc)
 generalize 48 :: 120 :: hexOf 16 v = X at key
 match n, h1, h4 with
 | 1, _, _ => exact key (by kernel_rfl) (by kernel_rfl) (by kernel_rfl) (by kernel_rfl)
 | 2, _, _ => exact key (by kernel_rfl) (by kernel_rfl) (by kernel_rfl) (by kernel_rfl)
 | 3, _, _ => exact key (by kernel_rfl) (by kernel_rfl) (by kernel_rfl) (by kernel_rfl)
 | 4, _, _ => exact key (by kernel_rfl) (by kernel_rfl) (by kernel_rfl) (by kernel_rfl)
end Lt
end Go.Vc