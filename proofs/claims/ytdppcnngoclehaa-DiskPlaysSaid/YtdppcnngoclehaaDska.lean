/-
 The document's disk, as a model in Lean.
 The disk: contracts, first part: rows.
 Printed by wip/vct.py: the conditions of functions, by their contracts.
 The disk: plain conditions, first part.
 The disk: contracts, second part: what sweeps, and what the document says.
 Printed by wip/vct.py: the conditions of functions, by their contracts.
 The disk: plain conditions, second part: sweep.
-/
import Derived.Test.YtdppcnngoclehaaMaps
import Derived.Sort.Walk0
import Derived.KernelRfl
set_option linter.unusedVariables false
set_option linter.unusedSimpArgs false
open _root_.Go.IntKind (wrap)
namespace Go.Vc
abbrev Tx := List UInt8
def tx (s : BA) : Tx := s.data.toList
def bx (l : Tx) : BA := ⟨l.toArray⟩
@[simp] theorem tx_bx (l : Tx) : tx (bx l) = l := rfl
@[simp] theorem bx_tx (s : BA) : bx (tx s) = s := by cases s; simp [bx, tx]
theorem gG {a b : BA} (h : tx a = tx b) : a = b := by rw [← bx_tx a, h, bx_tx]
theorem jQ {a b : Tx} (h : bx a = bx b) : a = b := by rw [← tx_bx a, h, tx_bx]
theorem wK (s : BA) : s.toList = tx s := ByteArray.toList_eq s
theorem wL (s : BA) : (tx s).length = s.size := rfl
theorem aX4 (a b : BA) : tx (a ++ b) = tx a ++ tx b := by simp [tx]
theorem aI8 (s : BA) (a b : Nat) : tx (s.extract a b) = ((tx s).take b).drop a := by
 simp [tx, ByteArray.data_extract]
 rw [List.drop_take]
namespace Dk
structure Fi where
 data : Tx
 safe : Nat
 deriving DecidableEq
structure Cg where
 gone : Tx
 name : Tx
 file : Nat
 deriving DecidableEq
structure Ds where
 files : List Fi
 names : List (Tx × Nat)
 safe : List (Tx × Nat)
 pend : List Cg
 room : Int
 crash : Int
 fail : Int
 dead : Bool
 calls : Int
 deriving DecidableEq
def new (room : Int) : Ds := ⟨[], [], [], [], max room 0, -1, -1, false, 0⟩
def find : List (Tx × Nat) → Tx → Option Nat
 | [], _ => none
 | p :: l, n => if p.1 = n then some p.2 else find l n
def ins (p : Tx × Nat) : List (Tx × Nat) → List (Tx × Nat)
 | [] => [p]
 | q :: l => if p.1 < q.1 then p :: q :: l else q :: ins p l
def apply (l : List (Tx × Nat)) (c : Cg) : List (Tx × Nat) :=
 let l' := l.filter fun p => p.1 ≠ c.gone ∧ p.1 ≠ c.name
 if c.name = [] then l' else ins (c.name, c.file) l'
def held (d : Ds) (i : Nat) : Bool := d.names.any (fun p => p.2 == i) || d.safe.any (fun p => p.2 == i) || d.pend.any fun c => decide (c.name ≠ []) && c.file == i
def jM (d : Ds) : Nat → List Fi → Nat
 | _, [] => 0
 | i, f :: fs => (if held d i then f.data.length else 0) + jM d (i + 1) fs
def used (d : Ds) : Nat := jM d 0 d.files
def free (d : Ds) : Int := max (d.room - used d) 0
def begin (d : Ds) : Ds × Bool × Int :=
 if d.dead then (d, false, 9)
 else if d.fail = 0 then ({ d with fail := -1 }, false, 8)
 else
  let d := if d.fail > 0 then { d with fail := d.fail - 1 } else d
  if d.crash = 0 then ({ d with crash := -1, dead := true }, true, 9)
  else
   let d := if d.crash > 0 then { d with crash := d.crash - 1 } else d
   ({ d with calls := d.calls + 1 }, false, 0)
def set (d : Ds) (i : Nat) (f : Fi) : Ds := { d with files := d.files.set i f }
def fileAt (d : Ds) (i : Nat) : Fi := d.files.getD i ⟨[], 0⟩
def turn (d : Ds) (c : Cg) : Ds := { d with names := apply d.names c, pend := d.pend ++ [c] }
def create (d : Ds) (name : Tx) : Ds × Int :=
 if d.dead then (d, 9) else if name = [] then (d, 1) else if (find d.names name).isSome then (d, 6) else
 match begin d with
 | (d, stops, e) => if e ≠ 0 ∧ stops = false then (d, e) else (turn { d with files := d.files ++ [⟨[], 0⟩] } ⟨[], name, d.files.length⟩, e)
def append (d : Ds) (name s : Tx) : Ds × Int :=
 if d.dead then (d, 9) else match find d.names name with
 | none => (d, 5)
 | some i => if (s.length : Int) > free d then (d, 7) else
  match begin d with
  | (d, stops, e) => if e ≠ 0 ∧ stops = false then (d, e) else (set d i ⟨(fileAt d i).data ++ s, (fileAt d i).safe⟩, e)
def read (d : Ds) (name : Tx) : Tx × Int :=
 if d.dead then ([], 9) else match find d.names name with
 | none => ([], 5)
 | some i => ((fileAt d i).data, 0)
def sync (d : Ds) (name : Tx) : Ds × Int :=
 if d.dead then (d, 9) else match find d.names name with
 | none => (d, 5)
 | some i => match begin d with
  | (d, _, e) => if e ≠ 0 then (d, e) else (set d i ⟨(fileAt d i).data, (fileAt d i).data.length⟩, 0)
def fM (d : Ds) : Ds × Int :=
 match begin d with
 | (d, _, e) => if e ≠ 0 then (d, e) else ({ d with safe := d.names, pend := [] }, 0)
def rename (d : Ds) (fr to : Tx) : Ds × Int :=
 if d.dead then (d, 9) else match find d.names fr with
 | none => (d, 5)
 | some i => if to = [] ∨ to = fr then (d, 1) else
  match begin d with
  | (d, stops, e) => if e ≠ 0 ∧ stops = false then (d, e) else (turn d ⟨fr, to, i⟩, e)
def remove (d : Ds) (name : Tx) : Ds × Int :=
 if d.dead then (d, 9) else match find d.names name with
 | none => (d, 5)
 | some _ => match begin d with
  | (d, stops, e) => if e ≠ 0 ∧ stops = false then (d, e) else (turn d ⟨name, [], 0⟩, e)
def pick (l : LI) (i : Nat) (n : Nat) : Nat := if i < l.length then (l.getD i 0 % (n : Int)).toNat else 0
def cut (d : Ds) (choice : LI) : Nat → Nat → List Fi → List Fi
 | _, _, [] => []
 | i, k, f :: fs =>
  if held d i ∧ f.safe < f.data.length then
   let n := f.safe + pick choice k (f.data.length - f.safe + 1)
   ⟨f.data.take n, n⟩ :: cut d choice (i + 1) (k + 1) fs
  else f :: cut d choice (i + 1) k fs
def restart (d : Ds) (choice : LI) : Ds :=
 let safe := (d.pend.take (pick choice 0 (d.pend.length + 1))).foldl apply d.safe
 let d := { d with safe := safe, names := safe, pend := [], dead := false, crash := -1, fail := -1 }
 { d with files := cut d choice 0 1 d.files }
def Sorted (l : List (Tx × Nat)) : Prop := l.Pairwise fun a b => a.1 < b.1
structure Inv (d : Ds) : Prop where
 sn : Sorted d.names
 ss : Sorted d.safe
 ne : ∀ p ∈ d.safe, p.1 ≠ []
 ins : ∀ p ∈ d.safe, p.2 < d.files.length
 inp : ∀ c ∈ d.pend, c.name ≠ [] → c.file < d.files.length
 names : d.names = d.pend.foldl apply d.safe
 fs : ∀ f ∈ d.files, f.safe ≤ f.data.length
theorem lt_irrefl (a : Tx) : ¬ a < a := List.lt_irrefl a
theorem lt_trans {a b c : Tx} (h : a < b) (k : b < c) : a < c := List.lt_trans h k
theorem bI6 {a b : Tx} (h : a ≠ b) (k : ¬ a < b) : b < a := by
 rcases List.le_total a b with h1 | h1
 ·rcases List.le_iff_lt_or_eq.1 h1 with h2 | h2
  ·exact absurd h2 k
  ·exact absurd h2 h
 ·rcases List.le_iff_lt_or_eq.1 h1 with h2 | h2
  ·exact h2
  ·exact absurd h2.symm h
theorem aS8 {p q : Tx × Nat} : ∀ {l : List (Tx × Nat)}, q ∈ ins p l ↔ q = p ∨ q ∈ l
 | [] => by simp [ins]
 | r :: l => by
  unfold ins
  split
  ·simp
  ·rw [List.mem_cons, aS8, List.mem_cons]
   constructor
   ·rintro (h | h | h)
    ·exact .inr (.inl h)
    ·exact .inl h
    ·exact .inr (.inr h)
   ·rintro (h | h | h)
    ·exact .inr (.inl h)
    ·exact .inl h
    ·exact .inr (.inr h)
theorem aQ9 (p : Tx × Nat) : ∀ (l : List (Tx × Nat)), (ins p l).Perm (p :: l)
 | [] => .refl _
 | q :: l => by
  unfold ins
  split
  ·exact .refl _
  ·exact ((aQ9 p l).cons q).trans (List.Perm.swap p q l)
theorem bF8 {p : Tx × Nat} : ∀ {l : List (Tx × Nat)}, Sorted l → (∀ q ∈ l, q.1 ≠ p.1) → Sorted (ins p l)
 | [], _, _ => by simp [ins, Sorted]
 | q :: l, h, hn => by
  have h' := List.pairwise_cons.1 h
  unfold ins
  split
  ·rename_i hlt
   refine List.pairwise_cons.2 ⟨fun r hr => ?_, h⟩
   rcases List.mem_cons.1 hr with rfl | hr
   ·exact hlt
   ·exact lt_trans hlt (h'.1 r hr)
  ·rename_i hlt
   refine List.pairwise_cons.2 ⟨fun r hr => ?_, bF8 h'.2 fun r hr => hn r (by simp [hr])⟩
   rcases aS8.1 hr with rfl | hr
   ·exact bI6 (fun he => hn q (by simp) he.symm) hlt
   ·exact h'.1 r hr
theorem aK3 {l : List (Tx × Nat)} (c : Cg) (h : Sorted l) : Sorted (apply l c) := by
 unfold apply
 dsimp only
 split
 ·exact h.filter _
 ·exact bF8 (h.filter _) fun q hq => by
   have := (List.mem_filter.1 hq).2
   simp only [decide_eq_true_eq] at this
   exact this.2
theorem pX {l : List (Tx × Nat)} {c : Cg} {q : Tx × Nat} : q ∈ apply l c ↔ (c.name ≠ [] ∧ q = (c.name, c.file)) ∨ (q ∈ l ∧ q.1 ≠ c.gone ∧ q.1 ≠ c.name) := by
 unfold apply
 dsimp only
 split
 ·rename_i h
  rw [List.mem_filter]; simp [h]
 ·rename_i h
  rw [aS8, List.mem_filter]; simp [h]
theorem foldl_apply {P : Tx × Nat → Prop} : ∀ {cs : List Cg} {l : List (Tx × Nat)}, (∀ q ∈ l, P q) → (∀ c ∈ cs, c.name ≠ [] → P (c.name, c.file)) → ∀ q ∈ cs.foldl apply l, P q
 | [], _, h, _ => h
 | c :: cs, l, h, hc => by
  refine foldl_apply (cs := cs) (l := apply l c) (fun q hq => ?_) fun c' hc' => hc c' (by simp [hc'])
  rcases pX.1 hq with ⟨h1, rfl⟩ | ⟨h1, _⟩
  ·exact hc c (by simp) h1
  ·exact h q h1
theorem aC4 : ∀ {cs : List Cg} {l : List (Tx × Nat)}, Sorted l → Sorted (cs.foldl apply l)
 | [], _, h => h
 | c :: cs, l, h => aC4 (cs := cs) (l := apply l c) (aK3 c h)
theorem Inv.nne {d : Ds} (h : Inv d) : ∀ p ∈ d.names, p.1 ≠ [] := by
 rw [h.names]
 exact foldl_apply (P := fun p => p.1 ≠ []) h.ne fun c _ hc => hc
theorem Inv.inn {d : Ds} (h : Inv d) : ∀ p ∈ d.names, p.2 < d.files.length := by
 rw [h.names]
 exact foldl_apply (P := fun p => p.2 < d.files.length) h.ins h.inp
theorem aY7 (l : List (Tx × Nat)) (c : Cg) : (apply l c).length ≤ l.length + 1 := by
 unfold apply
 dsimp only
 have h1 := List.length_filter_le (fun p : Tx × Nat => decide (p.1 ≠ c.gone ∧ p.1 ≠ c.name)) l
 split
 ·omega
 ·rw [(aQ9 _ _).length_eq, List.length_cons]; omega
theorem xM : ∀ (cs : List Cg) (l : List (Tx × Nat)), (cs.foldl apply l).length ≤ l.length + cs.length
 | [], l => by simp
 | c :: cs, l => by
  have h1 := xM cs (apply l c)
  have h2 := aY7 l c
  simp only [List.foldl_cons, List.length_cons]
  omega
theorem aR1 (room : Int) : Inv (new room) := ⟨by simp [new, Sorted], by simp [new, Sorted], by simp [new], by simp [new], by simp [new], rfl, by simp [new]⟩
theorem iR (d : Ds) : (begin d).1.files = d.files ∧ (begin d).1.names = d.names ∧ (begin d).1.safe = d.safe ∧ (begin d).1.pend = d.pend ∧ (begin d).1.room = d.room := by
 unfold begin
 split
 ·exact ⟨rfl, rfl, rfl, rfl, rfl⟩
 ·split
  ·exact ⟨rfl, rfl, rfl, rfl, rfl⟩
  ·dsimp only
   split <;> split <;> first | exact ⟨rfl, rfl, rfl, rfl, rfl⟩ | (split <;> exact ⟨rfl, rfl, rfl, rfl, rfl⟩)
theorem Inv.same {d d' : Ds} (h : Inv d) (e1 : d'.files = d.files) (e2 : d'.names = d.names) (e3 : d'.safe = d.safe) (e4 : d'.pend = d.pend) : Inv d' := by
 obtain ⟨a, b, c, e, f, g, i⟩ := h
 exact ⟨by rw [e2]; exact a, by rw [e3]; exact b, by rw [e3]; exact c, by rw [e3, e1]; exact e, by rw [e4, e1]; exact f, by rw [e2, e3, e4]; exact g, by rw [e1]; exact i⟩
theorem Inv.begin {d : Ds} (h : Inv d) : Inv (Dk.begin d).1 := h.same (iR d).1 (iR d).2.1 (iR d).2.2.1 (iR d).2.2.2.1
theorem Inv.turn {d : Ds} (h : Inv d) {c : Cg} (hc : c.name ≠ [] → c.file < d.files.length) : Inv (Dk.turn d c) := by
 obtain ⟨a, b, e, f, g, i, j⟩ := h
 refine ⟨aK3 c a, b, e, f, fun c' hc' hn => ?_, ?_, j⟩
 ·rcases List.mem_append.1 hc' with hc' | hc'
  ·exact g c' hc' hn
  ·rw [List.mem_singleton] at hc'; subst hc'; exact hc hn
 ·show apply d.names c = (d.pend ++ [c]).foldl apply d.safe
  rw [List.foldl_append, ← i]; rfl
theorem Inv.more {d : Ds} (h : Inv d) : Inv { d with files := d.files ++ [⟨[], 0⟩] } := by
 obtain ⟨a, b, e, f, g, i, j⟩ := h
 refine ⟨a, b, e, fun p hp => ?_, fun c hc hn => ?_, i, fun x hx => ?_⟩
 ·have := f p hp; simp only [List.length_append, List.length_cons, List.length_nil]; omega
 ·have := g c hc hn; simp only [List.length_append, List.length_cons, List.length_nil]; omega
 ·rcases List.mem_append.1 hx with hx | hx
  ·exact j x hx
  ·rw [List.mem_singleton] at hx; subst hx; exact Nat.le_refl _
theorem Inv.set {d : Ds} (h : Inv d) {i : Nat} {f : Fi} (hf : f.safe ≤ f.data.length) : Inv (Dk.set d i f) := by
 obtain ⟨a, b, e, g, k, l, j⟩ := h
 refine ⟨a, b, e, fun p hp => by rw [Dk.set, List.length_set]; exact g p hp, fun c hc hn => by rw [Dk.set, List.length_set]; exact k c hc hn, l, fun x hx => ?_⟩
 rcases List.mem_or_eq_of_mem_set hx with hx | rfl
 ·exact j x hx
 ·exact hf
theorem lV {n : Tx} {i : Nat} : ∀ {l : List (Tx × Nat)}, find l n = some i → (n, i) ∈ l
 | [], h => by cases h
 | p :: l, h => by
  unfold find at h
  split at h
  ·rename_i hp; cases h; subst hp; simp
  ·exact List.mem_cons_of_mem _ (lV h)
theorem aP1 {n : Tx} : ∀ {l : List (Tx × Nat)}, find l n = none ↔ ∀ p ∈ l, p.1 ≠ n
 | [] => by simp [find]
 | p :: l => by
  unfold find
  split
  ·rename_i hp; simp [hp]
  ·rename_i hp; simp [hp, aP1 (l := l)]
theorem uD {d : Ds} {i : Nat} (h : i < d.files.length) : fileAt d i ∈ d.files := by
 unfold fileAt
 rw [List.getD, List.getElem?_eq_getElem h]
 exact List.getElem_mem h
theorem aR0 {d : Ds} (h : Inv d) (n : Tx) : Inv (create d n).1 := by
 unfold create
 split
 ·exact h
 ·split
  ·exact h
  ·split
   ·exact h
   ·have hb := h.begin
    generalize begin d = x at hb ⊢
    obtain ⟨d', stops, e⟩ := x
    dsimp only at hb ⊢
    split
    ·exact hb
    ·exact hb.more.turn fun _ => by simp
theorem bG1 {d : Ds} (h : Inv d) (n s : Tx) : Inv (append d n s).1 := by
 unfold append
 split
 ·exact h
 ·split
  ·exact h
  ·rename_i i hf
   split
   ·exact h
   ·have hb := h.begin
    have hs := iR d
    generalize begin d = x at hb hs ⊢
    obtain ⟨d', stops, e⟩ := x
    dsimp only at hb hs ⊢
    split
    ·exact hb
    ·refine hb.set ?_
     have hi := h.inn _ (lV hf)
     have := hb.fs _ (uD (d := d') (i := i) (by rw [hs.1]; exact hi))
     simp only [List.length_append]; omega
theorem cA3 {d : Ds} (h : Inv d) (n : Tx) : Inv (sync d n).1 := by
 unfold sync
 split
 ·exact h
 ·split
  ·exact h
  ·have hb := h.begin
   generalize begin d = x at hb ⊢
   obtain ⟨d', stops, e⟩ := x
   dsimp only at hb ⊢
   split
   ·exact hb
   ·exact hb.set (Nat.le_refl _)
theorem bG2 {d : Ds} (h : Inv d) : Inv (fM d).1 := by
 unfold fM
 have hb := h.begin
 generalize begin d = x at hb ⊢
 obtain ⟨d', stops, e⟩ := x
 dsimp only at hb ⊢
 split
 ·exact hb
 ·exact ⟨hb.sn, hb.sn, hb.nne, hb.inn, by simp, rfl, hb.fs⟩
theorem cA2 {d : Ds} (h : Inv d) (a b : Tx) : Inv (rename d a b).1 := by
 unfold rename
 split
 ·exact h
 ·split
  ·exact h
  ·rename_i i hf
   split
   ·exact h
   ·have hb := h.begin
    have hs := iR d
    generalize begin d = x at hb hs ⊢
    obtain ⟨d', stops, e⟩ := x
    dsimp only at hb hs ⊢
    split
    ·exact hb
    ·exact hb.turn fun _ => by rw [hs.1]; exact h.inn _ (lV hf)
theorem cA1 {d : Ds} (h : Inv d) (a : Tx) : Inv (remove d a).1 := by
 unfold remove
 split
 ·exact h
 ·split
  ·exact h
  ·have hb := h.begin
   generalize begin d = x at hb ⊢
   obtain ⟨d', stops, e⟩ := x
   dsimp only at hb ⊢
   split
   ·exact hb
   ·exact hb.turn fun hn => absurd rfl hn
theorem yI (l : LI) (i n : Nat) (hn : 0 < n) : pick l i n < n := by
 unfold pick
 split
 ·have h1 := Int.emod_nonneg (l.getD i 0) (b := (n : Int)) (by omega)
  have h2 := Int.emod_lt_of_pos (l.getD i 0) (b := (n : Int)) (by omega)
  omega
 ·exact hn
theorem tN (d : Ds) (ch : LI) : ∀ (i k : Nat) (fs : List Fi), (cut d ch i k fs).length = fs.length
 | _, _, [] => rfl
 | i, k, f :: fs => by
  unfold cut
  split <;> simp [tN d ch]
theorem aM8 (d : Ds) (ch : LI) : ∀ (i k : Nat) (fs : List Fi), (∀ f ∈ fs, f.safe ≤ f.data.length) → ∀ f ∈ cut d ch i k fs, f.safe ≤ f.data.length
 | _, _, [], _, f, hf => by simp [cut] at hf
 | i, k, f :: fs, h, g, hg => by
  unfold cut at hg
  split at hg
  ·rename_i hc
   rcases List.mem_cons.1 hg with rfl | hg
   ·have h1 := yI ch k (f.data.length - f.safe + 1) (by omega)
    simp only [List.length_take]
    omega
   ·exact aM8 d ch _ _ fs (fun f hf => h f (by simp [hf])) g hg
  ·rcases List.mem_cons.1 hg with rfl | hg
   ·exact h g (by simp)
   ·exact aM8 d ch _ _ fs (fun f hf => h f (by simp [hf])) g hg
theorem aR2 {d : Ds} (h : Inv d) (ch : LI) : Inv (restart d ch) := by
 have hsub : ∀ c ∈ d.pend.take (pick ch 0 (d.pend.length + 1)), c ∈ d.pend := fun c hc => List.mem_of_mem_take hc
 have h1 : Sorted ((d.pend.take (pick ch 0 (d.pend.length + 1))).foldl apply d.safe) := aC4 h.ss
 refine ⟨h1, h1, foldl_apply (P := fun p => p.1 ≠ []) h.ne fun c _ hc => hc, ?_, by simp [restart], rfl, ?_⟩
 ·show ∀ p ∈ (d.pend.take (pick ch 0 (d.pend.length + 1))).foldl apply d.safe, p.2 < (cut _ _ _ _ _).length
  rw [tN]
  exact foldl_apply (P := fun p => p.2 < d.files.length) h.ins fun c hc => h.inp c (hsub c hc)
 ·exact aM8 _ _ _ _ _ h.fs
end Dk
end Go.Vc
namespace Go.Vc
def fiK : EK := [.str, .int .i64]
def cgK : EK := [.str, .str, .int .i64]
def gI (n : Nat) : SV := .one (.lf (.int .i64 (.at n)))
def lI (n : Nat) : Pt := .lf (.int .i64 (.at n))
def bC0 (b k : Nat) : Ch := .box (.at b) [.lf (.mp (.at k)), .lf (.mp (.at (k + 1))), .lf (.mp (.at (k + 2))), .lf (.sl (.at (k + 3))), lI (k + 8), lI (k + 9), lI (k + 10), lI (k + 11), .lf (.bool (.at (k + 12))), lI (k + 13)]
def dX (b k : Nat) : List Ch := [bC0 b k, .abs (.mpp (.int .i64) fiK) [.at k, .at (k + 4)], .abs (.mp .str (.int .i64)) [.at (k + 1), .at (k + 5)], .abs (.mp .str (.int .i64)) [.at (k + 2), .at (k + 6)], .osl (.at (k + 3)) cgK (.at (k + 7))]
def bU : List Srt := [.N, .N, .N, .V, .L, .L, .L, .L, .I, .I, .I, .I, .B, .I]
def iO (b : Nat) : SV := .one (.lf (.ptr (.at b) 0))
def aG7 (a b : D) : D := .L [a, b]
def sizeOf (r : D) : Nat := (r.toL.getD 2 default).toS.size
def dD (LF : LD) : Nat := (LF.map sizeOf).sum
def gY (L : LD) (name gone : BA) (file : Int) : LD :=
 let L1 := if gone = ByteArray.empty then L else fK L (.S gone)
 if name = ByteArray.empty then L1 else aU L1 (.S name) (aG7 (.S name) (.I file))
def bW (L : LD) (n : Int) : Bool := L.any fun r => r.snd.toI == n
def rP (L : LD) (n : Int) : Bool := L.any fun r => (r.toL.getD 2 default).toI == n
def pK (LN LS LP : LD) (n : Int) : Bool := bW LN n || bW LS n || rP LP n
def qJ (name gone : BA) (file : Int) : D := .L [.S name, .S gone, .I file]
def dNew.sig : Sig :=
 { args := [gI 0], heap := [], aA := [.I], res := iO 1, heap' := dX 1 2, news := .N :: bU, pre := fun _ => True,
   post := fun l => (arg l 6).toL = [] ∧ (arg l 7).toL = [] ∧ (arg l 8).toL = [] ∧ (arg l 9).toL = [] ∧ (arg l 10).toI = 1 ∧ (arg l 11).toI = max (arg l 0).toI 0 ∧ (arg l 12).toI = -1 ∧ (arg l 13).toI = -1 ∧ (arg l 14).toB = false ∧ (arg l 15).toI = 0 }
def boxS : List Srt := [.N, .N, .N, .N, .V, .I, .I, .I, .I, .B, .I]
def boxH (room crash fail dead calls : Nat) : List Ch := [.box (.at 0) [.lf (.mp (.at 1)), .lf (.mp (.at 2)), .lf (.mp (.at 3)), .lf (.sl (.at 4)), lI 5, lI room, lI crash, lI fail, .lf (.bool (.at dead)), lI calls]]
def dW (crash fail : Int) (dead : Bool) (calls : Int) : Int × Int × Bool × Int × Bool × Int :=
 if dead then (crash, fail, dead, calls, false, 9)
 else if fail = 0 then (crash, -1, dead, calls, false, 8)
 else
  let fail := if fail > 0 then fail - 1 else fail
  if crash = 0 then (-1, fail, true, calls, true, 0)
  else
   let crash := if crash > 0 then crash - 1 else crash
   (crash, fail, dead, calls + 1, false, 0)
def bJ.sig : Sig :=
 { args := [iO 0], heap := boxH 6 7 8 9 10, aA := boxS, res := .tup [.lf (.bool (.at 15)), .lf (.int .i64 (.at 16))], heap' := boxH 6 11 12 13 14, news := [.I, .I, .B, .I, .B, .I],
   pre := fun l => 0 ≤ (arg l 10).toI ∧ (arg l 10).toI ≤ 1000000000,
   post := fun l => ((arg l 11).toI, (arg l 12).toI, (arg l 13).toB, (arg l 14).toI, (arg l 15).toB, (arg l 16).toI) = dW (arg l 7).toI (arg l 8).toI (arg l 9).toB (arg l 10).toI }
def bG.sig : Sig := qM [.b] [.i .i64] (fun _ => True) fun l => (arg l 1).toI = if (arg l 0).toB then 9 else 0
def fP.sig : Sig :=
 { args := [iO 0], heap := dX 0 1, aA := .N :: bU, res := gI 15, heap' := dX 0 1, news := [.I], pre := fun l => dD (arg l 5).toL ≤ 1000000000000, post := fun l => (arg l 15).toI = dD (arg l 5).toL }
def fP.I0 : LD → Prop := fun l => (arg l 15).toI = dD (arg l 16).toL
def fP.I0M : LD → Nat := fun l => (arg l 5).toL.length - (arg l 16).toL.length
def jF.sig : Sig :=
 { args := [iO 0], heap := dX 0 1, aA := .N :: bU, res := gI 15, heap' := dX 0 1, news := [.I], pre := fun l => dD (arg l 5).toL ≤ 1000000000000 ∧ 0 ≤ (arg l 10).toI, post := fun l => (arg l 15).toI = max ((arg l 10).toI - dD (arg l 5).toL) 0 }
def iG.sig : Sig :=
 { args := [.one (.lf (.mp (.at 0))), .one (.agg [.lf (.str (.at 2)), .lf (.str (.at 3)), lI 4])], heap := [.abs (.mp .str (.int .i64)) [.at 0, .at 1]], aA := [.N, .L, .S, .S, .I], res := .tup [], heap' := [.abs (.mp .str (.int .i64)) [.at 0, .at 5]], news := [.L],
   pre := fun l => (arg l 1).toL.length ≤ 100000000, post := fun l => (arg l 5).toL = gY (arg l 1).toL (arg l 2).toS (arg l 3).toS (arg l 4).toI }
def dN.sig : Sig :=
 { args := [iO 0, .one (.agg [.lf (.str (.at 13)), .lf (.str (.at 14)), lI 15])], heap := [.box (.at 0) [.lf (.mp (.at 1)), .lf (.mp (.at 2)), .lf (.mp (.at 3)), .lf (.sl (.at 4)), lI 5, lI 6, lI 7, lI 8, .lf (.bool (.at 9)), lI 10], .abs (.mp .str (.int .i64)) [.at 2, .at 11], .osl (.at 4) cgK (.at 12)],
   aA := boxS ++ [.L, .L, .S, .S, .I], res := .tup [], heap' := [.box (.at 0) [.lf (.mp (.at 1)), .lf (.mp (.at 2)), .lf (.mp (.at 3)), .lf (.sl (.at 16)), lI 5, lI 6, lI 7, lI 8, .lf (.bool (.at 9)), lI 10], .abs (.mp .str (.int .i64)) [.at 2, .at 17], .osl (.at 16) cgK (.at 18)],
   news := [.V, .L, .L], pre := fun l => (arg l 11).toL.length ≤ 100000000 ∧ (arg l 12).toL.length ≤ 100000000,
   post := fun l => (arg l 17).toL = gY (arg l 11).toL (arg l 13).toS (arg l 14).toS (arg l 15).toI ∧ (arg l 18).toL = (arg l 12).toL ++ [qJ (arg l 13).toS (arg l 14).toS (arg l 15).toI] }
def bV.sig : Sig :=
 { args := [iO 0, .one (.lf (.str (.at 15)))], heap := dX 0 1, aA := .N :: bU ++ [.S], res := .tup [.lf (.ptr (.at 16) 0), .lf (.int .i64 (.int 0))], heap' := dX 0 1, news := [.N],
   pre := fun l => ∀ r ∈ (arg l 6).toL, aI (arg l 5).toL r.snd = true,
   post := fun l => (arg l 13).toB = false ∧ aI (arg l 6).toL (.S (arg l 15).toS) = true ∧ (arg l 16).toN = (aB (arg l 5).toL (aB (arg l 6).toL (.S (arg l 15).toS)).snd).snd.toN,
   alt := some (.tup [.lf .nilp, .lf (.int .i64 (.at 16))], dX 0 1, [.I]),
   post2 := fun l => (arg l 16).toI = (if (arg l 13).toB then 9 else 5) ∧ ((arg l 13).toB = false → aI (arg l 6).toL (.S (arg l 15).toS) = false) }
end Go.Vc
namespace Go.Vc
set_option linter.unusedVariables false
def dNew.Pure : Prop :=
 ∀ i0 : Int,
 R64 i0 →
 dNew.sig.pre [.I i0] →
 ∀ n1 n2 n3 : Nat,
 ∀ v4 : Value,
 ∀ n5 : Nat,
 dNew.sig.post [.I i0, .N n5, .N n1, .N n2, .N n3, .V v4, .L ([] : LD), .L ([] : LD), .L ([] : LD), .L ([] : LD), .I 1, .I (eY i0 0), .I (-1 : Int), .I (-1 : Int), .B false, .I 0]
def bJ.Pure : Prop :=
 ∀ n0 n1 n2 n3 : Nat,
 ∀ v4 : Value,
 ∀ i5 i6 i7 i8 : Int,
 ∀ b9 : Bool,
 ∀ i10 : Int,
 R64 i5 →
 R64 i6 →
 R64 i7 →
 R64 i8 →
 R64 i10 →
 bJ.sig.pre [.N n0, .N n1, .N n2, .N n3, .V v4, .I i5, .I i6, .I i7, .I i8, .B b9, .I i10] →
 ((
 (b9 = true) →
  bJ.sig.post [.N n0, .N n1, .N n2, .N n3, .V v4, .I i5, .I i6, .I i7, .I i8, .B b9, .I i10, .I i7, .I i8, .B b9, .I i10, .B false, .I 9]) ∧ (
 (b9 = false) →
 ((
 (i8 = 0) →
  bJ.sig.post [.N n0, .N n1, .N n2, .N n3, .V v4, .I i5, .I i6, .I i7, .I i8, .B b9, .I i10, .I i7, .I (-1 : Int), .B b9, .I i10, .B false, .I 8]) ∧ (
 (i8 ≠ 0) →
 ((
 (0 < i8) →
 ((
 (i7 = 0) →
   bJ.sig.post [.N n0, .N n1, .N n2, .N n3, .V v4, .I i5, .I i6, .I i7, .I i8, .B b9, .I i10, .I (-1 : Int), .I (wrap .i64 (i8 - 1)), .B true, .I i10, .B true, .I 0]) ∧ (
 (i7 ≠ 0) →
 ((
 (0 < i7) →
   bJ.sig.post [.N n0, .N n1, .N n2, .N n3, .V v4, .I i5, .I i6, .I i7, .I i8, .B b9, .I i10, .I (wrap .i64 (i7 - 1)), .I (wrap .i64 (i8 - 1)), .B b9, .I (wrap .i64 (i10 + 1)), .B false, .I 0]) ∧ (
 (i7 ≤ 0) →
   bJ.sig.post [.N n0, .N n1, .N n2, .N n3, .V v4, .I i5, .I i6, .I i7, .I i8, .B b9, .I i10, .I i7, .I (wrap .i64 (i8 - 1)), .B b9, .I (wrap .i64 (i10 + 1)), .B false, .I 0]))))) ∧ (
 (i8 ≤ 0) →
 ((
 (i7 = 0) →
   bJ.sig.post [.N n0, .N n1, .N n2, .N n3, .V v4, .I i5, .I i6, .I i7, .I i8, .B b9, .I i10, .I (-1 : Int), .I i8, .B true, .I i10, .B true, .I 0]) ∧ (
 (i7 ≠ 0) →
 ((
 (0 < i7) →
   bJ.sig.post [.N n0, .N n1, .N n2, .N n3, .V v4, .I i5, .I i6, .I i7, .I i8, .B b9, .I i10, .I (wrap .i64 (i7 - 1)), .I i8, .B b9, .I (wrap .i64 (i10 + 1)), .B false, .I 0]) ∧ (
 (i7 ≤ 0) →
   bJ.sig.post [.N n0, .N n1, .N n2, .N n3, .V v4, .I i5, .I i6, .I i7, .I i8, .B b9, .I i10, .I i7, .I i8, .B b9, .I (wrap .i64 (i10 + 1)), .B false, .I 0]))))))))))
def bG.Pure : Prop :=
 ∀ b0 : Bool,
 bG.sig.pre [.B b0] →
 ((
 (b0 = true) →
  bG.sig.post [.B b0, .I 9]) ∧ (
 (b0 = false) →
  bG.sig.post [.B b0, .I 0]))
def fP.Pure : Prop :=
 ∀ n0 n1 n2 n3 : Nat,
 ∀ v4 : Value,
 ∀ l5 l6 l7 l8 : LD,
 ∀ i9 i10 i11 i12 : Int,
 ∀ b13 : Bool,
 ∀ i14 : Int,
 R64 i9 →
 R64 i10 →
 R64 i11 →
 R64 i12 →
 R64 i14 →
 (bM (.int .i64) [.str, .int .i64] l5) →
 (mapOk (.str) (.int .i64) l6) →
 (mapOk (.str) (.int .i64) l7) →
 (EK.ok [.str, .str, .int .i64] (D.L l8)) →
 fP.sig.pre [.N n0, .N n1, .N n2, .N n3, .V v4, .L l5, .L l6, .L l7, .L l8, .I i9, .I i10, .I i11, .I i12, .B b13, .I i14] →
 ∀ n15 : Nat,
 fP.I0 [.N n0, .N n1, .N n2, .N n3, .V v4, .L l5, .L l6, .L l7, .L l8, .I i9, .I i10, .I i11, .I i12, .B b13, .I i14, .I 0, .L ([] : LD)] ∧ (
 ∀ i16 : Int,
 ∀ l17 : LD,
 R64 i16 →
 (bM (.int .i64) [.str, .int .i64] l5 ∧ l17.Nodup ∧ ∀ r ∈ l17, r ∈ l5) →
 fP.I0 [.N n0, .N n1, .N n2, .N n3, .V v4, .L l5, .L l6, .L l7, .L l8, .I i9, .I i10, .I i11, .I i12, .B b13, .I i14, .I i16, .L l17] →
 ((
 (l17.Perm l5) →
  fP.sig.post [.N n0, .N n1, .N n2, .N n3, .V v4, .L l5, .L l6, .L l7, .L l8, .I i9, .I i10, .I i11, .I i12, .B b13, .I i14, .I i16]) ∧ (
 ∀ l18 : LD,
 ((D.L l18) ∈ l5 ∧ (D.L l18) ∉ l17) →
 Im ((dG l5 (l18.getD (1 : Int).toNat default).toN) = true) (
  Bk fP.I0 fP.I0M [.N n0, .N n1, .N n2, .N n3, .V v4, .L l5, .L l6, .L l7, .L l8, .I i9, .I i10, .I i11, .I i12, .B b13, .I i14, .I (wrap .i64 (i16 + (((aF l5 (l18.getD (1 : Int).toNat default).toN).toL.getD (2 : Int).toNat default).toS.size : Int))), .L (l17 ++ ((D.L l18) :: ([] : LD)))] [.N n0, .N n1, .N n2, .N n3, .V v4, .L l5, .L l6, .L l7, .L l8, .I i9, .I i10, .I i11, .I i12, .B b13, .I i14, .I i16, .L l17]))))
def jF.Pure : Prop :=
 ∀ n0 n1 n2 n3 : Nat,
 ∀ v4 : Value,
 ∀ l5 l6 l7 l8 : LD,
 ∀ i9 i10 i11 i12 : Int,
 ∀ b13 : Bool,
 ∀ i14 : Int,
 R64 i9 →
 R64 i10 →
 R64 i11 →
 R64 i12 →
 R64 i14 →
 (bM (.int .i64) [.str, .int .i64] l5) →
 (mapOk (.str) (.int .i64) l6) →
 (mapOk (.str) (.int .i64) l7) →
 (EK.ok [.str, .str, .int .i64] (D.L l8)) →
 jF.sig.pre [.N n0, .N n1, .N n2, .N n3, .V v4, .L l5, .L l6, .L l7, .L l8, .I i9, .I i10, .I i11, .I i12, .B b13, .I i14] →
 ((
  fP.sig.pre [.N n0, .N n1, .N n2, .N n3, .V v4, .L l5, .L l6, .L l7, .L l8, .I i9, .I i10, .I i11, .I i12, .B b13, .I i14] ∧ (
 ∀ i15 : Int,
  fP.sig.post [.N n0, .N n1, .N n2, .N n3, .V v4, .L l5, .L l6, .L l7, .L l8, .I i9, .I i10, .I i11, .I i12, .B b13, .I i14, .I i15] →
 R64 i15 →
  jF.sig.post [.N n0, .N n1, .N n2, .N n3, .V v4, .L l5, .L l6, .L l7, .L l8, .I i9, .I i10, .I i11, .I i12, .B b13, .I i14, .I (eY (wrap .i64 (i10 - i15)) 0)])) ∧ (
  fP.sig.pre [.N n0, .N n1, .N n2, .N n3, .V v4, .L l5, .L l6, .L l7, .L l8, .I i9, .I i10, .I i11, .I i12, .B b13, .I i14] ∧ (
 ∀ i15 : Int,
  fP.sig.post [.N n0, .N n1, .N n2, .N n3, .V v4, .L l5, .L l6, .L l7, .L l8, .I i9, .I i10, .I i11, .I i12, .B b13, .I i14, .I i15] →
 R64 i15 →
  jF.sig.post [.N n0, .N n1, .N n2, .N n3, .V v4, .L l5, .L l6, .L l7, .L l8, .I i9, .I i10, .I i11, .I i12, .B b13, .I i14, .I (eY (wrap .i64 (i10 - i15)) 0)])))
def iG.Pure : Prop :=
 ∀ n0 : Nat,
 ∀ l1 : LD,
 ∀ s2 s3 : BA,
 ∀ i4 : Int,
 ((s2.size : Int) ≤ 9223372036854775807) →
 ((s3.size : Int) ≤ 9223372036854775807) →
 R64 i4 →
 (mapOk (.str) (.int .i64) l1) →
 iG.sig.pre [.N n0, .L l1, .S s2, .S s3, .I i4] →
 ∀ n5 : Nat,
 ((
 (s3 ≠ (⟨#[]⟩ : BA)) →
 ((
 (s2 ≠ (⟨#[]⟩ : BA)) →
 Im (((aU (fK l1 (D.S s3)) (D.S s2) (D.L ((D.S s2) :: ((D.I i4) :: ([] : LD))))).length : Int) ≤ (1000000000 : Int)) (
  iG.sig.post [.N n0, .L l1, .S s2, .S s3, .I i4, .L (aU (fK l1 (D.S s3)) (D.S s2) (D.L ((D.S s2) :: ((D.I i4) :: ([] : LD)))))])) ∧ (
 (s2 = (⟨#[]⟩ : BA)) →
  iG.sig.post [.N n0, .L l1, .S s2, .S s3, .I i4, .L (fK l1 (D.S s3))]))) ∧ (
 (s3 = (⟨#[]⟩ : BA)) →
 ((
 (s2 ≠ (⟨#[]⟩ : BA)) →
 Im (((aU l1 (D.S s2) (D.L ((D.S s2) :: ((D.I i4) :: ([] : LD))))).length : Int) ≤ (1000000000 : Int)) (
  iG.sig.post [.N n0, .L l1, .S s2, .S s3, .I i4, .L (aU l1 (D.S s2) (D.L ((D.S s2) :: ((D.I i4) :: ([] : LD)))))])) ∧ (
 (s2 = (⟨#[]⟩ : BA)) →
  iG.sig.post [.N n0, .L l1, .S s2, .S s3, .I i4, .L l1]))))
def dN.Pure : Prop :=
 ∀ n0 n1 n2 n3 : Nat,
 ∀ v4 : Value,
 ∀ i5 i6 i7 i8 : Int,
 ∀ b9 : Bool,
 ∀ i10 : Int,
 ∀ l11 l12 : LD,
 ∀ s13 s14 : BA,
 ∀ i15 : Int,
 ((s13.size : Int) ≤ 9223372036854775807) →
 ((s14.size : Int) ≤ 9223372036854775807) →
 R64 i15 →
 R64 i5 →
 R64 i6 →
 R64 i7 →
 R64 i8 →
 R64 i10 →
 (mapOk (.str) (.int .i64) l11) →
 (EK.ok [.str, .str, .int .i64] (D.L l12)) →
 dN.sig.pre [.N n0, .N n1, .N n2, .N n3, .V v4, .I i5, .I i6, .I i7, .I i8, .B b9, .I i10, .L l11, .L l12, .S s13, .S s14, .I i15] →
 ∀ n16 : Nat,
 iG.sig.pre [.N n2, .L l11, .S s13, .S s14, .I i15] ∧ (
 ∀ l17 : LD,
 iG.sig.post [.N n2, .L l11, .S s13, .S s14, .I i15, .L l17] →
 (mapOk (.str) (.int .i64) l17) →
 ((
 ∀ v18 : Value,
 Im (((l12 ++ ((D.L ((D.S s13) :: ((D.S s14) :: ((D.I i15) :: ([] : LD))))) :: ([] : LD))).length : Int) ≤ (3518437208883 : Int)) (
 ∀ v19 : Value,
  dN.sig.post [.N n0, .N n1, .N n2, .N n3, .V v4, .I i5, .I i6, .I i7, .I i8, .B b9, .I i10, .L l11, .L l12, .S s13, .S s14, .I i15, .V v19, .L l17, .L (l12 ++ ((D.L ((D.S s13) :: ((D.S s14) :: ((D.I i15) :: ([] : LD))))) :: ([] : LD)))])) ∧ (
 ((
 ∀ v18 : Value,
 Im (((l12 ++ ((D.L ((D.S s13) :: ((D.S s14) :: ((D.I i15) :: ([] : LD))))) :: ([] : LD))).length : Int) ≤ (3518437208883 : Int)) (
 ∀ v19 : Value,
  dN.sig.post [.N n0, .N n1, .N n2, .N n3, .V v4, .I i5, .I i6, .I i7, .I i8, .B b9, .I i10, .L l11, .L l12, .S s13, .S s14, .I i15, .V v19, .L l17, .L (l12 ++ ((D.L ((D.S s13) :: ((D.S s14) :: ((D.I i15) :: ([] : LD))))) :: ([] : LD)))])) ∧ (
 ∀ v18 : Value,
 Im (((l12 ++ ((D.L ((D.S s13) :: ((D.S s14) :: ((D.I i15) :: ([] : LD))))) :: ([] : LD))).length : Int) ≤ (3518437208883 : Int)) (
 ∀ v19 : Value,
  dN.sig.post [.N n0, .N n1, .N n2, .N n3, .V v4, .I i5, .I i6, .I i7, .I i8, .B b9, .I i10, .L l11, .L l12, .S s13, .S s14, .I i15, .V v19, .L l17, .L (l12 ++ ((D.L ((D.S s13) :: ((D.S s14) :: ((D.I i15) :: ([] : LD))))) :: ([] : LD)))]))))))
def bV.Pure : Prop :=
 ∀ n0 n1 n2 n3 : Nat,
 ∀ v4 : Value,
 ∀ l5 l6 l7 l8 : LD,
 ∀ i9 i10 i11 i12 : Int,
 ∀ b13 : Bool,
 ∀ i14 : Int,
 ∀ s15 : BA,
 ((s15.size : Int) ≤ 9223372036854775807) →
 R64 i9 →
 R64 i10 →
 R64 i11 →
 R64 i12 →
 R64 i14 →
 (bM (.int .i64) [.str, .int .i64] l5) →
 (mapOk (.str) (.int .i64) l6) →
 (mapOk (.str) (.int .i64) l7) →
 (EK.ok [.str, .str, .int .i64] (D.L l8)) →
 bV.sig.pre [.N n0, .N n1, .N n2, .N n3, .V v4, .L l5, .L l6, .L l7, .L l8, .I i9, .I i10, .I i11, .I i12, .B b13, .I i14, .S s15] →
 ((
 (b13 = true) →
  bV.sig.post2 [.N n0, .N n1, .N n2, .N n3, .V v4, .L l5, .L l6, .L l7, .L l8, .I i9, .I i10, .I i11, .I i12, .B b13, .I i14, .S s15, .I 9] ∧ (
  True)) ∧ (
 (b13 = false) →
 ((
 ((aI l6 (D.S s15)) = true) →
 ((
 (true = false) →
  bV.sig.post2 [.N n0, .N n1, .N n2, .N n3, .V v4, .L l5, .L l6, .L l7, .L l8, .I i9, .I i10, .I i11, .I i12, .B b13, .I i14, .S s15, .I 5] ∧ (
  True)) ∧ (
 (true = true) →
 Im ((aI l5 (D.I ((aB l6 (D.S s15)).toL.getD (1 : Int).toNat default).toI)) = true) (
  bV.sig.post [.N n0, .N n1, .N n2, .N n3, .V v4, .L l5, .L l6, .L l7, .L l8, .I i9, .I i10, .I i11, .I i12, .B b13, .I i14, .S s15, (D.N ((aB l5 (D.I ((aB l6 (D.S s15)).toL.getD (1 : Int).toNat default).toI)).toL.getD (1 : Int).toNat default).toN)])))) ∧ (
 ((aI l6 (D.S s15)) = false) →
 ((
 (false = false) →
  bV.sig.post2 [.N n0, .N n1, .N n2, .N n3, .V v4, .L l5, .L l6, .L l7, .L l8, .I i9, .I i10, .I i11, .I i12, .B b13, .I i14, .S s15, .I 5] ∧ (
  True)) ∧ (
 (false = true) →
 Im ((aI l5 (D.I 0)) = true) (
  bV.sig.post [.N n0, .N n1, .N n2, .N n3, .V v4, .L l5, .L l6, .L l7, .L l8, .I i9, .I i10, .I i11, .I i12, .B b13, .I i14, .S s15, (D.N ((aB l5 (D.I 0)).toL.getD (1 : Int).toNat default).toN)])))))))
end Go.Vc
namespace Go.Vc
theorem tV (a b : Int) : eY a b = max a b := by unfold eY; split <;> omega
theorem dNew.pure : dNew.Pure := by
 intro i0 _ _ n1 n2 n3 v4 n5
 exact ⟨rfl, rfl, rfl, rfl, rfl, tV i0 0, rfl, rfl, rfl, rfl⟩
theorem wrap64 {n : Int} (h : -9223372036854775808 ≤ n) (k : n < 9223372036854775808) : IntKind.i64.wrap n = n := by
 refine aY0 ?_
 show IntKind.i64.min ≤ n ∧ n ≤ IntKind.i64.max
 have : IntKind.i64.min = -9223372036854775808 := by decide
 have : IntKind.i64.max = 9223372036854775807 := by decide
 omega
theorem bG.pure : bG.Pure := by
 intro b _
 exact ⟨fun h => by subst h; rfl, fun h => by subst h; rfl⟩
theorem bJ.pure : bJ.Pure := by
 intro _ _ _ _ _ i5 i6 i7 i8 b9 i10 _ _ h7 h8 h10 hp
 have hp : 0 ≤ i10 ∧ i10 ≤ 1000000000 := hp
 have w1 := @wrap64 (i10 + 1) (by omega) (by omega)
 refine ⟨fun hb => ?_, fun hb => ⟨fun h0 => ?_, fun h0 => ⟨fun h1 => ?_, fun h1 => ?_⟩⟩⟩
 ·show _ = dW i7 i8 b9 i10
  subst hb; rfl
 ·show _ = dW i7 i8 b9 i10
  subst hb h0; rfl
 ·have w2 := @wrap64 (i8 - 1) (by omega) (by omega)
  refine ⟨fun h2 => ?_, fun h2 => ?_⟩
  ·show _ = dW i7 i8 b9 i10
   subst hb h2
   simp [dW, arg, List.getD, h0, h1, w2] <;> omega
  ·refine ⟨fun h3 => ?_, fun h3 => ?_⟩
   ·have w3 := @wrap64 (i7 - 1) (by omega) (by omega)
    show _ = dW i7 i8 b9 i10
    subst hb
    simp [dW, arg, List.getD, h0, h1, h2, h3, w1, w2, w3] <;> omega
   ·show _ = dW i7 i8 b9 i10
    subst hb
    simp [dW, arg, List.getD, h0, h1, h2, h3, w1, w2] <;> omega
 ·refine ⟨fun h2 => ?_, fun h2 => ?_⟩
  ·show _ = dW i7 i8 b9 i10
   subst hb h2
   simp [dW, arg, List.getD, h0, h1] <;> omega
  ·refine ⟨fun h3 => ?_, fun h3 => ?_⟩
   ·have w3 := @wrap64 (i7 - 1) (by omega) (by omega)
    show _ = dW i7 i8 b9 i10
    subst hb
    simp [dW, arg, List.getD, h0, h1, h2, h3, w1, w3] <;> omega
   ·show _ = dW i7 i8 b9 i10
    subst hb
    simp [dW, arg, List.getD, h0, h1, h2, h3, w1] <;> omega
theorem bP2 {α : Type} {f : α → Nat} {a b : List α} (h : a.Perm b) : (a.map f).sum = (b.map f).sum := (h.map f).sum_nat
theorem aE6 {α : Type} {a b : List α} (hn : a.Nodup) (hs : ∀ x ∈ a, x ∈ b) : ∃ c, (a ++ c).Perm b := by
 induction a generalizing b with
 | nil => exact ⟨b, .refl _⟩
 | cons x a ih =>
  have hn' := List.nodup_cons.1 hn
  obtain ⟨s, t, rfl⟩ := List.append_of_mem (hs x (by simp))
  have h2 : ∀ y ∈ a, y ∈ s ++ t := by
   intro y hy
   have := hs y (by simp [hy])
   rw [List.mem_append, List.mem_cons] at this
   rw [List.mem_append]
   rcases this with h | rfl | h
   ·exact .inl h
   ·exact absurd hy hn'.1
   ·exact .inr h
  obtain ⟨c, hc⟩ := ih hn'.2 h2
  exact ⟨c, (hc.cons x).trans List.perm_middle.symm⟩
theorem zY {L : LD} (hn : (aN L).Nodup) {r : D} (hr : r ∈ L) : dG L r.snd.toN = true ∧ aF L r.snd.toN = r := by
 have h1 : dG L r.snd.toN = true := zW.2 (List.mem_map_of_mem hr)
 refine ⟨h1, ?_⟩
 obtain ⟨h2, h3⟩ := aJ4 h1
 obtain ⟨i, hi⟩ := List.mem_iff_getElem?.1 hr
 obtain ⟨j, hj⟩ := List.mem_iff_getElem?.1 h2
 have e1 : (aN L)[i]? = some r.snd.toN := by simp [aN, hi]
 have e2 : (aN L)[j]? = some r.snd.toN := by simp [aN, hj, h3]
 obtain ⟨l1, g1⟩ := List.getElem?_eq_some_iff.1 e1
 obtain ⟨l2, g2⟩ := List.getElem?_eq_some_iff.1 e2
 have : i = j := (List.getElem_inj hn).1 (g1.trans g2.symm)
 subst this
 rw [hi] at hj
 exact (Option.some.inj hj).symm
theorem fP.pure : fP.Pure := by
 intro n0 n1 n2 n3 v4 l5 l6 l7 l8 i9 i10 i11 i12 b13 i14 _ _ _ _ _ h5 _ _ _ hp
 have hp : dD l5 ≤ 1000000000000 := hp
 intro n15
 refine ⟨rfl, fun i16 l17 _ hk hi => ⟨fun hperm => ?_, fun l18 hc => ?_⟩⟩
 ·have hi : i16 = dD l17 := hi
  show i16 = dD l5
  rw [hi]
  show ((l17.map sizeOf).sum : Int) = ((l5.map sizeOf).sum : Int)
  rw [bP2 hperm]
 ·have hi : i16 = dD l17 := hi
  obtain ⟨h1, h2⟩ := zY h5.2.1 hc.1
  refine ⟨h1, fun _ => ⟨?_, ?_⟩⟩
  ·have hn : (l17 ++ [D.L l18]).Nodup := List.nodup_append.2 ⟨hk.2.1, by simp, fun x hx y hy he => hc.2 (by rw [List.mem_singleton] at hy; rw [← hy, ← he]; exact hx)⟩
   obtain ⟨c, hcc⟩ := aE6 hn (b := l5) (fun x hx => by
    rcases List.mem_append.1 hx with hx | hx
    ·exact hk.2.2 x hx
    ·rw [List.mem_singleton] at hx; subst hx; exact hc.1)
   have hsum := bP2 (f := sizeOf) hcc
   have hle : ((l17 ++ [D.L l18]).map sizeOf).sum ≤ dD l5 := by
    have h9 : (((l17 ++ [D.L l18]) ++ c).map sizeOf).sum = dD l5 := hsum
    rw [List.map_append, List.sum_append] at h9
    omega
   have hadd : ((l17 ++ [D.L l18]).map sizeOf).sum = dD l17 + sizeOf (D.L l18) := by simp [dD]
   show IntKind.i64.wrap (i16 + ((((aF l5 (D.L l18).snd.toN).toL.getD 2 default).toS.size : Nat) : Int)) = dD (l17 ++ [D.L l18])
   rw [h2]
   have e3 : (((D.L l18).toL.getD 2 default).toS.size) = sizeOf (D.L l18) := rfl
   rw [e3, hi]
   have e4 : dD (l17 ++ [D.L l18]) = dD l17 + sizeOf (D.L l18) := hadd
   have hle2 : dD l17 + sizeOf (D.L l18) ≤ dD l5 := by rw [← hadd]; exact hle
   rw [wrap64 (by omega) (by omega), e4]
   omega
  ·have hn : (l17 ++ [D.L l18]).Nodup := List.nodup_append.2 ⟨hk.2.1, by simp, fun x hx y hy he => hc.2 (by rw [List.mem_singleton] at hy; rw [← hy, ← he]; exact hx)⟩
   obtain ⟨c, hcc⟩ := aE6 hn (b := l5) (fun x hx => by
    rcases List.mem_append.1 hx with hx | hx
    ·exact hk.2.2 x hx
    ·rw [List.mem_singleton] at hx; subst hx; exact hc.1)
   have := hcc.length_eq
   simp only [List.length_append, List.length_cons, List.length_nil] at this
   show l5.length - (l17 ++ [D.L l18]).length < l5.length - l17.length
   simp only [List.length_append, List.length_cons, List.length_nil]
   omega
theorem jF.pure : jF.Pure := by
 intro n0 n1 n2 n3 v4 l5 l6 l7 l8 i9 i10 i11 i12 b13 i14 _ h10 _ _ _ h5 _ _ _ hp
 obtain ⟨hp, h0⟩ : dD l5 ≤ 1000000000000 ∧ 0 ≤ i10 := hp
 have key : ∀ i15 : Int, i15 = dD l5 → eY (IntKind.i64.wrap (i10 - i15)) 0 = max (i10 - dD l5) 0 := by
  intro i15 h
  rw [tV, wrap64 (by omega) (by omega), h]
 exact ⟨⟨hp, fun i15 h _ => key i15 h⟩, hp, fun i15 h _ => key i15 h⟩
theorem wB (L : LD) (k r : D) : (aU L k r).length ≤ L.length + 1 := by
 induction L with
 | nil => simp [aU]
 | cons x L ih => unfold aU; split <;> simp <;> omega
theorem cI7 (L : LD) (k : D) : (fK L k).length ≤ L.length := by
 induction L with
 | nil => simp [fK]
 | cons x L ih => unfold fK; split <;> simp <;> omega
theorem iG.pure : iG.Pure := by
 intro n0 l1 s2 s3 i4 _ _ _ _ hp
 have hp : l1.length ≤ 100000000 := hp
 intro n5
 have key : ∀ X : LD, X = gY l1 s2 s3 i4 → iG.sig.post [.N n0, .L l1, .S s2, .S s3, .I i4, .L X] := fun _ h => h
 refine ⟨fun h3 => ⟨fun h2 => ⟨?_, fun _ => ?_⟩, fun h2 => ?_⟩, fun h3 => ⟨fun h2 => ⟨?_, fun _ => ?_⟩, fun h2 => ?_⟩⟩
 ·have := wB (fK l1 (D.S s3)) (D.S s2) (D.L [D.S s2, D.I i4]); have := cI7 l1 (D.S s3)
  omega
 ·refine key _ ?_
  unfold gY; dsimp only; rw [if_neg (show ¬ s3 = ByteArray.empty from h3), if_neg (show ¬ s2 = ByteArray.empty from h2)]; rfl
 ·refine key _ ?_
  unfold gY; dsimp only; rw [if_neg (show ¬ s3 = ByteArray.empty from h3), if_pos (show s2 = ByteArray.empty from h2)]
 ·have := wB l1 (D.S s2) (D.L [D.S s2, D.I i4])
  omega
 ·refine key _ ?_
  unfold gY; dsimp only; rw [if_pos (show s3 = ByteArray.empty from h3), if_neg (show ¬ s2 = ByteArray.empty from h2)]; rfl
 ·refine key _ ?_
  unfold gY; dsimp only; rw [if_pos (show s3 = ByteArray.empty from h3), if_pos (show s2 = ByteArray.empty from h2)]
theorem dN.pure : dN.Pure := by
 intro n0 n1 n2 n3 v4 i5 i6 i7 i8 b9 i10 l11 l12 s13 s14 i15 _ _ _ _ _ _ _ _ _ _ hp
 obtain ⟨hp1, hp2⟩ : l11.length ≤ 100000000 ∧ l12.length ≤ 100000000 := hp
 have len : (((l12 ++ [D.L [D.S s13, D.S s14, D.I i15]]).length : Nat) : Int) ≤ 3518437208883 := by
  simp only [List.length_append, List.length_cons, List.length_nil]; omega
 intro n16
 refine ⟨hp1, ?_⟩
 intros
 have key : ∀ (l17 : LD), l17 = gY l11 s13 s14 i15 → l17 = gY l11 s13 s14 i15 ∧ l12 ++ [D.L [D.S s13, D.S s14, D.I i15]] = l12 ++ [qJ s13 s14 i15] := fun _ h => ⟨h, rfl⟩
 repeat' first | exact len | exact key _ ‹_› | intro _ | constructor
theorem aG8 {L : LD} {k : D} (h : aI L k = true) : aB L k ∈ L ∧ aQ (aB L k).key k = true := by
 unfold aB
 cases hf : L.find? (fun r => aQ r.key k) with
 | none =>
  simp only [aI, List.any_eq_true] at h
  obtain ⟨r, hr, hn⟩ := h
  exact absurd hn (List.find?_eq_none.1 hf r hr)
 | some r => exact ⟨List.mem_of_find?_eq_some hf, by simpa using List.find?_some hf⟩
theorem bV.pure : bV.Pure := by
 intro n0 n1 n2 n3 v4 l5 l6 l7 l8 i9 i10 i11 i12 b13 i14 s15 _ _ _ _ _ _ _ h6 _ _ hp
 have hp : ∀ r ∈ l6, aI l5 r.snd = true := hp
 refine ⟨fun hb => ⟨⟨(by subst hb; rfl), (fun h => by subst hb; cases h)⟩, trivial⟩, fun hb => ⟨fun hh => ⟨(fun h => by cases h), fun _ => ?_⟩, fun hh => ⟨fun _ => ⟨⟨(by subst hb; rfl), fun _ => hh⟩, trivial⟩, (fun h => by cases h)⟩⟩⟩
 obtain ⟨g1, g2⟩ := aG8 hh
 have e : D.I (aB l6 (D.S s15)).snd.toI = (aB l6 (D.S s15)).snd := (h6.2 _ g1).2.1.2
 have e' : D.I ((aB l6 (D.S s15)).toL.getD (1 : Int).toNat default).toI = (aB l6 (D.S s15)).snd := e
 rw [e']
 exact ⟨hp _ g1, fun _ => ⟨hb, hh, rfl⟩⟩
end Go.Vc
namespace Go.Vc
def lN.sig (g : FuncId) : Sig :=
 { args := [.one (.lf (.mp (.at 0)))], heap := [], aA := [.N], res := .one (.lf (.clo g [] [.at 1])), heap' := [.box (.at 1) [.lf (.mp (.at 0))]], news := [.N], pre := fun _ => True, post := fun _ => True }
def kE.sig (g : FuncId) : Sig := lN.sig g
def aB2.sig (g : FuncId) : Sig := lH (.mpp (.int .i64) fiK) [.int .i64] .Z pU g
def qX.sig (g : FuncId) : Sig := lH (.mp .str (.int .i64)) [.str] .L nO g
def qW.sig : Sig := bB3 .str (.int .i64)
def aB1.sig (g : FuncId) : Sig := wZ fiK g
def bT.sig : Sig :=
 { args := [iO 0], heap := dX 0 1, aA := .N :: bU, res := .tup [], heap' := [bC0 0 1, .abs (.mpp (.int .i64) fiK) [.at 1, .at 15], .abs (.mp .str (.int .i64)) [.at 2, .at 6], .abs (.mp .str (.int .i64)) [.at 3, .at 7], .osl (.at 4) cgK (.at 8)], news := [.L],
   pre := fun l => (arg l 6).toL.length ≤ 100000000 ∧ (arg l 7).toL.length ≤ 100000000 ∧ (arg l 8).toL.length ≤ 100000000,
   post := fun l => (arg l 15).toL.Perm ((arg l 5).toL.filter fun r => pK (arg l 6).toL (arg l 7).toL (arg l 8).toL r.key.toI) }
def kU (LH : LD) (p : Int → Bool) : Prop := ∀ n : Int, dY LH (.I n) = p n
def bT.I0 : LD → Prop := fun l => kU (arg l 15).toL (fun n => bW (arg l 16).toL n) ∧ (arg l 15).toL.length ≤ (arg l 16).toL.length
def bT.I0M : LD → Nat := fun l => (arg l 6).toL.length - (arg l 16).toL.length
def bT.I1 : LD → Prop := fun l => kU (arg l 15).toL (fun n => bW (arg l 6).toL n || bW (arg l 16).toL n) ∧ (arg l 15).toL.length ≤ (arg l 6).toL.length + (arg l 16).toL.length
def bT.I1M : LD → Nat := fun l => (arg l 7).toL.length - (arg l 16).toL.length
def bT.I2 : LD → Prop := fun l => 0 ≤ (arg l 15).toI ∧ (arg l 15).toI ≤ (arg l 8).toL.length ∧ kU (arg l 16).toL (fun n => bW (arg l 6).toL n || bW (arg l 7).toL n || rP ((arg l 8).toL.take (arg l 15).toI.toNat) n) ∧
 ((arg l 16).toL.length : Int) ≤ (arg l 6).toL.length + (arg l 7).toL.length + (arg l 15).toI
def bT.I2M : LD → Nat := fun l => ((arg l 8).toL.length - (arg l 15).toI).toNat
end Go.Vc
namespace Go.Vc
set_option linter.unusedVariables false
def lN.Pure : Prop :=
 ∀ n0 : Nat,
 (lN.sig 0).pre [.N n0] →
 ∀ n1 : Nat,
 (lN.sig 0).post [.N n0, .N n1]
def kE.Pure : Prop :=
 ∀ n0 : Nat,
 (kE.sig 0).pre [.N n0] →
 ∀ n1 : Nat,
 (kE.sig 0).post [.N n0, .N n1]
def bT.Pure : Prop :=
 ∀ n0 n1 n2 n3 : Nat,
 ∀ v4 : Value,
 ∀ l5 l6 l7 l8 : LD,
 ∀ i9 i10 i11 i12 : Int,
 ∀ b13 : Bool,
 ∀ i14 : Int,
 R64 i9 →
 R64 i10 →
 R64 i11 →
 R64 i12 →
 R64 i14 →
 (bM (.int .i64) [.str, .int .i64] l5) →
 (mapOk (.str) (.int .i64) l6) →
 (mapOk (.str) (.int .i64) l7) →
 (EK.ok [.str, .str, .int .i64] (D.L l8)) →
 bT.sig.pre [.N n0, .N n1, .N n2, .N n3, .V v4, .L l5, .L l6, .L l7, .L l8, .I i9, .I i10, .I i11, .I i12, .B b13, .I i14] →
 ∀ n15 n16 n17 : Nat,
 bT.I0 [.N n0, .N n1, .N n2, .N n3, .V v4, .L l5, .L l6, .L l7, .L l8, .I i9, .I i10, .I i11, .I i12, .B b13, .I i14, .L ([] : LD), .L ([] : LD)] ∧ (
 ∀ l18 l19 : LD,
 (mapOk (.int .i64) (.bool) l18) →
 (mapOk (.str) (.int .i64) l6 ∧ l19.Nodup ∧ ∀ r ∈ l19, r ∈ l6) →
 bT.I0 [.N n0, .N n1, .N n2, .N n3, .V v4, .L l5, .L l6, .L l7, .L l8, .I i9, .I i10, .I i11, .I i12, .B b13, .I i14, .L l18, .L l19] →
 ((
 (l19.Perm l6) →
 ∀ n20 : Nat,
  bT.I1 [.N n0, .N n1, .N n2, .N n3, .V v4, .L l5, .L l6, .L l7, .L l8, .I i9, .I i10, .I i11, .I i12, .B b13, .I i14, .L l18, .L ([] : LD)] ∧ (
 ∀ l21 l22 : LD,
 (mapOk (.int .i64) (.bool) l21) →
 (mapOk (.str) (.int .i64) l7 ∧ l22.Nodup ∧ ∀ r ∈ l22, r ∈ l7) →
  bT.I1 [.N n0, .N n1, .N n2, .N n3, .V v4, .L l5, .L l6, .L l7, .L l8, .I i9, .I i10, .I i11, .I i12, .B b13, .I i14, .L l21, .L l22] →
 ((
 (l22.Perm l7) →
  bT.I2 [.N n0, .N n1, .N n2, .N n3, .V v4, .L l5, .L l6, .L l7, .L l8, .I i9, .I i10, .I i11, .I i12, .B b13, .I i14, .I 0, .L l21] ∧ (
 ∀ i23 : Int,
 ∀ l24 : LD,
 R64 i23 →
 (mapOk (.int .i64) (.bool) l24) →
  bT.I2 [.N n0, .N n1, .N n2, .N n3, .V v4, .L l5, .L l6, .L l7, .L l8, .I i9, .I i10, .I i11, .I i12, .B b13, .I i14, .I i23, .L l24] →
 ((
 (i23 < (l8.length : Int)) →
 Im (0 ≤ i23) (
 ∀ n25 : Nat,
 Im (((aU l24 (D.I ((l8.getD i23.toNat default).toL.getD (2 : Int).toNat default).toI) (D.L ((D.I ((l8.getD i23.toNat default).toL.getD (2 : Int).toNat default).toI) :: ((D.B true) :: ([] : LD))))).length : Int) ≤ (1000000000 : Int)) (
  Bk bT.I2 bT.I2M [.N n0, .N n1, .N n2, .N n3, .V v4, .L l5, .L l6, .L l7, .L l8, .I i9, .I i10, .I i11, .I i12, .B b13, .I i14, .I (wrap .i64 (i23 + 1)), .L (aU l24 (D.I ((l8.getD i23.toNat default).toL.getD (2 : Int).toNat default).toI) (D.L ((D.I ((l8.getD i23.toNat default).toL.getD (2 : Int).toNat default).toI) :: ((D.B true) :: ([] : LD)))))] [.N n0, .N n1, .N n2, .N n3, .V v4, .L l5, .L l6, .L l7, .L l8, .I i9, .I i10, .I i11, .I i12, .B b13, .I i14, .I i23, .L l24]))) ∧ (
 ((l8.length : Int) ≤ i23) →
 (aB1.sig 0).pre [.N n1, .L l5, .N n16, .N n15, .L l24] ∧ (
 ∀ l25 : LD,
 (aB1.sig 0).post [.N n1, .L l5, .N n16, .N n15, .L l24, .L l25] →
 (bM (.int .i64) [.str, .int .i64] l25) →
  bT.sig.post [.N n0, .N n1, .N n2, .N n3, .V v4, .L l5, .L l6, .L l7, .L l8, .I i9, .I i10, .I i11, .I i12, .B b13, .I i14, .L l25]))))) ∧ (
 ∀ l23 : LD,
 ((D.L l23) ∈ l7 ∧ (D.L l23) ∉ l22) →
 Im (((aU l21 (D.I (l23.getD (1 : Int).toNat default).toI) (D.L ((D.I (l23.getD (1 : Int).toNat default).toI) :: ((D.B true) :: ([] : LD))))).length : Int) ≤ (1000000000 : Int)) (
  Bk bT.I1 bT.I1M [.N n0, .N n1, .N n2, .N n3, .V v4, .L l5, .L l6, .L l7, .L l8, .I i9, .I i10, .I i11, .I i12, .B b13, .I i14, .L (aU l21 (D.I (l23.getD (1 : Int).toNat default).toI) (D.L ((D.I (l23.getD (1 : Int).toNat default).toI) :: ((D.B true) :: ([] : LD))))), .L (l22 ++ ((D.L l23) :: ([] : LD)))] [.N n0, .N n1, .N n2, .N n3, .V v4, .L l5, .L l6, .L l7, .L l8, .I i9, .I i10, .I i11, .I i12, .B b13, .I i14, .L l21, .L l22]))))) ∧ (
 ∀ l20 : LD,
 ((D.L l20) ∈ l6 ∧ (D.L l20) ∉ l19) →
 Im (((aU l18 (D.I (l20.getD (1 : Int).toNat default).toI) (D.L ((D.I (l20.getD (1 : Int).toNat default).toI) :: ((D.B true) :: ([] : LD))))).length : Int) ≤ (1000000000 : Int)) (
  Bk bT.I0 bT.I0M [.N n0, .N n1, .N n2, .N n3, .V v4, .L l5, .L l6, .L l7, .L l8, .I i9, .I i10, .I i11, .I i12, .B b13, .I i14, .L (aU l18 (D.I (l20.getD (1 : Int).toNat default).toI) (D.L ((D.I (l20.getD (1 : Int).toNat default).toI) :: ((D.B true) :: ([] : LD))))), .L (l19 ++ ((D.L l20) :: ([] : LD)))] [.N n0, .N n1, .N n2, .N n3, .V v4, .L l5, .L l6, .L l7, .L l8, .I i9, .I i10, .I i11, .I i12, .B b13, .I i14, .L l18, .L l19]))))
end Go.Vc
namespace Go.Vc
theorem lN.pure : lN.Pure := by
 intro n0 _ n1
 trivial
theorem kE.pure : kE.Pure := by
 intro n0 _ n1
 trivial
theorem xQ (x : D) (L : LD) (k : D) : dY (x :: L) k = if aQ x.key k then x.snd.toB else dY L k := by
 cases h : aQ x.key k <;> simp [dY, aI, aB, h]
theorem aW0 {x : D} {n : Int} (h : aQ x (.I n) = true) : x = .I n := by
 cases x <;> simp [aQ] at h
 rw [h]
theorem aC9 (m n : Int) : ∀ L : LD, dY (aU L (.I m) (.L [.I m, .B true])) (.I n) = (m == n || dY L (.I n))
 | [] => by
  rw [aU, xQ]
  show (if (m == n) = true then true else false) = (m == n || false)
  cases m == n <;> rfl
 | x :: L => by
  unfold aU
  split
  ·rename_i h
   rw [xQ, xQ, aW0 h]
   show (if (m == n) = true then true else dY L (.I n)) = (m == n || if (m == n) = true then x.snd.toB else dY L (.I n))
   cases m == n <;> rfl
  ·rename_i h
   rw [xQ, xQ, aC9 m n L]
   cases h2 : aQ x.key (.I n) with
   | true =>
    have e := aW0 h2
    rw [e] at h
    have hne : (m == n) = false := by
     cases hmn : m == n with
     | false => rfl
     | true =>
      exfalso; apply h
      show (n == m) = true
      rw [beq_iff_eq] at hmn ⊢
      exact hmn.symm
    rw [hne]; rfl
   | false => rfl
theorem bE8 (s : LD) (r : D) (n : Int) : bW (s ++ [r]) n = (r.snd.toI == n || bW s n) := by
 simp [bW, Bool.or_comm]
theorem aQ2 {a b : LD} (h : a.Perm b) (n : Int) : bW a n = bW b n := by
 unfold bW
 rw [Bool.eq_iff_iff, List.any_eq_true, List.any_eq_true]
 exact ⟨fun ⟨x, hx, hp⟩ => ⟨x, h.mem_iff.1 hx, hp⟩, fun ⟨x, hx, hp⟩ => ⟨x, h.mem_iff.2 hx, hp⟩⟩
theorem bT.pure : bT.Pure := by
 intro n0 n1 n2 n3 v4 l5 l6 l7 l8 i9 i10 i11 i12 b13 i14 _ _ _ _ _ h5 _ _ _ hp n15 n16 n17
 obtain ⟨p6, p7, p8⟩ : l6.length ≤ 100000000 ∧ l7.length ≤ 100000000 ∧ l8.length ≤ 100000000 := hp
 refine ⟨⟨fun n => rfl, Nat.le_refl _⟩, fun l18 l19 _ k19 hI0 => ⟨fun hp19 n20 => ⟨?_, fun l21 l22 _ k22 hI1 => ⟨fun hp22 => ⟨?_, fun i23 l24 _ _ hI2 => ⟨fun hlt => ?_, fun hge => ?_⟩⟩, fun l23 hc => ?_⟩⟩, fun l20 hc => ?_⟩⟩
 ·obtain ⟨q1, q2⟩ : kU l18 (fun n => bW l19 n) ∧ l18.length ≤ l19.length := hI0
  show kU l18 (fun n => bW l6 n || bW [] n) ∧ l18.length ≤ l6.length + 0
  refine ⟨fun n => ?_, by have := hp19.length_eq; omega⟩
  rw [q1 n]; dsimp only; rw [aQ2 hp19]
  show bW l6 n = (bW l6 n || false)
  rw [Bool.or_false]
 ·obtain ⟨q1, q2⟩ : kU l21 (fun n => bW l6 n || bW l22 n) ∧ l21.length ≤ l6.length + l22.length := hI1
  show (0 : Int) ≤ 0 ∧ (0 : Int) ≤ l8.length ∧ kU l21 (fun n => bW l6 n || bW l7 n || rP [] n) ∧ (l21.length : Int) ≤ l6.length + l7.length + 0
  refine ⟨Int.le_refl _, by omega, fun n => ?_, by have := hp22.length_eq; omega⟩
  rw [q1 n]; dsimp only; rw [aQ2 hp22]
  show _ = (_ || false)
  rw [Bool.or_false]
 ·obtain ⟨q0, q1, q2, q3⟩ : 0 ≤ i23 ∧ i23 ≤ l8.length ∧ kU l24 (fun n => bW l6 n || bW l7 n || rP (l8.take i23.toNat) n) ∧ (l24.length : Int) ≤ l6.length + l7.length + i23 := hI2
  refine ⟨q0, fun _ n25 => ?_⟩
  have hlen := wB l24 (D.I ((l8.getD i23.toNat default).toL.getD (2 : Int).toNat default).toI) (D.L [D.I ((l8.getD i23.toNat default).toL.getD (2 : Int).toNat default).toI, D.B true])
  have hi : i23.toNat < l8.length := by omega
  have hw : IntKind.i64.wrap (i23 + 1) = i23 + 1 := wrap64 (by omega) (by omega)
  refine ⟨by omega, fun _ => ⟨?_, ?_⟩⟩
  ·show 0 ≤ IntKind.i64.wrap (i23 + 1) ∧ IntKind.i64.wrap (i23 + 1) ≤ l8.length ∧ kU (aU l24 (D.I ((l8.getD i23.toNat default).toL.getD (2 : Int).toNat default).toI) (D.L [D.I ((l8.getD i23.toNat default).toL.getD (2 : Int).toNat default).toI, D.B true])) (fun n => bW l6 n || bW l7 n || rP (l8.take (IntKind.i64.wrap (i23 + 1)).toNat) n) ∧ ((aU l24 (D.I ((l8.getD i23.toNat default).toL.getD (2 : Int).toNat default).toI) (D.L [D.I ((l8.getD i23.toNat default).toL.getD (2 : Int).toNat default).toI, D.B true])).length : Int) ≤ l6.length + l7.length + IntKind.i64.wrap (i23 + 1)
   rw [hw]
   refine ⟨by omega, by omega, fun n => ?_, by omega⟩
   rw [aC9, q2 n]; dsimp only
   rw [show (i23 + 1).toNat = i23.toNat + 1 from by omega, List.take_succ_eq_append_getElem hi]
   have e : l8.getD i23.toNat default = l8[i23.toNat] := by simp [List.getD, hi]
   simp only [rP, List.any_append, List.any_cons, List.any_nil, Bool.or_false]
   show _ = (_ || (_ || ((l8[i23.toNat]).toL.getD 2 default).toI == n))
   rw [e]
   show ((l8[i23.toNat].toL.getD 2 default).toI == n || _) = _
   cases ((l8[i23.toNat].toL.getD 2 default).toI == n) <;> simp
  ·show (l8.length - IntKind.i64.wrap (i23 + 1)).toNat < (l8.length - i23).toNat
   rw [hw]; omega
 ·obtain ⟨q0, q1, q2, q3⟩ : 0 ≤ i23 ∧ i23 ≤ l8.length ∧ kU l24 (fun n => bW l6 n || bW l7 n || rP (l8.take i23.toNat) n) ∧ (l24.length : Int) ≤ l6.length + l7.length + i23 := hI2
  refine ⟨trivial, fun l25 hpost _ => ?_⟩
  have hpost : l25.Perm (l5.filter fun r => dY l24 r.key) := hpost
  show l25.Perm (l5.filter fun r => pK l6 l7 l8 r.key.toI)
  refine hpost.trans (List.Perm.of_eq (List.filter_congr fun r hr => ?_))
  have hk : D.I r.key.toI = r.key := (h5.2.2 r hr).1.2
  have e := q2 r.key.toI
  rw [hk, show i23.toNat = l8.length from by omega, List.take_length] at e
  exact e
 ·obtain ⟨q1, q2⟩ : kU l21 (fun n => bW l6 n || bW l22 n) ∧ l21.length ≤ l6.length + l22.length := hI1
  have hlen := wB l21 (D.I (l23.getD (1 : Int).toNat default).toI) (D.L [D.I (l23.getD (1 : Int).toNat default).toI, D.B true])
  have hn : (l22 ++ [D.L l23]).Nodup := List.nodup_append.2 ⟨k22.2.1, by simp, fun x hx y hy he => hc.2 (by rw [List.mem_singleton] at hy; rw [← hy, ← he]; exact hx)⟩
  obtain ⟨c, hcc⟩ := aE6 hn (b := l7) (fun x hx => by
   rcases List.mem_append.1 hx with hx | hx
   ·exact k22.2.2 x hx
   ·rw [List.mem_singleton] at hx; subst hx; exact hc.1)
  have hl := hcc.length_eq
  simp only [List.length_append, List.length_cons, List.length_nil] at hl
  refine ⟨by omega, fun _ => ⟨⟨fun n => ?_, ?_⟩, ?_⟩⟩
  ·show dY (aU l21 (D.I (D.L l23).snd.toI) (D.L [D.I (D.L l23).snd.toI, D.B true])) (.I n) = (bW l6 n || bW (l22 ++ [D.L l23]) n)
   rw [aC9, q1 n]; dsimp only; rw [bE8]
   cases ((D.L l23).snd.toI == n) <;> simp
  ·show (aU l21 _ _).length ≤ l6.length + (l22 ++ [D.L l23]).length
   simp only [List.length_append, List.length_cons, List.length_nil]; omega
  ·show l7.length - (l22 ++ [D.L l23]).length < l7.length - l22.length
   simp only [List.length_append, List.length_cons, List.length_nil]; omega
 ·obtain ⟨q1, q2⟩ : kU l18 (fun n => bW l19 n) ∧ l18.length ≤ l19.length := hI0
  have hlen := wB l18 (D.I (l20.getD (1 : Int).toNat default).toI) (D.L [D.I (l20.getD (1 : Int).toNat default).toI, D.B true])
  have hn : (l19 ++ [D.L l20]).Nodup := List.nodup_append.2 ⟨k19.2.1, by simp, fun x hx y hy he => hc.2 (by rw [List.mem_singleton] at hy; rw [← hy, ← he]; exact hx)⟩
  obtain ⟨c, hcc⟩ := aE6 hn (b := l6) (fun x hx => by
   rcases List.mem_append.1 hx with hx | hx
   ·exact k19.2.2 x hx
   ·rw [List.mem_singleton] at hx; subst hx; exact hc.1)
  have hl := hcc.length_eq
  simp only [List.length_append, List.length_cons, List.length_nil] at hl
  refine ⟨by omega, fun _ => ⟨⟨fun n => ?_, ?_⟩, ?_⟩⟩
  ·show dY (aU l18 (D.I (D.L l20).snd.toI) (D.L [D.I (D.L l20).snd.toI, D.B true])) (.I n) = bW (l19 ++ [D.L l20]) n
   rw [aC9, q1 n]; dsimp only; rw [bE8]
  ·show (aU l18 _ _).length ≤ (l19 ++ [D.L l20]).length
   simp only [List.length_append, List.length_cons, List.length_nil]; omega
  ·show l6.length - (l19 ++ [D.L l20]).length < l6.length - l19.length
   simp only [List.length_append, List.length_cons, List.length_nil]; omega
end Go.Vc