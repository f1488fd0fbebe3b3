/-
 The store: whatever happens, one of the tables is there, whole.
 The store: what Save answers where nothing crashes.
 The store's laws: contracts.
 Printed by wip/vct.py: the conditions of functions, by their contracts.
 The store's laws: awake, CkptCrash.
 The store's laws: CkptFull.
-/
import Derived.Test.YtmgeaephkagdiaaGreatDoorCka
import Derived.Test.YtmgeaephkagdiaaGreatDoorDskf
import Derived.KernelRfl
import Derived.Test.YtmgeaephkagdiaaGreatDoorTabd
set_option linter.unusedVariables false
set_option linter.unusedSimpArgs false
open _root_.Go.IntKind (wrap)
namespace Go.Vc
open Dk (Ds Fi Cg fileAt)
namespace Ck
def state (x : Ds) (k : Nat) : List (Tx × Nat) := (x.pend.take k).foldl Dk.apply x.safe
def Fit (x : Ds) (N : List (Tx × Nat)) (M : Option Tx → Prop) : Prop :=
 (∀ p ∈ N, p.1 = old ∨ p.1 = new) ∧ (∀ i, (old, i) ∈ N → Whole x i ∧ M (some (fileAt x i).data) ∧ (new, i) ∉ N) ∧ ((∀ i, (old, i) ∉ N) → M none)
structure Safe (x : Ds) (M : Option Tx → Prop) : Prop where
 inv : Dk.Inv x
 fit : ∀ k, k ≤ x.pend.length → Fit x (state x k) M
 apart : ∀ k, k ≤ x.pend.length → ∀ i, (old, i) ∈ state x k → (new, i) ∉ x.names
theorem aI3 : new ≠ old := by decide
theorem new_ne : new ≠ [] := by decide
theorem aI7 : old ≠ [] := by decide
theorem aZ3 {x y : Ds} {i : Nat} (h : fileAt y i = fileAt x i) (hw : Whole x i) : Whole y i := by
 unfold Whole at hw ⊢
 rw [h]; exact hw
theorem Fit.same {x y : Ds} {N : List (Tx × Nat)} {M : Option Tx → Prop} (h : Fit x N M) (hf : ∀ i, (old, i) ∈ N → fileAt y i = fileAt x i) : Fit y N M :=
 ⟨h.1, fun i hi => ⟨aZ3 (hf i hi) (h.2.1 i hi).1, by rw [hf i hi]; exact (h.2.1 i hi).2.1, (h.2.1 i hi).2.2⟩, h.2.2⟩
theorem Fit.mono {x : Ds} {N : List (Tx × Nat)} {M M' : Option Tx → Prop} (h : Fit x N M) (hm : ∀ o, M o → M' o) : Fit x N M' :=
 ⟨h.1, fun i hi => ⟨(h.2.1 i hi).1, hm _ (h.2.1 i hi).2.1, (h.2.1 i hi).2.2⟩, fun hn => hm _ (h.2.2 hn)⟩
theorem Safe.mono {x : Ds} {M M' : Option Tx → Prop} (h : Safe x M) (hm : ∀ o, M o → M' o) : Safe x M' := ⟨h.inv, fun k hk => (h.fit k hk).mono hm, h.apart⟩
theorem dT1 {x : Ds} (hi : Dk.Inv x) : state x x.pend.length = x.names := by unfold state; rw [List.take_length]; exact hi.names.symm
theorem Safe.now {x : Ds} {M : Option Tx → Prop} (h : Safe x M) : Fit x x.names M := by
 have := h.fit x.pend.length (Nat.le_refl _)
 rw [dT1 h.inv] at this; exact this
theorem Safe.like {x y : Ds} {M : Option Tx → Prop} (h : Safe x M) (hi : Dk.Inv y) (hn : y.names = x.names) (hs : y.safe = x.safe) (hp : y.pend = x.pend) (hf : ∀ k, k ≤ x.pend.length → ∀ i, (old, i) ∈ state x k → fileAt y i = fileAt x i) : Safe y M := by
 have e : ∀ k, state y k = state x k := fun k => by unfold state; rw [hp, hs]
 refine ⟨hi, fun k hk => ?_, fun k hk i h1 => ?_⟩
 ·rw [hp] at hk
  rw [e]
  exact (h.fit k hk).same (hf k hk)
 ·rw [hp] at hk
  rw [e] at h1
  rw [hn]; exact h.apart k hk i h1
theorem Safe.core {x y : Ds} {M : Option Tx → Prop} (h : Safe x M) (c : Core x y) (hi : Dk.Inv y) : Safe y M := h.like hi c.names c.safe c.pend fun _ _ i _ => c.at i
theorem cQ0 {x : Ds} (hi : Dk.Inv x) (k : Nat) {p : Tx × Nat} (hp : p ∈ state x k) : p.2 < x.files.length :=
 Dk.foldl_apply (P := fun p => p.2 < x.files.length) hi.ins (fun c hc => hi.inp c (List.mem_of_mem_take hc)) p hp
theorem Safe.turn {x z : Ds} {cg : Cg} {M : Option Tx → Prop} (h : Safe x M) (hi : Dk.Inv z) (hp : z.pend = x.pend ++ [cg]) (hs : z.safe = x.safe) (hn : z.names = Dk.apply x.names cg) (hf : ∀ i, i < x.files.length → fileAt z i = fileAt x i)
  (hfit : Fit z (Dk.apply x.names cg) M) (hap : ∀ k, k ≤ x.pend.length → ∀ i, (old, i) ∈ state x k → (new, i) ∉ Dk.apply x.names cg) : Safe z M := by
 have e1 : ∀ k, k ≤ x.pend.length → state z k = state x k := fun k hk => by unfold state; rw [hp, hs, List.take_append_of_le_length hk]
 have e2 : ∀ k, x.pend.length < k → state z k = Dk.apply x.names cg := fun k hk => by
  unfold state
  rw [hp, hs, List.take_of_length_le (by rw [List.length_append]; simp; omega), List.foldl_append, ← h.inv.names, List.foldl_cons, List.foldl_nil]
 refine ⟨hi, fun k _ => ?_, fun k _ i h1 => ?_⟩
 ·by_cases hk : k ≤ x.pend.length
  ·rw [e1 k hk]
   exact (h.fit k hk).same fun i h1 => hf i (cQ0 h.inv k h1)
  ·rw [e2 k (by omega)]; exact hfit
 ·rw [hn]
  by_cases hk : k ≤ x.pend.length
  ·rw [e1 k hk] at h1; exact hap k hk i h1
  ·rw [e2 k (by omega)] at h1; exact (hfit.2.1 i h1).2.2
theorem Safe.remove {x : Ds} {M : Option Tx → Prop} (h : Safe x M) : Safe (Dk.remove x new).1 M ∧ ((Dk.remove x new).2 = 0 → ∀ i, (new, i) ∉ (Dk.remove x new).1.names) := by
 have hi := Dk.cD0 h.inv new
 have hnew : ∀ i, (new, i) ∉ Dk.apply x.names ⟨new, [], 0⟩ := by
  intro i hm
  rcases Dk.jJ.1 hm with ⟨h1, _⟩ | ⟨_, h1, _⟩
  ·exact h1 rfl
  ·exact h1 rfl
 have hold : ∀ i, (old, i) ∈ Dk.apply x.names ⟨new, [], 0⟩ ↔ (old, i) ∈ x.names := by
  intro i
  rw [Dk.jJ]
  constructor
  ·rintro (⟨h1, _⟩ | ⟨h1, _⟩)
   ·exact absurd rfl h1
   ·exact h1
  ·exact fun h1 => .inr ⟨h1, aI3.symm, aI7⟩
 have key : ∀ y, Core x y → Dk.Inv (Dk.turn y ⟨new, [], 0⟩) → Safe (Dk.turn y ⟨new, [], 0⟩) M := by
  intro y c hi2
  refine h.turn hi2 (by show y.pend ++ _ = _; rw [c.pend]) c.safe (by show Dk.apply y.names ⟨new, [], 0⟩ = _; rw [c.names]) (fun i _ => c.at i) ⟨fun p hp => ?_, fun i h1 => ?_, fun h1 => ?_⟩ fun k _ i _ => hnew i
  ·rcases Dk.jJ.1 hp with ⟨h1, _⟩ | ⟨h1, _⟩
   ·exact absurd rfl h1
   ·exact h.now.1 p h1
  ·obtain ⟨a, b, _⟩ := h.now.2.1 i ((hold i).1 h1)
   have e : fileAt (Dk.turn y ⟨new, [], 0⟩) i = fileAt x i := c.at i
   exact ⟨aZ3 e a, by rw [e]; exact b, hnew i⟩
  ·exact h.now.2.2 fun i h2 => h1 i ((hold i).2 h2)
 refine ⟨?_, fun h0 i => ?_⟩
 ·rcases cL9 x new with c | ⟨y, _, c, _, e⟩
  ·exact h.core c hi
  ·rw [e] at hi ⊢; exact key y c hi
 ·obtain ⟨y, c, e⟩ := dP6 h0
  rw [e]
  show (new, i) ∉ Dk.apply y.names ⟨new, [], 0⟩
  rw [c.names]; exact hnew i
theorem Safe.clean {x : Ds} {M : Option Tx → Prop} (h : Safe x M) : Safe (clean x).1 M ∧ ((clean x).2 = 0 → ∀ i, (new, i) ∉ (clean x).1.names) := by
 unfold Ck.clean
 split
 ·exact ⟨h, fun h0 => absurd (show (9 : Int) = 0 from h0) (by decide)⟩
 ·split
  ·exact h.remove
  ·rename_i hn
   refine ⟨h, fun _ i hm => hn ?_⟩
   exact List.any_eq_true.2 ⟨_, hm, by simp⟩
theorem Safe.create {x : Ds} {M : Option Tx → Prop} (h : Safe x M) : Safe (Dk.create x new).1 M ∧ ((Dk.create x new).2 = 0 → ∃ j, (new, j) ∈ (Dk.create x new).1.names ∧ fileAt (Dk.create x new).1 j = ⟨[], 0⟩) := by
 have hi := Dk.cC8 h.inv new
 have hlt : ∀ i, (old, i) ∈ x.names → i < x.files.length := fun i hm => h.inv.inn (old, i) hm
 have hnew : ∀ i, (new, i) ∈ Dk.apply x.names ⟨[], new, x.files.length⟩ → i = x.files.length := by
  intro i hm
  rcases Dk.jJ.1 hm with ⟨_, h1⟩ | ⟨_, _, h1⟩
  ·exact (Prod.mk.inj h1).2
  ·exact absurd rfl h1
 have hold : ∀ i, (old, i) ∈ Dk.apply x.names ⟨[], new, x.files.length⟩ ↔ (old, i) ∈ x.names := by
  intro i
  rw [Dk.jJ]
  constructor
  ·rintro (⟨_, h1⟩ | ⟨h1, _⟩)
   ·exact absurd (Prod.mk.inj h1).1 aI3.symm
   ·exact h1
  ·exact fun h1 => .inr ⟨h1, aI7, aI3.symm⟩
 have key : ∀ y, Core x y → (∀ i, i < x.files.length → fileAt (Dk.turn { y with files := y.files ++ [⟨[], 0⟩] } ⟨[], new, x.files.length⟩) i = fileAt x i) ∧ fileAt (Dk.turn { y with files := y.files ++ [⟨[], 0⟩] } ⟨[], new, x.files.length⟩) x.files.length = ⟨[], 0⟩ ∧
   (Dk.Inv (Dk.turn { y with files := y.files ++ [⟨[], 0⟩] } ⟨[], new, x.files.length⟩) → Safe (Dk.turn { y with files := y.files ++ [⟨[], 0⟩] } ⟨[], new, x.files.length⟩) M) := by
  intro y c
  have hsame : ∀ i, i < x.files.length → fileAt (Dk.turn { y with files := y.files ++ [⟨[], 0⟩] } ⟨[], new, x.files.length⟩) i = fileAt x i := by
   intro i hi
   rw [← c.at]
   show (y.files ++ ([⟨[], 0⟩] : List Fi)).getD i ⟨[], 0⟩ = y.files.getD i ⟨[], 0⟩
   rw [List.getD, List.getD, List.getElem?_append_left (by rw [c.files]; exact hi)]
  refine ⟨hsame, ?_, fun hi2 => ?_⟩
  ·show (y.files ++ ([⟨[], 0⟩] : List Fi)).getD x.files.length ⟨[], 0⟩ = _
   rw [c.files, List.getD, List.getElem?_append_right (Nat.le_refl _), Nat.sub_self]; rfl
  ·refine h.turn hi2 (by show y.pend ++ _ = _; rw [c.pend]) c.safe (by show Dk.apply y.names ⟨[], new, x.files.length⟩ = _; rw [c.names]) hsame ⟨fun p hp => ?_, fun i h1 => ?_, fun h1 => ?_⟩ fun k _ i h1 h2 => ?_
   ·rcases Dk.jJ.1 hp with ⟨_, h1⟩ | ⟨h1, _⟩
    ·rw [h1]; exact .inr rfl
    ·exact h.now.1 p h1
   ·have h2 := (hold i).1 h1
    obtain ⟨a, b, _⟩ := h.now.2.1 i h2
    have e := hsame i (hlt i h2)
    refine ⟨aZ3 e a, by rw [e]; exact b, fun h3 => ?_⟩
    have := hnew i h3
    have := hlt i h2
    omega
   ·exact h.now.2.2 fun i h2 => h1 i ((hold i).2 h2)
   ·have h3 := hnew i h2
    have h4 : i < x.files.length := cQ0 h.inv k h1
    omega
 refine ⟨?_, fun h0 => ?_⟩
 ·rcases bV4 x new with c | ⟨y, c, _, _, e⟩
  ·exact h.core c hi
  ·rw [e] at hi ⊢; exact (key y c).2.2 hi
 ·obtain ⟨y, c, _, _, e⟩ := dA5 h0
  rw [e]
  refine ⟨x.files.length, ?_, (key y c).2.1⟩
  show (new, x.files.length) ∈ Dk.apply y.names ⟨[], new, x.files.length⟩
  exact Dk.jJ.2 (.inl ⟨new_ne, rfl⟩)
theorem Safe.set {x y : Ds} {M : Option Tx → Prop} (h : Safe x M) (c : Core x y) {j : Nat} {f : Fi} (hj : (new, j) ∈ x.names) (hi : Dk.Inv (Dk.set y j f)) : Safe (Dk.set y j f) M := by
 refine h.like hi c.names c.safe c.pend fun k hk i h1 => ?_
 rw [dD8]
 split
 ·rename_i h2
  have := h.apart k hk i h1
  rw [h2.1] at this
  exact absurd hj this
 ·exact c.at i
theorem aP8 {x : Ds} {j : Nat} (h : Dk.find x.names new = some j) : (new, j) ∈ x.names := Dk.qI h
theorem Safe.append {x : Ds} {M : Option Tx → Prop} (h : Safe x M) (t : Tx) : Safe (Dk.append x new t).1 M ∧ ((Dk.append x new t).2 = 0 → (Dk.append x new t).1.names = x.names ∧ ∀ j, (new, j) ∈ x.names → fileAt (Dk.append x new t).1 j = ⟨(fileAt x j).data ++ t, (fileAt x j).safe⟩) := by
 have hi := Dk.cC7 h.inv new t
 refine ⟨?_, fun h0 => ?_⟩
 ·rcases cV9 x new t with c | ⟨y, j, c, hf, e⟩
  ·exact h.core c hi
  ·rw [e] at hi ⊢; exact h.set c (aP8 hf) hi
 ·obtain ⟨y, j, c, hf, e⟩ := cV5 h0
  rw [e]
  refine ⟨c.names, fun j' hj' => ?_⟩
  have : j' = j := by
   have h1 := zZ h.inv.sn hj'
   rw [hf] at h1
   exact (Option.some.inj h1).symm
  subst this
  have hlt : j' < y.files.length := by rw [c.files]; exact h.inv.inn (new, j') hj'
  rw [bF9 hlt, if_pos rfl]
theorem Safe.sync {x : Ds} {M : Option Tx → Prop} (h : Safe x M) : Safe (Dk.sync x new).1 M ∧ ((Dk.sync x new).2 = 0 → (Dk.sync x new).1.names = x.names ∧ ∀ j, (new, j) ∈ x.names → fileAt (Dk.sync x new).1 j = ⟨(fileAt x j).data, (fileAt x j).data.length⟩) := by
 have hi := Dk.cD2 h.inv new
 refine ⟨?_, fun h0 => ?_⟩
 ·rcases dU5 x new with c | ⟨y, j, c, hf, e⟩
  ·exact h.core c hi
  ·rw [e] at hi ⊢; exact h.set c (aP8 hf) hi
 ·obtain ⟨y, j, c, hf, e⟩ := dU1 h0
  rw [e]
  refine ⟨c.names, fun j' hj' => ?_⟩
  have : j' = j := by
   have h1 := zZ h.inv.sn hj'
   rw [hf] at h1
   exact (Option.some.inj h1).symm
  subst this
  have hlt : j' < y.files.length := by rw [c.files]; exact h.inv.inn (new, j') hj'
  rw [bF9 hlt, if_pos rfl]
theorem cM0 {x : Ds} {fr to : Tx} (h : (Dk.rename x fr to).2 = 0) : ∃ y i, Core x y ∧ Dk.find x.names fr = some i ∧ (Dk.rename x fr to).1 = Dk.turn y ⟨fr, to, i⟩ := by
 unfold Dk.rename at h ⊢
 by_cases hd : x.dead = true
 ·rw [if_pos hd] at h; exact absurd (show (9 : Int) = 0 from h) (by decide)
 rw [if_neg hd] at h ⊢
 cases hf : Dk.find x.names fr with
 | none => rw [hf] at h; exact absurd (show (5 : Int) = 0 from h) (by decide)
 | some i =>
  rw [hf] at h
  dsimp only at h ⊢
  by_cases h1 : to = [] ∨ to = fr
  ·rw [if_pos h1] at h; exact absurd (show (1 : Int) = 0 from h) (by decide)
  rw [if_neg h1] at h ⊢
  have hc := pY x
  generalize Dk.begin x = z at hc h ⊢
  obtain ⟨y, st, e⟩ := z
  dsimp only at hc h ⊢
  by_cases he : e ≠ 0 ∧ st = false
  ·rw [if_pos he] at h; exact absurd h he.1
  ·rw [if_neg he]; exact ⟨y, i, hc, rfl, rfl⟩
theorem Safe.rename {x : Ds} {M : Option Tx → Prop} (h : Safe x M) (hw : ∀ j, (new, j) ∈ x.names → Whole x j ∧ M (some (fileAt x j).data)) :
  Safe (Dk.rename x new old).1 M ∧ ((Dk.rename x new old).2 = 0 → ∀ p ∈ (Dk.rename x new old).1.names, ∃ j, p = (old, j) ∧ (new, j) ∈ x.names ∧ fileAt (Dk.rename x new old).1 j = fileAt x j) := by
 have hi := Dk.cD1 h.inv new old
 have key : ∀ y j, Core x y → (new, j) ∈ x.names → Dk.Inv (Dk.turn y ⟨new, old, j⟩) → Safe (Dk.turn y ⟨new, old, j⟩) M := by
  intro y j c hj hi2
  have hnew : ∀ i, (new, i) ∉ Dk.apply x.names ⟨new, old, j⟩ := by
   intro i hm
   rcases Dk.jJ.1 hm with ⟨_, h1⟩ | ⟨_, h1, _⟩
   ·exact absurd (Prod.mk.inj h1).1 aI3
   ·exact h1 rfl
  refine h.turn hi2 (by show y.pend ++ _ = _; rw [c.pend]) c.safe (by show Dk.apply y.names ⟨new, old, j⟩ = _; rw [c.names]) (fun i _ => c.at i) ⟨fun p hp => ?_, fun i h1 => ?_, fun h1 => ?_⟩ fun k _ i _ => hnew i
  ·rcases Dk.jJ.1 hp with ⟨_, h1⟩ | ⟨h1, _⟩
   ·rw [h1]; exact .inl rfl
   ·exact h.now.1 p h1
  ·have e : fileAt (Dk.turn y ⟨new, old, j⟩) i = fileAt x i := c.at i
   rcases Dk.jJ.1 h1 with ⟨_, h2⟩ | ⟨_, _, h2⟩
   ·have h2 : i = j := (Prod.mk.inj h2).2
    subst h2
    obtain ⟨a, b⟩ := hw i hj
    exact ⟨aZ3 e a, by rw [e]; exact b, hnew i⟩
   ·exact absurd rfl h2
  ·exact absurd (Dk.jJ.2 (.inl ⟨aI7, rfl⟩)) (h1 j)
 refine ⟨?_, fun h0 p hp => ?_⟩
 ·rcases dP8 x new old with c | ⟨y, j, c, hf, _, _, e⟩
  ·exact h.core c hi
  ·rw [e] at hi ⊢; exact key y j c (aP8 hf) hi
 ·obtain ⟨y, j, c, hf, e⟩ := cM0 h0
  rw [e] at hp ⊢
  have hp : p ∈ Dk.apply y.names ⟨new, old, j⟩ := hp
  rw [c.names] at hp
  rcases Dk.jJ.1 hp with ⟨_, h1⟩ | ⟨h1, h2, h3⟩
  ·exact ⟨j, h1, aP8 hf, c.at j⟩
  ·rcases h.now.1 p h1 with h4 | h4
   ·exact absurd h4 h3
   ·exact absurd h4 h2
theorem Safe.fD {x : Ds} {M : Option Tx → Prop} (h : Safe x M) : Safe (Dk.fD x).1 M ∧ ((Dk.fD x).2 = 0 → ∀ M', Fit x x.names M' → Safe (Dk.fD x).1 M') := by
 have hi := Dk.cD3 h.inv
 have key : ∀ y M', Core x y → Fit x x.names M' → Dk.Inv { y with safe := x.names, pend := [] } → Safe { y with safe := x.names, pend := [] } M' := by
  intro y M' c hf hi2
  have e : ∀ k, state { y with safe := x.names, pend := [] } k = x.names := fun k => by
   show (([] : List Cg).take k).foldl Dk.apply x.names = x.names
   rw [List.take_nil]; rfl
  refine ⟨hi2, fun k _ => ?_, fun k _ i h1 => ?_⟩
  ·rw [e]
   exact hf.same fun i _ => c.at i
  ·rw [e] at h1
   show (new, i) ∉ y.names
   rw [c.names]
   exact (hf.2.1 i h1).2.2
 refine ⟨?_, fun h0 M' hf => ?_⟩
 ·rcases dU3 x with c | ⟨y, c, e⟩
  ·exact h.core c hi
  ·rw [e] at hi ⊢; exact key y M c h.now hi
 ·obtain ⟨y, c, e⟩ := dK0 h0
  rw [e] at hi ⊢; exact key y M' c hf hi
theorem Safe.save {x : Ds} {M : Option Tx → Prop} (h : Safe x M) (t : Tx) : Safe (Ck.save x t).1 (fun o => M o ∨ o = some t) ∧ ((Ck.save x t).2 = 0 → Safe (Ck.save x t).1 (fun o => o = some t)) ∧ (x.dead = true → Ck.save x t = (x, 9)) := by
 have up : ∀ {y}, Safe y M → Safe y (fun o => M o ∨ o = some t) := fun h => h.mono fun _ h => .inl h
 have hdead : x.dead = true → Ck.save x t = (x, 9) := by
  intro hd
  have e : Ck.clean x = (x, 9) := by unfold Ck.clean; rw [if_pos hd]
  unfold Ck.save ops go
  rw [e, if_pos (by show (9 : Int) ≠ 0; decide)]
 suffices hh : Safe (Ck.save x t).1 (fun o => M o ∨ o = some t) ∧ ((Ck.save x t).2 = 0 → Safe (Ck.save x t).1 (fun o => o = some t)) from ⟨hh.1, hh.2, hdead⟩
 unfold Ck.save ops go
 obtain ⟨a1, a2⟩ := h.clean
 by_cases c1 : (Ck.clean x).2 ≠ 0
 ·rw [if_pos c1]; exact ⟨up a1, fun h0 => absurd h0 c1⟩
 rw [if_neg c1]
 have a2 := a2 (Classical.byContradiction c1)
 generalize (Ck.clean x).1 = x1 at a1 a2 ⊢
 unfold go
 dsimp only
 obtain ⟨b1, b2⟩ := a1.create
 by_cases c2 : (Dk.create x1 new).2 ≠ 0
 ·rw [if_pos c2]; exact ⟨up b1, fun h0 => absurd h0 c2⟩
 rw [if_neg c2]
 obtain ⟨j, j1, j2⟩ := b2 (Classical.byContradiction c2)
 generalize (Dk.create x1 new).1 = x2 at b1 j1 j2 ⊢
 unfold go
 dsimp only
 obtain ⟨d1, d2⟩ := b1.append t
 by_cases c3 : (Dk.append x2 new t).2 ≠ 0
 ·rw [if_pos c3]; exact ⟨up d1, fun h0 => absurd h0 c3⟩
 rw [if_neg c3]
 obtain ⟨k1, k2⟩ := d2 (Classical.byContradiction c3)
 have k2 := k2 j j1
 rw [j2] at k2
 generalize (Dk.append x2 new t).1 = x3 at d1 k1 k2 ⊢
 rw [← k1] at j1
 unfold go
 dsimp only
 obtain ⟨e1, e2⟩ := d1.sync
 by_cases c4 : (Dk.sync x3 new).2 ≠ 0
 ·rw [if_pos c4]; exact ⟨up e1, fun h0 => absurd h0 c4⟩
 rw [if_neg c4]
 obtain ⟨m1, m2⟩ := e2 (Classical.byContradiction c4)
 have m2 := m2 j j1
 rw [k2] at m2
 generalize (Dk.sync x3 new).1 = x4 at e1 m1 m2 ⊢
 rw [← m1] at j1
 unfold go
 dsimp only
 have hone : ∀ j', (new, j') ∈ x4.names → j' = j := by
  intro j' hj'
  have h1 := zZ e1.inv.sn hj'
  rw [zZ e1.inv.sn j1] at h1
  exact (Option.some.inj h1).symm
 obtain ⟨f1, f2⟩ := (up e1).rename (fun j' hj' => by
  rw [hone j' hj']
  unfold Whole
  rw [m2]
  exact ⟨by simp, .inr (by simp)⟩)
 by_cases c5 : (Dk.rename x4 new old).2 ≠ 0
 ·rw [if_pos c5]; exact ⟨f1, fun h0 => absurd h0 c5⟩
 rw [if_neg c5]
 have f2 := f2 (Classical.byContradiction c5)
 have hne : ∃ i, (old, i) ∈ (Dk.rename x4 new old).1.names := by
  obtain ⟨y, i, c, _, e⟩ := cM0 (Classical.byContradiction c5)
  rw [e]
  refine ⟨i, ?_⟩
  show (old, i) ∈ Dk.apply y.names ⟨new, old, i⟩
  exact Dk.jJ.2 (.inl ⟨aI7, rfl⟩)
 generalize (Dk.rename x4 new old).1 = x5 at f1 f2 hne ⊢
 unfold go
 obtain ⟨g1, g2⟩ := f1.fD
 have fin : Fit x5 x5.names (fun o => o = some t) := by
  refine ⟨f1.now.1, fun i hi => ?_, fun hn => ?_⟩
  ·obtain ⟨j', p1, p2, p3⟩ := f2 _ hi
   have p1 : i = j' := (Prod.mk.inj p1).2
   subst p1
   obtain ⟨q1, _, q3⟩ := f1.now.2.1 i hi
   rw [hone i p2, m2] at p3
   rw [hone i p2] at q1 q3 ⊢
   exact ⟨q1, by rw [p3]; simp, q3⟩
  ·obtain ⟨i, hi⟩ := hne
   exact absurd hi (hn i)
 by_cases c6 : (Dk.fD x5).2 ≠ 0
 ·rw [if_pos c6]; exact ⟨g1, fun h0 => absurd h0 c6⟩
 ·rw [if_neg c6]
  unfold go
  exact ⟨g1, fun _ => g2 (Classical.byContradiction c6) _ fin⟩
theorem Safe.restart {x : Ds} {M : Option Tx → Prop} (h : Safe x M) (ch : LI) : Safe (Dk.restart x ch) M := by
 have hk : Dk.pick ch 0 (x.pend.length + 1) ≤ x.pend.length := by have := Dk.aI9 ch 0 (x.pend.length + 1) (by omega); omega
 have hf := h.fit _ hk
 have en : (Dk.restart x ch).names = state x (Dk.pick ch 0 (x.pend.length + 1)) := rfl
 have hs : ∀ i, (old, i) ∈ state x (Dk.pick ch 0 (x.pend.length + 1)) → (fileAt (Dk.restart x ch) i).data = (fileAt x i).data ∧ Whole (Dk.restart x ch) i := by
  intro i hi
  obtain ⟨n, n1, n2, n3⟩ := dD7 h.inv ch (p := (old, i)) (by rw [en]; exact hi)
  have n1 : (fileAt x i).safe ≤ n := n1
  have n2 : n ≤ (fileAt x i).data.length := n2
  have n3 : fileAt (Dk.restart x ch) i = ⟨(fileAt x i).data.take n, n⟩ := n3
  have hw : (fileAt x i).safe = (fileAt x i).data.length := (hf.2.1 i hi).1
  unfold Whole
  rw [n3]
  refine ⟨List.take_of_length_le (by omega), ?_⟩
  show n = ((fileAt x i).data.take n).length
  rw [List.length_take]; omega
 have fin : Fit (Dk.restart x ch) (state x (Dk.pick ch 0 (x.pend.length + 1))) M :=
  ⟨hf.1, fun i hi => ⟨(hs i hi).2, by rw [(hs i hi).1]; exact (hf.2.1 i hi).2.1, (hf.2.1 i hi).2.2⟩, hf.2.2⟩
 have e : ∀ k, state (Dk.restart x ch) k = state x (Dk.pick ch 0 (x.pend.length + 1)) := fun k => by
  show (([] : List Cg).take k).foldl Dk.apply (state x (Dk.pick ch 0 (x.pend.length + 1))) = _
  rw [List.take_nil]; rfl
 refine ⟨Dk.bI4 h.inv ch, fun k _ => by rw [e]; exact fin, fun k _ i h1 => ?_⟩
 rw [e] at h1
 rw [en]
 exact (fin.2.1 i h1).2.2
theorem Safe.read {x : Ds} {M : Option Tx → Prop} (h : Safe x M) (hd : x.dead = false) : (∃ t, M (some t) ∧ Dk.read x old = (t, 0)) ∨ (M none ∧ Dk.read x old = ([], 5)) := by
 unfold Dk.read
 rw [if_neg (by rw [hd]; simp)]
 cases hf : Dk.find x.names old with
 | none => exact .inr ⟨h.now.2.2 fun i hi => Dk.aP9.1 hf _ hi rfl, rfl⟩
 | some i => exact .inl ⟨_, (h.now.2.1 i (Dk.qI hf)).2.1, rfl⟩
theorem cO9 (r : Int) : Safe (Dk.new r) (fun o => o = none) := by
 have e : ∀ k, state (Dk.new r) k = [] := fun k => by
  show (([] : List Cg).take k).foldl Dk.apply [] = []
  rw [List.take_nil]; rfl
 exact ⟨Dk.cC9 r, fun k _ => by rw [e]; exact ⟨by simp, by simp, fun _ => rfl⟩, fun k _ i h => by rw [e] at h; simp at h⟩
end Ck
end Go.Vc
namespace Go.Vc
open Dk (Ds Fi Cg fileAt)
namespace Ck
structure Live (x : Ds) : Prop where
 dead : x.dead = false
 crash : x.crash = -1
structure After (x : Ds) (r : Ds × Int) : Prop where
 live : Live r.1
 room : r.1.room = x.room
 code : r.2 = 0 ∨ r.2 = 7 ∨ r.2 = 8
 calm : x.fail = -1 → r.1.fail = -1
def Zero (x : Ds) (r : Ds × Int) : Prop := After x r ∧ (x.fail = -1 → r.2 = 0)
theorem zF {x : Ds} (h : Live x) : ∃ y e, Dk.begin x = (y, false, e) ∧ Live y ∧ Core x y ∧ (e = 0 ∨ e = 8) ∧ (x.fail = -1 → y.fail = -1 ∧ e = 0) := by
 obtain ⟨a1, a2, a3, a4, a5, a6, a7, a8, a9⟩ := x
 obtain ⟨h1, h2⟩ := h
 have h1 : a8 = false := h1
 have h2 : a6 = -1 := h2
 subst h1 h2
 unfold Dk.begin
 dsimp only
 by_cases h0 : a7 = 0
 ·subst h0
  exact ⟨_, 8, rfl, ⟨rfl, rfl⟩, ⟨rfl, rfl, rfl, rfl, rfl⟩, .inr rfl, fun h => absurd h (by decide)⟩
 ·by_cases h3 : a7 > 0
  ·simp only [h0, h3, if_true, if_false]
   exact ⟨_, 0, rfl, ⟨rfl, rfl⟩, ⟨rfl, rfl, rfl, rfl, rfl⟩, .inl rfl, fun h => by omega⟩
  ·simp only [h0, h3, if_false]
   exact ⟨_, 0, rfl, ⟨rfl, rfl⟩, ⟨rfl, rfl, rfl, rfl, rfl⟩, .inl rfl, fun h => ⟨h, rfl⟩⟩
theorem Zero.of {x y z : Ds} {e : Int} (h : Live y) (hr : z.room = x.room) (hl : z.dead = y.dead ∧ z.crash = y.crash ∧ z.fail = y.fail) (he : e = 0 ∨ e = 8) (hf : x.fail = -1 → y.fail = -1 ∧ e = 0) : Zero x (z, e) :=
 ⟨⟨⟨hl.1.trans h.dead, hl.2.1.trans h.crash⟩, hr, by show e = 0 ∨ e = 7 ∨ e = 8; omega, fun hm => hl.2.2.trans (hf hm).1⟩, fun hm => (hf hm).2⟩
theorem dA6 {x : Ds} (h : Live x) (hn : ∀ i, (new, i) ∉ x.names) : Zero x (Dk.create x new) := by
 have hfd : Dk.find x.names new = none := Dk.aP9.2 fun p hp e => hn p.2 (by rw [← e]; exact hp)
 obtain ⟨y, e, hb, l, c, he, f⟩ := zF h
 unfold Dk.create
 rw [if_neg (by rw [h.dead]; simp), if_neg new_ne, if_neg (by rw [hfd]; simp), hb]
 dsimp only
 split
 ·exact Zero.of l c.room ⟨rfl, rfl, rfl⟩ he f
 ·exact Zero.of l c.room ⟨rfl, rfl, rfl⟩ he f
theorem aQ0 {x : Ds} (hi : Dk.Inv x) {n : Tx} {j : Nat} (h : (n, j) ∈ x.names) : Dk.find x.names n = some j := zZ hi.sn h
theorem cV8 {x : Ds} (h : Live x) (hi : Dk.Inv x) {j : Nat} (hj : (new, j) ∈ x.names) (t : Tx) : After x (Dk.append x new t) ∧ (x.fail = -1 → (t.length : Int) ≤ Dk.free x → (Dk.append x new t).2 = 0) := by
 obtain ⟨y, e, hb, l, c, he, f⟩ := zF h
 unfold Dk.append
 rw [if_neg (by rw [h.dead]; simp), aQ0 hi hj]
 dsimp only
 by_cases hbig : (t.length : Int) > Dk.free x
 ·rw [if_pos hbig]
  exact ⟨⟨h, rfl, .inr (.inl rfl), fun hm => hm⟩, fun _ hk => absurd hk (by omega)⟩
 ·rw [if_neg hbig, hb]
  dsimp only
  have z : ∀ w : Ds, w.room = x.room → (w.dead = y.dead ∧ w.crash = y.crash ∧ w.fail = y.fail) → Zero x (w, e) := fun w a b => Zero.of l a b he f
  split
  ·exact ⟨(z y c.room ⟨rfl, rfl, rfl⟩).1, fun hm _ => (f hm).2⟩
  ·exact ⟨(z (Dk.set y j ⟨(fileAt y j).data ++ t, (fileAt y j).safe⟩) c.room ⟨rfl, rfl, rfl⟩).1, fun hm _ => (f hm).2⟩
theorem dU4 {x : Ds} (h : Live x) (hi : Dk.Inv x) {j : Nat} (hj : (new, j) ∈ x.names) : Zero x (Dk.sync x new) := by
 obtain ⟨y, e, hb, l, c, he, f⟩ := zF h
 unfold Dk.sync
 rw [if_neg (by rw [h.dead]; simp), aQ0 hi hj]
 dsimp only
 rw [hb]
 dsimp only
 split
 ·exact Zero.of l c.room ⟨rfl, rfl, rfl⟩ he f
 ·exact Zero.of l c.room ⟨rfl, rfl, rfl⟩ (.inl rfl) fun hm => ⟨(f hm).1, rfl⟩
theorem dP7 {x : Ds} (h : Live x) (hi : Dk.Inv x) {j : Nat} (hj : (new, j) ∈ x.names) : Zero x (Dk.rename x new old) := by
 obtain ⟨y, e, hb, l, c, he, f⟩ := zF h
 unfold Dk.rename
 rw [if_neg (by rw [h.dead]; simp), aQ0 hi hj]
 dsimp only
 rw [if_neg (by intro hh; rcases hh with hh | hh; exact aI7 hh; exact aI3 hh.symm), hb]
 dsimp only
 split
 ·exact Zero.of l c.room ⟨rfl, rfl, rfl⟩ he f
 ·exact Zero.of l c.room ⟨rfl, rfl, rfl⟩ he f
theorem dU2 {x : Ds} (h : Live x) : Zero x (Dk.fD x) := by
 obtain ⟨y, e, hb, l, c, he, f⟩ := zF h
 unfold Dk.fD
 rw [hb]
 dsimp only
 split
 ·exact Zero.of l c.room ⟨rfl, rfl, rfl⟩ he f
 ·exact Zero.of l c.room ⟨rfl, rfl, rfl⟩ (.inl rfl) fun hm => ⟨(f hm).1, rfl⟩
theorem cZ7 {x : Ds} (h : Live x) (hi : Dk.Inv x) : Zero x (clean x) := by
 unfold Ck.clean
 rw [if_neg (by rw [h.dead]; simp)]
 split
 ·rename_i ha
  obtain ⟨p, hp, hpe⟩ := List.any_eq_true.1 ha
  have hpe : p.1 = new := by simpa using hpe
  obtain ⟨y, e, hb, l, c, he, f⟩ := zF h
  unfold Dk.remove
  rw [if_neg (by rw [h.dead]; simp), aQ0 (j := p.2) hi (by rw [← hpe]; exact hp)]
  dsimp only
  rw [hb]
  dsimp only
  split
  ·exact Zero.of l c.room ⟨rfl, rfl, rfl⟩ he f
  ·exact Zero.of l c.room ⟨rfl, rfl, rfl⟩ he f
 ·exact ⟨⟨h, rfl, .inl rfl, fun hm => hm⟩, fun _ => rfl⟩
theorem After.trans {x y : Ds} {r q : Ds × Int} (a : After x q) (e : q.1 = y) (b : After y r) : After x r := by
 subst e
 exact ⟨b.live, b.room.trans a.room, b.code, fun hm => b.calm (a.calm hm)⟩
theorem cS6 {x y : Ds} (c : Core x y) : tot y = tot x := bP9 c.files
theorem dV8 (x : Ds) : tot (clean x).1 = tot x := by
 unfold Ck.clean
 split
 ·rfl
 ·split
  ·rcases cL9 x new with c | ⟨y, i, c, _, e⟩
   ·exact cS6 c
   ·rw [e]; exact bP9 c.files
  ·rfl
theorem dV9 (x : Ds) (n : Tx) : tot (Dk.create x n).1 = tot x := by
 rcases bV4 x n with c | ⟨y, c, _, _, e⟩
 ·exact cS6 c
 ·rw [e]
  show ((y.files ++ [(⟨[], 0⟩ : Fi)]).map fun f => f.data.length).sum = _
  rw [c.files, List.map_append, List.sum_append]
  show tot x + 0 = tot x
  omega
theorem dR5 {x : Ds} {M : Option Tx → Prop} (h : Live x) (hs : Safe x M) (t : Tx) : After x (save x t) ∧ (x.fail = -1 → ((tot x : Int) + t.length ≤ x.room) → (save x t).2 = 0) := by
 unfold Ck.save ops go
 have A1 := cZ7 h hs.inv
 have T1 := dV8 x
 obtain ⟨a1, a2⟩ := hs.clean
 by_cases c1 : (Ck.clean x).2 ≠ 0
 ·rw [if_pos c1]; exact ⟨A1.1, fun hm _ => A1.2 hm⟩
 rw [if_neg c1]
 have a2 := a2 (Classical.byContradiction c1)
 have B1 := A1.1
 generalize Ck.clean x = r1 at a1 a2 T1 A1 B1 ⊢
 obtain ⟨x1, e1⟩ := r1
 dsimp only at a1 a2 T1 ⊢
 unfold go
 dsimp only
 have A2 := dA6 B1.live a2
 have B2 := B1.trans rfl A2.1
 have T2 := dV9 x1 new
 obtain ⟨b1, b2⟩ := a1.create
 by_cases c2 : (Dk.create x1 new).2 ≠ 0
 ·rw [if_pos c2]; exact ⟨B2, fun hm _ => A2.2 (B1.calm hm)⟩
 rw [if_neg c2]
 obtain ⟨j, j1, _⟩ := b2 (Classical.byContradiction c2)
 generalize Dk.create x1 new = r2 at b1 j1 T2 B2 ⊢
 obtain ⟨x2, e2⟩ := r2
 dsimp only at b1 j1 T2 ⊢
 unfold go
 dsimp only
 obtain ⟨A3, A3z⟩ := cV8 B2.live b1.inv j1 t
 have B3 := B2.trans rfl A3
 have hfree : ((tot x : Int) + t.length ≤ x.room) → (t.length : Int) ≤ Dk.free x2 := by
  intro hr
  have hu := cT7 x2
  have h1 : x2.room = x.room := B2.room
  unfold Dk.free
  rw [h1]
  omega
 obtain ⟨d1, d2⟩ := b1.append t
 by_cases c3 : (Dk.append x2 new t).2 ≠ 0
 ·rw [if_pos c3]; exact ⟨B3, fun hm hr => A3z (B2.calm hm) (hfree hr)⟩
 rw [if_neg c3]
 obtain ⟨k1, _⟩ := d2 (Classical.byContradiction c3)
 generalize Dk.append x2 new t = r3 at d1 k1 B3 ⊢
 obtain ⟨x3, e3⟩ := r3
 dsimp only at d1 k1 ⊢
 rw [← k1] at j1
 unfold go
 dsimp only
 have A4 := dU4 B3.live d1.inv j1
 have B4 := B3.trans rfl A4.1
 obtain ⟨e1, e2⟩ := d1.sync
 by_cases c4 : (Dk.sync x3 new).2 ≠ 0
 ·rw [if_pos c4]; exact ⟨B4, fun hm _ => A4.2 (B3.calm hm)⟩
 rw [if_neg c4]
 obtain ⟨m1, _⟩ := e2 (Classical.byContradiction c4)
 generalize Dk.sync x3 new = r4 at e1 m1 B4 ⊢
 obtain ⟨x4, e4⟩ := r4
 dsimp only at e1 m1 ⊢
 rw [← m1] at j1
 unfold go
 dsimp only
 have A5 := dP7 B4.live e1.inv j1
 have B5 := B4.trans rfl A5.1
 by_cases c5 : (Dk.rename x4 new old).2 ≠ 0
 ·rw [if_pos c5]; exact ⟨B5, fun hm _ => A5.2 (B4.calm hm)⟩
 rw [if_neg c5]
 generalize Dk.rename x4 new old = r5 at B5 ⊢
 obtain ⟨x5, e5⟩ := r5
 unfold go
 have A6 := dU2 B5.live
 have B6 := B5.trans rfl A6.1
 by_cases c6 : (Dk.fD x5).2 ≠ 0
 ·rw [if_pos c6]; exact ⟨B6, fun hm _ => A6.2 (B5.calm hm)⟩
 ·rw [if_neg c6]
  unfold go
  exact ⟨⟨B6.live, B6.room, .inl rfl, B6.calm⟩, fun _ _ => rfl⟩
theorem dH4 {t : Tx} {n b : Nat} {x : Ds} (h : Lim n b x) : Lim (n + 6) (b + t.length) (save x t).1 := by
 have up : ∀ {m : Nat} {y : Ds} {c : Nat}, Lim m c y → m ≤ n + 6 → c ≤ b + t.length → Lim (n + 6) (b + t.length) y := fun h h1 h2 => h.mono h1 h2
 unfold Ck.save ops go
 have h1 : Lim (n + 1) b (clean x).1 := by
  unfold Ck.clean
  split
  ·exact h.mono (by omega) (Nat.le_refl _)
  ·split
   ·exact cF7 h _
   ·exact h.mono (by omega) (Nat.le_refl _)
 split
 ·exact up h1 (by omega) (by omega)
 unfold go
 dsimp only
 have h2 := bJ3 h1 new
 split
 ·exact up h2 (by omega) (by omega)
 unfold go
 dsimp only
 have h3 := bJ2 h2 new t
 split
 ·exact up h3 (by omega) (by omega)
 unfold go
 dsimp only
 have h4 := cF9 h3 new
 split
 ·exact up h4 (by omega) (by omega)
 unfold go
 dsimp only
 have h5 := cF8 h4 new old
 split
 ·exact up h5 (by omega) (by omega)
 unfold go
 have h6 := cG0 h5
 split
 ·exact up h6 (by omega) (by omega)
 ·exact up h6 (by omega) (by omega)
end Ck
end Go.Vc
namespace Go.Vc
open Dk (Ds)
def nG.sig : Sig := gQ [] [.b] (fun _ => True) fun l => (arg l 0).toB = true
end Go.Vc
namespace Go.Vc
set_option linter.unusedVariables false
set_option maxRecDepth 100000
def nG.Pure : Prop :=
 nG.sig.pre [] →
 wV.sig.pre [.I 1000] ∧ (
 ∀ n0 : Nat,
 ∀ l1 : LD,
 wV.sig.post [.I 1000, .N n0, .L l1] →
 ∀ v2 : Value,
 Grow.sig.pre [.V v2, .L ((D.L ((D.S (⟨#[97]⟩ : BA)) :: ((D.S (⟨#[98]⟩ : BA)) :: ([] : LD)))) :: ([] : LD))] ∧ (
 ∀ n3 : Nat,
 ∀ v4 v5 : Value,
 ∀ l6 l7 : LD,
 Grow.sig.post [.V v2, .L ((D.L ((D.S (⟨#[97]⟩ : BA)) :: ((D.S (⟨#[98]⟩ : BA)) :: ([] : LD)))) :: ([] : LD)), .N n3, .V v4, .V v5, .L l6, .L l7] →
 (EK.ok [.ints .u8 32, .str] (D.L l6)) →
 (EK.ok [.str, .str] (D.L l7)) →
 dW.sig.pre [.N n0, .L l1, .N n3, .V v4, .L l6] ∧ (
 ∀ l8 : LD,
 ∀ i9 : Int,
 dW.sig.post [.N n0, .L l1, .N n3, .V v4, .L l6, .L l8, .I i9] →
 R64 i9 →
 ((
 (i9 ≠ 0) →
  nG.sig.post [.B false]) ∧ (
 (i9 = 0) →
 ∀ v10 : Value,
  aK2.sig.pre [.N n0, .L l8, .V v10, .Z ([] : LI)] ∧ (
 ∀ l11 : LD,
  aK2.sig.post [.N n0, .L l8, .V v10, .Z ([] : LI), .L l11] →
 ((
  dQ.sig.pre [.N n0, .L l11] ∧ (
 ∀ b12 : Bool,
 ∀ i13 : Int,
  dQ.sig.post [.N n0, .L l11, .B b12, .I i13] →
 R64 i13 →
 ((
 (i13 = 0) →
 ((
 (b12 = true) →
   nG.sig.post [.B false]) ∧ (
 (b12 = false) →
   nG.sig.post [.B false]))) ∧ (
 (i13 ≠ 0) →
  nG.sig.post [.B false])))) ∧ (
  dQ.sig.pre [.N n0, .L l11] ∧ (
 ∀ n12 : Nat,
 ∀ v13 : Value,
 ∀ l14 : LD,
 ∀ b15 : Bool,
  dQ.sig.dM [.N n0, .L l11, .N n12, .V v13, .L l14, .B b15] →
 (EK.ok [.ints .u8 32, .str] (D.L l14)) →
 ((
 (b15 = true) →
  bT.sig.pre [.N n12, .V v13, .L l14, .V v5, .L l7] ∧ (
 ∀ i16 : Int,
  bT.sig.post [.N n12, .V v13, .L l14, .V v5, .L l7, .I i16] →
 R64 i16 →
  nG.sig.post [.B (i16 == 0)])) ∧ (
 (b15 = false) →
  nG.sig.post [.B false])))))))))))
end Go.Vc
namespace Go.Vc
open Dk (Ds)
namespace Ck
structure Good (L : LD) : Prop where
 keys : lS L
 rise : rising L
 len : L.length ≤ 12
 text : ∀ d ∈ L, (textE d).size ≤ 60
theorem Good.small {L : LD} (h : Good L) : (dH L).length ≤ 10000 ∧ 8 ≤ (dH L).length := dV1 (by have := h.len; omega) h.text h.keys
theorem Good.ok {L : LD} (h : Good L) : aY0 L := ⟨by have := h.len; omega, by have := h.small.1; omega⟩
theorem Good.bytes {L : LD} (h : Good L) : (dJ L).length ≤ 10032 := by
 have h1 : (dJ L).length = (lC (dH L)).length := by
  show (textOf (lC (dH L))).size = _
  exact textOf_size _
 have h2 := (aL3 (l := dH L) (by have := h.small.1; omega)).1
 rw [h1, lC, List.length_append]
 have := h.small.1
 omega
theorem dU8 {L : LD} (h : lS L) : ∀ x ∈ dH L, 0 ≤ x ∧ x < 256 := by
 rw [← cR9 h]; exact cR8
theorem Good.parse {L : LD} (h : Good L) : dI (bx (dJ L)) = (0, L.map pG) := by
 show dI (textOf (lC (dH L))) = _
 rw [dN3 (by have := h.small.1; omega) h.small.2 (dU8 h.keys)]
 exact dV0 h.keys h.rise (by have := h.small.1; omega) fun d hd => by have := h.text d hd; omega
theorem dI0 {x : Ds} {L : LD} (h : Good L) (hr : Dk.read x old = (dJ L, 0)) : nM x = 0 ∧ pF x = L.map pG ∧ oZ x = true := by
 unfold Ck.nM Ck.pF Ck.oZ
 rw [hr]
 dsimp only
 rw [if_neg (by decide), if_neg (by decide), if_neg (by decide), h.parse]
 exact ⟨rfl, rfl, rfl⟩
theorem dH9 {x : Ds} (hr : Dk.read x old = ([], 5)) : nM x = 0 ∧ pF x = [] ∧ oZ x = false := by
 unfold Ck.nM Ck.pF Ck.oZ
 rw [hr]
 exact ⟨rfl, rfl, rfl⟩
theorem dH7 (r : Int) : Live (Dk.new r) := ⟨rfl, rfl⟩
theorem cG4 (x : Ds) (ch : LI) : Live (Dk.restart x ch) := ⟨rfl, rfl⟩
end Ck
theorem dE8 {v : Value} {items : LD} {n : Nat} {v2 v3 : Value} {L X : LD} (hk : EK.ok [.ints .u8 32, .str] (.L L)) (h : Grow.sig.post [.V v, .L items, .N n, .V v2, .V v3, .L L, .L X]) : Ck.Good L ∧ X = refs L ∧ L = growE [] (items.take 12) := by
 obtain ⟨a1, a2, a3, a4, a5⟩ := h
 exact ⟨⟨bI9 hk, a3, a4, a5⟩, a2, a1⟩
theorem dI1 {x : Ds} {l : LD} {n : Nat} {M : Option Tx → Prop} (hr : bD l x) (sx : Small x) (hs : Ck.Safe x M) (hd : x.dead = false) (hM : ∀ o, M o → ∃ L, Ck.Good L ∧ o = some (dJ L)) :
  dQ.sig.pre [.N n, .L l] ∧ (∀ (b : Bool) (e : Int), ¬ dQ.sig.post [.N n, .L l, .B b, .I e]) ∧
   ∃ L, Ck.Good L ∧ M (some (dJ L)) ∧ ∀ (n2 : Nat) (v : Value) (L' : LD) (b : Bool), dQ.sig.dM [.N n, .L l, .N n2, .V v, .L L', .B b] → L' = L.map pG ∧ b = true := by
 rcases hs.read hd with ⟨t, hm, e⟩ | ⟨hm, e⟩
 ·obtain ⟨L, hL, ht⟩ := hM _ hm
  obtain rfl : t = dJ L := Option.some.inj ht
  obtain ⟨a1, a2, a3⟩ := Ck.dI0 hL e
  refine ⟨⟨x, hr, sx, by rw [e]; have := hL.bytes; show (dJ L).length ≤ 500000; omega⟩, fun b e h => ?_, L, hL, hm, fun n2 v L' b h => ?_⟩
  ·obtain ⟨h1, h2, _⟩ := h x hr sx
   exact h1 (h2.trans a1)
  ·obtain ⟨_, h2, h3⟩ := h x hr sx
   exact ⟨h2.trans a2, h3.trans a3⟩
 ·obtain ⟨L, _, h⟩ := hM _ hm
  cases h
theorem dS7 {L : LD} (h : Ck.Good L) (h1 : L.length ≤ 1) : (dJ L).length ≤ 300 := by
 have e : (dJ L).length = (lC (dH L)).length := by
  show (textOf (lC (dH L))).size = _
  exact textOf_size _
 have h2 := (aL3 (l := dH L) (by have := h.small.1; omega)).1
 rw [e, lC, List.length_append, h2, dH, List.length_append, List.length_append]
 have h3 := (aB6 (L.length : Int)).1
 have e : ∀ {M : LD}, (∀ d ∈ M, (textE d).size ≤ 60) → lS M → (M.flatMap fF).length ≤ M.length * 101 := by
  intro M
  induction M with
  | nil => intros; simp
  | cons d M ih =>
   intro h1 h2
   have := ih (fun x hx => h1 x (by simp [hx])) (fun x hx => h2 x (by simp [hx]))
   have h3 := h1 d (by simp)
   have h4 := (aB6 ((textE d).size : Int)).1
   rw [List.flatMap_cons, List.length_append, fF, List.length_append, (h2 d (by simp)).1, gV, List.length_append, bytesOf_length', List.length_cons]
   omega
 have h4 := e h.text h.keys
 simp only [List.length_cons, List.length_nil]
 omega
theorem dL6 {L : LD} {o : Option Tx} (hL : Ck.Good L) (h : o = some (dJ L)) : ∃ L, Ck.Good L ∧ o = some (dJ L) := ⟨L, hL, h⟩
theorem nG.pure : nG.Pure := by
 intro _
 refine ⟨trivial, fun n0 l1 r1 v2 => ⟨trivial, fun n3 v4 v5 l6 l7 hg k6 _ => ?_⟩⟩
 have r1 : bD l1 (Dk.new 1000) := r1
 obtain ⟨gL, gX, gE⟩ := dE8 k6 hg
 have g1 : l6.length ≤ 1 := by
  rw [gE]
  exact cA0 _ []
 have hb := dS7 gL g1
 have m0 : Mid (Dk.new 1000) := Ck.cH1 (bJ4 1000)
 refine ⟨⟨⟨_, r1, m0⟩, gL.ok⟩, fun l8 i9 hsv _ => ?_⟩
 obtain ⟨r8, e9⟩ := hsv _ r1 m0
 have r8 : bD l8 (Ck.save (Dk.new 1000) (dJ l6)).1 := r8
 have e9 : i9 = (Ck.save (Dk.new 1000) (dJ l6)).2 := e9
 have z9 := (Ck.dR5 (Ck.dH7 1000) (Ck.cO9 1000) (dJ l6)).2 rfl (by
  have : tot (Dk.new 1000) = 0 := rfl
  rw [this]
  show ((0 : Nat) : Int) + _ ≤ 1000
  omega)
 obtain ⟨_, s2, _⟩ := (Ck.cO9 1000).save (dJ l6)
 have s2 := s2 z9
 have hl := Ck.dH4 (t := dJ l6) (bJ4 1000)
 rw [z9] at e9
 generalize (Ck.save (Dk.new 1000) (dJ l6)).1 = y at r8 s2 hl
 have my : Mid y := hl.mono (by omega) (by omega)
 refine ⟨fun h => absurd e9 h, fun _ v10 => ⟨⟨y, r8, my.small⟩, fun l11 hr => ?_⟩⟩
 have rr : bD l11 (Dk.restart y []) := hr y r8 my.small
 have m2 : Mid (Dk.restart y []) := (dH5 hl []).mono (by omega) (by omega)
 obtain ⟨p1, p2, L, hL, hM, p3⟩ := dI1 (n := n0) rr m2.small (s2.restart []) rfl fun o ho => dL6 gL ho
 refine ⟨⟨p1, fun b12 i13 h _ => absurd h (p2 b12 i13)⟩, p1, fun n12 v13 l14 b15 h _ => ?_⟩
 obtain ⟨q1, q2⟩ := p3 n12 v13 l14 b15 h
 have hT : dJ L = dJ l6 := Option.some.inj hM
 have hLe : l14 = l6.map pG := by
  have a := hL.parse
  rw [hT, gL.parse] at a
  rw [q1]
  exact (Prod.mk.inj a).2.symm
 refine ⟨fun _ => ⟨?_, fun i16 h16 _ => ?_⟩, fun hb => by rw [q2] at hb; cases hb⟩
 ·show l14.length ≤ 1000000
  rw [hLe, List.length_map]; omega
 ·have h16 : l7 = refs l14 → i16 = 0 := h16
  have e16 := h16 (by rw [hLe, gX, dP5])
  rw [e16]; rfl
end Go.Vc
namespace Go.Vc
open Dk (Ds)
namespace Ck
theorem dL5 {l : List (Tx × Nat)} (hs : Dk.Sorted l) (ha : ∀ p ∈ l, p.1 = old) (hne : l ≠ []) : l.length = 1 := by
 match l, hs, ha, hne with
 | [_], _, _, _ => rfl
 | a :: b :: r, hs, ha, _ =>
  exfalso
  have h1 := (List.pairwise_cons.1 hs).1 b (by simp)
  rw [ha a (by simp), ha b (by simp)] at h1
  exact Dk.lt_irrefl _ h1
theorem Safe.one {x : Ds} {t : Tx} (h : Safe x (fun o => o = some t)) (hn : ∀ i, (new, i) ∉ x.names) : x.names.length = 1 := by
 refine dL5 h.inv.sn (fun p hp => ?_) fun e => ?_
 ·rcases h.now.1 p hp with h1 | h1
  ·exact h1
  ·exact absurd (show (new, p.2) ∈ x.names from by rw [← h1]; exact hp) (hn p.2)
 ·have := h.now.2.2 fun i hi => by rw [e] at hi; simp at hi
  cases this
end Ck
end Go.Vc