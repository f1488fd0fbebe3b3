/-
 The store: whatever happens, one of the tables is there, whole.
 The store: what Save answers where nothing crashes.
 The store's laws: contracts.
 Printed by wip/vct.py: the conditions of functions, by their contracts.
 The store's laws: awake, CkptCrash.
 The store's laws: CkptFull.
-/
import Derived.Test.YtmgeaephkagdiaaGreatDoorCka
import Derived.Test.YtmgeaephkagdiaaGreatDoorDskf
import Derived.KernelRfl
import Derived.Test.YtmgeaephkagdiaaGreatDoorTabd
set_option linter.unusedVariables false
set_option linter.unusedSimpArgs false
namespace Go.Vc
open Dk (Ds Fi Cg fileAt)
namespace Ck
def state (x : Ds) (k : Nat) : List (Tx × Nat) := (x.pend.take k).foldl Dk.apply x.safe
def Fit (x : Ds) (N : List (Tx × Nat)) (M : Option Tx → Prop) : Prop :=
 (∀ p ∈ N, p.1 = old ∨ p.1 = new) ∧ (∀ i, (old, i) ∈ N → Whole x i ∧ M (some (fileAt x i).data) ∧ (new, i) ∉ N) ∧ ((∀ i, (old, i) ∉ N) → M none)
structure Safe (x : Ds) (M : Option Tx → Prop) : Prop where
 inv : Dk.Inv x
 fit : ∀ k, k ≤ x.pend.length → Fit x (state x k) M
 apart : ∀ k, k ≤ x.pend.length → ∀ i, (old, i) ∈ state x k → (new, i) ∉ x.names
theorem new_ne_old : new ≠ old := by decide
theorem new_ne : new ≠ [] := by decide
theorem old_ne : old ≠ [] := by decide
theorem whole_at {x y : Ds} {i : Nat} (h : fileAt y i = fileAt x i) (hw : Whole x i) : Whole y i := by
 unfold Whole at hw ⊢
 rw [h]; exact hw
theorem Fit.same {x y : Ds} {N : List (Tx × Nat)} {M : Option Tx → Prop} (h : Fit x N M) (hf : ∀ i, (old, i) ∈ N → fileAt y i = fileAt x i) : Fit y N M :=
 ⟨h.1, fun i hi => ⟨whole_at (hf i hi) (h.2.1 i hi).1, by rw [hf i hi]; exact (h.2.1 i hi).2.1, (h.2.1 i hi).2.2⟩, h.2.2⟩
theorem Fit.mono {x : Ds} {N : List (Tx × Nat)} {M M' : Option Tx → Prop} (h : Fit x N M) (hm : ∀ o, M o → M' o) : Fit x N M' :=
 ⟨h.1, fun i hi => ⟨(h.2.1 i hi).1, hm _ (h.2.1 i hi).2.1, (h.2.1 i hi).2.2⟩, fun hn => hm _ (h.2.2 hn)⟩
theorem Safe.mono {x : Ds} {M M' : Option Tx → Prop} (h : Safe x M) (hm : ∀ o, M o → M' o) : Safe x M' := ⟨h.inv, fun k hk => (h.fit k hk).mono hm, h.apart⟩
theorem state_now {x : Ds} (hi : Dk.Inv x) : state x x.pend.length = x.names := by unfold state; rw [List.take_length]; exact hi.names.symm
theorem Safe.now {x : Ds} {M : Option Tx → Prop} (h : Safe x M) : Fit x x.names M := by
 have := h.fit x.pend.length (Nat.le_refl _)
 rw [state_now h.inv] at this; exact this
theorem Safe.like {x y : Ds} {M : Option Tx → Prop} (h : Safe x M) (hi : Dk.Inv y) (hn : y.names = x.names) (hs : y.safe = x.safe) (hp : y.pend = x.pend) (hf : ∀ k, k ≤ x.pend.length → ∀ i, (old, i) ∈ state x k → fileAt y i = fileAt x i) : Safe y M := by
 have e : ∀ k, state y k = state x k := fun k => by unfold state; rw [hp, hs]
 refine ⟨hi, fun k hk => ?_, fun k hk i h1 => ?_⟩
 ·rw [hp] at hk
  rw [e]
  exact (h.fit k hk).same (hf k hk)
 ·rw [hp] at hk
  rw [e] at h1
  rw [hn]; exact h.apart k hk i h1
theorem Safe.core {x y : Ds} {M : Option Tx → Prop} (h : Safe x M) (c : Core x y) (hi : Dk.Inv y) : Safe y M := h.like hi c.names c.safe c.pend fun _ _ i _ => c.at i
theorem state_lt {x : Ds} (hi : Dk.Inv x) (k : Nat) {p : Tx × Nat} (hp : p ∈ state x k) : p.2 < x.files.length :=
 Dk.foldl_apply (P := fun p => p.2 < x.files.length) hi.ins (fun c hc => hi.inp c (List.mem_of_mem_take hc)) p hp
theorem Safe.turn {x z : Ds} {cg : Cg} {M : Option Tx → Prop} (h : Safe x M) (hi : Dk.Inv z) (hp : z.pend = x.pend ++ [cg]) (hs : z.safe = x.safe) (hn : z.names = Dk.apply x.names cg) (hf : ∀ i, i < x.files.length → fileAt z i = fileAt x i)
  (hfit : Fit z (Dk.apply x.names cg) M) (hap : ∀ k, k ≤ x.pend.length → ∀ i, (old, i) ∈ state x k → (new, i) ∉ Dk.apply x.names cg) : Safe z M := by
 have e1 : ∀ k, k ≤ x.pend.length → state z k = state x k := fun k hk => by unfold state; rw [hp, hs, List.take_append_of_le_length hk]
 have e2 : ∀ k, x.pend.length < k → state z k = Dk.apply x.names cg := fun k hk => by
  unfold state
  rw [hp, hs, List.take_of_length_le (by rw [List.length_append]; simp; omega), List.foldl_append, ← h.inv.names, List.foldl_cons, List.foldl_nil]
 refine ⟨hi, fun k _ => ?_, fun k _ i h1 => ?_⟩
 ·by_cases hk : k ≤ x.pend.length
  ·rw [e1 k hk]
   exact (h.fit k hk).same fun i h1 => hf i (state_lt h.inv k h1)
  ·rw [e2 k (by omega)]; exact hfit
 ·rw [hn]
  by_cases hk : k ≤ x.pend.length
  ·rw [e1 k hk] at h1; exact hap k hk i h1
  ·rw [e2 k (by omega)] at h1; exact (hfit.2.1 i h1).2.2
theorem Safe.remove {x : Ds} {M : Option Tx → Prop} (h : Safe x M) : Safe (Dk.remove x new).1 M ∧ ((Dk.remove x new).2 = 0 → ∀ i, (new, i) ∉ (Dk.remove x new).1.names) := by
 have hi := Dk.inv_remove h.inv new
 have hnew : ∀ i, (new, i) ∉ Dk.apply x.names ⟨new, [], 0⟩ := by
  intro i hm
  rcases Dk.mem_apply.1 hm with ⟨h1, _⟩ | ⟨_, h1, _⟩
  ·exact h1 rfl
  ·exact h1 rfl
 have hold : ∀ i, (old, i) ∈ Dk.apply x.names ⟨new, [], 0⟩ ↔ (old, i) ∈ x.names := by
  intro i
  rw [Dk.mem_apply]
  constructor
  ·rintro (⟨h1, _⟩ | ⟨h1, _⟩)
   ·exact absurd rfl h1
   ·exact h1
  ·exact fun h1 => .inr ⟨h1, new_ne_old.symm, old_ne⟩
 have key : ∀ y, Core x y → Dk.Inv (Dk.turn y ⟨new, [], 0⟩) → Safe (Dk.turn y ⟨new, [], 0⟩) M := by
  intro y c hi2
  refine h.turn hi2 (by show y.pend ++ _ = _; rw [c.pend]) c.safe (by show Dk.apply y.names ⟨new, [], 0⟩ = _; rw [c.names]) (fun i _ => c.at i) ⟨fun p hp => ?_, fun i h1 => ?_, fun h1 => ?_⟩ fun k _ i _ => hnew i
  ·rcases Dk.mem_apply.1 hp with ⟨h1, _⟩ | ⟨h1, _⟩
   ·exact absurd rfl h1
   ·exact h.now.1 p h1
  ·obtain ⟨a, b, _⟩ := h.now.2.1 i ((hold i).1 h1)
   have e : fileAt (Dk.turn y ⟨new, [], 0⟩) i = fileAt x i := c.at i
   exact ⟨whole_at e a, by rw [e]; exact b, hnew i⟩
  ·exact h.now.2.2 fun i h2 => h1 i ((hold i).2 h2)
 refine ⟨?_, fun h0 i => ?_⟩
 ·rcases remove_sh x new with c | ⟨y, _, c, _, e⟩
  ·exact h.core c hi
  ·rw [e] at hi ⊢; exact key y c hi
 ·obtain ⟨y, c, e⟩ := removeDone h0
  rw [e]
  show (new, i) ∉ Dk.apply y.names ⟨new, [], 0⟩
  rw [c.names]; exact hnew i
theorem Safe.clean {x : Ds} {M : Option Tx → Prop} (h : Safe x M) : Safe (clean x).1 M ∧ ((clean x).2 = 0 → ∀ i, (new, i) ∉ (clean x).1.names) := by
 unfold Ck.clean
 split
 ·exact ⟨h, fun h0 => absurd (show (9 : Int) = 0 from h0) (by decide)⟩
 ·split
  ·exact h.remove
  ·rename_i hn
   refine ⟨h, fun _ i hm => hn ?_⟩
   exact List.any_eq_true.2 ⟨_, hm, by simp⟩
theorem Safe.create {x : Ds} {M : Option Tx → Prop} (h : Safe x M) : Safe (Dk.create x new).1 M ∧ ((Dk.create x new).2 = 0 → ∃ j, (new, j) ∈ (Dk.create x new).1.names ∧ fileAt (Dk.create x new).1 j = ⟨[], 0⟩) := by
 have hi := Dk.inv_create h.inv new
 have hlt : ∀ i, (old, i) ∈ x.names → i < x.files.length := fun i hm => h.inv.inn (old, i) hm
 have hnew : ∀ i, (new, i) ∈ Dk.apply x.names ⟨[], new, x.files.length⟩ → i = x.files.length := by
  intro i hm
  rcases Dk.mem_apply.1 hm with ⟨_, h1⟩ | ⟨_, _, h1⟩
  ·exact (Prod.mk.inj h1).2
  ·exact absurd rfl h1
 have hold : ∀ i, (old, i) ∈ Dk.apply x.names ⟨[], new, x.files.length⟩ ↔ (old, i) ∈ x.names := by
  intro i
  rw [Dk.mem_apply]
  constructor
  ·rintro (⟨_, h1⟩ | ⟨h1, _⟩)
   ·exact absurd (Prod.mk.inj h1).1 new_ne_old.symm
   ·exact h1
  ·exact fun h1 => .inr ⟨h1, old_ne, new_ne_old.symm⟩
 have key : ∀ y, Core x y → (∀ i, i < x.files.length → fileAt (Dk.turn { y with files := y.files ++ [⟨[], 0⟩] } ⟨[], new, x.files.length⟩) i = fileAt x i) ∧ fileAt (Dk.turn { y with files := y.files ++ [⟨[], 0⟩] } ⟨[], new, x.files.length⟩) x.files.length = ⟨[], 0⟩ ∧
   (Dk.Inv (Dk.turn { y with files := y.files ++ [⟨[], 0⟩] } ⟨[], new, x.files.length⟩) → Safe (Dk.turn { y with files := y.files ++ [⟨[], 0⟩] } ⟨[], new, x.files.length⟩) M) := by
  intro y c
  have hsame : ∀ i, i < x.files.length → fileAt (Dk.turn { y with files := y.files ++ [⟨[], 0⟩] } ⟨[], new, x.files.length⟩) i = fileAt x i := by
   intro i hi
   rw [← c.at]
   show (y.files ++ ([⟨[], 0⟩] : List Fi)).getD i ⟨[], 0⟩ = y.files.getD i ⟨[], 0⟩
   rw [List.getD, List.getD, List.getElem?_append_left (by rw [c.files]; exact hi)]
  refine ⟨hsame, ?_, fun hi2 => ?_⟩
  ·show (y.files ++ ([⟨[], 0⟩] : List Fi)).getD x.files.length ⟨[], 0⟩ = _
   rw [c.files, List.getD, List.getElem?_append_right (Nat.le_refl _), Nat.sub_self]; rfl
  ·refine h.turn hi2 (by show y.pend ++ _ = _; rw [c.pend]) c.safe (by show Dk.apply y.names ⟨[], new, x.files.length⟩ = _; rw [c.names]) hsame ⟨fun p hp => ?_, fun i h1 => ?_, fun h1 => ?_⟩ fun k _ i h1 h2 => ?_
   ·rcases Dk.mem_apply.1 hp with ⟨_, h1⟩ | ⟨h1, _⟩
    ·rw [h1]; exact .inr rfl
    ·exact h.now.1 p h1
   ·have h2 := (hold i).1 h1
    obtain ⟨a, b, _⟩ := h.now.2.1 i h2
    have e := hsame i (hlt i h2)
    refine ⟨whole_at e a, by rw [e]; exact b, fun h3 => ?_⟩
    have := hnew i h3
    have := hlt i h2
    omega
   ·exact h.now.2.2 fun i h2 => h1 i ((hold i).2 h2)
   ·have h3 := hnew i h2
    have h4 : i < x.files.length := state_lt h.inv k h1
    omega
 refine ⟨?_, fun h0 => ?_⟩
 ·rcases create_sh x new with c | ⟨y, c, _, _, e⟩
  ·exact h.core c hi
  ·rw [e] at hi ⊢; exact (key y c).2.2 hi
 ·obtain ⟨y, c, _, _, e⟩ := createDone h0
  rw [e]
  refine ⟨x.files.length, ?_, (key y c).2.1⟩
  show (new, x.files.length) ∈ Dk.apply y.names ⟨[], new, x.files.length⟩
  exact Dk.mem_apply.2 (.inl ⟨new_ne, rfl⟩)
theorem Safe.set {x y : Ds} {M : Option Tx → Prop} (h : Safe x M) (c : Core x y) {j : Nat} {f : Fi} (hj : (new, j) ∈ x.names) (hi : Dk.Inv (Dk.set y j f)) : Safe (Dk.set y j f) M := by
 refine h.like hi c.names c.safe c.pend fun k hk i h1 => ?_
 rw [fileSet']
 split
 ·rename_i h2
  have := h.apart k hk i h1
  rw [h2.1] at this
  exact absurd hj this
 ·exact c.at i
theorem find_new {x : Ds} {j : Nat} (h : Dk.find x.names new = some j) : (new, j) ∈ x.names := Dk.find_mem h
theorem Safe.append {x : Ds} {M : Option Tx → Prop} (h : Safe x M) (t : Tx) : Safe (Dk.append x new t).1 M ∧ ((Dk.append x new t).2 = 0 → (Dk.append x new t).1.names = x.names ∧ ∀ j, (new, j) ∈ x.names → fileAt (Dk.append x new t).1 j = ⟨(fileAt x j).data ++ t, (fileAt x j).safe⟩) := by
 have hi := Dk.inv_append h.inv new t
 refine ⟨?_, fun h0 => ?_⟩
 ·rcases append_sh x new t with c | ⟨y, j, c, hf, e⟩
  ·exact h.core c hi
  ·rw [e] at hi ⊢; exact h.set c (find_new hf) hi
 ·obtain ⟨y, j, c, hf, e⟩ := appendDone h0
  rw [e]
  refine ⟨c.names, fun j' hj' => ?_⟩
  have : j' = j := by
   have h1 := find_sorted h.inv.sn hj'
   rw [hf] at h1
   exact (Option.some.inj h1).symm
  subst this
  have hlt : j' < y.files.length := by rw [c.files]; exact h.inv.inn (new, j') hj'
  rw [fileSet hlt, if_pos rfl]
theorem Safe.sync {x : Ds} {M : Option Tx → Prop} (h : Safe x M) : Safe (Dk.sync x new).1 M ∧ ((Dk.sync x new).2 = 0 → (Dk.sync x new).1.names = x.names ∧ ∀ j, (new, j) ∈ x.names → fileAt (Dk.sync x new).1 j = ⟨(fileAt x j).data, (fileAt x j).data.length⟩) := by
 have hi := Dk.inv_sync h.inv new
 refine ⟨?_, fun h0 => ?_⟩
 ·rcases sync_sh x new with c | ⟨y, j, c, hf, e⟩
  ·exact h.core c hi
  ·rw [e] at hi ⊢; exact h.set c (find_new hf) hi
 ·obtain ⟨y, j, c, hf, e⟩ := syncDone h0
  rw [e]
  refine ⟨c.names, fun j' hj' => ?_⟩
  have : j' = j := by
   have h1 := find_sorted h.inv.sn hj'
   rw [hf] at h1
   exact (Option.some.inj h1).symm
  subst this
  have hlt : j' < y.files.length := by rw [c.files]; exact h.inv.inn (new, j') hj'
  rw [fileSet hlt, if_pos rfl]
theorem rename_ok {x : Ds} {fr to : Tx} (h : (Dk.rename x fr to).2 = 0) : ∃ y i, Core x y ∧ Dk.find x.names fr = some i ∧ (Dk.rename x fr to).1 = Dk.turn y ⟨fr, to, i⟩ := by
 unfold Dk.rename at h ⊢
 by_cases hd : x.dead = true
 ·rw [if_pos hd] at h; exact absurd (show (9 : Int) = 0 from h) (by decide)
 rw [if_neg hd] at h ⊢
 cases hf : Dk.find x.names fr with
 | none => rw [hf] at h; exact absurd (show (5 : Int) = 0 from h) (by decide)
 | some i =>
  rw [hf] at h
  dsimp only at h ⊢
  by_cases h1 : to = [] ∨ to = fr
  ·rw [if_pos h1] at h; exact absurd (show (1 : Int) = 0 from h) (by decide)
  rw [if_neg h1] at h ⊢
  have hc := core_begin x
  generalize Dk.begin x = z at hc h ⊢
  obtain ⟨y, st, e⟩ := z
  dsimp only at hc h ⊢
  by_cases he : e ≠ 0 ∧ st = false
  ·rw [if_pos he] at h; exact absurd h he.1
  ·rw [if_neg he]; exact ⟨y, i, hc, rfl, rfl⟩
theorem Safe.rename {x : Ds} {M : Option Tx → Prop} (h : Safe x M) (hw : ∀ j, (new, j) ∈ x.names → Whole x j ∧ M (some (fileAt x j).data)) :
  Safe (Dk.rename x new old).1 M ∧ ((Dk.rename x new old).2 = 0 → ∀ p ∈ (Dk.rename x new old).1.names, ∃ j, p = (old, j) ∧ (new, j) ∈ x.names ∧ fileAt (Dk.rename x new old).1 j = fileAt x j) := by
 have hi := Dk.inv_rename h.inv new old
 have key : ∀ y j, Core x y → (new, j) ∈ x.names → Dk.Inv (Dk.turn y ⟨new, old, j⟩) → Safe (Dk.turn y ⟨new, old, j⟩) M := by
  intro y j c hj hi2
  have hnew : ∀ i, (new, i) ∉ Dk.apply x.names ⟨new, old, j⟩ := by
   intro i hm
   rcases Dk.mem_apply.1 hm with ⟨_, h1⟩ | ⟨_, h1, _⟩
   ·exact absurd (Prod.mk.inj h1).1 new_ne_old
   ·exact h1 rfl
  refine h.turn hi2 (by show y.pend ++ _ = _; rw [c.pend]) c.safe (by show Dk.apply y.names ⟨new, old, j⟩ = _; rw [c.names]) (fun i _ => c.at i) ⟨fun p hp => ?_, fun i h1 => ?_, fun h1 => ?_⟩ fun k _ i _ => hnew i
  ·rcases Dk.mem_apply.1 hp with ⟨_, h1⟩ | ⟨h1, _⟩
   ·rw [h1]; exact .inl rfl
   ·exact h.now.1 p h1
  ·have e : fileAt (Dk.turn y ⟨new, old, j⟩) i = fileAt x i := c.at i
   rcases Dk.mem_apply.1 h1 with ⟨_, h2⟩ | ⟨_, _, h2⟩
   ·have h2 : i = j := (Prod.mk.inj h2).2
    subst h2
    obtain ⟨a, b⟩ := hw i hj
    exact ⟨whole_at e a, by rw [e]; exact b, hnew i⟩
   ·exact absurd rfl h2
  ·exact absurd (Dk.mem_apply.2 (.inl ⟨old_ne, rfl⟩)) (h1 j)
 refine ⟨?_, fun h0 p hp => ?_⟩
 ·rcases rename_sh x new old with c | ⟨y, j, c, hf, _, _, e⟩
  ·exact h.core c hi
  ·rw [e] at hi ⊢; exact key y j c (find_new hf) hi
 ·obtain ⟨y, j, c, hf, e⟩ := rename_ok h0
  rw [e] at hp ⊢
  have hp : p ∈ Dk.apply y.names ⟨new, old, j⟩ := hp
  rw [c.names] at hp
  rcases Dk.mem_apply.1 hp with ⟨_, h1⟩ | ⟨h1, h2, h3⟩
  ·exact ⟨j, h1, find_new hf, c.at j⟩
  ·rcases h.now.1 p h1 with h4 | h4
   ·exact absurd h4 h3
   ·exact absurd h4 h2
theorem Safe.syncNames {x : Ds} {M : Option Tx → Prop} (h : Safe x M) : Safe (Dk.syncNames x).1 M ∧ ((Dk.syncNames x).2 = 0 → ∀ M', Fit x x.names M' → Safe (Dk.syncNames x).1 M') := by
 have hi := Dk.inv_syncNames h.inv
 have key : ∀ y M', Core x y → Fit x x.names M' → Dk.Inv { y with safe := x.names, pend := [] } → Safe { y with safe := x.names, pend := [] } M' := by
  intro y M' c hf hi2
  have e : ∀ k, state { y with safe := x.names, pend := [] } k = x.names := fun k => by
   show (([] : List Cg).take k).foldl Dk.apply x.names = x.names
   rw [List.take_nil]; rfl
  refine ⟨hi2, fun k _ => ?_, fun k _ i h1 => ?_⟩
  ·rw [e]
   exact hf.same fun i _ => c.at i
  ·rw [e] at h1
   show (new, i) ∉ y.names
   rw [c.names]
   exact (hf.2.1 i h1).2.2
 refine ⟨?_, fun h0 M' hf => ?_⟩
 ·rcases syncNames_sh x with c | ⟨y, c, e⟩
  ·exact h.core c hi
  ·rw [e] at hi ⊢; exact key y M c h.now hi
 ·obtain ⟨y, c, e⟩ := namesDone h0
  rw [e] at hi ⊢; exact key y M' c hf hi
theorem Safe.save {x : Ds} {M : Option Tx → Prop} (h : Safe x M) (t : Tx) : Safe (Ck.save x t).1 (fun o => M o ∨ o = some t) ∧ ((Ck.save x t).2 = 0 → Safe (Ck.save x t).1 (fun o => o = some t)) ∧ (x.dead = true → Ck.save x t = (x, 9)) := by
 have up : ∀ {y}, Safe y M → Safe y (fun o => M o ∨ o = some t) := fun h => h.mono fun _ h => .inl h
 have hdead : x.dead = true → Ck.save x t = (x, 9) := by
  intro hd
  have e : Ck.clean x = (x, 9) := by unfold Ck.clean; rw [if_pos hd]
  unfold Ck.save ops go
  rw [e, if_pos (by show (9 : Int) ≠ 0; decide)]
 suffices hh : Safe (Ck.save x t).1 (fun o => M o ∨ o = some t) ∧ ((Ck.save x t).2 = 0 → Safe (Ck.save x t).1 (fun o => o = some t)) from ⟨hh.1, hh.2, hdead⟩
 unfold Ck.save ops go
 obtain ⟨a1, a2⟩ := h.clean
 by_cases c1 : (Ck.clean x).2 ≠ 0
 ·rw [if_pos c1]; exact ⟨up a1, fun h0 => absurd h0 c1⟩
 rw [if_neg c1]
 have a2 := a2 (Classical.byContradiction c1)
 generalize (Ck.clean x).1 = x1 at a1 a2 ⊢
 unfold go
 dsimp only
 obtain ⟨b1, b2⟩ := a1.create
 by_cases c2 : (Dk.create x1 new).2 ≠ 0
 ·rw [if_pos c2]; exact ⟨up b1, fun h0 => absurd h0 c2⟩
 rw [if_neg c2]
 obtain ⟨j, j1, j2⟩ := b2 (Classical.byContradiction c2)
 generalize (Dk.create x1 new).1 = x2 at b1 j1 j2 ⊢
 unfold go
 dsimp only
 obtain ⟨d1, d2⟩ := b1.append t
 by_cases c3 : (Dk.append x2 new t).2 ≠ 0
 ·rw [if_pos c3]; exact ⟨up d1, fun h0 => absurd h0 c3⟩
 rw [if_neg c3]
 obtain ⟨k1, k2⟩ := d2 (Classical.byContradiction c3)
 have k2 := k2 j j1
 rw [j2] at k2
 generalize (Dk.append x2 new t).1 = x3 at d1 k1 k2 ⊢
 rw [← k1] at j1
 unfold go
 dsimp only
 obtain ⟨e1, e2⟩ := d1.sync
 by_cases c4 : (Dk.sync x3 new).2 ≠ 0
 ·rw [if_pos c4]; exact ⟨up e1, fun h0 => absurd h0 c4⟩
 rw [if_neg c4]
 obtain ⟨m1, m2⟩ := e2 (Classical.byContradiction c4)
 have m2 := m2 j j1
 rw [k2] at m2
 generalize (Dk.sync x3 new).1 = x4 at e1 m1 m2 ⊢
 rw [← m1] at j1
 unfold go
 dsimp only
 have hone : ∀ j', (new, j') ∈ x4.names → j' = j := by
  intro j' hj'
  have h1 := find_sorted e1.inv.sn hj'
  rw [find_sorted e1.inv.sn j1] at h1
  exact (Option.some.inj h1).symm
 obtain ⟨f1, f2⟩ := (up e1).rename (fun j' hj' => by
  rw [hone j' hj']
  unfold Whole
  rw [m2]
  exact ⟨by simp, .inr (by simp)⟩)
 by_cases c5 : (Dk.rename x4 new old).2 ≠ 0
 ·rw [if_pos c5]; exact ⟨f1, fun h0 => absurd h0 c5⟩
 rw [if_neg c5]
 have f2 := f2 (Classical.byContradiction c5)
 have hne : ∃ i, (old, i) ∈ (Dk.rename x4 new old).1.names := by
  obtain ⟨y, i, c, _, e⟩ := rename_ok (Classical.byContradiction c5)
  rw [e]
  refine ⟨i, ?_⟩
  show (old, i) ∈ Dk.apply y.names ⟨new, old, i⟩
  exact Dk.mem_apply.2 (.inl ⟨old_ne, rfl⟩)
 generalize (Dk.rename x4 new old).1 = x5 at f1 f2 hne ⊢
 unfold go
 obtain ⟨g1, g2⟩ := f1.syncNames
 have fin : Fit x5 x5.names (fun o => o = some t) := by
  refine ⟨f1.now.1, fun i hi => ?_, fun hn => ?_⟩
  ·obtain ⟨j', p1, p2, p3⟩ := f2 _ hi
   have p1 : i = j' := (Prod.mk.inj p1).2
   subst p1
   obtain ⟨q1, _, q3⟩ := f1.now.2.1 i hi
   rw [hone i p2, m2] at p3
   rw [hone i p2] at q1 q3 ⊢
   exact ⟨q1, by rw [p3]; simp, q3⟩
  ·obtain ⟨i, hi⟩ := hne
   exact absurd hi (hn i)
 by_cases c6 : (Dk.syncNames x5).2 ≠ 0
 ·rw [if_pos c6]; exact ⟨g1, fun h0 => absurd h0 c6⟩
 ·rw [if_neg c6]
  unfold go
  exact ⟨g1, fun _ => g2 (Classical.byContradiction c6) _ fin⟩
theorem Safe.restart {x : Ds} {M : Option Tx → Prop} (h : Safe x M) (ch : List Int) : Safe (Dk.restart x ch) M := by
 have hk : Dk.pick ch 0 (x.pend.length + 1) ≤ x.pend.length := by have := Dk.pick_lt ch 0 (x.pend.length + 1) (by omega); omega
 have hf := h.fit _ hk
 have en : (Dk.restart x ch).names = state x (Dk.pick ch 0 (x.pend.length + 1)) := rfl
 have hs : ∀ i, (old, i) ∈ state x (Dk.pick ch 0 (x.pend.length + 1)) → (fileAt (Dk.restart x ch) i).data = (fileAt x i).data ∧ Whole (Dk.restart x ch) i := by
  intro i hi
  obtain ⟨n, n1, n2, n3⟩ := fileBack h.inv ch (p := (old, i)) (by rw [en]; exact hi)
  have n1 : (fileAt x i).safe ≤ n := n1
  have n2 : n ≤ (fileAt x i).data.length := n2
  have n3 : fileAt (Dk.restart x ch) i = ⟨(fileAt x i).data.take n, n⟩ := n3
  have hw : (fileAt x i).safe = (fileAt x i).data.length := (hf.2.1 i hi).1
  unfold Whole
  rw [n3]
  refine ⟨List.take_of_length_le (by omega), ?_⟩
  show n = ((fileAt x i).data.take n).length
  rw [List.length_take]; omega
 have fin : Fit (Dk.restart x ch) (state x (Dk.pick ch 0 (x.pend.length + 1))) M :=
  ⟨hf.1, fun i hi => ⟨(hs i hi).2, by rw [(hs i hi).1]; exact (hf.2.1 i hi).2.1, (hf.2.1 i hi).2.2⟩, hf.2.2⟩
 have e : ∀ k, state (Dk.restart x ch) k = state x (Dk.pick ch 0 (x.pend.length + 1)) := fun k => by
  show (([] : List Cg).take k).foldl Dk.apply (state x (Dk.pick ch 0 (x.pend.length + 1))) = _
  rw [List.take_nil]; rfl
 refine ⟨Dk.inv_restart h.inv ch, fun k _ => by rw [e]; exact fin, fun k _ i h1 => ?_⟩
 rw [e] at h1
 rw [en]
 exact (fin.2.1 i h1).2.2
theorem Safe.read {x : Ds} {M : Option Tx → Prop} (h : Safe x M) (hd : x.dead = false) : (∃ t, M (some t) ∧ Dk.read x old = (t, 0)) ∨ (M none ∧ Dk.read x old = ([], 5)) := by
 unfold Dk.read
 rw [if_neg (by rw [hd]; simp)]
 cases hf : Dk.find x.names old with
 | none => exact .inr ⟨h.now.2.2 fun i hi => Dk.find_none.1 hf _ hi rfl, rfl⟩
 | some i => exact .inl ⟨_, (h.now.2.1 i (Dk.find_mem hf)).2.1, rfl⟩
theorem safe_new (r : Int) : Safe (Dk.new r) (fun o => o = none) := by
 have e : ∀ k, state (Dk.new r) k = [] := fun k => by
  show (([] : List Cg).take k).foldl Dk.apply [] = []
  rw [List.take_nil]; rfl
 exact ⟨Dk.inv_new r, fun k _ => by rw [e]; exact ⟨by simp, by simp, fun _ => rfl⟩, fun k _ i h => by rw [e] at h; simp at h⟩
end Ck
end Go.Vc
namespace Go.Vc
open Dk (Ds Fi Cg fileAt)
namespace Ck
structure Live (x : Ds) : Prop where
 dead : x.dead = false
 crash : x.crash = -1
structure After (x : Ds) (r : Ds × Int) : Prop where
 live : Live r.1
 room : r.1.room = x.room
 code : r.2 = 0 ∨ r.2 = 7 ∨ r.2 = 8
 calm : x.fail = -1 → r.1.fail = -1
def Zero (x : Ds) (r : Ds × Int) : Prop := After x r ∧ (x.fail = -1 → r.2 = 0)
theorem begin_after {x : Ds} (h : Live x) : ∃ y e, Dk.begin x = (y, false, e) ∧ Live y ∧ Core x y ∧ (e = 0 ∨ e = 8) ∧ (x.fail = -1 → y.fail = -1 ∧ e = 0) := by
 obtain ⟨a1, a2, a3, a4, a5, a6, a7, a8, a9⟩ := x
 obtain ⟨h1, h2⟩ := h
 have h1 : a8 = false := h1
 have h2 : a6 = -1 := h2
 subst h1 h2
 unfold Dk.begin
 dsimp only
 by_cases h0 : a7 = 0
 ·subst h0
  exact ⟨_, 8, rfl, ⟨rfl, rfl⟩, ⟨rfl, rfl, rfl, rfl, rfl⟩, .inr rfl, fun h => absurd h (by decide)⟩
 ·by_cases h3 : a7 > 0
  ·simp only [h0, h3, if_true, if_false]
   exact ⟨_, 0, rfl, ⟨rfl, rfl⟩, ⟨rfl, rfl, rfl, rfl, rfl⟩, .inl rfl, fun h => by omega⟩
  ·simp only [h0, h3, if_false]
   exact ⟨_, 0, rfl, ⟨rfl, rfl⟩, ⟨rfl, rfl, rfl, rfl, rfl⟩, .inl rfl, fun h => ⟨h, rfl⟩⟩
theorem Zero.of {x y z : Ds} {e : Int} (h : Live y) (hr : z.room = x.room) (hl : z.dead = y.dead ∧ z.crash = y.crash ∧ z.fail = y.fail) (he : e = 0 ∨ e = 8) (hf : x.fail = -1 → y.fail = -1 ∧ e = 0) : Zero x (z, e) :=
 ⟨⟨⟨hl.1.trans h.dead, hl.2.1.trans h.crash⟩, hr, by show e = 0 ∨ e = 7 ∨ e = 8; omega, fun hm => hl.2.2.trans (hf hm).1⟩, fun hm => (hf hm).2⟩
theorem create_after {x : Ds} (h : Live x) (hn : ∀ i, (new, i) ∉ x.names) : Zero x (Dk.create x new) := by
 have hfd : Dk.find x.names new = none := Dk.find_none.2 fun p hp e => hn p.2 (by rw [← e]; exact hp)
 obtain ⟨y, e, hb, l, c, he, f⟩ := begin_after h
 unfold Dk.create
 rw [if_neg (by rw [h.dead]; simp), if_neg new_ne, if_neg (by rw [hfd]; simp), hb]
 dsimp only
 split
 ·exact Zero.of l c.room ⟨rfl, rfl, rfl⟩ he f
 ·exact Zero.of l c.room ⟨rfl, rfl, rfl⟩ he f
theorem find_of {x : Ds} (hi : Dk.Inv x) {n : Tx} {j : Nat} (h : (n, j) ∈ x.names) : Dk.find x.names n = some j := find_sorted hi.sn h
theorem append_after {x : Ds} (h : Live x) (hi : Dk.Inv x) {j : Nat} (hj : (new, j) ∈ x.names) (t : Tx) : After x (Dk.append x new t) ∧ (x.fail = -1 → (t.length : Int) ≤ Dk.free x → (Dk.append x new t).2 = 0) := by
 obtain ⟨y, e, hb, l, c, he, f⟩ := begin_after h
 unfold Dk.append
 rw [if_neg (by rw [h.dead]; simp), find_of hi hj]
 dsimp only
 by_cases hbig : (t.length : Int) > Dk.free x
 ·rw [if_pos hbig]
  exact ⟨⟨h, rfl, .inr (.inl rfl), fun hm => hm⟩, fun _ hk => absurd hk (by omega)⟩
 ·rw [if_neg hbig, hb]
  dsimp only
  have z : ∀ w : Ds, w.room = x.room → (w.dead = y.dead ∧ w.crash = y.crash ∧ w.fail = y.fail) → Zero x (w, e) := fun w a b => Zero.of l a b he f
  split
  ·exact ⟨(z y c.room ⟨rfl, rfl, rfl⟩).1, fun hm _ => (f hm).2⟩
  ·exact ⟨(z (Dk.set y j ⟨(fileAt y j).data ++ t, (fileAt y j).safe⟩) c.room ⟨rfl, rfl, rfl⟩).1, fun hm _ => (f hm).2⟩
theorem sync_after {x : Ds} (h : Live x) (hi : Dk.Inv x) {j : Nat} (hj : (new, j) ∈ x.names) : Zero x (Dk.sync x new) := by
 obtain ⟨y, e, hb, l, c, he, f⟩ := begin_after h
 unfold Dk.sync
 rw [if_neg (by rw [h.dead]; simp), find_of hi hj]
 dsimp only
 rw [hb]
 dsimp only
 split
 ·exact Zero.of l c.room ⟨rfl, rfl, rfl⟩ he f
 ·exact Zero.of l c.room ⟨rfl, rfl, rfl⟩ (.inl rfl) fun hm => ⟨(f hm).1, rfl⟩
theorem rename_after {x : Ds} (h : Live x) (hi : Dk.Inv x) {j : Nat} (hj : (new, j) ∈ x.names) : Zero x (Dk.rename x new old) := by
 obtain ⟨y, e, hb, l, c, he, f⟩ := begin_after h
 unfold Dk.rename
 rw [if_neg (by rw [h.dead]; simp), find_of hi hj]
 dsimp only
 rw [if_neg (by intro hh; rcases hh with hh | hh; exact old_ne hh; exact new_ne_old hh.symm), hb]
 dsimp only
 split
 ·exact Zero.of l c.room ⟨rfl, rfl, rfl⟩ he f
 ·exact Zero.of l c.room ⟨rfl, rfl, rfl⟩ he f
theorem syncNames_after {x : Ds} (h : Live x) : Zero x (Dk.syncNames x) := by
 obtain ⟨y, e, hb, l, c, he, f⟩ := begin_after h
 unfold Dk.syncNames
 rw [hb]
 dsimp only
 split
 ·exact Zero.of l c.room ⟨rfl, rfl, rfl⟩ he f
 ·exact Zero.of l c.room ⟨rfl, rfl, rfl⟩ (.inl rfl) fun hm => ⟨(f hm).1, rfl⟩
theorem clean_after {x : Ds} (h : Live x) (hi : Dk.Inv x) : Zero x (clean x) := by
 unfold Ck.clean
 rw [if_neg (by rw [h.dead]; simp)]
 split
 ·rename_i ha
  obtain ⟨p, hp, hpe⟩ := List.any_eq_true.1 ha
  have hpe : p.1 = new := by simpa using hpe
  obtain ⟨y, e, hb, l, c, he, f⟩ := begin_after h
  unfold Dk.remove
  rw [if_neg (by rw [h.dead]; simp), find_of (j := p.2) hi (by rw [← hpe]; exact hp)]
  dsimp only
  rw [hb]
  dsimp only
  split
  ·exact Zero.of l c.room ⟨rfl, rfl, rfl⟩ he f
  ·exact Zero.of l c.room ⟨rfl, rfl, rfl⟩ he f
 ·exact ⟨⟨h, rfl, .inl rfl, fun hm => hm⟩, fun _ => rfl⟩
theorem After.trans {x y : Ds} {r q : Ds × Int} (a : After x q) (e : q.1 = y) (b : After y r) : After x r := by
 subst e
 exact ⟨b.live, b.room.trans a.room, b.code, fun hm => b.calm (a.calm hm)⟩
theorem tot_core {x y : Ds} (c : Core x y) : tot y = tot x := tot_files c.files
theorem tot_clean (x : Ds) : tot (clean x).1 = tot x := by
 unfold Ck.clean
 split
 ·rfl
 ·split
  ·rcases remove_sh x new with c | ⟨y, i, c, _, e⟩
   ·exact tot_core c
   ·rw [e]; exact tot_files c.files
  ·rfl
theorem tot_create (x : Ds) (n : Tx) : tot (Dk.create x n).1 = tot x := by
 rcases create_sh x n with c | ⟨y, c, _, _, e⟩
 ·exact tot_core c
 ·rw [e]
  show ((y.files ++ [(⟨[], 0⟩ : Fi)]).map fun f => f.data.length).sum = _
  rw [c.files, List.map_append, List.sum_append]
  show tot x + 0 = tot x
  omega
theorem save_after {x : Ds} {M : Option Tx → Prop} (h : Live x) (hs : Safe x M) (t : Tx) : After x (save x t) ∧ (x.fail = -1 → ((tot x : Int) + t.length ≤ x.room) → (save x t).2 = 0) := by
 unfold Ck.save ops go
 have A1 := clean_after h hs.inv
 have T1 := tot_clean x
 obtain ⟨a1, a2⟩ := hs.clean
 by_cases c1 : (Ck.clean x).2 ≠ 0
 ·rw [if_pos c1]; exact ⟨A1.1, fun hm _ => A1.2 hm⟩
 rw [if_neg c1]
 have a2 := a2 (Classical.byContradiction c1)
 have B1 := A1.1
 generalize Ck.clean x = r1 at a1 a2 T1 A1 B1 ⊢
 obtain ⟨x1, e1⟩ := r1
 dsimp only at a1 a2 T1 ⊢
 unfold go
 dsimp only
 have A2 := create_after B1.live a2
 have B2 := B1.trans rfl A2.1
 have T2 := tot_create x1 new
 obtain ⟨b1, b2⟩ := a1.create
 by_cases c2 : (Dk.create x1 new).2 ≠ 0
 ·rw [if_pos c2]; exact ⟨B2, fun hm _ => A2.2 (B1.calm hm)⟩
 rw [if_neg c2]
 obtain ⟨j, j1, _⟩ := b2 (Classical.byContradiction c2)
 generalize Dk.create x1 new = r2 at b1 j1 T2 B2 ⊢
 obtain ⟨x2, e2⟩ := r2
 dsimp only at b1 j1 T2 ⊢
 unfold go
 dsimp only
 obtain ⟨A3, A3z⟩ := append_after B2.live b1.inv j1 t
 have B3 := B2.trans rfl A3
 have hfree : ((tot x : Int) + t.length ≤ x.room) → (t.length : Int) ≤ Dk.free x2 := by
  intro hr
  have hu := used_tot x2
  have h1 : x2.room = x.room := B2.room
  unfold Dk.free
  rw [h1]
  omega
 obtain ⟨d1, d2⟩ := b1.append t
 by_cases c3 : (Dk.append x2 new t).2 ≠ 0
 ·rw [if_pos c3]; exact ⟨B3, fun hm hr => A3z (B2.calm hm) (hfree hr)⟩
 rw [if_neg c3]
 obtain ⟨k1, _⟩ := d2 (Classical.byContradiction c3)
 generalize Dk.append x2 new t = r3 at d1 k1 B3 ⊢
 obtain ⟨x3, e3⟩ := r3
 dsimp only at d1 k1 ⊢
 rw [← k1] at j1
 unfold go
 dsimp only
 have A4 := sync_after B3.live d1.inv j1
 have B4 := B3.trans rfl A4.1
 obtain ⟨e1, e2⟩ := d1.sync
 by_cases c4 : (Dk.sync x3 new).2 ≠ 0
 ·rw [if_pos c4]; exact ⟨B4, fun hm _ => A4.2 (B3.calm hm)⟩
 rw [if_neg c4]
 obtain ⟨m1, _⟩ := e2 (Classical.byContradiction c4)
 generalize Dk.sync x3 new = r4 at e1 m1 B4 ⊢
 obtain ⟨x4, e4⟩ := r4
 dsimp only at e1 m1 ⊢
 rw [← m1] at j1
 unfold go
 dsimp only
 have A5 := rename_after B4.live e1.inv j1
 have B5 := B4.trans rfl A5.1
 by_cases c5 : (Dk.rename x4 new old).2 ≠ 0
 ·rw [if_pos c5]; exact ⟨B5, fun hm _ => A5.2 (B4.calm hm)⟩
 rw [if_neg c5]
 generalize Dk.rename x4 new old = r5 at B5 ⊢
 obtain ⟨x5, e5⟩ := r5
 unfold go
 have A6 := syncNames_after B5.live
 have B6 := B5.trans rfl A6.1
 by_cases c6 : (Dk.syncNames x5).2 ≠ 0
 ·rw [if_pos c6]; exact ⟨B6, fun hm _ => A6.2 (B5.calm hm)⟩
 ·rw [if_neg c6]
  unfold go
  exact ⟨⟨B6.live, B6.room, .inl rfl, B6.calm⟩, fun _ _ => rfl⟩
theorem lim_go {t : Tx} {n b : Nat} {x : Ds} (h : Lim n b x) : Lim (n + 6) (b + t.length) (save x t).1 := by
 have up : ∀ {m : Nat} {y : Ds} {c : Nat}, Lim m c y → m ≤ n + 6 → c ≤ b + t.length → Lim (n + 6) (b + t.length) y := fun h h1 h2 => h.mono h1 h2
 unfold Ck.save ops go
 have h1 : Lim (n + 1) b (clean x).1 := by
  unfold Ck.clean
  split
  ·exact h.mono (by omega) (Nat.le_refl _)
  ·split
   ·exact lim_remove h _
   ·exact h.mono (by omega) (Nat.le_refl _)
 split
 ·exact up h1 (by omega) (by omega)
 unfold go
 dsimp only
 have h2 := lim_create h1 new
 split
 ·exact up h2 (by omega) (by omega)
 unfold go
 dsimp only
 have h3 := lim_append h2 new t
 split
 ·exact up h3 (by omega) (by omega)
 unfold go
 dsimp only
 have h4 := lim_sync h3 new
 split
 ·exact up h4 (by omega) (by omega)
 unfold go
 dsimp only
 have h5 := lim_rename h4 new old
 split
 ·exact up h5 (by omega) (by omega)
 unfold go
 have h6 := lim_syncNames h5
 split
 ·exact up h6 (by omega) (by omega)
 ·exact up h6 (by omega) (by omega)
end Ck
end Go.Vc
namespace Go.Vc
open Dk (Ds)
def aw23.sig : Sig := sigF [] [.b] (fun _ => True) fun l => (arg l 0).toB = true
def LCkptCrash.sig : Sig := sigF [.l itemK, .l itemK, .i .i64, .z .i64] [.b] (fun _ => True) yes
def LCkptFull.sig : Sig := sigF [.l itemK, .l itemK, .i .i64, .i .i64] [.b] (fun _ => True) yes
end Go.Vc
namespace Go.Vc
set_option linter.unusedVariables false
set_option maxRecDepth 100000
def aw23.Pure : Prop :=
 aw23.sig.pre [] →
 qNew.sig.pre [.I 1000] ∧ (
 ∀ n0 : Nat,
 ∀ l1 : List D,
 qNew.sig.post [.I 1000, .N n0, .L l1] →
 ∀ v2 : Value,
 Grow.sig.pre [.V v2, .L ((D.L ((D.S (⟨#[97]⟩ : ByteArray)) :: ((D.S (⟨#[98]⟩ : ByteArray)) :: ([] : List D)))) :: ([] : List D))] ∧ (
 ∀ n3 : Nat,
 ∀ v4 v5 : Value,
 ∀ l6 l7 : List D,
 Grow.sig.post [.V v2, .L ((D.L ((D.S (⟨#[97]⟩ : ByteArray)) :: ((D.S (⟨#[98]⟩ : ByteArray)) :: ([] : List D)))) :: ([] : List D)), .N n3, .V v4, .V v5, .L l6, .L l7] →
 (EK.ok [.ints .u8 32, .str] (D.L l6)) →
 (EK.ok [.str, .str] (D.L l7)) →
 cSave.sig.pre [.N n0, .L l1, .N n3, .V v4, .L l6] ∧ (
 ∀ l8 : List D,
 ∀ i9 : Int,
 cSave.sig.post [.N n0, .L l1, .N n3, .V v4, .L l6, .L l8, .I i9] →
 R64 i9 →
 ((
 (i9 ≠ 0) →
  aw23.sig.post [.B false]) ∧ (
 (i9 = 0) →
 ∀ v10 : Value,
  qRestart.sig.pre [.N n0, .L l8, .V v10, .Z ([] : List Int)] ∧ (
 ∀ l11 : List D,
  qRestart.sig.post [.N n0, .L l8, .V v10, .Z ([] : List Int), .L l11] →
 ((
  cLoad.sig.pre [.N n0, .L l11] ∧ (
 ∀ b12 : Bool,
 ∀ i13 : Int,
  cLoad.sig.post [.N n0, .L l11, .B b12, .I i13] →
 R64 i13 →
 ((
 (i13 = 0) →
 ((
 (b12 = true) →
   aw23.sig.post [.B false]) ∧ (
 (b12 = false) →
   aw23.sig.post [.B false]))) ∧ (
 (i13 ≠ 0) →
  aw23.sig.post [.B false])))) ∧ (
  cLoad.sig.pre [.N n0, .L l11] ∧ (
 ∀ n12 : Nat,
 ∀ v13 : Value,
 ∀ l14 : List D,
 ∀ b15 : Bool,
  cLoad.sig.post2 [.N n0, .L l11, .N n12, .V v13, .L l14, .B b15] →
 (EK.ok [.ints .u8 32, .str] (D.L l14)) →
 ((
 (b15 = true) →
  TSame.sig.pre [.N n12, .V v13, .L l14, .V v5, .L l7] ∧ (
 ∀ i16 : Int,
  TSame.sig.post [.N n12, .V v13, .L l14, .V v5, .L l7, .I i16] →
 R64 i16 →
  aw23.sig.post [.B (i16 == 0)])) ∧ (
 (b15 = false) →
  aw23.sig.post [.B false])))))))))))
abbrev LCkptCrash.K0 (n7 : Nat) (l24 : List D) (n32 : Nat) (v31 : Value) (v0 : Value) (l1 : List D) (v2 : Value) (l3 : List D) (i4 : Int) (v5 : Value) (z6 : List Int) : Prop :=
 (
 ∀ l33 : List D,
 ∀ i34 : Int,
    cSave.sig.post [.N n7, .L l24, .N n32, .V v31, .L ([] : List D), .L l33, .I i34] →
 R64 i34 →
 ((
 (i34 ≠ 0) →
    LCkptCrash.sig.post [.V v0, .L l1, .V v2, .L l3, .I i4, .V v5, .Z z6, .B false]) ∧ (
 (i34 = 0) →
 ∀ v35 : Value,
    qRestart.sig.pre [.N n7, .L l33, .V v35, .Z ([] : List Int)] ∧ (
 ∀ l36 : List D,
    qRestart.sig.post [.N n7, .L l33, .V v35, .Z ([] : List Int), .L l36] →
 ((
     cLoad.sig.pre [.N n7, .L l36] ∧ (
 ∀ b37 : Bool,
 ∀ i38 : Int,
     cLoad.sig.post [.N n7, .L l36, .B b37, .I i38] →
 R64 i38 →
     aw23.sig.pre [] ∧ (
 ∀ b39 : Bool,
     aw23.sig.post [.B b39] →
 ((
 (b39 = true) →
 ((
 (i38 = 0) →
 ((
 (b37 = true) →
      LCkptCrash.sig.post [.V v0, .L l1, .V v2, .L l3, .I i4, .V v5, .Z z6, .B false]) ∧ (
 (b37 = false) →
      LCkptCrash.sig.post [.V v0, .L l1, .V v2, .L l3, .I i4, .V v5, .Z z6, .B false]))) ∧ (
 (i38 ≠ 0) →
      LCkptCrash.sig.post [.V v0, .L l1, .V v2, .L l3, .I i4, .V v5, .Z z6, .B false]))) ∧ (
 (b39 = false) →
     LCkptCrash.sig.post [.V v0, .L l1, .V v2, .L l3, .I i4, .V v5, .Z z6, .B false]))))) ∧ (
     cLoad.sig.pre [.N n7, .L l36] ∧ (
 ∀ n37 : Nat,
 ∀ v38 : Value,
 ∀ l39 : List D,
 ∀ b40 : Bool,
     cLoad.sig.post2 [.N n7, .L l36, .N n37, .V v38, .L l39, .B b40] →
 (EK.ok [.ints .u8 32, .str] (D.L l39)) →
     aw23.sig.pre [] ∧ (
 ∀ b41 : Bool,
     aw23.sig.post [.B b41] →
 ((
 (b41 = true) →
 ((
 (b40 = true) →
      TLen.sig.pre [.N n37, .V v38, .L l39] ∧ (
 ∀ i42 : Int,
      TLen.sig.post [.N n37, .V v38, .L l39, .I i42] →
 R64 i42 →
      LCkptCrash.sig.post [.V v0, .L l1, .V v2, .L l3, .I i4, .V v5, .Z z6, .B (i42 == 0)])) ∧ (
 (b40 = false) →
      LCkptCrash.sig.post [.V v0, .L l1, .V v2, .L l3, .I i4, .V v5, .Z z6, .B false]))) ∧ (
 (b41 = false) →
     LCkptCrash.sig.post [.V v0, .L l1, .V v2, .L l3, .I i4, .V v5, .Z z6, .B false]))))))))))
def LCkptCrash.Pure : Prop :=
 ∀ v0 : Value,
 ∀ l1 : List D,
 ∀ v2 : Value,
 ∀ l3 : List D,
 ∀ i4 : Int,
 ∀ v5 : Value,
 ∀ z6 : List Int,
 R64 i4 →
 (EK.ok [.str, .str] (D.L l1)) →
 (EK.ok [.str, .str] (D.L l3)) →
 (∀ x ∈ z6, IntKind.has .i64 x) →
 LCkptCrash.sig.pre [.V v0, .L l1, .V v2, .L l3, .I i4, .V v5, .Z z6] →
 qNew.sig.pre [.I 100000] ∧ (
 ∀ n7 : Nat,
 ∀ l8 : List D,
 qNew.sig.post [.I 100000, .N n7, .L l8] →
 Grow.sig.pre [.V v0, .L l1] ∧ (
 ∀ n9 : Nat,
 ∀ v10 v11 : Value,
 ∀ l12 l13 : List D,
 Grow.sig.post [.V v0, .L l1, .N n9, .V v10, .V v11, .L l12, .L l13] →
 (EK.ok [.ints .u8 32, .str] (D.L l12)) →
 (EK.ok [.str, .str] (D.L l13)) →
 Grow.sig.pre [.V v2, .L l3] ∧ (
 ∀ n14 : Nat,
 ∀ v15 v16 : Value,
 ∀ l17 l18 : List D,
 Grow.sig.post [.V v2, .L l3, .N n14, .V v15, .V v16, .L l17, .L l18] →
 (EK.ok [.ints .u8 32, .str] (D.L l17)) →
 (EK.ok [.str, .str] (D.L l18)) →
 cSave.sig.pre [.N n7, .L l8, .N n9, .V v10, .L l12] ∧ (
 ∀ l19 : List D,
 ∀ i20 : Int,
 cSave.sig.post [.N n7, .L l8, .N n9, .V v10, .L l12, .L l19, .I i20] →
 R64 i20 →
 ((
 (i20 ≠ 0) →
  LCkptCrash.sig.post [.V v0, .L l1, .V v2, .L l3, .I i4, .V v5, .Z z6, .B false]) ∧ (
 (i20 = 0) →
  qCrash.sig.pre [.N n7, .L l19, .I i4] ∧ (
 ∀ l21 : List D,
  qCrash.sig.post [.N n7, .L l19, .I i4, .L l21] →
  cSave.sig.pre [.N n7, .L l21, .N n14, .V v15, .L l17] ∧ (
 ∀ l22 : List D,
 ∀ i23 : Int,
  cSave.sig.post [.N n7, .L l21, .N n14, .V v15, .L l17, .L l22, .I i23] →
 R64 i23 →
  qRestart.sig.pre [.N n7, .L l22, .V v5, .Z z6] ∧ (
 ∀ l24 : List D,
  qRestart.sig.post [.N n7, .L l22, .V v5, .Z z6, .L l24] →
 ((
  cLoad.sig.pre [.N n7, .L l24] ∧ (
 ∀ b25 : Bool,
 ∀ i26 : Int,
  cLoad.sig.post [.N n7, .L l24, .B b25, .I i26] →
 R64 i26 →
 ((
 (i26 ≠ 0) →
  LCkptCrash.sig.post [.V v0, .L l1, .V v2, .L l3, .I i4, .V v5, .Z z6, .B false]) ∧ (
 (i26 = 0) →
 ((
 (b25 = false) →
   LCkptCrash.sig.post [.V v0, .L l1, .V v2, .L l3, .I i4, .V v5, .Z z6, .B false]) ∧ (
 (b25 = true) →
   LCkptCrash.sig.post [.V v0, .L l1, .V v2, .L l3, .I i4, .V v5, .Z z6, .B false])))))) ∧ (
  cLoad.sig.pre [.N n7, .L l24] ∧ (
 ∀ n25 : Nat,
 ∀ v26 : Value,
 ∀ l27 : List D,
 ∀ b28 : Bool,
  cLoad.sig.post2 [.N n7, .L l24, .N n25, .V v26, .L l27, .B b28] →
 (EK.ok [.ints .u8 32, .str] (D.L l27)) →
 ((
 (b28 = false) →
  LCkptCrash.sig.post [.V v0, .L l1, .V v2, .L l3, .I i4, .V v5, .Z z6, .B false]) ∧ (
 (b28 = true) →
  TSame.sig.pre [.N n25, .V v26, .L l27, .V v11, .L l13] ∧ (
 ∀ i29 : Int,
  TSame.sig.post [.N n25, .V v26, .L l27, .V v11, .L l13, .I i29] →
 R64 i29 →
 ((
 (i29 ≠ 0) →
   TSame.sig.pre [.N n25, .V v26, .L l27, .V v16, .L l18] ∧ (
 ∀ i30 : Int,
   TSame.sig.post [.N n25, .V v26, .L l27, .V v16, .L l18, .I i30] →
 R64 i30 →
 ((
 (i30 ≠ 0) →
   LCkptCrash.sig.post [.V v0, .L l1, .V v2, .L l3, .I i4, .V v5, .Z z6, .B false]) ∧ (
 (i30 = 0) →
 ((
 (i23 = 0) →
    TSame.sig.pre [.N n25, .V v26, .L l27, .V v16, .L l18] ∧ (
 ∀ i31 : Int,
    TSame.sig.post [.N n25, .V v26, .L l27, .V v16, .L l18, .I i31] →
 R64 i31 →
 ((
 (i31 ≠ 0) →
    LCkptCrash.sig.post [.V v0, .L l1, .V v2, .L l3, .I i4, .V v5, .Z z6, .B false]) ∧ (
 (i31 = 0) →
 ∀ v32 : Value,
 ∀ n33 : Nat,
    cSave.sig.pre [.N n7, .L l24, .N n33, .V v32, .L ([] : List D)] ∧ (
 ∀ l34 : List D,
 ∀ i35 : Int,
    cSave.sig.post [.N n7, .L l24, .N n33, .V v32, .L ([] : List D), .L l34, .I i35] →
 R64 i35 →
 ((
 (i35 ≠ 0) →
     LCkptCrash.sig.post [.V v0, .L l1, .V v2, .L l3, .I i4, .V v5, .Z z6, .B false]) ∧ (
 (i35 = 0) →
 ∀ v36 : Value,
     qRestart.sig.pre [.N n7, .L l34, .V v36, .Z ([] : List Int)] ∧ (
 ∀ l37 : List D,
     qRestart.sig.post [.N n7, .L l34, .V v36, .Z ([] : List Int), .L l37] →
 ((
     cLoad.sig.pre [.N n7, .L l37] ∧ (
 ∀ b38 : Bool,
 ∀ i39 : Int,
     cLoad.sig.post [.N n7, .L l37, .B b38, .I i39] →
 R64 i39 →
     aw23.sig.pre [] ∧ (
 ∀ b40 : Bool,
     aw23.sig.post [.B b40] →
 ((
 (b40 = true) →
 ((
 (i39 = 0) →
 ((
 (b38 = true) →
       LCkptCrash.sig.post [.V v0, .L l1, .V v2, .L l3, .I i4, .V v5, .Z z6, .B false]) ∧ (
 (b38 = false) →
       LCkptCrash.sig.post [.V v0, .L l1, .V v2, .L l3, .I i4, .V v5, .Z z6, .B false]))) ∧ (
 (i39 ≠ 0) →
      LCkptCrash.sig.post [.V v0, .L l1, .V v2, .L l3, .I i4, .V v5, .Z z6, .B false]))) ∧ (
 (b40 = false) →
      LCkptCrash.sig.post [.V v0, .L l1, .V v2, .L l3, .I i4, .V v5, .Z z6, .B false]))))) ∧ (
     cLoad.sig.pre [.N n7, .L l37] ∧ (
 ∀ n38 : Nat,
 ∀ v39 : Value,
 ∀ l40 : List D,
 ∀ b41 : Bool,
     cLoad.sig.post2 [.N n7, .L l37, .N n38, .V v39, .L l40, .B b41] →
 (EK.ok [.ints .u8 32, .str] (D.L l40)) →
     aw23.sig.pre [] ∧ (
 ∀ b42 : Bool,
     aw23.sig.post [.B b42] →
 ((
 (b42 = true) →
 ((
 (b41 = true) →
      TLen.sig.pre [.N n38, .V v39, .L l40] ∧ (
 ∀ i43 : Int,
      TLen.sig.post [.N n38, .V v39, .L l40, .I i43] →
 R64 i43 →
      LCkptCrash.sig.post [.V v0, .L l1, .V v2, .L l3, .I i4, .V v5, .Z z6, .B (i43 == 0)])) ∧ (
 (b41 = false) →
      LCkptCrash.sig.post [.V v0, .L l1, .V v2, .L l3, .I i4, .V v5, .Z z6, .B false]))) ∧ (
 (b42 = false) →
      LCkptCrash.sig.post [.V v0, .L l1, .V v2, .L l3, .I i4, .V v5, .Z z6, .B false])))))))))))))) ∧ (
 (i23 ≠ 0) →
 ∀ v31 : Value,
 ∀ n32 : Nat,
    cSave.sig.pre [.N n7, .L l24, .N n32, .V v31, .L ([] : List D)] ∧ (LCkptCrash.K0 n7 l24 n32 v31 v0 l1 v2 l3 i4 v5 z6))))))) ∧ (
 (i29 = 0) →
 ((
 (i23 = 0) →
   TSame.sig.pre [.N n25, .V v26, .L l27, .V v16, .L l18] ∧ (
 ∀ i30 : Int,
   TSame.sig.post [.N n25, .V v26, .L l27, .V v16, .L l18, .I i30] →
 R64 i30 →
 ((
 (i30 ≠ 0) →
    LCkptCrash.sig.post [.V v0, .L l1, .V v2, .L l3, .I i4, .V v5, .Z z6, .B false]) ∧ (
 (i30 = 0) →
 ∀ v31 : Value,
 ∀ n32 : Nat,
    cSave.sig.pre [.N n7, .L l24, .N n32, .V v31, .L ([] : List D)] ∧ (LCkptCrash.K0 n7 l24 n32 v31 v0 l1 v2 l3 i4 v5 z6))))) ∧ (
 (i23 ≠ 0) →
 ∀ v30 : Value,
 ∀ n31 : Nat,
   cSave.sig.pre [.N n7, .L l24, .N n31, .V v30, .L ([] : List D)] ∧ (
 ∀ l32 : List D,
 ∀ i33 : Int,
   cSave.sig.post [.N n7, .L l24, .N n31, .V v30, .L ([] : List D), .L l32, .I i33] →
 R64 i33 →
 ((
 (i33 ≠ 0) →
    LCkptCrash.sig.post [.V v0, .L l1, .V v2, .L l3, .I i4, .V v5, .Z z6, .B false]) ∧ (
 (i33 = 0) →
 ∀ v34 : Value,
    qRestart.sig.pre [.N n7, .L l32, .V v34, .Z ([] : List Int)] ∧ (
 ∀ l35 : List D,
    qRestart.sig.post [.N n7, .L l32, .V v34, .Z ([] : List Int), .L l35] →
 ((
    cLoad.sig.pre [.N n7, .L l35] ∧ (
 ∀ b36 : Bool,
 ∀ i37 : Int,
    cLoad.sig.post [.N n7, .L l35, .B b36, .I i37] →
 R64 i37 →
    aw23.sig.pre [] ∧ (
 ∀ b38 : Bool,
    aw23.sig.post [.B b38] →
 ((
 (b38 = true) →
 ((
 (i37 = 0) →
 ((
 (b36 = true) →
      LCkptCrash.sig.post [.V v0, .L l1, .V v2, .L l3, .I i4, .V v5, .Z z6, .B false]) ∧ (
 (b36 = false) →
      LCkptCrash.sig.post [.V v0, .L l1, .V v2, .L l3, .I i4, .V v5, .Z z6, .B false]))) ∧ (
 (i37 ≠ 0) →
     LCkptCrash.sig.post [.V v0, .L l1, .V v2, .L l3, .I i4, .V v5, .Z z6, .B false]))) ∧ (
 (b38 = false) →
     LCkptCrash.sig.post [.V v0, .L l1, .V v2, .L l3, .I i4, .V v5, .Z z6, .B false]))))) ∧ (
    cLoad.sig.pre [.N n7, .L l35] ∧ (
 ∀ n36 : Nat,
 ∀ v37 : Value,
 ∀ l38 : List D,
 ∀ b39 : Bool,
    cLoad.sig.post2 [.N n7, .L l35, .N n36, .V v37, .L l38, .B b39] →
 (EK.ok [.ints .u8 32, .str] (D.L l38)) →
    aw23.sig.pre [] ∧ (
 ∀ b40 : Bool,
    aw23.sig.post [.B b40] →
 ((
 (b40 = true) →
 ((
 (b39 = true) →
     TLen.sig.pre [.N n36, .V v37, .L l38] ∧ (
 ∀ i41 : Int,
     TLen.sig.post [.N n36, .V v37, .L l38, .I i41] →
 R64 i41 →
     LCkptCrash.sig.post [.V v0, .L l1, .V v2, .L l3, .I i4, .V v5, .Z z6, .B (i41 == 0)])) ∧ (
 (b39 = false) →
     LCkptCrash.sig.post [.V v0, .L l1, .V v2, .L l3, .I i4, .V v5, .Z z6, .B false]))) ∧ (
 (b40 = false) →
     LCkptCrash.sig.post [.V v0, .L l1, .V v2, .L l3, .I i4, .V v5, .Z z6, .B false])))))))))))))))))))))))))))))
abbrev LCkptFull.K0 (n6 : Nat) (l22 : List D) (n13 : Nat) (v14 : Value) (l16 : List D) (v0 : Value) (l1 : List D) (v2 : Value) (l3 : List D) (i4 : Int) (i5 : Int) (v15 : Value) (l17 : List D) : Prop :=
 (
 ∀ l30 : List D,
     qRoom.sig.post [.N n6, .L l22, .I 100000, .L l30] →
     qFail.sig.pre [.N n6, .L l30, .I (-1 : Int)] ∧ (
 ∀ l31 : List D,
     qFail.sig.post [.N n6, .L l30, .I (-1 : Int), .L l31] →
     cSave.sig.pre [.N n6, .L l31, .N n13, .V v14, .L l16] ∧ (
 ∀ l32 : List D,
 ∀ i33 : Int,
     cSave.sig.post [.N n6, .L l31, .N n13, .V v14, .L l16, .L l32, .I i33] →
 R64 i33 →
 ((
 (i33 ≠ 0) →
     LCkptFull.sig.post [.V v0, .L l1, .V v2, .L l3, .I i4, .I i5, .B false]) ∧ (
 (i33 = 0) →
     cClean.sig.pre [.N n6, .L l32] ∧ (
 ∀ l34 : List D,
 ∀ i35 : Int,
     cClean.sig.post [.N n6, .L l32, .L l34, .I i35] →
 R64 i35 →
 ((
 (i35 ≠ 0) →
      LCkptFull.sig.post [.V v0, .L l1, .V v2, .L l3, .I i4, .I i5, .B false]) ∧ (
 (i35 = 0) →
 ((
      cLoad.sig.pre [.N n6, .L l34] ∧ (
 ∀ b36 : Bool,
 ∀ i37 : Int,
      cLoad.sig.post [.N n6, .L l34, .B b36, .I i37] →
 R64 i37 →
      qNames.sig.pre [.N n6, .L l34] ∧ (
 ∀ v38 : Value,
 ∀ l39 : List D,
 ∀ i40 : Int,
      qNames.sig.post [.N n6, .L l34, .V v38, .L l39, .I i40] →
 R64 i40 →
 (EK.ok [.str] (D.L l39)) →
      aw23.sig.pre [] ∧ (
 ∀ b41 : Bool,
      aw23.sig.post [.B b41] →
 ((
 (b41 = true) →
 ((
 (i37 = 0) →
 ((
 (i40 = 0) →
        LCkptFull.sig.post [.V v0, .L l1, .V v2, .L l3, .I i4, .I i5, .B false]) ∧ (
 (i40 ≠ 0) →
        LCkptFull.sig.post [.V v0, .L l1, .V v2, .L l3, .I i4, .I i5, .B false]))) ∧ (
 (i37 ≠ 0) →
       LCkptFull.sig.post [.V v0, .L l1, .V v2, .L l3, .I i4, .I i5, .B false]))) ∧ (
 (b41 = false) →
       LCkptFull.sig.post [.V v0, .L l1, .V v2, .L l3, .I i4, .I i5, .B false])))))) ∧ (
      cLoad.sig.pre [.N n6, .L l34] ∧ (
 ∀ n36 : Nat,
 ∀ v37 : Value,
 ∀ l38 : List D,
 ∀ b39 : Bool,
      cLoad.sig.post2 [.N n6, .L l34, .N n36, .V v37, .L l38, .B b39] →
 (EK.ok [.ints .u8 32, .str] (D.L l38)) →
      qNames.sig.pre [.N n6, .L l34] ∧ (
 ∀ v40 : Value,
 ∀ l41 : List D,
 ∀ i42 : Int,
      qNames.sig.post [.N n6, .L l34, .V v40, .L l41, .I i42] →
 R64 i42 →
 (EK.ok [.str] (D.L l41)) →
      aw23.sig.pre [] ∧ (
 ∀ b43 : Bool,
      aw23.sig.post [.B b43] →
 ((
 (b43 = true) →
 ((
 (i42 = 0) →
       TSame.sig.pre [.N n36, .V v37, .L l38, .V v15, .L l17] ∧ (
 ∀ i44 : Int,
       TSame.sig.post [.N n36, .V v37, .L l38, .V v15, .L l17, .I i44] →
 R64 i44 →
 ((
 (i44 = 0) →
        LCkptFull.sig.post [.V v0, .L l1, .V v2, .L l3, .I i4, .I i5, .B (((l41.length : Nat) : Int) == (1 : Int))]) ∧ (
 (i44 ≠ 0) →
        LCkptFull.sig.post [.V v0, .L l1, .V v2, .L l3, .I i4, .I i5, .B false])))) ∧ (
 (i42 ≠ 0) →
       LCkptFull.sig.post [.V v0, .L l1, .V v2, .L l3, .I i4, .I i5, .B false]))) ∧ (
 (b43 = false) →
       LCkptFull.sig.post [.V v0, .L l1, .V v2, .L l3, .I i4, .I i5, .B false])))))))))))))))
abbrev LCkptFull.K1 (n6 : Nat) (l22 : List D) (n13 : Nat) (v14 : Value) (l16 : List D) (v0 : Value) (l1 : List D) (v2 : Value) (l3 : List D) (i4 : Int) (i5 : Int) (v15 : Value) (l17 : List D) : Prop :=
 (
 ∀ l29 : List D,
    qRoom.sig.post [.N n6, .L l22, .I 100000, .L l29] →
    qFail.sig.pre [.N n6, .L l29, .I (-1 : Int)] ∧ (
 ∀ l30 : List D,
    qFail.sig.post [.N n6, .L l29, .I (-1 : Int), .L l30] →
    cSave.sig.pre [.N n6, .L l30, .N n13, .V v14, .L l16] ∧ (
 ∀ l31 : List D,
 ∀ i32 : Int,
    cSave.sig.post [.N n6, .L l30, .N n13, .V v14, .L l16, .L l31, .I i32] →
 R64 i32 →
 ((
 (i32 ≠ 0) →
     LCkptFull.sig.post [.V v0, .L l1, .V v2, .L l3, .I i4, .I i5, .B false]) ∧ (
 (i32 = 0) →
     cClean.sig.pre [.N n6, .L l31] ∧ (
 ∀ l33 : List D,
 ∀ i34 : Int,
     cClean.sig.post [.N n6, .L l31, .L l33, .I i34] →
 R64 i34 →
 ((
 (i34 ≠ 0) →
     LCkptFull.sig.post [.V v0, .L l1, .V v2, .L l3, .I i4, .I i5, .B false]) ∧ (
 (i34 = 0) →
 ((
      cLoad.sig.pre [.N n6, .L l33] ∧ (
 ∀ b35 : Bool,
 ∀ i36 : Int,
      cLoad.sig.post [.N n6, .L l33, .B b35, .I i36] →
 R64 i36 →
      qNames.sig.pre [.N n6, .L l33] ∧ (
 ∀ v37 : Value,
 ∀ l38 : List D,
 ∀ i39 : Int,
      qNames.sig.post [.N n6, .L l33, .V v37, .L l38, .I i39] →
 R64 i39 →
 (EK.ok [.str] (D.L l38)) →
      aw23.sig.pre [] ∧ (
 ∀ b40 : Bool,
      aw23.sig.post [.B b40] →
 ((
 (b40 = true) →
 ((
 (i36 = 0) →
 ((
 (i39 = 0) →
       LCkptFull.sig.post [.V v0, .L l1, .V v2, .L l3, .I i4, .I i5, .B false]) ∧ (
 (i39 ≠ 0) →
       LCkptFull.sig.post [.V v0, .L l1, .V v2, .L l3, .I i4, .I i5, .B false]))) ∧ (
 (i36 ≠ 0) →
       LCkptFull.sig.post [.V v0, .L l1, .V v2, .L l3, .I i4, .I i5, .B false]))) ∧ (
 (b40 = false) →
      LCkptFull.sig.post [.V v0, .L l1, .V v2, .L l3, .I i4, .I i5, .B false])))))) ∧ (
      cLoad.sig.pre [.N n6, .L l33] ∧ (
 ∀ n35 : Nat,
 ∀ v36 : Value,
 ∀ l37 : List D,
 ∀ b38 : Bool,
      cLoad.sig.post2 [.N n6, .L l33, .N n35, .V v36, .L l37, .B b38] →
 (EK.ok [.ints .u8 32, .str] (D.L l37)) →
      qNames.sig.pre [.N n6, .L l33] ∧ (
 ∀ v39 : Value,
 ∀ l40 : List D,
 ∀ i41 : Int,
      qNames.sig.post [.N n6, .L l33, .V v39, .L l40, .I i41] →
 R64 i41 →
 (EK.ok [.str] (D.L l40)) →
      aw23.sig.pre [] ∧ (
 ∀ b42 : Bool,
      aw23.sig.post [.B b42] →
 ((
 (b42 = true) →
 ((
 (i41 = 0) →
       TSame.sig.pre [.N n35, .V v36, .L l37, .V v15, .L l17] ∧ (
 ∀ i43 : Int,
       TSame.sig.post [.N n35, .V v36, .L l37, .V v15, .L l17, .I i43] →
 R64 i43 →
 ((
 (i43 = 0) →
       LCkptFull.sig.post [.V v0, .L l1, .V v2, .L l3, .I i4, .I i5, .B (((l40.length : Nat) : Int) == (1 : Int))]) ∧ (
 (i43 ≠ 0) →
       LCkptFull.sig.post [.V v0, .L l1, .V v2, .L l3, .I i4, .I i5, .B false])))) ∧ (
 (i41 ≠ 0) →
       LCkptFull.sig.post [.V v0, .L l1, .V v2, .L l3, .I i4, .I i5, .B false]))) ∧ (
 (b42 = false) →
      LCkptFull.sig.post [.V v0, .L l1, .V v2, .L l3, .I i4, .I i5, .B false])))))))))))))))
def LCkptFull.Pure : Prop :=
 ∀ v0 : Value,
 ∀ l1 : List D,
 ∀ v2 : Value,
 ∀ l3 : List D,
 ∀ i4 i5 : Int,
 R64 i4 →
 R64 i5 →
 (EK.ok [.str, .str] (D.L l1)) →
 (EK.ok [.str, .str] (D.L l3)) →
 LCkptFull.sig.pre [.V v0, .L l1, .V v2, .L l3, .I i4, .I i5] →
 qNew.sig.pre [.I 100000] ∧ (
 ∀ n6 : Nat,
 ∀ l7 : List D,
 qNew.sig.post [.I 100000, .N n6, .L l7] →
 Grow.sig.pre [.V v0, .L l1] ∧ (
 ∀ n8 : Nat,
 ∀ v9 v10 : Value,
 ∀ l11 l12 : List D,
 Grow.sig.post [.V v0, .L l1, .N n8, .V v9, .V v10, .L l11, .L l12] →
 (EK.ok [.ints .u8 32, .str] (D.L l11)) →
 (EK.ok [.str, .str] (D.L l12)) →
 Grow.sig.pre [.V v2, .L l3] ∧ (
 ∀ n13 : Nat,
 ∀ v14 v15 : Value,
 ∀ l16 l17 : List D,
 Grow.sig.post [.V v2, .L l3, .N n13, .V v14, .V v15, .L l16, .L l17] →
 (EK.ok [.ints .u8 32, .str] (D.L l16)) →
 (EK.ok [.str, .str] (D.L l17)) →
 cSave.sig.pre [.N n6, .L l7, .N n8, .V v9, .L l11] ∧ (
 ∀ l18 : List D,
 ∀ i19 : Int,
 cSave.sig.post [.N n6, .L l7, .N n8, .V v9, .L l11, .L l18, .I i19] →
 R64 i19 →
 ((
 (i19 ≠ 0) →
  LCkptFull.sig.post [.V v0, .L l1, .V v2, .L l3, .I i4, .I i5, .B false]) ∧ (
 (i19 = 0) →
  qRoom.sig.pre [.N n6, .L l18, .I i4] ∧ (
 ∀ l20 : List D,
  qRoom.sig.post [.N n6, .L l18, .I i4, .L l20] →
  qFail.sig.pre [.N n6, .L l20, .I i5] ∧ (
 ∀ l21 : List D,
  qFail.sig.post [.N n6, .L l20, .I i5, .L l21] →
  cSave.sig.pre [.N n6, .L l21, .N n13, .V v14, .L l16] ∧ (
 ∀ l22 : List D,
 ∀ i23 : Int,
  cSave.sig.post [.N n6, .L l21, .N n13, .V v14, .L l16, .L l22, .I i23] →
 R64 i23 →
 ((
  cLoad.sig.pre [.N n6, .L l22] ∧ (
 ∀ b24 : Bool,
 ∀ i25 : Int,
  cLoad.sig.post [.N n6, .L l22, .B b24, .I i25] →
 R64 i25 →
 ((
 (i25 ≠ 0) →
  LCkptFull.sig.post [.V v0, .L l1, .V v2, .L l3, .I i4, .I i5, .B false]) ∧ (
 (i25 = 0) →
 ((
 (b24 = false) →
   LCkptFull.sig.post [.V v0, .L l1, .V v2, .L l3, .I i4, .I i5, .B false]) ∧ (
 (b24 = true) →
   LCkptFull.sig.post [.V v0, .L l1, .V v2, .L l3, .I i4, .I i5, .B false])))))) ∧ (
  cLoad.sig.pre [.N n6, .L l22] ∧ (
 ∀ n24 : Nat,
 ∀ v25 : Value,
 ∀ l26 : List D,
 ∀ b27 : Bool,
  cLoad.sig.post2 [.N n6, .L l22, .N n24, .V v25, .L l26, .B b27] →
 (EK.ok [.ints .u8 32, .str] (D.L l26)) →
 ((
 (b27 = false) →
  LCkptFull.sig.post [.V v0, .L l1, .V v2, .L l3, .I i4, .I i5, .B false]) ∧ (
 (b27 = true) →
  TSame.sig.pre [.N n24, .V v25, .L l26, .V v10, .L l12] ∧ (
 ∀ i28 : Int,
  TSame.sig.post [.N n24, .V v25, .L l26, .V v10, .L l12, .I i28] →
 R64 i28 →
 ((
 (i28 ≠ 0) →
   TSame.sig.pre [.N n24, .V v25, .L l26, .V v15, .L l17] ∧ (
 ∀ i29 : Int,
   TSame.sig.post [.N n24, .V v25, .L l26, .V v15, .L l17, .I i29] →
 R64 i29 →
 ((
 (i29 ≠ 0) →
   LCkptFull.sig.post [.V v0, .L l1, .V v2, .L l3, .I i4, .I i5, .B false]) ∧ (
 (i29 = 0) →
 ((
 (i23 ≠ 0) →
 ((
 (i23 ≠ 7) →
 ((
 (i23 ≠ 8) →
     LCkptFull.sig.post [.V v0, .L l1, .V v2, .L l3, .I i4, .I i5, .B false]) ∧ (
 (i23 = 8) →
     qRoom.sig.pre [.N n6, .L l22, .I 100000] ∧ (LCkptFull.K0 n6 l22 n13 v14 l16 v0 l1 v2 l3 i4 i5 v15 l17)))) ∧ (
 (i23 = 7) →
    qRoom.sig.pre [.N n6, .L l22, .I 100000] ∧ (LCkptFull.K0 n6 l22 n13 v14 l16 v0 l1 v2 l3 i4 i5 v15 l17)))) ∧ (
 (i23 = 0) →
    qRoom.sig.pre [.N n6, .L l22, .I 100000] ∧ (LCkptFull.K0 n6 l22 n13 v14 l16 v0 l1 v2 l3 i4 i5 v15 l17))))))) ∧ (
 (i28 = 0) →
 ((
 (i23 ≠ 0) →
 ((
 (i23 ≠ 7) →
 ((
 (i23 ≠ 8) →
    LCkptFull.sig.post [.V v0, .L l1, .V v2, .L l3, .I i4, .I i5, .B false]) ∧ (
 (i23 = 8) →
    qRoom.sig.pre [.N n6, .L l22, .I 100000] ∧ (LCkptFull.K1 n6 l22 n13 v14 l16 v0 l1 v2 l3 i4 i5 v15 l17)))) ∧ (
 (i23 = 7) →
    qRoom.sig.pre [.N n6, .L l22, .I 100000] ∧ (LCkptFull.K1 n6 l22 n13 v14 l16 v0 l1 v2 l3 i4 i5 v15 l17)))) ∧ (
 (i23 = 0) →
   qRoom.sig.pre [.N n6, .L l22, .I 100000] ∧ (LCkptFull.K1 n6 l22 n13 v14 l16 v0 l1 v2 l3 i4 i5 v15 l17))))))))))))))))))))
end Go.Vc
namespace Go.Vc
open Dk (Ds)
namespace Ck
structure Good (L : List D) : Prop where
 keys : keysOk L
 rise : rising L
 len : L.length ≤ 12
 text : ∀ d ∈ L, (textE d).size ≤ 60
theorem good_nil : Good [] := ⟨fun d hd => absurd hd (by simp), fun i j _ h => absurd h (by simp), Nat.zero_le _, fun d hd => absurd hd (by simp)⟩
theorem Good.small {L : List D} (h : Good L) : (tblB L).length ≤ 10000 ∧ 8 ≤ (tblB L).length := tbl_small (by have := h.len; omega) h.text h.keys
theorem Good.ok {L : List D} (h : Good L) : tblOk L := ⟨by have := h.len; omega, by have := h.small.1; omega⟩
theorem Good.bytes {L : List D} (h : Good L) : (tblT L).length ≤ 10032 := by
 have h1 : (tblT L).length = (sealB (tblB L)).length := by
  show (textOf (sealB (tblB L))).size = _
  exact textOf_size _
 have h2 := (shaL_len (l := tblB L) (by have := h.small.1; omega)).1
 rw [h1, sealB, List.length_append]
 have := h.small.1
 omega
theorem tblB_range {L : List D} (h : keysOk L) : ∀ x ∈ tblB L, 0 ≤ x ∧ x < 256 := by
 rw [← tblX_refs h]; exact tblX_has
theorem Good.parse {L : List D} (h : Good L) : tblPs (bx (tblT L)) = (0, L.map normE) := by
 show tblPs (textOf (sealB (tblB L))) = _
 rw [ps_seal (by have := h.small.1; omega) h.small.2 (tblB_range h.keys)]
 exact tbl_back h.keys h.rise (by have := h.small.1; omega) fun d hd => by have := h.text d hd; omega
theorem loadE_of {x : Ds} {L : List D} (h : Good L) (hr : Dk.read x old = (tblT L, 0)) : loadE x = 0 ∧ loadL x = L.map normE ∧ loadB x = true := by
 unfold Ck.loadE Ck.loadL Ck.loadB
 rw [hr]
 dsimp only
 rw [if_neg (by decide), if_neg (by decide), if_neg (by decide), h.parse]
 exact ⟨rfl, rfl, rfl⟩
theorem save_room (x : Ds) (t : Tx) : (save x t).1.room = x.room := by
 have hc : (clean x).1.room = x.room := by
  unfold Ck.clean
  split
  ·rfl
  ·split
   ·exact roomRemove _ _
   ·rfl
 unfold Ck.save ops go
 split
 ·exact hc
 unfold go
 dsimp only
 split
 ·rw [roomCreate]; exact hc
 unfold go
 dsimp only
 split
 ·rw [roomAppend, roomCreate]; exact hc
 unfold go
 dsimp only
 split
 ·rw [roomSync, roomAppend, roomCreate]; exact hc
 unfold go
 dsimp only
 have hren : ∀ y : Ds, (Dk.rename y new old).1.room = y.room := by
  intro y
  rcases rename_sh y new old with c | ⟨z, i, c, _, _, _, e⟩
  ·exact c.room
  ·rw [e]; exact c.room
 split
 ·rw [hren, roomSync, roomAppend, roomCreate]; exact hc
 unfold go
 split
 ·rw [roomNames, hren, roomSync, roomAppend, roomCreate]; exact hc
 ·unfold go
  rw [roomNames, hren, roomSync, roomAppend, roomCreate]; exact hc
theorem live_new (r : Int) : Live (Dk.new r) := ⟨rfl, rfl⟩
theorem live_restart (x : Ds) (ch : List Int) : Live (Dk.restart x ch) := ⟨rfl, rfl⟩
end Ck
theorem good_grow {v : Value} {items : List D} {n : Nat} {v2 v3 : Value} {L X : List D} (hk : EK.ok [.ints .u8 32, .str] (.L L)) (h : Grow.sig.post [.V v, .L items, .N n, .V v2, .V v3, .L L, .L X]) : Ck.Good L ∧ X = refs L ∧ L = growE [] (items.take 12) := by
 obtain ⟨a1, a2, a3, a4, a5⟩ := h
 exact ⟨⟨keysOk_of hk, a3, a4, a5⟩, a2, a1⟩
theorem load_form {x : Ds} {l : List D} {n : Nat} {M : Option Tx → Prop} (hr : RepL l x) (sx : Small x) (hs : Ck.Safe x M) (hd : x.dead = false) (hM : ∀ o, M o → ∃ L, Ck.Good L ∧ o = some (tblT L)) :
  cLoad.sig.pre [.N n, .L l] ∧ (∀ (b : Bool) (e : Int), ¬ cLoad.sig.post [.N n, .L l, .B b, .I e]) ∧
   ∃ L, Ck.Good L ∧ M (some (tblT L)) ∧ ∀ (n2 : Nat) (v : Value) (L' : List D) (b : Bool), cLoad.sig.post2 [.N n, .L l, .N n2, .V v, .L L', .B b] → L' = L.map normE ∧ b = true := by
 rcases hs.read hd with ⟨t, hm, e⟩ | ⟨hm, e⟩
 ·obtain ⟨L, hL, ht⟩ := hM _ hm
  obtain rfl : t = tblT L := Option.some.inj ht
  obtain ⟨a1, a2, a3⟩ := Ck.loadE_of hL e
  refine ⟨⟨x, hr, sx, by rw [e]; have := hL.bytes; show (tblT L).length ≤ 500000; omega⟩, fun b e h => ?_, L, hL, hm, fun n2 v L' b h => ?_⟩
  ·obtain ⟨h1, h2, _⟩ := h x hr sx
   exact h1 (h2.trans a1)
  ·obtain ⟨_, h2, h3⟩ := h x hr sx
   exact ⟨h2.trans a2, h3.trans a3⟩
 ·obtain ⟨L, _, h⟩ := hM _ hm
  cases h
theorem small_bytes {L : List D} (h : Ck.Good L) (h1 : L.length ≤ 1) : (tblT L).length ≤ 300 := by
 have e : (tblT L).length = (sealB (tblB L)).length := by
  show (textOf (sealB (tblB L))).size = _
  exact textOf_size _
 have h2 := (shaL_len (l := tblB L) (by have := h.small.1; omega)).1
 rw [e, sealB, List.length_append, h2, tblB, List.length_append, List.length_append]
 have h3 := (numB_len (L.length : Int)).1
 have e : ∀ {M : List D}, (∀ d ∈ M, (textE d).size ≤ 60) → keysOk M → (M.flatMap entB).length ≤ M.length * 101 := by
  intro M
  induction M with
  | nil => intros; simp
  | cons d M ih =>
   intro h1 h2
   have := ih (fun x hx => h1 x (by simp [hx])) (fun x hx => h2 x (by simp [hx]))
   have h3 := h1 d (by simp)
   have h4 := (numB_len ((textE d).size : Int)).1
   rw [List.flatMap_cons, List.length_append, entB, List.length_append, (h2 d (by simp)).1, textB, List.length_append, bytesOf_length', List.length_cons]
   omega
 have h4 := e h.text h.keys
 simp only [List.length_cons, List.length_nil]
 omega
theorem one_of {L : List D} {o : Option Tx} (hL : Ck.Good L) (h : o = some (tblT L)) : ∃ L, Ck.Good L ∧ o = some (tblT L) := ⟨L, hL, h⟩
theorem aw23.pure : aw23.Pure := by
 intro _
 refine ⟨trivial, fun n0 l1 r1 v2 => ⟨trivial, fun n3 v4 v5 l6 l7 hg k6 _ => ?_⟩⟩
 have r1 : RepL l1 (Dk.new 1000) := r1
 obtain ⟨gL, gX, gE⟩ := good_grow k6 hg
 have g1 : l6.length ≤ 1 := by
  rw [gE]
  exact grow_len _ []
 have hb := small_bytes gL g1
 have m0 : Mid (Dk.new 1000) := Ck.midOf (lim_new 1000)
 refine ⟨⟨⟨_, r1, m0⟩, gL.ok⟩, fun l8 i9 hsv _ => ?_⟩
 obtain ⟨r8, e9⟩ := hsv _ r1 m0
 have r8 : RepL l8 (Ck.save (Dk.new 1000) (tblT l6)).1 := r8
 have e9 : i9 = (Ck.save (Dk.new 1000) (tblT l6)).2 := e9
 have z9 := (Ck.save_after (Ck.live_new 1000) (Ck.safe_new 1000) (tblT l6)).2 rfl (by
  have : tot (Dk.new 1000) = 0 := rfl
  rw [this]
  show ((0 : Nat) : Int) + _ ≤ 1000
  omega)
 obtain ⟨_, s2, _⟩ := (Ck.safe_new 1000).save (tblT l6)
 have s2 := s2 z9
 have hl := Ck.lim_go (t := tblT l6) (lim_new 1000)
 rw [z9] at e9
 generalize (Ck.save (Dk.new 1000) (tblT l6)).1 = y at r8 s2 hl
 have my : Mid y := hl.mono (by omega) (by omega)
 refine ⟨fun h => absurd e9 h, fun _ v10 => ⟨⟨y, r8, my.small⟩, fun l11 hr => ?_⟩⟩
 have rr : RepL l11 (Dk.restart y []) := hr y r8 my.small
 have m2 : Mid (Dk.restart y []) := (lim_restart hl []).mono (by omega) (by omega)
 obtain ⟨p1, p2, L, hL, hM, p3⟩ := load_form (n := n0) rr m2.small (s2.restart []) rfl fun o ho => one_of gL ho
 refine ⟨⟨p1, fun b12 i13 h _ => absurd h (p2 b12 i13)⟩, p1, fun n12 v13 l14 b15 h _ => ?_⟩
 obtain ⟨q1, q2⟩ := p3 n12 v13 l14 b15 h
 have hT : tblT L = tblT l6 := Option.some.inj hM
 have hLe : l14 = l6.map normE := by
  have a := hL.parse
  rw [hT, gL.parse] at a
  rw [q1]
  exact (Prod.mk.inj a).2.symm
 refine ⟨fun _ => ⟨?_, fun i16 h16 _ => ?_⟩, fun hb => by rw [q2] at hb; cases hb⟩
 ·show l14.length ≤ 1000000
  rw [hLe, List.length_map]; omega
 ·have h16 : l7 = refs l14 → i16 = 0 := h16
  have e16 := h16 (by rw [hLe, gX, refs_norm])
  rw [e16]; rfl
theorem LCkptCrash.tail {n7 : Nat} {l24 : List D} {n32 : Nat} {v31 v0 v2 v5 : Value} {l1 l3 : List D} {i4 : Int} {z6 : List Int} {y : Ds} {M : Option Tx → Prop} (ry : RepL l24 y) (hs : Ck.Safe y M) (live : Ck.Live y) (hf : y.fail = -1) (hroom : y.room = 100000)
  {n b : Nat} (hl : Lim n b y) (hn : n ≤ 1000) (hb : b ≤ 80000) :
  cSave.sig.pre [.N n7, .L l24, .N n32, .V v31, .L []] ∧ LCkptCrash.K0 n7 l24 n32 v31 v0 l1 v2 l3 i4 v5 z6 := by
 have my : Mid y := hl.mono (by omega) (by omega)
 have gb := Ck.good_nil.bytes
 refine ⟨⟨⟨y, ry, my⟩, Ck.good_nil.ok⟩, fun l33 i34 hsv _ => ?_⟩
 obtain ⟨r8, e9⟩ := hsv y ry my
 have r8 : RepL l33 (Ck.save y (tblT [])).1 := r8
 have e9 : i34 = (Ck.save y (tblT [])).2 := e9
 have z9 := (Ck.save_after live hs (tblT [])).2 hf (by
  have := hl.bytes
  rw [hroom]; omega)
 obtain ⟨_, s2, _⟩ := hs.save (tblT [])
 have s2 := s2 z9
 have hl2 := Ck.lim_go (t := tblT []) hl
 rw [z9] at e9
 generalize (Ck.save y (tblT [])).1 = y2 at r8 s2 hl2
 have m2 : Mid y2 := hl2.mono (by omega) (by omega)
 refine ⟨fun h => absurd e9 h, fun _ v35 => ⟨⟨y2, r8, m2.small⟩, fun l36 hr => ?_⟩⟩
 have rr : RepL l36 (Dk.restart y2 []) := hr y2 r8 m2.small
 have m3 : Mid (Dk.restart y2 []) := (lim_restart hl2 []).mono (by omega) (by omega)
 obtain ⟨p1, p2, L, hL, hM, p3⟩ := load_form (n := n7) rr m3.small (s2.restart []) rfl fun o ho => one_of Ck.good_nil ho
 refine ⟨⟨p1, fun b i h _ => absurd h (p2 b i)⟩, p1, fun n37 v38 l39 b40 h _ => ⟨trivial, fun b41 h41 => ⟨fun _ => ⟨fun _ => ⟨trivial, fun i42 h42 _ => ?_⟩, fun hb => ?_⟩, fun hb => ?_⟩⟩⟩
 all_goals obtain ⟨q1, q2⟩ := p3 n37 v38 l39 b40 h
 ·have hT : tblT L = tblT [] := Option.some.inj hM
  have a := hL.parse
  rw [hT, Ck.good_nil.parse] at a
  have e : L.map normE = [] := (Prod.mk.inj a).2.symm
  have h42 : i42 = l39.length := h42
  rw [q1, e] at h42
  rw [h42]; rfl
 ·rw [q2] at hb; cases hb
 ·have h41 : b41 = true := h41
  rw [h41] at hb; cases hb
theorem LCkptCrash.pure : LCkptCrash.Pure := by
 intro v0 l1 v2 l3 i4 v5 z6 _ _ _ _ _
 refine ⟨trivial, fun n7 l8 r8 => ⟨trivial, fun n9 v10 v11 l12 l13 hg1 k12 _ => ⟨trivial, fun n14 v15 v16 l17 l18 hg2 k17 _ => ?_⟩⟩⟩
 have r8 : RepL l8 (Dk.new 100000) := r8
 obtain ⟨g1, x1, _⟩ := good_grow k12 hg1
 obtain ⟨g2, x2, _⟩ := good_grow k17 hg2
 have b1 := g1.bytes
 have b2 := g2.bytes
 have m0 : Mid (Dk.new 100000) := Ck.midOf (lim_new 100000)
 refine ⟨⟨⟨_, r8, m0⟩, g1.ok⟩, fun l19 i20 hsv _ => ?_⟩
 obtain ⟨r19, e20⟩ := hsv _ r8 m0
 have r19 : RepL l19 (Ck.save (Dk.new 100000) (tblT l12)).1 := r19
 have e20 : i20 = (Ck.save (Dk.new 100000) (tblT l12)).2 := e20
 have z20 := (Ck.save_after (Ck.live_new 100000) (Ck.safe_new 100000) (tblT l12)).2 rfl (by
  have : tot (Dk.new 100000) = 0 := rfl
  rw [this]
  show ((0 : Nat) : Int) + _ ≤ 100000
  omega)
 obtain ⟨_, s2, _⟩ := (Ck.safe_new 100000).save (tblT l12)
 have s2 := s2 z20
 have hl := Ck.lim_go (t := tblT l12) (lim_new 100000)
 have hr0 := Ck.save_room (Dk.new 100000) (tblT l12)
 rw [z20] at e20
 generalize (Ck.save (Dk.new 100000) (tblT l12)).1 = y at r19 s2 hl hr0
 have my : Mid y := hl.mono (by omega) (by omega)
 refine ⟨fun h => absurd e20 h, fun _ => ⟨⟨y, r19, my.small⟩, fun l21 hc => ?_⟩⟩
 have rc : RepL l21 (Ck.crash1 y (max i4 (-1))) := hc y r19 my.small
 have hlc : Lim (0 + 6) (0 + (tblT l12).length) (Ck.crash1 y (max i4 (-1))) := Ck.limCrash hl _
 have sc : Ck.Safe (Ck.crash1 y (max i4 (-1))) (fun o => o = some (tblT l12)) := s2.core (Ck.coreCrash y _) hlc.inv
 have hrc : (Ck.crash1 y (max i4 (-1))).room = 100000 := hr0
 generalize Ck.crash1 y (max i4 (-1)) = yc at rc hlc sc hrc
 have mc : Mid yc := hlc.mono (by omega) (by omega)
 refine ⟨⟨⟨yc, rc, mc⟩, g2.ok⟩, fun l22 i23 hsv2 _ => ?_⟩
 obtain ⟨r22, e23⟩ := hsv2 yc rc mc
 have r22 : RepL l22 (Ck.save yc (tblT l17)).1 := r22
 have e23 : i23 = (Ck.save yc (tblT l17)).2 := e23
 obtain ⟨u1, u2, _⟩ := sc.save (tblT l17)
 rw [← e23] at u2
 have hl2 := Ck.lim_go (t := tblT l17) hlc
 have hr2 := Ck.save_room yc (tblT l17)
 rw [hrc] at hr2
 generalize (Ck.save yc (tblT l17)).1 = y2 at r22 u1 u2 hl2 hr2
 have m2 : Mid y2 := hl2.mono (by omega) (by omega)
 refine ⟨⟨y2, r22, m2.small⟩, fun l24 hrs => ?_⟩
 have rr : RepL l24 (Dk.restart y2 z6) := hrs y2 r22 m2.small
 have hl3 := lim_restart hl2 z6
 have m3 : Mid (Dk.restart y2 z6) := hl3.mono (by omega) (by omega)
 have tail : ∀ (n32 : Nat) (v31 : Value), cSave.sig.pre [.N n7, .L l24, .N n32, .V v31, .L []] ∧ LCkptCrash.K0 n7 l24 n32 v31 v0 l1 v2 l3 i4 v5 z6 := fun n32 v31 =>
  LCkptCrash.tail rr (u1.restart z6) (Ck.live_restart y2 z6) rfl hr2 hl3 (by omega) (by omega)
 obtain ⟨p1, p2, L, hL, hM, p3⟩ := load_form (n := n7) rr m3.small (u1.restart z6) rfl fun o ho => by
  rcases ho with ho | ho
  ·exact one_of g1 ho
  ·exact one_of g2 ho
 -- where all went well, it is the new one
 have hnew : i23 = 0 → ∀ (n25 : Nat) (v26 : Value) (l27 : List D) (b28 : Bool), cLoad.sig.post2 [.N n7, .L l24, .N n25, .V v26, .L l27, .B b28] → l27 = l17.map normE := by
  intro h0 n25 v26 l27 b28 h
  obtain ⟨_, _, L2, hL2, hM2, q⟩ := load_form (n := n7) rr m3.small ((u2 h0).restart z6) rfl fun o ho => one_of g2 ho
  have hT : tblT L2 = tblT l17 := Option.some.inj hM2
  have a := hL2.parse
  rw [hT, g2.parse] at a
  rw [(q n25 v26 l27 b28 h).1]
  exact (Prod.mk.inj a).2.symm
 have eq1 : ∀ {l27 : List D}, l27 = L.map normE → tblT L = tblT l12 → l13 = refs l27 := by
  intro l27 q hT
  have a := hL.parse
  rw [hT, g1.parse] at a
  rw [q, x1, ← (Prod.mk.inj a).2, refs_norm]
 have eq2 : ∀ {l27 : List D}, l27 = L.map normE → tblT L = tblT l17 → l18 = refs l27 := by
  intro l27 q hT
  have a := hL.parse
  rw [hT, g2.parse] at a
  rw [q, x2, ← (Prod.mk.inj a).2, refs_norm]
 refine ⟨⟨p1, fun b25 i26 h _ => absurd h (p2 b25 i26)⟩, p1, fun n25 v26 l27 b28 h _ => ?_⟩
 obtain ⟨q1, q2⟩ := p3 n25 v26 l27 b28 h
 have hlen : l27.length ≤ 1000000 := by rw [q1, List.length_map]; have := hL.len; omega
 refine ⟨fun hb => absurd (hb.symm.trans q2) (by decide), fun _ => ⟨hlen, fun i29 h29 _ => ⟨fun hne => ⟨hlen, fun i30 h30 _ => ⟨fun h30n => ?_, fun _ => ⟨fun h0 => ⟨hlen, fun i31 h31 _ => ⟨fun h31n => ?_, fun _ v32 n33 => tail n33 v32⟩⟩, fun _ v31 n32 => tail n32 v31⟩⟩⟩,
  fun _ => ⟨fun h0 => ⟨hlen, fun i30 h30 _ => ⟨fun h30n => ?_, fun _ v31 n32 => tail n32 v31⟩⟩, fun _ v30 n31 => tail n31 v30⟩⟩⟩⟩
 ·have h29 : l13 = refs l27 → i29 = 0 := h29
  have h30 : l18 = refs l27 → i30 = 0 := h30
  rcases hM with hM | hM
  ·exact absurd (h29 (eq1 q1 (Option.some.inj hM))) hne
  ·exact absurd (h30 (eq2 q1 (Option.some.inj hM))) h30n
 ·have h31 : l18 = refs l27 → i31 = 0 := h31
  exact absurd (h31 (by rw [hnew h0 n25 v26 l27 b28 h, x2, refs_norm])) h31n
 ·have h30 : l18 = refs l27 → i30 = 0 := h30
  exact absurd (h30 (by rw [hnew h0 n25 v26 l27 b28 h, x2, refs_norm])) h30n
end Go.Vc
namespace Go.Vc
open Dk (Ds)
namespace Ck
def armed (x : Ds) (r f : Int) : Ds := { x with room := r, fail := f }
theorem Safe.armed {x : Ds} {M : Option Tx → Prop} (h : Safe x M) (r f : Int) : Safe (armed x r f) M :=
 h.like (h.inv.same rfl rfl rfl rfl) rfl rfl rfl fun _ _ _ _ => rfl
theorem lim_armed {n b : Nat} {x : Ds} (h : Lim n b x) {r : Int} (hr : 0 ≤ r) (f : Int) : Lim n b (armed x r f) :=
 ⟨h.inv.same rfl rfl rfl rfl, h.files, h.hist, h.pend, h.calls0, h.calls, hr, h.bytes⟩
theorem one_name {l : List (Tx × Nat)} (hs : Dk.Sorted l) (ha : ∀ p ∈ l, p.1 = old) (hne : l ≠ []) : l.length = 1 := by
 match l, hs, ha, hne with
 | [_], _, _, _ => rfl
 | a :: b :: r, hs, ha, _ =>
  exfalso
  have h1 := (List.pairwise_cons.1 hs).1 b (by simp)
  rw [ha a (by simp), ha b (by simp)] at h1
  exact Dk.lt_irrefl _ h1
theorem Safe.one {x : Ds} {t : Tx} (h : Safe x (fun o => o = some t)) (hn : ∀ i, (new, i) ∉ x.names) : x.names.length = 1 := by
 refine one_name h.inv.sn (fun p hp => ?_) fun e => ?_
 ·rcases h.now.1 p hp with h1 | h1
  ·exact h1
  ·exact absurd (show (new, p.2) ∈ x.names from by rw [← h1]; exact hp) (hn p.2)
 ·have := h.now.2.2 fun i hi => by rw [e] at hi; simp at hi
  cases this
end Ck
theorem LCkptFull.tail {n6 n13 : Nat} {l22 l16 l17 l1 l3 : List D} {v14 v0 v2 v15 : Value} {i4 i5 : Int} {y : Ds} {M : Option Tx → Prop} (ry : RepL l22 y) (hs : Ck.Safe y M) (live : Ck.Live y) {n b : Nat} (hl : Lim n b y) (hn : n ≤ 1000) (hb : b ≤ 80000)
  (g2 : Ck.Good l16) (x2 : l17 = refs l16) :
  qRoom.sig.pre [.N n6, .L l22, .I 100000] ∧ LCkptFull.K0 n6 l22 n13 v14 l16 v0 l1 v2 l3 i4 i5 v15 l17 := by
 have my : Mid y := hl.mono (by omega) (by omega)
 have b2 := g2.bytes
 refine ⟨⟨y, ry, my.small⟩, fun l30 hr => ?_⟩
 have r30 : RepL l30 (Ck.armed y 100000 y.fail) := hr y ry my.small
 have hl1 : Lim n b (Ck.armed y 100000 y.fail) := Ck.lim_armed hl (by omega) _
 have m1 : Mid (Ck.armed y 100000 y.fail) := hl1.mono (by omega) (by omega)
 refine ⟨⟨_, r30, m1.small⟩, fun l31 hf => ?_⟩
 have r31 : RepL l31 (Ck.armed y 100000 (-1)) := hf _ r30 m1.small
 have hl2 : Lim n b (Ck.armed y 100000 (-1)) := Ck.lim_armed hl (by omega) _
 have m2 : Mid (Ck.armed y 100000 (-1)) := hl2.mono (by omega) (by omega)
 refine ⟨⟨⟨_, r31, m2⟩, g2.ok⟩, fun l32 i33 hsv _ => ?_⟩
 obtain ⟨r32, e33⟩ := hsv _ r31 m2
 have r32 : RepL l32 (Ck.save (Ck.armed y 100000 (-1)) (tblT l16)).1 := r32
 have e33 : i33 = (Ck.save (Ck.armed y 100000 (-1)) (tblT l16)).2 := e33
 have lv : Ck.Live (Ck.armed y 100000 (-1)) := ⟨live.dead, live.crash⟩
 obtain ⟨af, az⟩ := Ck.save_after lv (hs.armed 100000 (-1)) (tblT l16)
 have z33 := az rfl (by
  have := hl2.bytes
  show _ ≤ (100000 : Int)
  omega)
 have fl := af.calm rfl
 have al := af.live
 obtain ⟨_, s2, _⟩ := (hs.armed 100000 (-1)).save (tblT l16)
 have s2 := s2 z33
 have hl3 := Ck.lim_go (t := tblT l16) hl2
 rw [z33] at e33
 generalize (Ck.save (Ck.armed y 100000 (-1)) (tblT l16)).1 = y3 at r32 s2 hl3 fl al
 have m3 : Mid y3 := hl3.mono (by omega) (by omega)
 refine ⟨fun h => absurd e33 h, fun _ => ⟨⟨y3, r32, m3.small⟩, fun l34 i35 hcl _ => ?_⟩⟩
 obtain ⟨r34, e35⟩ := hcl y3 r32 m3.small
 have r34 : RepL l34 (Ck.clean y3).1 := r34
 have e35 : i35 = (Ck.clean y3).2 := e35
 obtain ⟨ca, cz⟩ := Ck.clean_after al s2.inv
 have cz := cz fl
 have cl := ca.live
 obtain ⟨c1, c2⟩ := s2.clean
 have c2 := c2 cz
 have hl4 := Ck.lim_clean hl3
 rw [cz] at e35
 generalize (Ck.clean y3).1 = y4 at r34 c1 c2 hl4 cl
 have m4 : Mid y4 := hl4.mono (by omega) (by omega)
 obtain ⟨p1, p2, L, hL, hM, p3⟩ := load_form (n := n6) r34 m4.small c1 cl.dead fun o ho => one_of g2 ho
 refine ⟨fun h => absurd e35 h, fun _ => ⟨⟨p1, fun b36 i37 h _ => absurd h (p2 b36 i37)⟩, p1, fun n36 v37 l38 b39 h _ => ⟨⟨y4, r34, m4.small⟩, fun v40 l41 i42 hnm _ _ => ⟨trivial, fun b43 h43 => ⟨fun _ => ⟨fun _ => ⟨?_, fun i44 h44 _ => ⟨fun _ => ?_, fun hne => ?_⟩⟩, fun hne => ?_⟩, fun hb => ?_⟩⟩⟩⟩⟩
 all_goals
  obtain ⟨q1, _⟩ := p3 n36 v37 l38 b39 h
  obtain ⟨f1, f2⟩ := hnm y4 r34 m4.small
  have f1 : i42 = if y4.dead then 9 else 0 := f1
  have f2 : l41 = if y4.dead then [] else y4.names.map fun p => .S (bx p.1) := f2
  rw [cl.dead] at f1 f2
  have hT : tblT L = tblT l16 := Option.some.inj hM
  have hLe : l38 = l16.map normE := by
   have a := hL.parse
   rw [hT, g2.parse] at a
   rw [q1]
   exact (Prod.mk.inj a).2.symm
 ·show l38.length ≤ 1000000
  rw [hLe, List.length_map]; have := g2.len; omega
 ·have h1 : l41.length = 1 := by
   have f2 : l41 = y4.names.map fun p => .S (bx p.1) := f2
   rw [f2, List.length_map]; exact c1.one c2
  rw [h1]; rfl
 ·have h44 : l17 = refs l38 → i44 = 0 := h44
  exact absurd (h44 (by rw [hLe, x2, refs_norm])) hne
 ·exact absurd f1 hne
 ·have h43 : b43 = true := h43
  rw [h43] at hb; cases hb
theorem LCkptFull.pure : LCkptFull.Pure := by
 intro v0 l1 v2 l3 i4 i5 _ _ _ _ _
 refine ⟨trivial, fun n6 l7 r7 => ⟨trivial, fun n8 v9 v10 l11 l12 hg1 k11 _ => ⟨trivial, fun n13 v14 v15 l16 l17 hg2 k16 _ => ?_⟩⟩⟩
 have r7 : RepL l7 (Dk.new 100000) := r7
 obtain ⟨g1, x1, _⟩ := good_grow k11 hg1
 obtain ⟨g2, x2, _⟩ := good_grow k16 hg2
 have b1 := g1.bytes
 have b2 := g2.bytes
 have m0 : Mid (Dk.new 100000) := Ck.midOf (lim_new 100000)
 refine ⟨⟨⟨_, r7, m0⟩, g1.ok⟩, fun l18 i19 hsv _ => ?_⟩
 obtain ⟨r18, e19⟩ := hsv _ r7 m0
 have r18 : RepL l18 (Ck.save (Dk.new 100000) (tblT l11)).1 := r18
 have e19 : i19 = (Ck.save (Dk.new 100000) (tblT l11)).2 := e19
 obtain ⟨af, az⟩ := Ck.save_after (Ck.live_new 100000) (Ck.safe_new 100000) (tblT l11)
 have z19 := az rfl (by
  have : tot (Dk.new 100000) = 0 := rfl
  rw [this]
  show ((0 : Nat) : Int) + _ ≤ 100000
  omega)
 have al := af.live
 obtain ⟨_, s2, _⟩ := (Ck.safe_new 100000).save (tblT l11)
 have s2 := s2 z19
 have hl := Ck.lim_go (t := tblT l11) (lim_new 100000)
 rw [z19] at e19
 generalize (Ck.save (Dk.new 100000) (tblT l11)).1 = y at r18 s2 hl al
 have my : Mid y := hl.mono (by omega) (by omega)
 refine ⟨fun h => absurd e19 h, fun _ => ⟨⟨y, r18, my.small⟩, fun l20 hr => ?_⟩⟩
 have r20 : RepL l20 (Ck.armed y (max i4 0) y.fail) := hr y r18 my.small
 have hl1 := Ck.lim_armed hl (show 0 ≤ max i4 0 by omega) y.fail
 have m1 : Mid (Ck.armed y (max i4 0) y.fail) := hl1.mono (by omega) (by omega)
 refine ⟨⟨_, r20, m1.small⟩, fun l21 hf => ?_⟩
 have r21 : RepL l21 (Ck.armed y (max i4 0) (max i5 (-1))) := hf _ r20 m1.small
 have hl2 := Ck.lim_armed hl (show 0 ≤ max i4 0 by omega) (max i5 (-1))
 have m2 : Mid (Ck.armed y (max i4 0) (max i5 (-1))) := hl2.mono (by omega) (by omega)
 have sa := s2.armed (max i4 0) (max i5 (-1))
 have lv : Ck.Live (Ck.armed y (max i4 0) (max i5 (-1))) := ⟨al.dead, al.crash⟩
 generalize Ck.armed y (max i4 0) (max i5 (-1)) = ya at r21 hl2 m2 sa lv
 refine ⟨⟨⟨ya, r21, m2⟩, g2.ok⟩, fun l22 i23 hsv2 _ => ?_⟩
 obtain ⟨r22, e23⟩ := hsv2 ya r21 m2
 have r22 : RepL l22 (Ck.save ya (tblT l16)).1 := r22
 have e23 : i23 = (Ck.save ya (tblT l16)).2 := e23
 obtain ⟨af2, _⟩ := Ck.save_after lv sa (tblT l16)
 obtain ⟨u1, _, _⟩ := sa.save (tblT l16)
 have hl3 := Ck.lim_go (t := tblT l16) hl2
 have al2 := af2.live
 have hcode := af2.code
 rw [← e23] at hcode
 generalize (Ck.save ya (tblT l16)).1 = y2 at r22 u1 hl3 al2
 have m3 : Mid y2 := hl3.mono (by omega) (by omega)
 have tail : qRoom.sig.pre [.N n6, .L l22, .I 100000] ∧ LCkptFull.K0 n6 l22 n13 v14 l16 v0 l1 v2 l3 i4 i5 v15 l17 := LCkptFull.tail r22 u1 al2 hl3 (by omega) (by omega) g2 x2
 obtain ⟨p1, p2, L, hL, hM, p3⟩ := load_form (n := n6) r22 m3.small u1 al2.dead fun o ho => by
  rcases ho with ho | ho
  ·exact one_of g1 ho
  ·exact one_of g2 ho
 refine ⟨⟨p1, fun b24 i25 h _ => absurd h (p2 b24 i25)⟩, p1, fun n24 v25 l26 b27 h _ => ?_⟩
 obtain ⟨q1, q2⟩ := p3 n24 v25 l26 b27 h
 have hlen : l26.length ≤ 1000000 := by rw [q1, List.length_map]; have := hL.len; omega
 have codes : ∀ (A : Prop), i23 ≠ 0 → i23 ≠ 7 → i23 ≠ 8 → A := fun A a b c => by omega
 refine ⟨fun hb => absurd (hb.symm.trans q2) (by decide), fun _ => ⟨hlen, fun i28 h28 _ => ⟨fun hne => ⟨hlen, fun i29 h29 _ => ⟨fun h29n => ?_, fun _ => ⟨fun a => ⟨fun b => ⟨fun c => codes _ a b c, fun _ => tail⟩, fun _ => tail⟩, fun _ => tail⟩⟩⟩,
  fun _ => ⟨fun a => ⟨fun b => ⟨fun c => codes _ a b c, fun _ => tail⟩, fun _ => tail⟩, fun _ => tail⟩⟩⟩⟩
 have h28 : l12 = refs l26 → i28 = 0 := h28
 have h29 : l17 = refs l26 → i29 = 0 := h29
 have a := hL.parse
 rcases hM with hM | hM
 ·have hT : tblT L = tblT l11 := Option.some.inj hM
  rw [hT, g1.parse] at a
  exact absurd (h28 (by rw [q1, x1, ← (Prod.mk.inj a).2, refs_norm])) hne
 ·have hT : tblT L = tblT l16 := Option.some.inj hM
  rw [hT, g2.parse] at a
  exact absurd (h29 (by rw [q1, x2, ← (Prod.mk.inj a).2, refs_norm])) h29n
end Go.Vc