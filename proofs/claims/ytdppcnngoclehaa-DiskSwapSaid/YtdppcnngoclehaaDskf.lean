/-
  The disk: how much there is, at the most, behind so many calls.
  The disk: what a call may make of it.
  The disk's laws: contracts, with the disk as one word.
  Printed by wip/vct.py: the conditions of functions, by their contracts.
  DiskKeeps: plain.
  DiskSwap: plain.
-/
import Derived.Test.YtdppcnngoclehaaDskb
import Derived.Test.YtdppcnngoclehaaDske
import Derived.Test.YtdppcnngoclehaaDskd
import Derived.KernelRfl
set_option linter.unusedVariables false
set_option linter.unusedSimpArgs false
namespace Go.Vc
open Dk (Ds Fi Cg)
/-- No state of names that a restart may bring has more of them than there are files. -/
def Hist (x : Ds) : Prop := ∀ k, ((x.pend.take k).foldl Dk.apply x.safe).length ≤ x.files.length
/-- At most so many of everything, and so many bytes. -/
structure Lim (n b : Nat) (x : Ds) : Prop where
  inv : Dk.Inv x
  files : x.files.length ≤ n
  hist : Hist x
  pend : x.pend.length ≤ n
  calls0 : 0 ≤ x.calls
  calls : x.calls ≤ n
  room : 0 ≤ x.room
  bytes : tot x ≤ b

theorem Hist.safe {x : Ds} (h : Hist x) : x.safe.length ≤ x.files.length := h 0
theorem Hist.names {x : Ds} (h : Hist x) (hi : Dk.Inv x) : x.names.length ≤ x.files.length := by
  have := h x.pend.length
  rw [List.take_length, ← hi.names] at this
  exact this
theorem Hist.same {x y : Ds} (h : Hist x) (e1 : y.files.length = x.files.length) (e2 : y.safe = x.safe) (e3 : y.pend = x.pend) : Hist y := by
  intro k; rw [e2, e3, e1]; exact h k
theorem Lim.small {n b : Nat} {x : Ds} (h : Lim n b x) (hn : n ≤ 1000000) (hb : b ≤ 100000000000) : Small x :=
  ⟨h.inv, by have := h.files; omega, by have := h.hist.safe; have := h.files; have := h.pend; omega, ⟨h.calls0, by have := h.calls; omega⟩, h.room, by have := h.bytes; omega⟩
theorem Lim.mono {n b m c : Nat} {x : Ds} (h : Lim n b x) (hn : n ≤ m) (hb : b ≤ c) : Lim m c x := by
  obtain ⟨a1, a2, a3, a5, a6, a7, a8, a9⟩ := h
  exact ⟨a1, by omega, a3, by omega, a6, by omega, a8, by omega⟩
theorem lim_new (room : Int) : Lim 0 0 (Dk.new room) := ⟨Dk.inv_new room, by simp [Dk.new], by intro k; simp [Dk.new], by simp [Dk.new], by simp [Dk.new], by simp [Dk.new], by simp only [Dk.new]; omega, by simp [Dk.new, tot]⟩
theorem begin_calls (d : Ds) : (Dk.begin d).1.calls = d.calls ∨ (Dk.begin d).1.calls = d.calls + 1 := by
  unfold Dk.begin
  split
  · exact .inl rfl
  · split
    · exact .inl rfl
    · dsimp only
      split <;> split <;> first | exact .inl rfl | (split <;> exact .inr rfl)
/-- What is there may be less. -/
theorem apply_less {l : List (Tx × Nat)} {c : Cg} (h : ∃ p ∈ l, p.1 = c.gone) : (Dk.apply l c).length ≤ l.length := by
  obtain ⟨p, hp, hg⟩ := h
  have h1 : (l.filter fun q => decide (q.1 ≠ c.gone ∧ q.1 ≠ c.name)).length < l.length := by
    refine Nat.lt_of_le_of_ne (List.length_filter_le _ _) fun he => ?_
    have := List.length_filter_eq_length_iff.1 he p hp
    simp [hg] at this
  unfold Dk.apply
  dsimp only
  split
  · omega
  · rw [(Dk.ins_perm _ _).length_eq, List.length_cons]; omega
theorem take_snoc {α : Type} (l : List α) (a : α) (k : Nat) : (l ++ [a]).take k = l.take k ∨ (l ++ [a]).take k = l ++ [a] := by
  by_cases h : k ≤ l.length
  · exact .inl (by rw [List.take_append_of_le_length h])
  · exact .inr (List.take_of_length_le (by simp; omega))
theorem Hist.turn {x : Ds} {c : Cg} (h : Hist x) (hi : Dk.Inv x) (hl : (Dk.apply x.names c).length ≤ x.files.length) : Hist (Dk.turn x c) := by
  intro k
  rcases take_snoc x.pend c k with e | e
  · show (((x.pend ++ [c]).take k).foldl Dk.apply x.safe).length ≤ x.files.length
    rw [e]; exact h k
  · show (((x.pend ++ [c]).take k).foldl Dk.apply x.safe).length ≤ x.files.length
    rw [e, List.foldl_append, ← hi.names]; exact hl
theorem tot_files {x y : Ds} (h : x.files = y.files) : tot x = tot y := by unfold tot; rw [h]
theorem Lim.begin {n b : Nat} {x : Ds} (h : Lim n b x) : Lim (n + 1) b (Dk.begin x).1 := by
  obtain ⟨e1, e2, e3, e4, e5⟩ := Dk.begin_same x
  obtain ⟨a1, a2, a3, a5, a6, a7, a8, a9⟩ := h
  have hc := begin_calls x
  exact ⟨a1.begin, by rw [e1]; omega, a3.same (by rw [e1]) e3 e4, by rw [e4]; omega, by omega, by omega, by rw [e5]; exact a8, by rw [tot_files e1]; exact a9⟩
theorem Lim.begin_ {n b : Nat} {x : Ds} (h : Lim n b x) : (Dk.begin x).1.files.length ≤ n ∧ (Dk.begin x).1.pend.length ≤ n := by
  obtain ⟨e1, e2, e3, e4, e5⟩ := Dk.begin_same x
  exact ⟨by rw [e1]; exact h.files, by rw [e4]; exact h.pend⟩
theorem tot_set {x : Ds} {i : Nat} {f : Fi} (hi : i < x.files.length) : tot (Dk.set x i f) + (Dk.fileAt x i).data.length = tot x + f.data.length := by
  unfold tot Dk.set Dk.fileAt
  dsimp only
  generalize x.files = l at hi
  induction l generalizing i with
  | nil => simp at hi
  | cons g l ih =>
    cases i with
    | zero => simp; omega
    | succ i =>
      have := ih (i := i) (by simpa using hi)
      simp only [List.set_cons_succ, List.map_cons, List.sum_cons, List.getD_cons_succ]
      omega
theorem lim_create {n b : Nat} {x : Ds} (h : Lim n b x) (nm : Tx) : Lim (n + 1) b (Dk.create x nm).1 := by
  have hi := Dk.inv_create h.inv nm
  unfold Dk.create at hi ⊢
  split
  · exact h.mono (by omega) (Nat.le_refl _)
  · split
    · exact h.mono (by omega) (Nat.le_refl _)
    · split
      · exact h.mono (by omega) (Nat.le_refl _)
      · rename_i c1 c2 c3
        rw [if_neg c1, if_neg c2, if_neg c3] at hi
        have hb := h.begin
        have hb' := h.begin_
        generalize Dk.begin x = y at hi hb hb' ⊢
        obtain ⟨d', stops, e⟩ := y
        dsimp only at hi hb hb' ⊢
        split at hi
        · rename_i c4; rw [if_pos c4]; exact hb
        · rename_i c4
          rw [if_neg c4]
          have hm : Hist ({ d' with files := d'.files ++ [⟨[], 0⟩] } : Ds) := fun k => Nat.le_trans (hb.hist k) (by simp)
          refine ⟨hi, ?_, hm.turn hb.inv.more ?_, ?_, hb.calls0, hb.calls, hb.room, ?_⟩
          · simp only [Dk.turn, List.length_append, List.length_cons, List.length_nil]; omega
          · have h1 := Dk.apply_len d'.names ⟨[], nm, d'.files.length⟩
            have h2 := hb.hist.names hb.inv
            simp only [List.length_append, List.length_cons, List.length_nil]
            omega
          · simp only [Dk.turn, List.length_append, List.length_cons, List.length_nil]; omega
          · have := hb.bytes
            simp only [tot, Dk.turn, List.map_append, List.sum_append, List.map_cons, List.map_nil, List.sum_cons, List.sum_nil, List.length_nil] at this ⊢
            omega
theorem lim_append {n b : Nat} {x : Ds} (h : Lim n b x) (nm s : Tx) : Lim (n + 1) (b + s.length) (Dk.append x nm s).1 := by
  have hi := Dk.inv_append h.inv nm s
  unfold Dk.append at hi ⊢
  split
  · exact h.mono (by omega) (by omega)
  · rename_i c1
    rw [if_neg c1] at hi
    split
    · exact h.mono (by omega) (by omega)
    · rename_i i hf
      rw [hf] at hi
      dsimp only at hi
      split
      · exact h.mono (by omega) (by omega)
      · rename_i c2
        rw [if_neg c2] at hi
        have hb := h.begin
        have hb' := h.begin_
        have hs := Dk.begin_same x
        have hl := h.inv.inn _ (Dk.find_mem hf)
        generalize Dk.begin x = y at hi hb hb' hs ⊢
        obtain ⟨d', stops, e⟩ := y
        dsimp only at hi hb hb' hs ⊢
        split at hi
        · rename_i c3; rw [if_pos c3]; exact hb.mono (Nat.le_refl _) (by omega)
        · rename_i c3
          rw [if_neg c3]
          refine ⟨hi, ?_, hb.hist.same (by simp only [Dk.set, List.length_set]) rfl rfl, hb.pend, hb.calls0, hb.calls, hb.room, ?_⟩
          · simp only [Dk.set, List.length_set]; exact hb.files
          · have := tot_set (x := d') (i := i) (f := ⟨(Dk.fileAt d' i).data ++ s, (Dk.fileAt d' i).safe⟩) (by rw [hs.1]; exact hl)
            have h9 := hb.bytes
            simp only [List.length_append] at this
            dsimp only
            omega
theorem lim_sync {n b : Nat} {x : Ds} (h : Lim n b x) (nm : Tx) : Lim (n + 1) b (Dk.sync x nm).1 := by
  have hi := Dk.inv_sync h.inv nm
  unfold Dk.sync at hi ⊢
  split
  · exact h.mono (by omega) (by omega)
  · rename_i c1
    rw [if_neg c1] at hi
    split
    · exact h.mono (by omega) (by omega)
    · rename_i i hf
      rw [hf] at hi
      dsimp only at hi
      have hb := h.begin
      have hs := Dk.begin_same x
      have hl := h.inv.inn _ (Dk.find_mem hf)
      generalize Dk.begin x = y at hi hb hs ⊢
      obtain ⟨d', stops, e⟩ := y
      dsimp only at hi hb hs ⊢
      split at hi
      · rename_i c3; rw [if_pos c3]; exact hb
      · rename_i c3
        rw [if_neg c3]
        refine ⟨hi, ?_, hb.hist.same (by simp only [Dk.set, List.length_set]) rfl rfl, hb.pend, hb.calls0, hb.calls, hb.room, ?_⟩
        · simp only [Dk.set, List.length_set]; exact hb.files
        · have := tot_set (x := d') (i := i) (f := ⟨(Dk.fileAt d' i).data, (Dk.fileAt d' i).data.length⟩) (by rw [hs.1]; exact hl)
          have h9 := hb.bytes
          dsimp only at this ⊢
          omega
theorem lim_syncNames {n b : Nat} {x : Ds} (h : Lim n b x) : Lim (n + 1) b (Dk.syncNames x).1 := by
  have hi := Dk.inv_syncNames h.inv
  unfold Dk.syncNames at hi ⊢
  have hb := h.begin
  generalize Dk.begin x = y at hi hb ⊢
  obtain ⟨d', stops, e⟩ := y
  dsimp only at hi hb ⊢
  split at hi
  · rename_i c3; rw [if_pos c3]; exact hb
  · rename_i c3
    rw [if_neg c3]
    exact ⟨hi, hb.files, fun k => by rw [List.take_nil]; exact hb.hist.names hb.inv, Nat.zero_le _, hb.calls0, hb.calls, hb.room, hb.bytes⟩
theorem lim_turn {n b : Nat} {x : Ds} {c : Cg} (hi : Dk.Inv (Dk.turn x c)) (hb : Lim (n + 1) b x) (hb' : x.files.length ≤ n ∧ x.pend.length ≤ n) (hg : ∃ p ∈ x.names, p.1 = c.gone) : Lim (n + 1) b (Dk.turn x c) := by
  refine ⟨hi, hb.files, hb.hist.turn hb.inv (Nat.le_trans (apply_less hg) (hb.hist.names hb.inv)), ?_, hb.calls0, hb.calls, hb.room, hb.bytes⟩
  simp only [Dk.turn, List.length_append, List.length_cons, List.length_nil]; omega
theorem lim_rename {n b : Nat} {x : Ds} (h : Lim n b x) (fr to : Tx) : Lim (n + 1) b (Dk.rename x fr to).1 := by
  have hi := Dk.inv_rename h.inv fr to
  unfold Dk.rename at hi ⊢
  split
  · exact h.mono (by omega) (by omega)
  · rename_i c1
    rw [if_neg c1] at hi
    split
    · exact h.mono (by omega) (by omega)
    · rename_i i hf
      rw [hf] at hi
      dsimp only at hi
      split
      · exact h.mono (by omega) (by omega)
      · rename_i c2
        rw [if_neg c2] at hi
        have hb := h.begin
        have hb' := h.begin_
        have hs := Dk.begin_same x
        generalize Dk.begin x = y at hi hb hb' hs ⊢
        obtain ⟨d', stops, e⟩ := y
        dsimp only at hi hb hb' hs ⊢
        split at hi
        · rename_i c3; rw [if_pos c3]; exact hb
        · rename_i c3
          rw [if_neg c3]
          exact lim_turn hi hb hb' ⟨_, by rw [hs.2.1]; exact Dk.find_mem hf, rfl⟩
theorem lim_remove {n b : Nat} {x : Ds} (h : Lim n b x) (nm : Tx) : Lim (n + 1) b (Dk.remove x nm).1 := by
  have hi := Dk.inv_remove h.inv nm
  unfold Dk.remove at hi ⊢
  split
  · exact h.mono (by omega) (by omega)
  · rename_i c1
    rw [if_neg c1] at hi
    split
    · exact h.mono (by omega) (by omega)
    · rename_i i hf
      rw [hf] at hi
      dsimp only at hi
      have hb := h.begin
      have hb' := h.begin_
      have hs := Dk.begin_same x
      generalize Dk.begin x = y at hi hb hb' hs ⊢
      obtain ⟨d', stops, e⟩ := y
      dsimp only at hi hb hb' hs ⊢
      split at hi
      · rename_i c3; rw [if_pos c3]; exact hb
      · rename_i c3
        rw [if_neg c3]
        exact lim_turn hi hb hb' ⟨_, by rw [hs.2.1]; exact Dk.find_mem hf, rfl⟩
theorem cut_tot (d : Ds) (ch : List Int) : ∀ (i k : Nat) (fs : List Fi), ((Dk.cut d ch i k fs).map fun f => f.data.length).sum ≤ (fs.map fun f => f.data.length).sum
  | _, _, [] => by simp [Dk.cut]
  | i, k, f :: fs => by
    unfold Dk.cut
    split
    · have := cut_tot d ch (i + 1) (k + 1) fs
      simp only [List.map_cons, List.sum_cons, List.length_take]
      omega
    · have := cut_tot d ch (i + 1) k fs
      simp only [List.map_cons, List.sum_cons]
      omega
theorem lim_restart {n b : Nat} {x : Ds} (h : Lim n b x) (ch : List Int) : Lim n b (Dk.restart x ch) := by
  obtain ⟨a1, a2, a3, a5, a6, a7, a8, a9⟩ := h
  refine ⟨Dk.inv_restart a1 ch, ?_, fun k => ?_, Nat.zero_le _, a6, a7, a8, ?_⟩
  · show (Dk.cut _ _ _ _ _).length ≤ _
    rw [Dk.cut_len]; exact a2
  · show ((([] : List Cg).take k).foldl Dk.apply _).length ≤ (Dk.cut _ _ _ _ _).length
    rw [Dk.cut_len, List.take_nil]; exact a3 _
  · exact Nat.le_trans (cut_tot _ _ _ _ _) a9

end Go.Vc
namespace Go.Vc
open Dk (Ds Fi Cg fileAt)
/-- Files, names and changes are the same. -/
structure Core (x y : Ds) : Prop where
  files : y.files = x.files
  names : y.names = x.names
  safe : y.safe = x.safe
  pend : y.pend = x.pend
  room : y.room = x.room
theorem Core.refl (x : Ds) : Core x x := ⟨rfl, rfl, rfl, rfl, rfl⟩
theorem core_begin (x : Ds) : Core x (Dk.begin x).1 := ⟨(Dk.begin_same x).1, (Dk.begin_same x).2.1, (Dk.begin_same x).2.2.1, (Dk.begin_same x).2.2.2.1, (Dk.begin_same x).2.2.2.2⟩
theorem Core.at {x y : Ds} (h : Core x y) (i : Nat) : fileAt y i = fileAt x i := by unfold fileAt; rw [h.files]

theorem create_sh (x : Ds) (nm : Tx) : Core x (Dk.create x nm).1 ∨ ∃ y, Core x y ∧ nm ≠ [] ∧ Dk.find x.names nm = none ∧ (Dk.create x nm).1 = Dk.turn { y with files := y.files ++ [⟨[], 0⟩] } ⟨[], nm, x.files.length⟩ := by
  unfold Dk.create
  split
  · exact .inl (.refl x)
  · split
    · exact .inl (.refl x)
    · rename_i h1
      split
      · exact .inl (.refl x)
      · rename_i h2
        have hc := core_begin x
        generalize Dk.begin x = z at hc ⊢
        obtain ⟨y, stops, e⟩ := z
        dsimp only at hc ⊢
        split
        · exact .inl hc
        · exact .inr ⟨y, hc, h1, by simpa using h2, by rw [hc.files]⟩
theorem append_sh (x : Ds) (nm s : Tx) : Core x (Dk.append x nm s).1 ∨ ∃ y i, Core x y ∧ Dk.find x.names nm = some i ∧ (Dk.append x nm s).1 = Dk.set y i ⟨(fileAt x i).data ++ s, (fileAt x i).safe⟩ := by
  unfold Dk.append
  split
  · exact .inl (.refl x)
  · split
    · exact .inl (.refl x)
    · rename_i i hf
      split
      · exact .inl (.refl x)
      · have hc := core_begin x
        generalize Dk.begin x = z at hc ⊢
        obtain ⟨y, stops, e⟩ := z
        dsimp only at hc ⊢
        split
        · exact .inl hc
        · exact .inr ⟨y, i, hc, hf, by rw [hc.at]⟩
theorem syncNames_sh (x : Ds) : Core x (Dk.syncNames x).1 ∨ ∃ y, Core x y ∧ (Dk.syncNames x).1 = { y with safe := x.names, pend := [] } := by
  unfold Dk.syncNames
  have hc := core_begin x
  generalize Dk.begin x = z at hc ⊢
  obtain ⟨y, stops, e⟩ := z
  dsimp only at hc ⊢
  split
  · exact .inl hc
  · exact .inr ⟨y, hc, by rw [hc.names]⟩
theorem rename_sh (x : Ds) (fr to : Tx) : Core x (Dk.rename x fr to).1 ∨ ∃ y i, Core x y ∧ Dk.find x.names fr = some i ∧ to ≠ [] ∧ to ≠ fr ∧ (Dk.rename x fr to).1 = Dk.turn y ⟨fr, to, i⟩ := by
  unfold Dk.rename
  split
  · exact .inl (.refl x)
  · split
    · exact .inl (.refl x)
    · rename_i i hf
      split
      · exact .inl (.refl x)
      · rename_i h1
        have hc := core_begin x
        generalize Dk.begin x = z at hc ⊢
        obtain ⟨y, stops, e⟩ := z
        dsimp only at hc ⊢
        split
        · exact .inl hc
        · exact .inr ⟨y, i, hc, hf, fun h => h1 (.inl h), fun h => h1 (.inr h), rfl⟩
theorem remove_sh (x : Ds) (nm : Tx) : Core x (Dk.remove x nm).1 ∨ ∃ y i, Core x y ∧ Dk.find x.names nm = some i ∧ (Dk.remove x nm).1 = Dk.turn y ⟨nm, [], 0⟩ := by
  unfold Dk.remove
  split
  · exact .inl (.refl x)
  · split
    · exact .inl (.refl x)
    · rename_i i hf
      have hc := core_begin x
      generalize Dk.begin x = z at hc ⊢
      obtain ⟨y, stops, e⟩ := z
      dsimp only at hc ⊢
      split
      · exact .inl hc
      · exact .inr ⟨y, i, hc, hf, rfl⟩

theorem find_sorted {n : Tx} {i : Nat} : ∀ {l : List (Tx × Nat)}, Dk.Sorted l → (n, i) ∈ l → Dk.find l n = some i
  | [], _, h => by cases h
  | p :: l, hs, h => by
    have hs' := List.pairwise_cons.1 hs
    unfold Dk.find
    rcases List.mem_cons.1 h with rfl | h
    · rw [if_pos rfl]
    · rw [if_neg (fun he => by have := hs'.1 _ h; rw [he] at this; exact Dk.lt_irrefl _ this)]
      exact find_sorted hs'.2 h

end Go.Vc
namespace Go.Vc
/-- An act: its kind, its number, two texts, a choice. -/
def actK : EK := [.int .i64, .int .i64, .str, .str, .sl [.int .i64]]
def actP (a b : Nat) : List Pt := [.lf (.int .i64 (.at 0)), .lf (.int .i64 (.at 1)), .lf (.str (.at a)), .lf (.str (.at b)), .lf (.sl (.at 4))]
def fFew.sig : Sig :=
  { args := [.one (.agg (actP 2 3))], heap := [.rsl (.at 4) [.int .i64] (.at 5)], srts := [.I, .I, .S, .S, .V, .Z], res := .one (.agg (actP 6 7)), heap' := [.rsl (.at 4) [.int .i64] (.at 5)], news := [.S, .S],
    pre := fun _ => True, post := fun l => (arg l 6).toS = (arg l 2).toS.extract 0 8 ∧ (arg l 7).toS = if (arg l 0).toI = 5 then ((arg l 3).toS.extract 0 100).extract 0 8 else (arg l 3).toS.extract 0 100 }
def LDiskKeeps.sig : Sig := sigF [.s, .l actK, .z .i64] [.b] (fun _ => True) yes
def mN : Tx := [109, 105, 110, 101]
def Gd (l : List (Tx × Nat)) : Prop := (mN, 0) ∈ l ∧ ∀ p ∈ l, p.2 = 0 → p.1 = mN
def gC (c : Dk.Cg) : Prop := c.gone ≠ mN ∧ c.name ≠ mN ∧ (c.name ≠ [] → c.file ≠ 0)
/-- The file is there, and safe; nothing else is its. -/
structure Mine (m : Tx) (x : Dk.Ds) : Prop where
  file : ∃ r, x.files = ⟨m, m.length⟩ :: r
  names : Gd x.names
  safe : Gd x.safe
  pend : ∀ c ∈ x.pend, gC c
def LDiskKeeps.I0 : List D → Prop := fun l => 0 ≤ (arg l 5).toI ∧ (arg l 5).toI ≤ 20 ∧ ∃ x, RepL (arg l 6).toL x ∧ Lim (4 + (arg l 5).toI.toNat) (100 + 100 * (arg l 5).toI.toNat) x ∧ Mine (tx ((arg l 0).toS.extract 0 100)) x
def LDiskKeeps.I0M : List D → Nat := fun l => (20 - (arg l 5).toI).toNat
end Go.Vc
namespace Go.Vc
set_option linter.unusedVariables false
set_option maxRecDepth 100000
def fFew.vc : VC :=
 (.all .I
 (.all .I
 (.all .S
 (.all .S
 (.all .V
 (.all .Z
 (.know (.has .i64 (.at 0))
 (.know (.has .i64 (.at 1))
 (.know (.ssz (.at 2))
 (.know (.ssz (.at 3))
 (.know (.allHas .i64 (.at 5))
 (.post 0 [(.at 0), (.at 1), (.at 2), (.at 3), (.at 4), (.at 5)]
 (.all .N
 (.all .V
 (.all .N
 (.pre 1 [(.at 2), (.int 8)]
 (.all .S
 (.post 1 [(.at 2), (.int 8), (.at 9)]
 (.know (.ssz (.at 9))
 (.pre 1 [(.at 3), (.int 100)]
 (.all .S
 (.post 1 [(.at 3), (.int 100), (.at 10)]
 (.know (.ssz (.at 10))
 (.and
 (.imp (.o2 .eq (.at 0) (.int 5)) true
 (.pre 1 [(.at 10), (.int 8)]
 (.all .S
 (.post 1 [(.at 10), (.int 8), (.at 11)]
 (.know (.ssz (.at 11))
 (.ret [(.at 0), (.at 1), (.at 2), (.at 3), (.at 4), (.at 5), (.at 9), (.at 11)]))))))
 (.imp (.o2 .eq (.at 0) (.int 5)) false
 (.ret [(.at 0), (.at 1), (.at 2), (.at 3), (.at 4), (.at 5), (.at 9), (.at 10)]))))))))))))))))))))))))))
def fFew.Pure : Prop :=
 ∀ (i0 : Int),
 ∀ (i1 : Int),
 ∀ (s2 : ByteArray),
 ∀ (s3 : ByteArray),
 ∀ (v4 : Value),
 ∀ (z5 : List Int),
 (-9223372036854775808 ≤ i0 ∧ i0 < 9223372036854775808) →
 (-9223372036854775808 ≤ i1 ∧ i1 < 9223372036854775808) →
 ((s2.size : Int) ≤ 9223372036854775807) →
 ((s3.size : Int) ≤ 9223372036854775807) →
 (∀ x ∈ z5, IntKind.has .i64 x) →
 fFew.sig.pre [(D.I i0), (D.I i1), (D.S s2), (D.S s3), (D.V v4), (D.Z z5)] →
 ∀ (n6 : Nat),
 ∀ (v7 : Value),
 ∀ (n8 : Nat),
 dCut.sig.pre [(D.S s2), (D.I (8 : Int))] ∧ (
 ∀ (s9 : ByteArray),
 dCut.sig.post [(D.S s2), (D.I (8 : Int)), (D.S s9)] →
 ((s9.size : Int) ≤ 9223372036854775807) →
 dCut.sig.pre [(D.S s3), (D.I (100 : Int))] ∧ (
 ∀ (s10 : ByteArray),
 dCut.sig.post [(D.S s3), (D.I (100 : Int)), (D.S s10)] →
 ((s10.size : Int) ≤ 9223372036854775807) →
 ((
 (i0 = (5 : Int)) →
  dCut.sig.pre [(D.S s10), (D.I (8 : Int))] ∧ (
 ∀ (s11 : ByteArray),
  dCut.sig.post [(D.S s10), (D.I (8 : Int)), (D.S s11)] →
 ((s11.size : Int) ≤ 9223372036854775807) →
  fFew.sig.post [(D.I i0), (D.I i1), (D.S s2), (D.S s3), (D.V v4), (D.Z z5), (D.S s9), (D.S s11)])) ∧ (
 (i0 ≠ (5 : Int)) →
  fFew.sig.post [(D.I i0), (D.I i1), (D.S s2), (D.S s3), (D.V v4), (D.Z z5), (D.S s9), (D.S s10)]))))
theorem fFew.den : fFew.vc.den2 (mkEnv fFew.sig [dCut.sig] []) [] = fFew.Pure := by kernel_rfl
def LDiskSwap.vc : VC :=
 (.all .S
 (.all .S
 (.all .V
 (.all .Z
 (.all .I
 (.know (.ssz (.at 0))
 (.know (.ssz (.at 1))
 (.know (.has .i64 (.at 4))
 (.know (.allHas .i64 (.at 3))
 (.post 0 [(.at 0), (.at 1), (.at 2), (.at 3), (.at 4)]
 (.pre 1 [(.at 0), (.int 60)]
 (.all .S
 (.post 1 [(.at 0), (.int 60), (.at 5)]
 (.know (.ssz (.at 5))
 (.pre 1 [(.at 1), (.int 60)]
 (.all .S
 (.post 1 [(.at 1), (.int 60), (.at 6)]
 (.know (.ssz (.at 6))
 (.pre 2 [(.int 100000)]
 (.all .N
 (.all .L
 (.post 2 [(.int 100000), (.at 7), (.at 8)]
 (.pre 3 [(.at 7), (.at 8), (.str ⟨#[97]⟩)]
 (.all .L
 (.all .I
 (.post 3 [(.at 7), (.at 8), (.str ⟨#[97]⟩), (.at 9), (.at 10)]
 (.know (.has .i64 (.at 10))
 (.and
 (.imp (.o1 .not (.o2 .eq (.at 10) (.int 0))) true
 (.ret [(.at 0), (.at 1), (.at 2), (.at 3), (.at 4), (.bool false)]))
 (.imp (.o1 .not (.o2 .eq (.at 10) (.int 0))) false
 (.pre 4 [(.at 7), (.at 9), (.str ⟨#[97]⟩), (.at 5)]
 (.all .L
 (.all .I
 (.post 4 [(.at 7), (.at 9), (.str ⟨#[97]⟩), (.at 5), (.at 11), (.at 12)]
 (.know (.has .i64 (.at 12))
 (.and
 (.imp (.o1 .not (.o2 .eq (.at 12) (.int 0))) true
 (.ret [(.at 0), (.at 1), (.at 2), (.at 3), (.at 4), (.bool false)]))
 (.imp (.o1 .not (.o2 .eq (.at 12) (.int 0))) false
 (.pre 5 [(.at 7), (.at 11), (.str ⟨#[97]⟩)]
 (.all .L
 (.all .I
 (.post 5 [(.at 7), (.at 11), (.str ⟨#[97]⟩), (.at 13), (.at 14)]
 (.know (.has .i64 (.at 14))
 (.and
 (.imp (.o1 .not (.o2 .eq (.at 14) (.int 0))) true
 (.ret [(.at 0), (.at 1), (.at 2), (.at 3), (.at 4), (.bool false)]))
 (.imp (.o1 .not (.o2 .eq (.at 14) (.int 0))) false
 (.pre 6 [(.at 7), (.at 13)]
 (.all .L
 (.all .I
 (.post 6 [(.at 7), (.at 13), (.at 15), (.at 16)]
 (.know (.has .i64 (.at 16))
 (.and
 (.imp (.o1 .not (.o2 .eq (.at 16) (.int 0))) true
 (.ret [(.at 0), (.at 1), (.at 2), (.at 3), (.at 4), (.bool false)]))
 (.imp (.o1 .not (.o2 .eq (.at 16) (.int 0))) false
 (.pre 7 [(.at 7), (.at 15), (.at 4)]
 (.all .L
 (.post 7 [(.at 7), (.at 15), (.at 4), (.at 17)]
 (.pre 3 [(.at 7), (.at 17), (.str ⟨#[98]⟩)]
 (.all .L
 (.all .I
 (.post 3 [(.at 7), (.at 17), (.str ⟨#[98]⟩), (.at 18), (.at 19)]
 (.know (.has .i64 (.at 19))
 (.and
 (.imp (.o2 .eq (.at 19) (.int 0)) true
 (.pre 4 [(.at 7), (.at 18), (.str ⟨#[98]⟩), (.at 6)]
 (.all .L
 (.all .I
 (.post 4 [(.at 7), (.at 18), (.str ⟨#[98]⟩), (.at 6), (.at 20), (.at 21)]
 (.know (.has .i64 (.at 21))
 (.and
 (.imp (.o2 .eq (.at 21) (.int 0)) true
 (.pre 5 [(.at 7), (.at 20), (.str ⟨#[98]⟩)]
 (.all .L
 (.all .I
 (.post 5 [(.at 7), (.at 20), (.str ⟨#[98]⟩), (.at 22), (.at 23)]
 (.know (.has .i64 (.at 23))
 (.and
 (.imp (.o2 .eq (.at 23) (.int 0)) true
 (.pre 8 [(.at 7), (.at 22), (.str ⟨#[98]⟩), (.str ⟨#[97]⟩)]
 (.all .L
 (.all .I
 (.post 8 [(.at 7), (.at 22), (.str ⟨#[98]⟩), (.str ⟨#[97]⟩), (.at 24), (.at 25)]
 (.know (.has .i64 (.at 25))
 (.and
 (.imp (.o2 .eq (.at 25) (.int 0)) true
 (.pre 6 [(.at 7), (.at 24)]
 (.all .L
 (.all .I
 (.post 6 [(.at 7), (.at 24), (.at 26), (.at 27)]
 (.know (.has .i64 (.at 27))
 (.and
 (.imp (.o1 .not (.o2 .eq (.at 27) (.int 0))) true
 (.pre 9 [(.at 7), (.at 26)]
 (.all .B
 (.post 9 [(.at 7), (.at 26), (.at 28)]
 (.and
 (.imp (.o1 .not (.at 28)) true
 (.ret [(.at 0), (.at 1), (.at 2), (.at 3), (.at 4), (.bool false)]))
 (.imp (.o1 .not (.at 28)) false
 (.pre 10 [(.at 7), (.at 26), (.at 2), (.at 3)]
 (.all .L
 (.post 10 [(.at 7), (.at 26), (.at 2), (.at 3), (.at 29)]
 (.pre 11 [(.at 7), (.at 29), (.str ⟨#[97]⟩)]
 (.all .S
 (.all .I
 (.post 11 [(.at 7), (.at 29), (.str ⟨#[97]⟩), (.at 30), (.at 31)]
 (.know (.ssz (.at 30))
 (.know (.has .i64 (.at 31))
 (.pre 12 []
 (.all .B
 (.post 12 [(.at 32)]
 (.and
 (.imp (.at 32) true
 (.and
 (.imp (.o2 .eq (.at 31) (.int 0)) true
 (.and
 (.imp (.o2 .eqs (.at 30) (.at 6)) true
 (.ret [(.at 0), (.at 1), (.at 2), (.at 3), (.at 4), (.bool true)]))
 (.imp (.o2 .eqs (.at 30) (.at 6)) false
 (.ret [(.at 0), (.at 1), (.at 2), (.at 3), (.at 4), (.o2 .eqs (.at 30) (.at 5))]))))
 (.imp (.o2 .eq (.at 31) (.int 0)) false
 (.ret [(.at 0), (.at 1), (.at 2), (.at 3), (.at 4), (.bool false)]))))
 (.imp (.at 32) false
 (.ret [(.at 0), (.at 1), (.at 2), (.at 3), (.at 4), (.bool false)])))))))))))))))))))))
 (.imp (.o1 .not (.o2 .eq (.at 27) (.int 0))) false
 (.pre 10 [(.at 7), (.at 26), (.at 2), (.at 3)]
 (.all .L
 (.post 10 [(.at 7), (.at 26), (.at 2), (.at 3), (.at 28)]
 (.pre 11 [(.at 7), (.at 28), (.str ⟨#[97]⟩)]
 (.all .S
 (.all .I
 (.post 11 [(.at 7), (.at 28), (.str ⟨#[97]⟩), (.at 29), (.at 30)]
 (.know (.ssz (.at 29))
 (.know (.has .i64 (.at 30))
 (.pre 12 []
 (.all .B
 (.post 12 [(.at 31)]
 (.and
 (.imp (.at 31) true
 (.and
 (.imp (.o2 .eq (.at 30) (.int 0)) true
 (.and
 (.imp (.o2 .eqs (.at 29) (.at 6)) true
 (.ret [(.at 0), (.at 1), (.at 2), (.at 3), (.at 4), (.bool true)]))
 (.imp (.o2 .eqs (.at 29) (.at 6)) false
 (.ret [(.at 0), (.at 1), (.at 2), (.at 3), (.at 4), (.bool false)]))))
 (.imp (.o2 .eq (.at 30) (.int 0)) false
 (.ret [(.at 0), (.at 1), (.at 2), (.at 3), (.at 4), (.bool false)]))))
 (.imp (.at 31) false
 (.ret [(.at 0), (.at 1), (.at 2), (.at 3), (.at 4), (.bool false)])))))))))))))))))))))))
 (.imp (.o2 .eq (.at 25) (.int 0)) false
 (.pre 9 [(.at 7), (.at 24)]
 (.all .B
 (.post 9 [(.at 7), (.at 24), (.at 26)]
 (.and
 (.imp (.o1 .not (.at 26)) true
 (.ret [(.at 0), (.at 1), (.at 2), (.at 3), (.at 4), (.bool false)]))
 (.imp (.o1 .not (.at 26)) false
 (.pre 10 [(.at 7), (.at 24), (.at 2), (.at 3)]
 (.all .L
 (.post 10 [(.at 7), (.at 24), (.at 2), (.at 3), (.at 27)]
 (.pre 11 [(.at 7), (.at 27), (.str ⟨#[97]⟩)]
 (.all .S
 (.all .I
 (.post 11 [(.at 7), (.at 27), (.str ⟨#[97]⟩), (.at 28), (.at 29)]
 (.know (.ssz (.at 28))
 (.know (.has .i64 (.at 29))
 (.pre 12 []
 (.all .B
 (.post 12 [(.at 30)]
 (.and
 (.imp (.at 30) true
 (.and
 (.imp (.o2 .eq (.at 29) (.int 0)) true
 (.and
 (.imp (.o2 .eqs (.at 28) (.at 6)) true
 (.ret [(.at 0), (.at 1), (.at 2), (.at 3), (.at 4), (.bool true)]))
 (.imp (.o2 .eqs (.at 28) (.at 6)) false
 (.ret [(.at 0), (.at 1), (.at 2), (.at 3), (.at 4), (.o2 .eqs (.at 28) (.at 5))]))))
 (.imp (.o2 .eq (.at 29) (.int 0)) false
 (.ret [(.at 0), (.at 1), (.at 2), (.at 3), (.at 4), (.bool false)]))))
 (.imp (.at 30) false
 (.ret [(.at 0), (.at 1), (.at 2), (.at 3), (.at 4), (.bool false)]))))))))))))))))))))))))))))
 (.imp (.o2 .eq (.at 23) (.int 0)) false
 (.pre 9 [(.at 7), (.at 22)]
 (.all .B
 (.post 9 [(.at 7), (.at 22), (.at 24)]
 (.and
 (.imp (.o1 .not (.at 24)) true
 (.ret [(.at 0), (.at 1), (.at 2), (.at 3), (.at 4), (.bool false)]))
 (.imp (.o1 .not (.at 24)) false
 (.pre 10 [(.at 7), (.at 22), (.at 2), (.at 3)]
 (.all .L
 (.post 10 [(.at 7), (.at 22), (.at 2), (.at 3), (.at 25)]
 (.pre 11 [(.at 7), (.at 25), (.str ⟨#[97]⟩)]
 (.all .S
 (.all .I
 (.post 11 [(.at 7), (.at 25), (.str ⟨#[97]⟩), (.at 26), (.at 27)]
 (.know (.ssz (.at 26))
 (.know (.has .i64 (.at 27))
 (.pre 12 []
 (.all .B
 (.post 12 [(.at 28)]
 (.and
 (.imp (.at 28) true
 (.and
 (.imp (.o2 .eq (.at 27) (.int 0)) true
 (.and
 (.imp (.o2 .eqs (.at 26) (.at 6)) true
 (.ret [(.at 0), (.at 1), (.at 2), (.at 3), (.at 4), (.bool true)]))
 (.imp (.o2 .eqs (.at 26) (.at 6)) false
 (.ret [(.at 0), (.at 1), (.at 2), (.at 3), (.at 4), (.o2 .eqs (.at 26) (.at 5))]))))
 (.imp (.o2 .eq (.at 27) (.int 0)) false
 (.ret [(.at 0), (.at 1), (.at 2), (.at 3), (.at 4), (.bool false)]))))
 (.imp (.at 28) false
 (.ret [(.at 0), (.at 1), (.at 2), (.at 3), (.at 4), (.bool false)]))))))))))))))))))))))))))))
 (.imp (.o2 .eq (.at 21) (.int 0)) false
 (.pre 9 [(.at 7), (.at 20)]
 (.all .B
 (.post 9 [(.at 7), (.at 20), (.at 22)]
 (.and
 (.imp (.o1 .not (.at 22)) true
 (.ret [(.at 0), (.at 1), (.at 2), (.at 3), (.at 4), (.bool false)]))
 (.imp (.o1 .not (.at 22)) false
 (.pre 10 [(.at 7), (.at 20), (.at 2), (.at 3)]
 (.all .L
 (.post 10 [(.at 7), (.at 20), (.at 2), (.at 3), (.at 23)]
 (.pre 11 [(.at 7), (.at 23), (.str ⟨#[97]⟩)]
 (.all .S
 (.all .I
 (.post 11 [(.at 7), (.at 23), (.str ⟨#[97]⟩), (.at 24), (.at 25)]
 (.know (.ssz (.at 24))
 (.know (.has .i64 (.at 25))
 (.pre 12 []
 (.all .B
 (.post 12 [(.at 26)]
 (.and
 (.imp (.at 26) true
 (.and
 (.imp (.o2 .eq (.at 25) (.int 0)) true
 (.and
 (.imp (.o2 .eqs (.at 24) (.at 6)) true
 (.ret [(.at 0), (.at 1), (.at 2), (.at 3), (.at 4), (.bool true)]))
 (.imp (.o2 .eqs (.at 24) (.at 6)) false
 (.ret [(.at 0), (.at 1), (.at 2), (.at 3), (.at 4), (.o2 .eqs (.at 24) (.at 5))]))))
 (.imp (.o2 .eq (.at 25) (.int 0)) false
 (.ret [(.at 0), (.at 1), (.at 2), (.at 3), (.at 4), (.bool false)]))))
 (.imp (.at 26) false
 (.ret [(.at 0), (.at 1), (.at 2), (.at 3), (.at 4), (.bool false)]))))))))))))))))))))))))))))
 (.imp (.o2 .eq (.at 19) (.int 0)) false
 (.pre 9 [(.at 7), (.at 18)]
 (.all .B
 (.post 9 [(.at 7), (.at 18), (.at 20)]
 (.and
 (.imp (.o1 .not (.at 20)) true
 (.ret [(.at 0), (.at 1), (.at 2), (.at 3), (.at 4), (.bool false)]))
 (.imp (.o1 .not (.at 20)) false
 (.pre 10 [(.at 7), (.at 18), (.at 2), (.at 3)]
 (.all .L
 (.post 10 [(.at 7), (.at 18), (.at 2), (.at 3), (.at 21)]
 (.pre 11 [(.at 7), (.at 21), (.str ⟨#[97]⟩)]
 (.all .S
 (.all .I
 (.post 11 [(.at 7), (.at 21), (.str ⟨#[97]⟩), (.at 22), (.at 23)]
 (.know (.ssz (.at 22))
 (.know (.has .i64 (.at 23))
 (.pre 12 []
 (.all .B
 (.post 12 [(.at 24)]
 (.and
 (.imp (.at 24) true
 (.and
 (.imp (.o2 .eq (.at 23) (.int 0)) true
 (.and
 (.imp (.o2 .eqs (.at 22) (.at 6)) true
 (.ret [(.at 0), (.at 1), (.at 2), (.at 3), (.at 4), (.bool true)]))
 (.imp (.o2 .eqs (.at 22) (.at 6)) false
 (.ret [(.at 0), (.at 1), (.at 2), (.at 3), (.at 4), (.o2 .eqs (.at 22) (.at 5))]))))
 (.imp (.o2 .eq (.at 23) (.int 0)) false
 (.ret [(.at 0), (.at 1), (.at 2), (.at 3), (.at 4), (.bool false)]))))
 (.imp (.at 24) false
 (.ret [(.at 0), (.at 1), (.at 2), (.at 3), (.at 4), (.bool false)]))))))))))))))))))))))))))))))))))))))))))))))))))))))))))))))))))))))))))))))))
def LDiskSwap.Pure : Prop :=
 ∀ (s0 : ByteArray),
 ∀ (s1 : ByteArray),
 ∀ (v2 : Value),
 ∀ (z3 : List Int),
 ∀ (i4 : Int),
 ((s0.size : Int) ≤ 9223372036854775807) →
 ((s1.size : Int) ≤ 9223372036854775807) →
 (-9223372036854775808 ≤ i4 ∧ i4 < 9223372036854775808) →
 (∀ x ∈ z3, IntKind.has .i64 x) →
 LDiskSwap.sig.pre [(D.S s0), (D.S s1), (D.V v2), (D.Z z3), (D.I i4)] →
 dCut.sig.pre [(D.S s0), (D.I (60 : Int))] ∧ (
 ∀ (s5 : ByteArray),
 dCut.sig.post [(D.S s0), (D.I (60 : Int)), (D.S s5)] →
 ((s5.size : Int) ≤ 9223372036854775807) →
 dCut.sig.pre [(D.S s1), (D.I (60 : Int))] ∧ (
 ∀ (s6 : ByteArray),
 dCut.sig.post [(D.S s1), (D.I (60 : Int)), (D.S s6)] →
 ((s6.size : Int) ≤ 9223372036854775807) →
 qNew.sig.pre [(D.I (100000 : Int))] ∧ (
 ∀ (n7 : Nat),
 ∀ (l8 : List D),
 qNew.sig.post [(D.I (100000 : Int)), (D.N n7), (D.L l8)] →
 qCreate.sig.pre [(D.N n7), (D.L l8), (D.S (⟨#[97]⟩ : ByteArray))] ∧ (
 ∀ (l9 : List D),
 ∀ (i10 : Int),
 qCreate.sig.post [(D.N n7), (D.L l8), (D.S (⟨#[97]⟩ : ByteArray)), (D.L l9), (D.I i10)] →
 (-9223372036854775808 ≤ i10 ∧ i10 < 9223372036854775808) →
 ((
 (i10 ≠ (0 : Int)) →
  LDiskSwap.sig.post [(D.S s0), (D.S s1), (D.V v2), (D.Z z3), (D.I i4), (D.B false)]) ∧ (
 (i10 = (0 : Int)) →
  qAppend.sig.pre [(D.N n7), (D.L l9), (D.S (⟨#[97]⟩ : ByteArray)), (D.S s5)] ∧ (
 ∀ (l11 : List D),
 ∀ (i12 : Int),
  qAppend.sig.post [(D.N n7), (D.L l9), (D.S (⟨#[97]⟩ : ByteArray)), (D.S s5), (D.L l11), (D.I i12)] →
 (-9223372036854775808 ≤ i12 ∧ i12 < 9223372036854775808) →
 ((
 (i12 ≠ (0 : Int)) →
   LDiskSwap.sig.post [(D.S s0), (D.S s1), (D.V v2), (D.Z z3), (D.I i4), (D.B false)]) ∧ (
 (i12 = (0 : Int)) →
   qSync.sig.pre [(D.N n7), (D.L l11), (D.S (⟨#[97]⟩ : ByteArray))] ∧ (
 ∀ (l13 : List D),
 ∀ (i14 : Int),
   qSync.sig.post [(D.N n7), (D.L l11), (D.S (⟨#[97]⟩ : ByteArray)), (D.L l13), (D.I i14)] →
 (-9223372036854775808 ≤ i14 ∧ i14 < 9223372036854775808) →
 ((
 (i14 ≠ (0 : Int)) →
    LDiskSwap.sig.post [(D.S s0), (D.S s1), (D.V v2), (D.Z z3), (D.I i4), (D.B false)]) ∧ (
 (i14 = (0 : Int)) →
    qSyncNames.sig.pre [(D.N n7), (D.L l13)] ∧ (
 ∀ (l15 : List D),
 ∀ (i16 : Int),
    qSyncNames.sig.post [(D.N n7), (D.L l13), (D.L l15), (D.I i16)] →
 (-9223372036854775808 ≤ i16 ∧ i16 < 9223372036854775808) →
 ((
 (i16 ≠ (0 : Int)) →
     LDiskSwap.sig.post [(D.S s0), (D.S s1), (D.V v2), (D.Z z3), (D.I i4), (D.B false)]) ∧ (
 (i16 = (0 : Int)) →
     qCrash.sig.pre [(D.N n7), (D.L l15), (D.I i4)] ∧ (
 ∀ (l17 : List D),
     qCrash.sig.post [(D.N n7), (D.L l15), (D.I i4), (D.L l17)] →
     qCreate.sig.pre [(D.N n7), (D.L l17), (D.S (⟨#[98]⟩ : ByteArray))] ∧ (
 ∀ (l18 : List D),
 ∀ (i19 : Int),
     qCreate.sig.post [(D.N n7), (D.L l17), (D.S (⟨#[98]⟩ : ByteArray)), (D.L l18), (D.I i19)] →
 (-9223372036854775808 ≤ i19 ∧ i19 < 9223372036854775808) →
 ((
 (i19 = (0 : Int)) →
      qAppend.sig.pre [(D.N n7), (D.L l18), (D.S (⟨#[98]⟩ : ByteArray)), (D.S s6)] ∧ (
 ∀ (l20 : List D),
 ∀ (i21 : Int),
      qAppend.sig.post [(D.N n7), (D.L l18), (D.S (⟨#[98]⟩ : ByteArray)), (D.S s6), (D.L l20), (D.I i21)] →
 (-9223372036854775808 ≤ i21 ∧ i21 < 9223372036854775808) →
 ((
 (i21 = (0 : Int)) →
       qSync.sig.pre [(D.N n7), (D.L l20), (D.S (⟨#[98]⟩ : ByteArray))] ∧ (
 ∀ (l22 : List D),
 ∀ (i23 : Int),
       qSync.sig.post [(D.N n7), (D.L l20), (D.S (⟨#[98]⟩ : ByteArray)), (D.L l22), (D.I i23)] →
 (-9223372036854775808 ≤ i23 ∧ i23 < 9223372036854775808) →
 ((
 (i23 = (0 : Int)) →
        qRename.sig.pre [(D.N n7), (D.L l22), (D.S (⟨#[98]⟩ : ByteArray)), (D.S (⟨#[97]⟩ : ByteArray))] ∧ (
 ∀ (l24 : List D),
 ∀ (i25 : Int),
        qRename.sig.post [(D.N n7), (D.L l22), (D.S (⟨#[98]⟩ : ByteArray)), (D.S (⟨#[97]⟩ : ByteArray)), (D.L l24), (D.I i25)] →
 (-9223372036854775808 ≤ i25 ∧ i25 < 9223372036854775808) →
 ((
 (i25 = (0 : Int)) →
         qSyncNames.sig.pre [(D.N n7), (D.L l24)] ∧ (
 ∀ (l26 : List D),
 ∀ (i27 : Int),
         qSyncNames.sig.post [(D.N n7), (D.L l24), (D.L l26), (D.I i27)] →
 (-9223372036854775808 ≤ i27 ∧ i27 < 9223372036854775808) →
 ((
 (i27 ≠ (0 : Int)) →
          qDead.sig.pre [(D.N n7), (D.L l26)] ∧ (
 ∀ (b28 : Bool),
          qDead.sig.post [(D.N n7), (D.L l26), (D.B b28)] →
 ((
 (b28 = false) →
           LDiskSwap.sig.post [(D.S s0), (D.S s1), (D.V v2), (D.Z z3), (D.I i4), (D.B false)]) ∧ (
 (b28 = true) →
           qRestart.sig.pre [(D.N n7), (D.L l26), (D.V v2), (D.Z z3)] ∧ (
 ∀ (l29 : List D),
           qRestart.sig.post [(D.N n7), (D.L l26), (D.V v2), (D.Z z3), (D.L l29)] →
           qRead.sig.pre [(D.N n7), (D.L l29), (D.S (⟨#[97]⟩ : ByteArray))] ∧ (
 ∀ (s30 : ByteArray),
 ∀ (i31 : Int),
           qRead.sig.post [(D.N n7), (D.L l29), (D.S (⟨#[97]⟩ : ByteArray)), (D.S s30), (D.I i31)] →
 ((s30.size : Int) ≤ 9223372036854775807) →
 (-9223372036854775808 ≤ i31 ∧ i31 < 9223372036854775808) →
           dAwake.sig.pre [] ∧ (
 ∀ (b32 : Bool),
           dAwake.sig.post [(D.B b32)] →
 ((
 (b32 = true) →
 ((
 (i31 = (0 : Int)) →
 ((
 (s30 = s6) →
              LDiskSwap.sig.post [(D.S s0), (D.S s1), (D.V v2), (D.Z z3), (D.I i4), (D.B true)]) ∧ (
 (s30 ≠ s6) →
              LDiskSwap.sig.post [(D.S s0), (D.S s1), (D.V v2), (D.Z z3), (D.I i4), (D.B (s30.toList == s5.toList))]))) ∧ (
 (i31 ≠ (0 : Int)) →
             LDiskSwap.sig.post [(D.S s0), (D.S s1), (D.V v2), (D.Z z3), (D.I i4), (D.B false)]))) ∧ (
 (b32 = false) →
            LDiskSwap.sig.post [(D.S s0), (D.S s1), (D.V v2), (D.Z z3), (D.I i4), (D.B false)]))))))))) ∧ (
 (i27 = (0 : Int)) →
          qRestart.sig.pre [(D.N n7), (D.L l26), (D.V v2), (D.Z z3)] ∧ (
 ∀ (l28 : List D),
          qRestart.sig.post [(D.N n7), (D.L l26), (D.V v2), (D.Z z3), (D.L l28)] →
          qRead.sig.pre [(D.N n7), (D.L l28), (D.S (⟨#[97]⟩ : ByteArray))] ∧ (
 ∀ (s29 : ByteArray),
 ∀ (i30 : Int),
          qRead.sig.post [(D.N n7), (D.L l28), (D.S (⟨#[97]⟩ : ByteArray)), (D.S s29), (D.I i30)] →
 ((s29.size : Int) ≤ 9223372036854775807) →
 (-9223372036854775808 ≤ i30 ∧ i30 < 9223372036854775808) →
          dAwake.sig.pre [] ∧ (
 ∀ (b31 : Bool),
          dAwake.sig.post [(D.B b31)] →
 ((
 (b31 = true) →
 ((
 (i30 = (0 : Int)) →
 ((
 (s29 = s6) →
             LDiskSwap.sig.post [(D.S s0), (D.S s1), (D.V v2), (D.Z z3), (D.I i4), (D.B true)]) ∧ (
 (s29 ≠ s6) →
             LDiskSwap.sig.post [(D.S s0), (D.S s1), (D.V v2), (D.Z z3), (D.I i4), (D.B false)]))) ∧ (
 (i30 ≠ (0 : Int)) →
            LDiskSwap.sig.post [(D.S s0), (D.S s1), (D.V v2), (D.Z z3), (D.I i4), (D.B false)]))) ∧ (
 (b31 = false) →
           LDiskSwap.sig.post [(D.S s0), (D.S s1), (D.V v2), (D.Z z3), (D.I i4), (D.B false)]))))))))) ∧ (
 (i25 ≠ (0 : Int)) →
         qDead.sig.pre [(D.N n7), (D.L l24)] ∧ (
 ∀ (b26 : Bool),
         qDead.sig.post [(D.N n7), (D.L l24), (D.B b26)] →
 ((
 (b26 = false) →
          LDiskSwap.sig.post [(D.S s0), (D.S s1), (D.V v2), (D.Z z3), (D.I i4), (D.B false)]) ∧ (
 (b26 = true) →
          qRestart.sig.pre [(D.N n7), (D.L l24), (D.V v2), (D.Z z3)] ∧ (
 ∀ (l27 : List D),
          qRestart.sig.post [(D.N n7), (D.L l24), (D.V v2), (D.Z z3), (D.L l27)] →
          qRead.sig.pre [(D.N n7), (D.L l27), (D.S (⟨#[97]⟩ : ByteArray))] ∧ (
 ∀ (s28 : ByteArray),
 ∀ (i29 : Int),
          qRead.sig.post [(D.N n7), (D.L l27), (D.S (⟨#[97]⟩ : ByteArray)), (D.S s28), (D.I i29)] →
 ((s28.size : Int) ≤ 9223372036854775807) →
 (-9223372036854775808 ≤ i29 ∧ i29 < 9223372036854775808) →
          dAwake.sig.pre [] ∧ (
 ∀ (b30 : Bool),
          dAwake.sig.post [(D.B b30)] →
 ((
 (b30 = true) →
 ((
 (i29 = (0 : Int)) →
 ((
 (s28 = s6) →
             LDiskSwap.sig.post [(D.S s0), (D.S s1), (D.V v2), (D.Z z3), (D.I i4), (D.B true)]) ∧ (
 (s28 ≠ s6) →
             LDiskSwap.sig.post [(D.S s0), (D.S s1), (D.V v2), (D.Z z3), (D.I i4), (D.B (s28.toList == s5.toList))]))) ∧ (
 (i29 ≠ (0 : Int)) →
            LDiskSwap.sig.post [(D.S s0), (D.S s1), (D.V v2), (D.Z z3), (D.I i4), (D.B false)]))) ∧ (
 (b30 = false) →
           LDiskSwap.sig.post [(D.S s0), (D.S s1), (D.V v2), (D.Z z3), (D.I i4), (D.B false)])))))))))))) ∧ (
 (i23 ≠ (0 : Int)) →
        qDead.sig.pre [(D.N n7), (D.L l22)] ∧ (
 ∀ (b24 : Bool),
        qDead.sig.post [(D.N n7), (D.L l22), (D.B b24)] →
 ((
 (b24 = false) →
         LDiskSwap.sig.post [(D.S s0), (D.S s1), (D.V v2), (D.Z z3), (D.I i4), (D.B false)]) ∧ (
 (b24 = true) →
         qRestart.sig.pre [(D.N n7), (D.L l22), (D.V v2), (D.Z z3)] ∧ (
 ∀ (l25 : List D),
         qRestart.sig.post [(D.N n7), (D.L l22), (D.V v2), (D.Z z3), (D.L l25)] →
         qRead.sig.pre [(D.N n7), (D.L l25), (D.S (⟨#[97]⟩ : ByteArray))] ∧ (
 ∀ (s26 : ByteArray),
 ∀ (i27 : Int),
         qRead.sig.post [(D.N n7), (D.L l25), (D.S (⟨#[97]⟩ : ByteArray)), (D.S s26), (D.I i27)] →
 ((s26.size : Int) ≤ 9223372036854775807) →
 (-9223372036854775808 ≤ i27 ∧ i27 < 9223372036854775808) →
         dAwake.sig.pre [] ∧ (
 ∀ (b28 : Bool),
         dAwake.sig.post [(D.B b28)] →
 ((
 (b28 = true) →
 ((
 (i27 = (0 : Int)) →
 ((
 (s26 = s6) →
            LDiskSwap.sig.post [(D.S s0), (D.S s1), (D.V v2), (D.Z z3), (D.I i4), (D.B true)]) ∧ (
 (s26 ≠ s6) →
            LDiskSwap.sig.post [(D.S s0), (D.S s1), (D.V v2), (D.Z z3), (D.I i4), (D.B (s26.toList == s5.toList))]))) ∧ (
 (i27 ≠ (0 : Int)) →
           LDiskSwap.sig.post [(D.S s0), (D.S s1), (D.V v2), (D.Z z3), (D.I i4), (D.B false)]))) ∧ (
 (b28 = false) →
          LDiskSwap.sig.post [(D.S s0), (D.S s1), (D.V v2), (D.Z z3), (D.I i4), (D.B false)])))))))))))) ∧ (
 (i21 ≠ (0 : Int)) →
       qDead.sig.pre [(D.N n7), (D.L l20)] ∧ (
 ∀ (b22 : Bool),
       qDead.sig.post [(D.N n7), (D.L l20), (D.B b22)] →
 ((
 (b22 = false) →
        LDiskSwap.sig.post [(D.S s0), (D.S s1), (D.V v2), (D.Z z3), (D.I i4), (D.B false)]) ∧ (
 (b22 = true) →
        qRestart.sig.pre [(D.N n7), (D.L l20), (D.V v2), (D.Z z3)] ∧ (
 ∀ (l23 : List D),
        qRestart.sig.post [(D.N n7), (D.L l20), (D.V v2), (D.Z z3), (D.L l23)] →
        qRead.sig.pre [(D.N n7), (D.L l23), (D.S (⟨#[97]⟩ : ByteArray))] ∧ (
 ∀ (s24 : ByteArray),
 ∀ (i25 : Int),
        qRead.sig.post [(D.N n7), (D.L l23), (D.S (⟨#[97]⟩ : ByteArray)), (D.S s24), (D.I i25)] →
 ((s24.size : Int) ≤ 9223372036854775807) →
 (-9223372036854775808 ≤ i25 ∧ i25 < 9223372036854775808) →
        dAwake.sig.pre [] ∧ (
 ∀ (b26 : Bool),
        dAwake.sig.post [(D.B b26)] →
 ((
 (b26 = true) →
 ((
 (i25 = (0 : Int)) →
 ((
 (s24 = s6) →
           LDiskSwap.sig.post [(D.S s0), (D.S s1), (D.V v2), (D.Z z3), (D.I i4), (D.B true)]) ∧ (
 (s24 ≠ s6) →
           LDiskSwap.sig.post [(D.S s0), (D.S s1), (D.V v2), (D.Z z3), (D.I i4), (D.B (s24.toList == s5.toList))]))) ∧ (
 (i25 ≠ (0 : Int)) →
          LDiskSwap.sig.post [(D.S s0), (D.S s1), (D.V v2), (D.Z z3), (D.I i4), (D.B false)]))) ∧ (
 (b26 = false) →
         LDiskSwap.sig.post [(D.S s0), (D.S s1), (D.V v2), (D.Z z3), (D.I i4), (D.B false)])))))))))))) ∧ (
 (i19 ≠ (0 : Int)) →
      qDead.sig.pre [(D.N n7), (D.L l18)] ∧ (
 ∀ (b20 : Bool),
      qDead.sig.post [(D.N n7), (D.L l18), (D.B b20)] →
 ((
 (b20 = false) →
       LDiskSwap.sig.post [(D.S s0), (D.S s1), (D.V v2), (D.Z z3), (D.I i4), (D.B false)]) ∧ (
 (b20 = true) →
       qRestart.sig.pre [(D.N n7), (D.L l18), (D.V v2), (D.Z z3)] ∧ (
 ∀ (l21 : List D),
       qRestart.sig.post [(D.N n7), (D.L l18), (D.V v2), (D.Z z3), (D.L l21)] →
       qRead.sig.pre [(D.N n7), (D.L l21), (D.S (⟨#[97]⟩ : ByteArray))] ∧ (
 ∀ (s22 : ByteArray),
 ∀ (i23 : Int),
       qRead.sig.post [(D.N n7), (D.L l21), (D.S (⟨#[97]⟩ : ByteArray)), (D.S s22), (D.I i23)] →
 ((s22.size : Int) ≤ 9223372036854775807) →
 (-9223372036854775808 ≤ i23 ∧ i23 < 9223372036854775808) →
       dAwake.sig.pre [] ∧ (
 ∀ (b24 : Bool),
       dAwake.sig.post [(D.B b24)] →
 ((
 (b24 = true) →
 ((
 (i23 = (0 : Int)) →
 ((
 (s22 = s6) →
          LDiskSwap.sig.post [(D.S s0), (D.S s1), (D.V v2), (D.Z z3), (D.I i4), (D.B true)]) ∧ (
 (s22 ≠ s6) →
          LDiskSwap.sig.post [(D.S s0), (D.S s1), (D.V v2), (D.Z z3), (D.I i4), (D.B (s22.toList == s5.toList))]))) ∧ (
 (i23 ≠ (0 : Int)) →
         LDiskSwap.sig.post [(D.S s0), (D.S s1), (D.V v2), (D.Z z3), (D.I i4), (D.B false)]))) ∧ (
 (b24 = false) →
        LDiskSwap.sig.post [(D.S s0), (D.S s1), (D.V v2), (D.Z z3), (D.I i4), (D.B false)])))))))))))))))))))))))))))
theorem LDiskSwap.den : LDiskSwap.vc.den2 (mkEnv LDiskSwap.sig [dCut.sig, qNew.sig, qCreate.sig, qAppend.sig, qSync.sig, qSyncNames.sig, qCrash.sig, qRename.sig, qDead.sig, qRestart.sig, qRead.sig, dAwake.sig] []) [] = LDiskSwap.Pure := by kernel_rfl
def LDiskKeeps.vc : VC :=
 (.all .S
 (.all .V
 (.all .L
 (.all .V
 (.all .Z
 (.know (.ssz (.at 0))
 (.know (.ekok [.int .i64, .int .i64, .str, .str, .sl [.int .i64]] (.at 2))
 (.know (.allHas .i64 (.at 4))
 (.post 0 [(.at 0), (.at 1), (.at 2), (.at 3), (.at 4)]
 (.pre 1 [(.at 0), (.int 100)]
 (.all .S
 (.post 1 [(.at 0), (.int 100), (.at 5)]
 (.know (.ssz (.at 5))
 (.pre 2 [(.int 100000)]
 (.all .N
 (.all .L
 (.post 2 [(.int 100000), (.at 6), (.at 7)]
 (.pre 3 [(.at 6), (.at 7), (.str ⟨#[109, 105, 110, 101]⟩)]
 (.all .L
 (.all .I
 (.post 3 [(.at 6), (.at 7), (.str ⟨#[109, 105, 110, 101]⟩), (.at 8), (.at 9)]
 (.know (.has .i64 (.at 9))
 (.and
 (.imp (.o1 .not (.o2 .eq (.at 9) (.int 0))) true
 (.ret [(.at 0), (.at 1), (.at 2), (.at 3), (.at 4), (.bool false)]))
 (.imp (.o1 .not (.o2 .eq (.at 9) (.int 0))) false
 (.pre 4 [(.at 6), (.at 8), (.str ⟨#[109, 105, 110, 101]⟩), (.at 5)]
 (.all .L
 (.all .I
 (.post 4 [(.at 6), (.at 8), (.str ⟨#[109, 105, 110, 101]⟩), (.at 5), (.at 10), (.at 11)]
 (.know (.has .i64 (.at 11))
 (.and
 (.imp (.o1 .not (.o2 .eq (.at 11) (.int 0))) true
 (.ret [(.at 0), (.at 1), (.at 2), (.at 3), (.at 4), (.bool false)]))
 (.imp (.o1 .not (.o2 .eq (.at 11) (.int 0))) false
 (.pre 5 [(.at 6), (.at 10), (.str ⟨#[109, 105, 110, 101]⟩)]
 (.all .L
 (.all .I
 (.post 5 [(.at 6), (.at 10), (.str ⟨#[109, 105, 110, 101]⟩), (.at 12), (.at 13)]
 (.know (.has .i64 (.at 13))
 (.and
 (.imp (.o1 .not (.o2 .eq (.at 13) (.int 0))) true
 (.ret [(.at 0), (.at 1), (.at 2), (.at 3), (.at 4), (.bool false)]))
 (.imp (.o1 .not (.o2 .eq (.at 13) (.int 0))) false
 (.pre 6 [(.at 6), (.at 12)]
 (.all .L
 (.all .I
 (.post 6 [(.at 6), (.at 12), (.at 14), (.at 15)]
 (.know (.has .i64 (.at 15))
 (.and
 (.imp (.o1 .not (.o2 .eq (.at 15) (.int 0))) true
 (.ret [(.at 0), (.at 1), (.at 2), (.at 3), (.at 4), (.bool false)]))
 (.imp (.o1 .not (.o2 .eq (.at 15) (.int 0))) false
 (.inv 0 [(.at 0), (.at 1), (.at 2), (.at 3), (.at 4), (.int 0), (.at 14)]
 (.all .I
 (.all .L
 (.know (.has .i64 (.at 16))
 (.asm 0 [(.at 0), (.at 1), (.at 2), (.at 3), (.at 4), (.at 16), (.at 17)]
 (.and
 (.imp (.o2 .lt (.at 16) (.o1 .llen (.at 2))) true
 (.and
 (.imp (.o2 .lt (.at 16) (.int 20)) true
 (.obl (.o2 .le (.int 0) (.at 16))
 (.pre 12 [(.o1 .asI (.o2 .lget (.o1 .asL (.o2 .lget (.at 2) (.at 16))) (.int 0))), (.o1 .asI (.o2 .lget (.o1 .asL (.o2 .lget (.at 2) (.at 16))) (.int 1))), (.o1 .asS (.o2 .lget (.o1 .asL (.o2 .lget (.at 2) (.at 16))) (.int 2))), (.o1 .asS (.o2 .lget (.o1 .asL (.o2 .lget (.at 2) (.at 16))) (.int 3))), (.o1 .asV (.o2 .lget (.o2 .lget (.o1 .asL (.o2 .lget (.at 2) (.at 16))) (.int 4)) (.int 0))), (.o1 .asZ (.o2 .lget (.o2 .lget (.o1 .asL (.o2 .lget (.at 2) (.at 16))) (.int 4)) (.int 1)))]
 (.all .S
 (.all .S
 (.post 12 [(.o1 .asI (.o2 .lget (.o1 .asL (.o2 .lget (.at 2) (.at 16))) (.int 0))), (.o1 .asI (.o2 .lget (.o1 .asL (.o2 .lget (.at 2) (.at 16))) (.int 1))), (.o1 .asS (.o2 .lget (.o1 .asL (.o2 .lget (.at 2) (.at 16))) (.int 2))), (.o1 .asS (.o2 .lget (.o1 .asL (.o2 .lget (.at 2) (.at 16))) (.int 3))), (.o1 .asV (.o2 .lget (.o2 .lget (.o1 .asL (.o2 .lget (.at 2) (.at 16))) (.int 4)) (.int 0))), (.o1 .asZ (.o2 .lget (.o2 .lget (.o1 .asL (.o2 .lget (.at 2) (.at 16))) (.int 4)) (.int 1))), (.at 18), (.at 19)]
 (.know (.ssz (.at 18))
 (.know (.ssz (.at 19))
 (.all .V
 (.all .N
 (.and
 (.imp (.o2 .eqs (.at 18) (.str ⟨#[109, 105, 110, 101]⟩)) true
 (.back 0 [(.at 0), (.at 1), (.at 2), (.at 3), (.at 4), (.at 16), (.at 17)] [(.at 0), (.at 1), (.at 2), (.at 3), (.at 4), (.o2 (.add .i64) (.at 16) (.int 1)), (.at 17)]))
 (.imp (.o2 .eqs (.at 18) (.str ⟨#[109, 105, 110, 101]⟩)) false
 (.and
 (.imp (.o2 .eqs (.at 19) (.str ⟨#[109, 105, 110, 101]⟩)) true
 (.back 0 [(.at 0), (.at 1), (.at 2), (.at 3), (.at 4), (.at 16), (.at 17)] [(.at 0), (.at 1), (.at 2), (.at 3), (.at 4), (.o2 (.add .i64) (.at 16) (.int 1)), (.at 17)]))
 (.imp (.o2 .eqs (.at 19) (.str ⟨#[109, 105, 110, 101]⟩)) false
 (.and
 (.imp (.o2 .eq (.o1 .asI (.o2 .lget (.o1 .asL (.o2 .lget (.at 2) (.at 16))) (.int 0))) (.int 1)) true
 (.pre 3 [(.at 6), (.at 17), (.at 18)]
 (.all .L
 (.all .I
 (.post 3 [(.at 6), (.at 17), (.at 18), (.at 22), (.at 23)]
 (.know (.has .i64 (.at 23))
 (.back 0 [(.at 0), (.at 1), (.at 2), (.at 3), (.at 4), (.at 16), (.at 17)] [(.at 0), (.at 1), (.at 2), (.at 3), (.at 4), (.o2 (.add .i64) (.at 16) (.int 1)), (.at 22)])))))))
 (.imp (.o2 .eq (.o1 .asI (.o2 .lget (.o1 .asL (.o2 .lget (.at 2) (.at 16))) (.int 0))) (.int 1)) false
 (.and
 (.imp (.o2 .eq (.o1 .asI (.o2 .lget (.o1 .asL (.o2 .lget (.at 2) (.at 16))) (.int 0))) (.int 2)) true
 (.pre 4 [(.at 6), (.at 17), (.at 18), (.at 19)]
 (.all .L
 (.all .I
 (.post 4 [(.at 6), (.at 17), (.at 18), (.at 19), (.at 22), (.at 23)]
 (.know (.has .i64 (.at 23))
 (.back 0 [(.at 0), (.at 1), (.at 2), (.at 3), (.at 4), (.at 16), (.at 17)] [(.at 0), (.at 1), (.at 2), (.at 3), (.at 4), (.o2 (.add .i64) (.at 16) (.int 1)), (.at 22)])))))))
 (.imp (.o2 .eq (.o1 .asI (.o2 .lget (.o1 .asL (.o2 .lget (.at 2) (.at 16))) (.int 0))) (.int 2)) false
 (.and
 (.imp (.o2 .eq (.o1 .asI (.o2 .lget (.o1 .asL (.o2 .lget (.at 2) (.at 16))) (.int 0))) (.int 4)) true
 (.pre 6 [(.at 6), (.at 17)]
 (.all .L
 (.all .I
 (.post 6 [(.at 6), (.at 17), (.at 22), (.at 23)]
 (.know (.has .i64 (.at 23))
 (.back 0 [(.at 0), (.at 1), (.at 2), (.at 3), (.at 4), (.at 16), (.at 17)] [(.at 0), (.at 1), (.at 2), (.at 3), (.at 4), (.o2 (.add .i64) (.at 16) (.int 1)), (.at 22)])))))))
 (.imp (.o2 .eq (.o1 .asI (.o2 .lget (.o1 .asL (.o2 .lget (.at 2) (.at 16))) (.int 0))) (.int 4)) false
 (.and
 (.imp (.o2 .eq (.o1 .asI (.o2 .lget (.o1 .asL (.o2 .lget (.at 2) (.at 16))) (.int 0))) (.int 5)) true
 (.pre 9 [(.at 6), (.at 17), (.at 18), (.at 19)]
 (.all .L
 (.all .I
 (.post 9 [(.at 6), (.at 17), (.at 18), (.at 19), (.at 22), (.at 23)]
 (.know (.has .i64 (.at 23))
 (.back 0 [(.at 0), (.at 1), (.at 2), (.at 3), (.at 4), (.at 16), (.at 17)] [(.at 0), (.at 1), (.at 2), (.at 3), (.at 4), (.o2 (.add .i64) (.at 16) (.int 1)), (.at 22)])))))))
 (.imp (.o2 .eq (.o1 .asI (.o2 .lget (.o1 .asL (.o2 .lget (.at 2) (.at 16))) (.int 0))) (.int 5)) false
 (.and
 (.imp (.o2 .eq (.o1 .asI (.o2 .lget (.o1 .asL (.o2 .lget (.at 2) (.at 16))) (.int 0))) (.int 6)) true
 (.pre 7 [(.at 6), (.at 17), (.at 18)]
 (.all .L
 (.all .I
 (.post 7 [(.at 6), (.at 17), (.at 18), (.at 22), (.at 23)]
 (.know (.has .i64 (.at 23))
 (.back 0 [(.at 0), (.at 1), (.at 2), (.at 3), (.at 4), (.at 16), (.at 17)] [(.at 0), (.at 1), (.at 2), (.at 3), (.at 4), (.o2 (.add .i64) (.at 16) (.int 1)), (.at 22)])))))))
 (.imp (.o2 .eq (.o1 .asI (.o2 .lget (.o1 .asL (.o2 .lget (.at 2) (.at 16))) (.int 0))) (.int 6)) false
 (.and
 (.imp (.o2 .eq (.o1 .asI (.o2 .lget (.o1 .asL (.o2 .lget (.at 2) (.at 16))) (.int 0))) (.int 8)) true
 (.pre 8 [(.at 6), (.at 17), (.o1 .asI (.o2 .lget (.o1 .asL (.o2 .lget (.at 2) (.at 16))) (.int 1)))]
 (.all .L
 (.post 8 [(.at 6), (.at 17), (.o1 .asI (.o2 .lget (.o1 .asL (.o2 .lget (.at 2) (.at 16))) (.int 1))), (.at 22)]
 (.back 0 [(.at 0), (.at 1), (.at 2), (.at 3), (.at 4), (.at 16), (.at 17)] [(.at 0), (.at 1), (.at 2), (.at 3), (.at 4), (.o2 (.add .i64) (.at 16) (.int 1)), (.at 22)])))))
 (.imp (.o2 .eq (.o1 .asI (.o2 .lget (.o1 .asL (.o2 .lget (.at 2) (.at 16))) (.int 0))) (.int 8)) false
 (.back 0 [(.at 0), (.at 1), (.at 2), (.at 3), (.at 4), (.at 16), (.at 17)] [(.at 0), (.at 1), (.at 2), (.at 3), (.at 4), (.o2 (.add .i64) (.at 16) (.int 1)), (.at 17)])))))))))))))))))))))))))))
 (.imp (.o2 .lt (.at 16) (.int 20)) false
 (.pre 10 [(.at 6), (.at 17), (.at 3), (.at 4)]
 (.all .L
 (.post 10 [(.at 6), (.at 17), (.at 3), (.at 4), (.at 18)]
 (.pre 11 [(.at 6), (.at 18), (.str ⟨#[109, 105, 110, 101]⟩)]
 (.all .S
 (.all .I
 (.post 11 [(.at 6), (.at 18), (.str ⟨#[109, 105, 110, 101]⟩), (.at 19), (.at 20)]
 (.know (.ssz (.at 19))
 (.know (.has .i64 (.at 20))
 (.pre 10 [(.at 6), (.at 18), (.at 3), (.at 4)]
 (.all .L
 (.post 10 [(.at 6), (.at 18), (.at 3), (.at 4), (.at 21)]
 (.pre 11 [(.at 6), (.at 21), (.str ⟨#[109, 105, 110, 101]⟩)]
 (.all .S
 (.all .I
 (.post 11 [(.at 6), (.at 21), (.str ⟨#[109, 105, 110, 101]⟩), (.at 22), (.at 23)]
 (.know (.ssz (.at 22))
 (.know (.has .i64 (.at 23))
 (.pre 13 []
 (.all .B
 (.post 13 [(.at 24)]
 (.and
 (.imp (.at 24) true
 (.and
 (.imp (.o2 .eq (.at 20) (.int 0)) true
 (.and
 (.imp (.o2 .eq (.at 23) (.int 0)) true
 (.and
 (.imp (.o2 .eqs (.at 19) (.at 5)) true
 (.ret [(.at 0), (.at 1), (.at 2), (.at 3), (.at 4), (.o2 .eqs (.at 22) (.at 5))]))
 (.imp (.o2 .eqs (.at 19) (.at 5)) false
 (.ret [(.at 0), (.at 1), (.at 2), (.at 3), (.at 4), (.bool false)]))))
 (.imp (.o2 .eq (.at 23) (.int 0)) false
 (.ret [(.at 0), (.at 1), (.at 2), (.at 3), (.at 4), (.bool false)]))))
 (.imp (.o2 .eq (.at 20) (.int 0)) false
 (.ret [(.at 0), (.at 1), (.at 2), (.at 3), (.at 4), (.bool false)]))))
 (.imp (.at 24) false
 (.ret [(.at 0), (.at 1), (.at 2), (.at 3), (.at 4), (.bool false)])))))))))))))))))))))))))))
 (.imp (.o2 .lt (.at 16) (.o1 .llen (.at 2))) false
 (.pre 10 [(.at 6), (.at 17), (.at 3), (.at 4)]
 (.all .L
 (.post 10 [(.at 6), (.at 17), (.at 3), (.at 4), (.at 18)]
 (.pre 11 [(.at 6), (.at 18), (.str ⟨#[109, 105, 110, 101]⟩)]
 (.all .S
 (.all .I
 (.post 11 [(.at 6), (.at 18), (.str ⟨#[109, 105, 110, 101]⟩), (.at 19), (.at 20)]
 (.know (.ssz (.at 19))
 (.know (.has .i64 (.at 20))
 (.pre 10 [(.at 6), (.at 18), (.at 3), (.at 4)]
 (.all .L
 (.post 10 [(.at 6), (.at 18), (.at 3), (.at 4), (.at 21)]
 (.pre 11 [(.at 6), (.at 21), (.str ⟨#[109, 105, 110, 101]⟩)]
 (.all .S
 (.all .I
 (.post 11 [(.at 6), (.at 21), (.str ⟨#[109, 105, 110, 101]⟩), (.at 22), (.at 23)]
 (.know (.ssz (.at 22))
 (.know (.has .i64 (.at 23))
 (.pre 13 []
 (.all .B
 (.post 13 [(.at 24)]
 (.and
 (.imp (.at 24) true
 (.and
 (.imp (.o2 .eq (.at 20) (.int 0)) true
 (.and
 (.imp (.o2 .eq (.at 23) (.int 0)) true
 (.and
 (.imp (.o2 .eqs (.at 19) (.at 5)) true
 (.ret [(.at 0), (.at 1), (.at 2), (.at 3), (.at 4), (.o2 .eqs (.at 22) (.at 5))]))
 (.imp (.o2 .eqs (.at 19) (.at 5)) false
 (.ret [(.at 0), (.at 1), (.at 2), (.at 3), (.at 4), (.bool false)]))))
 (.imp (.o2 .eq (.at 23) (.int 0)) false
 (.ret [(.at 0), (.at 1), (.at 2), (.at 3), (.at 4), (.bool false)]))))
 (.imp (.o2 .eq (.at 20) (.int 0)) false
 (.ret [(.at 0), (.at 1), (.at 2), (.at 3), (.at 4), (.bool false)]))))
 (.imp (.at 24) false
 (.ret [(.at 0), (.at 1), (.at 2), (.at 3), (.at 4), (.bool false)]))))))))))))))))))))))))))))))))))))))))))))))))))))))))))))))))))))))))))))
def LDiskKeeps.Pure : Prop :=
 ∀ (s0 : ByteArray),
 ∀ (v1 : Value),
 ∀ (l2 : List D),
 ∀ (v3 : Value),
 ∀ (z4 : List Int),
 ((s0.size : Int) ≤ 9223372036854775807) →
 (EK.ok [.int .i64, .int .i64, .str, .str, .sl [.int .i64]] (D.L l2)) →
 (∀ x ∈ z4, IntKind.has .i64 x) →
 LDiskKeeps.sig.pre [(D.S s0), (D.V v1), (D.L l2), (D.V v3), (D.Z z4)] →
 dCut.sig.pre [(D.S s0), (D.I (100 : Int))] ∧ (
 ∀ (s5 : ByteArray),
 dCut.sig.post [(D.S s0), (D.I (100 : Int)), (D.S s5)] →
 ((s5.size : Int) ≤ 9223372036854775807) →
 qNew.sig.pre [(D.I (100000 : Int))] ∧ (
 ∀ (n6 : Nat),
 ∀ (l7 : List D),
 qNew.sig.post [(D.I (100000 : Int)), (D.N n6), (D.L l7)] →
 qCreate.sig.pre [(D.N n6), (D.L l7), (D.S (⟨#[109, 105, 110, 101]⟩ : ByteArray))] ∧ (
 ∀ (l8 : List D),
 ∀ (i9 : Int),
 qCreate.sig.post [(D.N n6), (D.L l7), (D.S (⟨#[109, 105, 110, 101]⟩ : ByteArray)), (D.L l8), (D.I i9)] →
 (-9223372036854775808 ≤ i9 ∧ i9 < 9223372036854775808) →
 ((
 (i9 ≠ (0 : Int)) →
  LDiskKeeps.sig.post [(D.S s0), (D.V v1), (D.L l2), (D.V v3), (D.Z z4), (D.B false)]) ∧ (
 (i9 = (0 : Int)) →
  qAppend.sig.pre [(D.N n6), (D.L l8), (D.S (⟨#[109, 105, 110, 101]⟩ : ByteArray)), (D.S s5)] ∧ (
 ∀ (l10 : List D),
 ∀ (i11 : Int),
  qAppend.sig.post [(D.N n6), (D.L l8), (D.S (⟨#[109, 105, 110, 101]⟩ : ByteArray)), (D.S s5), (D.L l10), (D.I i11)] →
 (-9223372036854775808 ≤ i11 ∧ i11 < 9223372036854775808) →
 ((
 (i11 ≠ (0 : Int)) →
   LDiskKeeps.sig.post [(D.S s0), (D.V v1), (D.L l2), (D.V v3), (D.Z z4), (D.B false)]) ∧ (
 (i11 = (0 : Int)) →
   qSync.sig.pre [(D.N n6), (D.L l10), (D.S (⟨#[109, 105, 110, 101]⟩ : ByteArray))] ∧ (
 ∀ (l12 : List D),
 ∀ (i13 : Int),
   qSync.sig.post [(D.N n6), (D.L l10), (D.S (⟨#[109, 105, 110, 101]⟩ : ByteArray)), (D.L l12), (D.I i13)] →
 (-9223372036854775808 ≤ i13 ∧ i13 < 9223372036854775808) →
 ((
 (i13 ≠ (0 : Int)) →
    LDiskKeeps.sig.post [(D.S s0), (D.V v1), (D.L l2), (D.V v3), (D.Z z4), (D.B false)]) ∧ (
 (i13 = (0 : Int)) →
    qSyncNames.sig.pre [(D.N n6), (D.L l12)] ∧ (
 ∀ (l14 : List D),
 ∀ (i15 : Int),
    qSyncNames.sig.post [(D.N n6), (D.L l12), (D.L l14), (D.I i15)] →
 (-9223372036854775808 ≤ i15 ∧ i15 < 9223372036854775808) →
 ((
 (i15 ≠ (0 : Int)) →
     LDiskKeeps.sig.post [(D.S s0), (D.V v1), (D.L l2), (D.V v3), (D.Z z4), (D.B false)]) ∧ (
 (i15 = (0 : Int)) →
     LDiskKeeps.I0 [(D.S s0), (D.V v1), (D.L l2), (D.V v3), (D.Z z4), (D.I (0 : Int)), (D.L l14)] ∧ (
 ∀ (i16 : Int),
 ∀ (l17 : List D),
 (-9223372036854775808 ≤ i16 ∧ i16 < 9223372036854775808) →
     LDiskKeeps.I0 [(D.S s0), (D.V v1), (D.L l2), (D.V v3), (D.Z z4), (D.I i16), (D.L l17)] →
 ((
 (i16 < ((l2.length : Nat) : Int)) →
 ((
 (i16 < (20 : Int)) →
 ((0 : Int) ≤ i16) ∧ (((0 : Int) ≤ i16) →
       fFew.sig.pre [(D.I ((((l2.getD i16.toNat default)).toL.getD (0 : Int).toNat default)).toI), (D.I ((((l2.getD i16.toNat default)).toL.getD (1 : Int).toNat default)).toI), (D.S ((((l2.getD i16.toNat default)).toL.getD (2 : Int).toNat default)).toS), (D.S ((((l2.getD i16.toNat default)).toL.getD (3 : Int).toNat default)).toS), (D.V ((((((l2.getD i16.toNat default)).toL.getD (4 : Int).toNat default)).toL.getD (0 : Int).toNat default)).toV), (D.Z ((((((l2.getD i16.toNat default)).toL.getD (4 : Int).toNat default)).toL.getD (1 : Int).toNat default)).toLi)] ∧ (
 ∀ (s18 : ByteArray),
 ∀ (s19 : ByteArray),
       fFew.sig.post [(D.I ((((l2.getD i16.toNat default)).toL.getD (0 : Int).toNat default)).toI), (D.I ((((l2.getD i16.toNat default)).toL.getD (1 : Int).toNat default)).toI), (D.S ((((l2.getD i16.toNat default)).toL.getD (2 : Int).toNat default)).toS), (D.S ((((l2.getD i16.toNat default)).toL.getD (3 : Int).toNat default)).toS), (D.V ((((((l2.getD i16.toNat default)).toL.getD (4 : Int).toNat default)).toL.getD (0 : Int).toNat default)).toV), (D.Z ((((((l2.getD i16.toNat default)).toL.getD (4 : Int).toNat default)).toL.getD (1 : Int).toNat default)).toLi), (D.S s18), (D.S s19)] →
 ((s18.size : Int) ≤ 9223372036854775807) →
 ((s19.size : Int) ≤ 9223372036854775807) →
 ∀ (v20 : Value),
 ∀ (n21 : Nat),
 ((
 (s18 = (⟨#[109, 105, 110, 101]⟩ : ByteArray)) →
        LDiskKeeps.I0 [(D.S s0), (D.V v1), (D.L l2), (D.V v3), (D.Z z4), (D.I (IntKind.wrap .i64 (i16 + (1 : Int)))), (D.L l17)] ∧ LDiskKeeps.I0M [(D.S s0), (D.V v1), (D.L l2), (D.V v3), (D.Z z4), (D.I (IntKind.wrap .i64 (i16 + (1 : Int)))), (D.L l17)] < LDiskKeeps.I0M [(D.S s0), (D.V v1), (D.L l2), (D.V v3), (D.Z z4), (D.I i16), (D.L l17)]) ∧ (
 (s18 ≠ (⟨#[109, 105, 110, 101]⟩ : ByteArray)) →
 ((
 (s19 = (⟨#[109, 105, 110, 101]⟩ : ByteArray)) →
         LDiskKeeps.I0 [(D.S s0), (D.V v1), (D.L l2), (D.V v3), (D.Z z4), (D.I (IntKind.wrap .i64 (i16 + (1 : Int)))), (D.L l17)] ∧ LDiskKeeps.I0M [(D.S s0), (D.V v1), (D.L l2), (D.V v3), (D.Z z4), (D.I (IntKind.wrap .i64 (i16 + (1 : Int)))), (D.L l17)] < LDiskKeeps.I0M [(D.S s0), (D.V v1), (D.L l2), (D.V v3), (D.Z z4), (D.I i16), (D.L l17)]) ∧ (
 (s19 ≠ (⟨#[109, 105, 110, 101]⟩ : ByteArray)) →
 ((
 (((((l2.getD i16.toNat default)).toL.getD (0 : Int).toNat default)).toI = (1 : Int)) →
          qCreate.sig.pre [(D.N n6), (D.L l17), (D.S s18)] ∧ (
 ∀ (l22 : List D),
 ∀ (i23 : Int),
          qCreate.sig.post [(D.N n6), (D.L l17), (D.S s18), (D.L l22), (D.I i23)] →
 (-9223372036854775808 ≤ i23 ∧ i23 < 9223372036854775808) →
          LDiskKeeps.I0 [(D.S s0), (D.V v1), (D.L l2), (D.V v3), (D.Z z4), (D.I (IntKind.wrap .i64 (i16 + (1 : Int)))), (D.L l22)] ∧ LDiskKeeps.I0M [(D.S s0), (D.V v1), (D.L l2), (D.V v3), (D.Z z4), (D.I (IntKind.wrap .i64 (i16 + (1 : Int)))), (D.L l22)] < LDiskKeeps.I0M [(D.S s0), (D.V v1), (D.L l2), (D.V v3), (D.Z z4), (D.I i16), (D.L l17)])) ∧ (
 (((((l2.getD i16.toNat default)).toL.getD (0 : Int).toNat default)).toI ≠ (1 : Int)) →
 ((
 (((((l2.getD i16.toNat default)).toL.getD (0 : Int).toNat default)).toI = (2 : Int)) →
           qAppend.sig.pre [(D.N n6), (D.L l17), (D.S s18), (D.S s19)] ∧ (
 ∀ (l22 : List D),
 ∀ (i23 : Int),
           qAppend.sig.post [(D.N n6), (D.L l17), (D.S s18), (D.S s19), (D.L l22), (D.I i23)] →
 (-9223372036854775808 ≤ i23 ∧ i23 < 9223372036854775808) →
           LDiskKeeps.I0 [(D.S s0), (D.V v1), (D.L l2), (D.V v3), (D.Z z4), (D.I (IntKind.wrap .i64 (i16 + (1 : Int)))), (D.L l22)] ∧ LDiskKeeps.I0M [(D.S s0), (D.V v1), (D.L l2), (D.V v3), (D.Z z4), (D.I (IntKind.wrap .i64 (i16 + (1 : Int)))), (D.L l22)] < LDiskKeeps.I0M [(D.S s0), (D.V v1), (D.L l2), (D.V v3), (D.Z z4), (D.I i16), (D.L l17)])) ∧ (
 (((((l2.getD i16.toNat default)).toL.getD (0 : Int).toNat default)).toI ≠ (2 : Int)) →
 ((
 (((((l2.getD i16.toNat default)).toL.getD (0 : Int).toNat default)).toI = (4 : Int)) →
            qSyncNames.sig.pre [(D.N n6), (D.L l17)] ∧ (
 ∀ (l22 : List D),
 ∀ (i23 : Int),
            qSyncNames.sig.post [(D.N n6), (D.L l17), (D.L l22), (D.I i23)] →
 (-9223372036854775808 ≤ i23 ∧ i23 < 9223372036854775808) →
            LDiskKeeps.I0 [(D.S s0), (D.V v1), (D.L l2), (D.V v3), (D.Z z4), (D.I (IntKind.wrap .i64 (i16 + (1 : Int)))), (D.L l22)] ∧ LDiskKeeps.I0M [(D.S s0), (D.V v1), (D.L l2), (D.V v3), (D.Z z4), (D.I (IntKind.wrap .i64 (i16 + (1 : Int)))), (D.L l22)] < LDiskKeeps.I0M [(D.S s0), (D.V v1), (D.L l2), (D.V v3), (D.Z z4), (D.I i16), (D.L l17)])) ∧ (
 (((((l2.getD i16.toNat default)).toL.getD (0 : Int).toNat default)).toI ≠ (4 : Int)) →
 ((
 (((((l2.getD i16.toNat default)).toL.getD (0 : Int).toNat default)).toI = (5 : Int)) →
             qRename.sig.pre [(D.N n6), (D.L l17), (D.S s18), (D.S s19)] ∧ (
 ∀ (l22 : List D),
 ∀ (i23 : Int),
             qRename.sig.post [(D.N n6), (D.L l17), (D.S s18), (D.S s19), (D.L l22), (D.I i23)] →
 (-9223372036854775808 ≤ i23 ∧ i23 < 9223372036854775808) →
             LDiskKeeps.I0 [(D.S s0), (D.V v1), (D.L l2), (D.V v3), (D.Z z4), (D.I (IntKind.wrap .i64 (i16 + (1 : Int)))), (D.L l22)] ∧ LDiskKeeps.I0M [(D.S s0), (D.V v1), (D.L l2), (D.V v3), (D.Z z4), (D.I (IntKind.wrap .i64 (i16 + (1 : Int)))), (D.L l22)] < LDiskKeeps.I0M [(D.S s0), (D.V v1), (D.L l2), (D.V v3), (D.Z z4), (D.I i16), (D.L l17)])) ∧ (
 (((((l2.getD i16.toNat default)).toL.getD (0 : Int).toNat default)).toI ≠ (5 : Int)) →
 ((
 (((((l2.getD i16.toNat default)).toL.getD (0 : Int).toNat default)).toI = (6 : Int)) →
              qRemove.sig.pre [(D.N n6), (D.L l17), (D.S s18)] ∧ (
 ∀ (l22 : List D),
 ∀ (i23 : Int),
              qRemove.sig.post [(D.N n6), (D.L l17), (D.S s18), (D.L l22), (D.I i23)] →
 (-9223372036854775808 ≤ i23 ∧ i23 < 9223372036854775808) →
              LDiskKeeps.I0 [(D.S s0), (D.V v1), (D.L l2), (D.V v3), (D.Z z4), (D.I (IntKind.wrap .i64 (i16 + (1 : Int)))), (D.L l22)] ∧ LDiskKeeps.I0M [(D.S s0), (D.V v1), (D.L l2), (D.V v3), (D.Z z4), (D.I (IntKind.wrap .i64 (i16 + (1 : Int)))), (D.L l22)] < LDiskKeeps.I0M [(D.S s0), (D.V v1), (D.L l2), (D.V v3), (D.Z z4), (D.I i16), (D.L l17)])) ∧ (
 (((((l2.getD i16.toNat default)).toL.getD (0 : Int).toNat default)).toI ≠ (6 : Int)) →
 ((
 (((((l2.getD i16.toNat default)).toL.getD (0 : Int).toNat default)).toI = (8 : Int)) →
               qCrash.sig.pre [(D.N n6), (D.L l17), (D.I ((((l2.getD i16.toNat default)).toL.getD (1 : Int).toNat default)).toI)] ∧ (
 ∀ (l22 : List D),
               qCrash.sig.post [(D.N n6), (D.L l17), (D.I ((((l2.getD i16.toNat default)).toL.getD (1 : Int).toNat default)).toI), (D.L l22)] →
               LDiskKeeps.I0 [(D.S s0), (D.V v1), (D.L l2), (D.V v3), (D.Z z4), (D.I (IntKind.wrap .i64 (i16 + (1 : Int)))), (D.L l22)] ∧ LDiskKeeps.I0M [(D.S s0), (D.V v1), (D.L l2), (D.V v3), (D.Z z4), (D.I (IntKind.wrap .i64 (i16 + (1 : Int)))), (D.L l22)] < LDiskKeeps.I0M [(D.S s0), (D.V v1), (D.L l2), (D.V v3), (D.Z z4), (D.I i16), (D.L l17)])) ∧ (
 (((((l2.getD i16.toNat default)).toL.getD (0 : Int).toNat default)).toI ≠ (8 : Int)) →
               LDiskKeeps.I0 [(D.S s0), (D.V v1), (D.L l2), (D.V v3), (D.Z z4), (D.I (IntKind.wrap .i64 (i16 + (1 : Int)))), (D.L l17)] ∧ LDiskKeeps.I0M [(D.S s0), (D.V v1), (D.L l2), (D.V v3), (D.Z z4), (D.I (IntKind.wrap .i64 (i16 + (1 : Int)))), (D.L l17)] < LDiskKeeps.I0M [(D.S s0), (D.V v1), (D.L l2), (D.V v3), (D.Z z4), (D.I i16), (D.L l17)]))))))))))))))))))) ∧ (
 ((20 : Int) ≤ i16) →
       qRestart.sig.pre [(D.N n6), (D.L l17), (D.V v3), (D.Z z4)] ∧ (
 ∀ (l18 : List D),
       qRestart.sig.post [(D.N n6), (D.L l17), (D.V v3), (D.Z z4), (D.L l18)] →
       qRead.sig.pre [(D.N n6), (D.L l18), (D.S (⟨#[109, 105, 110, 101]⟩ : ByteArray))] ∧ (
 ∀ (s19 : ByteArray),
 ∀ (i20 : Int),
       qRead.sig.post [(D.N n6), (D.L l18), (D.S (⟨#[109, 105, 110, 101]⟩ : ByteArray)), (D.S s19), (D.I i20)] →
 ((s19.size : Int) ≤ 9223372036854775807) →
 (-9223372036854775808 ≤ i20 ∧ i20 < 9223372036854775808) →
       qRestart.sig.pre [(D.N n6), (D.L l18), (D.V v3), (D.Z z4)] ∧ (
 ∀ (l21 : List D),
       qRestart.sig.post [(D.N n6), (D.L l18), (D.V v3), (D.Z z4), (D.L l21)] →
       qRead.sig.pre [(D.N n6), (D.L l21), (D.S (⟨#[109, 105, 110, 101]⟩ : ByteArray))] ∧ (
 ∀ (s22 : ByteArray),
 ∀ (i23 : Int),
       qRead.sig.post [(D.N n6), (D.L l21), (D.S (⟨#[109, 105, 110, 101]⟩ : ByteArray)), (D.S s22), (D.I i23)] →
 ((s22.size : Int) ≤ 9223372036854775807) →
 (-9223372036854775808 ≤ i23 ∧ i23 < 9223372036854775808) →
       dAwake.sig.pre [] ∧ (
 ∀ (b24 : Bool),
       dAwake.sig.post [(D.B b24)] →
 ((
 (b24 = true) →
 ((
 (i20 = (0 : Int)) →
 ((
 (i23 = (0 : Int)) →
 ((
 (s19 = s5) →
           LDiskKeeps.sig.post [(D.S s0), (D.V v1), (D.L l2), (D.V v3), (D.Z z4), (D.B (s22.toList == s5.toList))]) ∧ (
 (s19 ≠ s5) →
           LDiskKeeps.sig.post [(D.S s0), (D.V v1), (D.L l2), (D.V v3), (D.Z z4), (D.B false)]))) ∧ (
 (i23 ≠ (0 : Int)) →
          LDiskKeeps.sig.post [(D.S s0), (D.V v1), (D.L l2), (D.V v3), (D.Z z4), (D.B false)]))) ∧ (
 (i20 ≠ (0 : Int)) →
         LDiskKeeps.sig.post [(D.S s0), (D.V v1), (D.L l2), (D.V v3), (D.Z z4), (D.B false)]))) ∧ (
 (b24 = false) →
        LDiskKeeps.sig.post [(D.S s0), (D.V v1), (D.L l2), (D.V v3), (D.Z z4), (D.B false)])))))))))) ∧ (
 (((l2.length : Nat) : Int) ≤ i16) →
      qRestart.sig.pre [(D.N n6), (D.L l17), (D.V v3), (D.Z z4)] ∧ (
 ∀ (l18 : List D),
      qRestart.sig.post [(D.N n6), (D.L l17), (D.V v3), (D.Z z4), (D.L l18)] →
      qRead.sig.pre [(D.N n6), (D.L l18), (D.S (⟨#[109, 105, 110, 101]⟩ : ByteArray))] ∧ (
 ∀ (s19 : ByteArray),
 ∀ (i20 : Int),
      qRead.sig.post [(D.N n6), (D.L l18), (D.S (⟨#[109, 105, 110, 101]⟩ : ByteArray)), (D.S s19), (D.I i20)] →
 ((s19.size : Int) ≤ 9223372036854775807) →
 (-9223372036854775808 ≤ i20 ∧ i20 < 9223372036854775808) →
      qRestart.sig.pre [(D.N n6), (D.L l18), (D.V v3), (D.Z z4)] ∧ (
 ∀ (l21 : List D),
      qRestart.sig.post [(D.N n6), (D.L l18), (D.V v3), (D.Z z4), (D.L l21)] →
      qRead.sig.pre [(D.N n6), (D.L l21), (D.S (⟨#[109, 105, 110, 101]⟩ : ByteArray))] ∧ (
 ∀ (s22 : ByteArray),
 ∀ (i23 : Int),
      qRead.sig.post [(D.N n6), (D.L l21), (D.S (⟨#[109, 105, 110, 101]⟩ : ByteArray)), (D.S s22), (D.I i23)] →
 ((s22.size : Int) ≤ 9223372036854775807) →
 (-9223372036854775808 ≤ i23 ∧ i23 < 9223372036854775808) →
      dAwake.sig.pre [] ∧ (
 ∀ (b24 : Bool),
      dAwake.sig.post [(D.B b24)] →
 ((
 (b24 = true) →
 ((
 (i20 = (0 : Int)) →
 ((
 (i23 = (0 : Int)) →
 ((
 (s19 = s5) →
          LDiskKeeps.sig.post [(D.S s0), (D.V v1), (D.L l2), (D.V v3), (D.Z z4), (D.B (s22.toList == s5.toList))]) ∧ (
 (s19 ≠ s5) →
          LDiskKeeps.sig.post [(D.S s0), (D.V v1), (D.L l2), (D.V v3), (D.Z z4), (D.B false)]))) ∧ (
 (i23 ≠ (0 : Int)) →
         LDiskKeeps.sig.post [(D.S s0), (D.V v1), (D.L l2), (D.V v3), (D.Z z4), (D.B false)]))) ∧ (
 (i20 ≠ (0 : Int)) →
        LDiskKeeps.sig.post [(D.S s0), (D.V v1), (D.L l2), (D.V v3), (D.Z z4), (D.B false)]))) ∧ (
 (b24 = false) →
       LDiskKeeps.sig.post [(D.S s0), (D.V v1), (D.L l2), (D.V v3), (D.Z z4), (D.B false)]))))))))))))))))))))))))
theorem LDiskKeeps.den : LDiskKeeps.vc.den2 (mkEnv LDiskKeeps.sig [dCut.sig, qNew.sig, qCreate.sig, qAppend.sig, qSync.sig, qSyncNames.sig, qRemove.sig, qCrash.sig, qRename.sig, qRestart.sig, qRead.sig, fFew.sig, dAwake.sig] [(LDiskKeeps.I0, LDiskKeeps.I0M)]) [] = LDiskKeeps.Pure := by kernel_rfl
end Go.Vc
namespace Go.Vc
open Dk (Ds Fi Cg fileAt)
theorem Gd.apply {l : List (Tx × Nat)} {c : Cg} (h : Gd l) (hc : gC c) : Gd (Dk.apply l c) := by
  refine ⟨Dk.mem_apply.2 (.inr ⟨h.1, fun h => hc.1 h.symm, fun h => hc.2.1 h.symm⟩), fun p hp h0 => ?_⟩
  rcases Dk.mem_apply.1 hp with ⟨h1, rfl⟩ | ⟨h1, _⟩
  · exact absurd h0 (hc.2.2 h1)
  · exact h.2 p h1 h0
theorem Gd.fold : ∀ {cs : List Cg} {l : List (Tx × Nat)}, Gd l → (∀ c ∈ cs, gC c) → Gd (cs.foldl Dk.apply l)
  | [], _, h, _ => h
  | c :: cs, _, h, hc => Gd.fold (cs := cs) (h.apply (hc c (by simp))) fun c' h' => hc c' (by simp [h'])
theorem Mine.core {m : Tx} {x y : Ds} (h : Mine m x) (c : Core x y) : Mine m y := ⟨by rw [c.files]; exact h.file, by rw [c.names]; exact h.names, by rw [c.safe]; exact h.safe, by rw [c.pend]; exact h.pend⟩
theorem Mine.turn {m : Tx} {x : Ds} (h : Mine m x) {c : Cg} (hc : gC c) : Mine m (Dk.turn x c) :=
  ⟨h.file, h.names.apply hc, h.safe, fun c' h' => by
    rcases List.mem_append.1 h' with h' | h'
    · exact h.pend c' h'
    · rw [List.mem_singleton] at h'; subst h'; exact hc⟩
theorem Mine.set {m : Tx} {x : Ds} (h : Mine m x) {i : Nat} {f : Fi} (hi : i ≠ 0) : Mine m (Dk.set x i f) := by
  obtain ⟨⟨r, hr⟩, h2, h3, h4⟩ := h
  refine ⟨?_, h2, h3, h4⟩
  cases i with
  | zero => exact absurd rfl hi
  | succ i => exact ⟨r.set i f, by simp [Dk.set, hr]⟩
theorem Mine.other {m : Tx} {x : Ds} (h : Mine m x) {nm : Tx} {i : Nat} (hn : nm ≠ mN) (hf : Dk.find x.names nm = some i) : i ≠ 0 := fun h0 => hn (h.names.2 _ (Dk.find_mem hf) h0)
theorem mine_create {m : Tx} {x : Ds} (h : Mine m x) {nm : Tx} (hn : nm ≠ mN) : Mine m (Dk.create x nm).1 := by
  rcases create_sh x nm with c | ⟨y, c, h1, _, he⟩
  · exact h.core c
  · rw [he]
    have hy := h.core c
    refine Mine.turn (x := { y with files := y.files ++ [⟨[], 0⟩] }) (c := ⟨[], nm, x.files.length⟩) ⟨?_, hy.names, hy.safe, hy.pend⟩ ⟨(by decide : ([] : Tx) ≠ mN), hn, fun _ => ?_⟩
    · obtain ⟨r, hr⟩ := hy.file
      exact ⟨r ++ [⟨[], 0⟩], by simp [hr]⟩
    · obtain ⟨r, hr⟩ := h.file
      show x.files.length ≠ 0
      rw [hr]; simp
theorem mine_append {m : Tx} {x : Ds} (h : Mine m x) {nm s : Tx} (hn : nm ≠ mN) : Mine m (Dk.append x nm s).1 := by
  rcases append_sh x nm s with c | ⟨y, i, c, h1, he⟩
  · exact h.core c
  · rw [he]; exact (h.core c).set (h.other hn h1)
theorem mine_syncNames {m : Tx} {x : Ds} (h : Mine m x) : Mine m (Dk.syncNames x).1 := by
  rcases syncNames_sh x with c | ⟨y, c, he⟩
  · exact h.core c
  · rw [he]; exact ⟨(h.core c).file, (h.core c).names, h.names, by simp⟩
theorem mine_rename {m : Tx} {x : Ds} (h : Mine m x) {fr to : Tx} (hn : fr ≠ mN) (ht : to ≠ mN) : Mine m (Dk.rename x fr to).1 := by
  rcases rename_sh x fr to with c | ⟨y, i, c, h1, h2, _, he⟩
  · exact h.core c
  · rw [he]; exact (h.core c).turn ⟨hn, ht, fun _ => h.other hn h1⟩
theorem mine_remove {m : Tx} {x : Ds} (h : Mine m x) {nm : Tx} (hn : nm ≠ mN) : Mine m (Dk.remove x nm).1 := by
  rcases remove_sh x nm with c | ⟨y, i, c, h1, he⟩
  · exact h.core c
  · rw [he]; exact (h.core c).turn ⟨hn, (by decide : ([] : Tx) ≠ mN), fun h => absurd rfl h⟩
theorem mine_restart {m : Tx} {x : Ds} (h : Mine m x) (ch : List Int) : Mine m (Dk.restart x ch) := by
  obtain ⟨⟨r, hr⟩, h2, h3, h4⟩ := h
  have hg : Gd ((x.pend.take (Dk.pick ch 0 (x.pend.length + 1))).foldl Dk.apply x.safe) := h3.fold fun c hc => h4 c (List.mem_of_mem_take hc)
  refine ⟨?_, hg, hg, by simp [Dk.restart]⟩
  show ∃ r, Dk.cut _ ch 0 1 x.files = _
  rw [hr, Dk.cut, if_neg (fun hh => Nat.lt_irrefl _ hh.2)]
  exact ⟨_, rfl⟩
theorem mine_read {m : Tx} {x : Ds} (h : Mine m x) (hi : Dk.Inv x) (hd : x.dead = false) : Dk.read x mN = (m, 0) := by
  obtain ⟨⟨r, hr⟩, h2, h3, h4⟩ := h
  unfold Dk.read
  rw [hd, find_sorted hi.sn h2.1]
  show ((fileAt x 0).data, (0 : Int)) = _
  unfold fileAt
  rw [hr]; rfl

def mk1 (c : Int) : Ds := ⟨[⟨[], 0⟩], [(mN, 0)], [], [⟨[], mN, 0⟩], 100000, -1, -1, false, c⟩
def mk2 (m : Tx) (c : Int) : Ds := ⟨[⟨m, 0⟩], [(mN, 0)], [], [⟨[], mN, 0⟩], 100000, -1, -1, false, c⟩
def mk3 (m : Tx) (c : Int) : Ds := ⟨[⟨m, m.length⟩], [(mN, 0)], [], [⟨[], mN, 0⟩], 100000, -1, -1, false, c⟩
def mk4 (m : Tx) (c : Int) : Ds := ⟨[⟨m, m.length⟩], [(mN, 0)], [(mN, 0)], [], 100000, -1, -1, false, c⟩
theorem mk1_eq : Dk.create (Dk.new 100000) mN = (mk1 1, 0) := by decide
theorem mk2_eq {m : Tx} (h : m.length ≤ 100) : Dk.append (mk1 1) mN m = (mk2 m 2, 0) := by
  unfold Dk.append
  show (if (false : Bool) = true then _ else if (m.length : Int) > Dk.free (mk1 1) then _ else _) = _
  have hf : Dk.free (mk1 1) = 100000 := by decide
  rw [if_neg (by simp), if_neg (by rw [hf]; omega)]
  rfl
theorem mk4_mine (m : Tx) : Mine m (mk4 m 4) := ⟨⟨[], rfl⟩, ⟨by simp [mk4], by simp [mk4]⟩, ⟨by simp [mk4], by simp [mk4]⟩, by simp [mk4]⟩

theorem fFew.pure : fFew.Pure := by
  intro i0 i1 s2 s3 v4 z5 _ _ _ _ _ _ n6 v7 n8
  refine ⟨(by decide : (0 : Int) ≤ 8), fun s9 (h9 : s9 = s2.extract 0 8) _ => ⟨(by decide : (0 : Int) ≤ 100), fun s10 (h10 : s10 = s3.extract 0 100) _ => ⟨fun h5 => ⟨(by decide : (0 : Int) ≤ 8), fun s11 (h11 : s11 = s10.extract 0 8) _ => ⟨h9, ?_⟩⟩, fun h5 => ⟨h9, ?_⟩⟩⟩⟩
  · show s11 = if i0 = 5 then _ else _
    rw [if_pos h5, h11, h10]; rfl
  · show s10 = if i0 = 5 then _ else _
    rw [if_neg h5, h10]; rfl

theorem tx_cut (s : ByteArray) (n : Nat) : tx (s.extract 0 n) = (tx s).take n := by rw [tx_extract, List.drop_zero]
theorem cut_len' (s : ByteArray) (n : Nat) : (tx (s.extract 0 n)).length ≤ n := by rw [tx_cut, List.length_take]; omega
theorem keeps_step {s0 : ByteArray} {v1 v3 : Value} {l2 l17 l22 : List D} {z4 : List Int} {i : Int} {x : Ds} (h0 : 0 ≤ i) (h2 : i < 20) (r : RepL l22 x) (lm : Lim (4 + i.toNat + 1) (100 + 100 * i.toNat + 100) x) (mn : Mine (tx (s0.extract 0 100)) x) :
    LDiskKeeps.I0 [.S s0, .V v1, .L l2, .V v3, .Z z4, .I (IntKind.wrap .i64 (i + 1)), .L l22] ∧ LDiskKeeps.I0M [.S s0, .V v1, .L l2, .V v3, .Z z4, .I (IntKind.wrap .i64 (i + 1)), .L l22] < LDiskKeeps.I0M [.S s0, .V v1, .L l2, .V v3, .Z z4, .I i, .L l17] := by
  have hw : IntKind.i64.wrap (i + 1) = i + 1 := wrap64 (by omega) (by omega)
  rw [hw]
  refine ⟨⟨(by omega : 0 ≤ i + 1), (by omega : i + 1 ≤ 20), x, r, lm.mono ?_ ?_, mn⟩, ?_⟩
  · show 4 + i.toNat + 1 ≤ 4 + (i + 1).toNat
    omega
  · show 100 + 100 * i.toNat + 100 ≤ 100 + 100 * (i + 1).toNat
    omega
  · show (20 - (i + 1)).toNat < (20 - i).toNat
    omega

theorem LDiskKeeps.pure : LDiskKeeps.Pure := by
  intro s0 v1 l2 v3 z4 _ _ _ _
  refine ⟨(by decide : (0 : Int) ≤ 100), ?_⟩
  intro s5 (h5 : s5 = s0.extract 0 100) _
  subst h5
  have hm := cut_len' s0 100
  refine ⟨trivial, fun n6 l7 (r1 : RepL l7 (Dk.new 100000)) => ⟨⟨_, r1, small_new⟩, fun l8 i9 h8 _ => ?_⟩⟩
  have r2 : RepL l8 (Dk.create (Dk.new 100000) mN).1 ∧ i9 = (Dk.create (Dk.new 100000) mN).2 := h8 _ r1 small_new
  rw [mk1_eq] at r2
  obtain ⟨r2, e2⟩ := r2
  have m1 : Lim 1 0 (mk1 1) := by have := lim_create (lim_new 100000) mN; rw [mk1_eq] at this; exact this
  have m2 : Lim 2 100 (mk2 (tx (s0.extract 0 100)) 2) := by have := lim_append m1 mN (tx (s0.extract 0 100)); rw [mk2_eq hm] at this; exact this.mono (Nat.le_refl _) (by omega)
  have m3 : Lim 3 100 (mk3 (tx (s0.extract 0 100)) 3) := lim_sync m2 mN
  have m4 : Lim 4 100 (mk4 (tx (s0.extract 0 100)) 4) := lim_syncNames m3
  refine ⟨fun h => absurd e2 h, fun _ => ⟨⟨_, r2, m1.small (by omega) (by omega)⟩, fun l10 i11 h10 _ => ?_⟩⟩
  have r3 : RepL l10 (Dk.append (mk1 1) mN (tx (s0.extract 0 100))).1 ∧ i11 = (Dk.append (mk1 1) mN (tx (s0.extract 0 100))).2 := h10 _ r2 (m1.small (by omega) (by omega))
  rw [mk2_eq hm] at r3
  obtain ⟨r3, e3⟩ := r3
  refine ⟨fun h => absurd e3 h, fun _ => ⟨⟨_, r3, m2.small (by omega) (by omega)⟩, fun l12 i13 h12 _ => ?_⟩⟩
  obtain ⟨r4, e4⟩ := h12 _ r3 (m2.small (by omega) (by omega))
  refine ⟨fun h => absurd e4 h, fun _ => ⟨⟨_, r4, m3.small (by omega) (by omega)⟩, fun l14 i15 h14 _ => ?_⟩⟩
  obtain ⟨r5, e5⟩ := h14 _ r4 (m3.small (by omega) (by omega))
  refine ⟨fun h => absurd e5 h, fun _ => ⟨⟨Int.le_refl _, (by decide : (0 : Int) ≤ 20), _, r5, m4, mk4_mine _⟩, ?_⟩⟩
  intro i16 l17 _ ⟨h0, h20, x, rx, lx, mx⟩
  have h0 : 0 ≤ i16 := h0
  have h20 : i16 ≤ 20 := h20
  have rx : RepL l17 x := rx
  have lx : Lim (4 + i16.toNat) (100 + 100 * i16.toNat) x := lx
  have mx : Mine (tx (s0.extract 0 100)) x := mx
  have sx : Small x := lx.small (by omega) (by omega)
  refine ⟨fun _ => ⟨fun hi => ⟨h0, fun _ => ⟨trivial, ?_⟩⟩, fun _ => ?_⟩, fun _ => ?_⟩
  · intro s18 s19 ⟨g8, g9⟩ _ _ _ _
    have g9 : s19 = if _ = (5 : Int) then _ else _ := g9
    have hl9 : (tx s19).length ≤ 100 := by
      rw [g9]
      split
      · rw [tx_cut, List.length_take]; omega
      · exact cut_len' _ _
    have ne : ∀ {s : ByteArray}, s ≠ (⟨#[109, 105, 110, 101]⟩ : ByteArray) → tx s ≠ mN := fun h he => h (tx_inj he)
    have same := keeps_step (v1 := v1) (v3 := v3) (l2 := l2) (l17 := l17) (z4 := z4) h0 hi rx (lx.mono (by omega) (by omega)) mx
    refine ⟨fun _ => same, fun h18 => ⟨fun _ => same, fun h19 => ⟨fun _ => ⟨⟨_, rx, sx⟩, fun l22 i23 h _ => ?_⟩, fun _ => ⟨fun _ => ⟨⟨_, rx, sx⟩, fun l22 i23 h _ => ?_⟩, fun _ => ⟨fun _ => ⟨⟨_, rx, sx⟩, fun l22 i23 h _ => ?_⟩,
      fun _ => ⟨fun _ => ⟨⟨_, rx, sx⟩, fun l22 i23 h _ => ?_⟩, fun _ => ⟨fun _ => ⟨⟨_, rx, sx⟩, fun l22 i23 h _ => ?_⟩, fun _ => ⟨fun _ => ⟨⟨_, rx, sx⟩, fun l22 h => ?_⟩, fun _ => same⟩⟩⟩⟩⟩⟩⟩⟩
    · exact keeps_step h0 hi (h _ rx sx).1 ((lim_create lx _).mono (Nat.le_refl _) (by omega)) (mine_create mx (ne h18))
    · exact keeps_step h0 hi (h _ rx sx).1 ((lim_append lx _ _).mono (Nat.le_refl _) (Nat.add_le_add_left hl9 _)) (mine_append mx (ne h18))
    · exact keeps_step h0 hi (h _ rx sx).1 ((lim_syncNames lx).mono (Nat.le_refl _) (by omega)) (mine_syncNames mx)
    · exact keeps_step h0 hi (h _ rx sx).1 ((lim_rename lx _ _).mono (Nat.le_refl _) (by omega)) (mine_rename mx (ne h18) (ne h19))
    · exact keeps_step h0 hi (h _ rx sx).1 ((lim_remove lx _).mono (Nat.le_refl _) (by omega)) (mine_remove mx (ne h18))
    · refine keeps_step h0 hi (h _ rx sx) ?_ (mx.core ⟨rfl, rfl, rfl, rfl, rfl⟩)
      exact ⟨lx.inv.same rfl rfl rfl rfl, by have := lx.files; dsimp only; omega, lx.hist, by have := lx.pend; dsimp only; omega, lx.calls0, by have := lx.calls; dsimp only; omega, lx.room, by have := lx.bytes; exact Nat.le_trans this (by omega)⟩
  all_goals
    refine ⟨⟨_, rx, sx⟩, fun l18 h18 => ?_⟩
    have r6 := h18 _ rx sx
    have l6 := lim_restart lx z4
    have m6 := mine_restart mx z4
    have s6 : Small (Dk.restart x z4) := l6.small (by omega) (by omega)
    refine ⟨⟨_, r6, s6⟩, fun s19 i20 h19 _ _ => ⟨⟨_, r6, s6⟩, fun l21 h21 => ?_⟩⟩
    have q6 := h19 _ r6 s6
    have r7 := h21 _ r6 s6
    have l7 := lim_restart l6 z4
    have m7 := mine_restart m6 z4
    have s7 : Small (Dk.restart (Dk.restart x z4) z4) := l7.small (by omega) (by omega)
    refine ⟨⟨_, r7, s7⟩, fun s22 i23 h22 _ _ => ⟨trivial, fun b24 (hb : b24 = true) => ?_⟩⟩
    have q7 := h22 _ r7 s7
    have q6 : (tx s19, i20) = (tx (s0.extract 0 100), 0) := q6.trans (mine_read m6 s6.inv rfl)
    have q7 : (tx s22, i23) = (tx (s0.extract 0 100), 0) := q7.trans (mine_read m7 s7.inv rfl)
    simp only [Prod.mk.injEq] at q6 q7
    have e6 := tx_inj q6.1
    have e7 := tx_inj q7.1
    subst e6
    refine ⟨fun _ => ⟨fun _ => ⟨fun _ => ⟨fun _ => ?_, fun h => absurd rfl h⟩, fun h => absurd q7.2 h⟩, fun h => absurd q6.2 h⟩, fun h => by rw [hb] at h; cases h⟩
    rw [e7]
    show (some (D.B _)) = _
    simp

end Go.Vc
namespace Go.Vc
open Dk (Ds Fi Cg fileAt)
def dec (c : Int) : Int := if c > 0 then c - 1 else c
def fo (o : Tx) : Fi := ⟨o, o.length⟩
def aN : Tx := [97]
def bN : Tx := [98]
/-- The old file, whole. -/
def sw0 (o : Tx) (c : Int) : Ds := ⟨[fo o], [(aN, 0)], [(aN, 0)], [], 100000, c, -1, false, 4⟩
/-- The new one's name is there. -/
def sw1 (o : Tx) (f : Fi) (c : Int) (dead : Bool) (n : Int) : Ds := ⟨[fo o, f], [(aN, 0), (bN, 1)], [(aN, 0)], [⟨[], bN, 1⟩], 100000, c, -1, dead, n⟩
/-- It has taken the other's place. -/
def sw2 (o w : Tx) (c : Int) (dead : Bool) (n : Int) : Ds := ⟨[fo o, fo w], [(aN, 1)], [(aN, 0)], [⟨[], bN, 1⟩, ⟨bN, aN, 1⟩], 100000, c, -1, dead, n⟩
def sw3 (o w : Tx) (c : Int) (n : Int) : Ds := ⟨[fo o, fo w], [(aN, 1)], [(aN, 1)], [], 100000, c, -1, false, n⟩

theorem begin_c {x : Ds} (hd : x.dead = false) (hf : x.fail = -1) : Dk.begin x = if x.crash = 0 then ({ x with crash := -1, dead := true }, true, 9) else ({ x with crash := dec x.crash, calls := x.calls + 1 }, false, 0) := by
  obtain ⟨a1, a2, a3, a4, a5, a6, a7, a8, a9⟩ := x
  have hd : a8 = false := hd
  have hf : a7 = -1 := hf
  subst hd hf
  unfold Dk.begin dec
  by_cases h : a6 = 0
  · subst h; rfl
  · by_cases h2 : a6 > 0 <;> simp [h, h2]
theorem sw_create {o : Tx} {c : Int} : Dk.create (sw0 o c) bN = if c = 0 then (sw1 o ⟨[], 0⟩ (-1) true 4, 9) else (sw1 o ⟨[], 0⟩ (dec c) false 5, 0) := by
  unfold Dk.create
  rw [begin_c rfl rfl]
  by_cases h : c = 0
  · subst h; rfl
  · rw [if_neg (show ¬ (sw0 o c).crash = 0 from h), if_neg h]; rfl
theorem sw_append {o w : Tx} {c : Int} (ho : o.length ≤ 60) (hw : w.length ≤ 60) : Dk.append (sw1 o ⟨[], 0⟩ c false 5) bN w = if c = 0 then (sw1 o ⟨w, 0⟩ (-1) true 5, 9) else (sw1 o ⟨w, 0⟩ (dec c) false 6, 0) := by
  have hf : ¬ (w.length : Int) > Dk.free (sw1 o ⟨[], 0⟩ c false 5) := by
    have : Dk.used (sw1 o ⟨[], 0⟩ c false 5) = o.length := by simp [Dk.used, Dk.usedFrom, sw1, fo, Dk.held]
    unfold Dk.free
    rw [this]
    show ¬ (w.length : Int) > max ((100000 : Int) - o.length) 0
    omega
  unfold Dk.append
  rw [begin_c rfl rfl, if_neg (show ¬ (sw1 o ⟨[], 0⟩ c false 5).dead = true from by simp [sw1])]
  show (if (w.length : Int) > Dk.free (sw1 o ⟨[], 0⟩ c false 5) then _ else _) = _
  rw [if_neg hf]
  by_cases h : c = 0
  · subst h; rfl
  · rw [if_neg (show ¬ (sw1 o ⟨[], 0⟩ c false 5).crash = 0 from h), if_neg h]; rfl
theorem sw_sync {o w : Tx} {c : Int} : Dk.sync (sw1 o ⟨w, 0⟩ c false 6) bN = if c = 0 then (sw1 o ⟨w, 0⟩ (-1) true 6, 9) else (sw1 o (fo w) (dec c) false 7, 0) := by
  unfold Dk.sync
  rw [begin_c rfl rfl]
  by_cases h : c = 0
  · subst h; rfl
  · rw [if_neg (show ¬ (sw1 o ⟨w, 0⟩ c false 6).crash = 0 from h), if_neg h]; rfl
theorem sw_rename {o w : Tx} {c : Int} : Dk.rename (sw1 o (fo w) c false 7) bN aN = if c = 0 then (sw2 o w (-1) true 7, 9) else (sw2 o w (dec c) false 8, 0) := by
  unfold Dk.rename
  rw [begin_c rfl rfl]
  by_cases h : c = 0
  · subst h; rfl
  · rw [if_neg (show ¬ (sw1 o (fo w) c false 7).crash = 0 from h), if_neg h]; rfl
theorem sw_names {o w : Tx} {c : Int} : Dk.syncNames (sw2 o w c false 8) = if c = 0 then (sw2 o w (-1) true 8, 9) else (sw3 o w (dec c) 9, 0) := by
  unfold Dk.syncNames
  rw [begin_c rfl rfl]
  by_cases h : c = 0
  · subst h; rfl
  · rw [if_neg (show ¬ (sw2 o w c false 8).crash = 0 from h), if_neg h]; rfl

/-- Where a whole file is, it is behind Restart. -/
theorem cut_whole (d : Ds) (ch : List Int) : ∀ (i k : Nat) (fs : List Fi) (j : Nat) (f : Fi), fs[j]? = some f → f.safe = f.data.length → (Dk.cut d ch i k fs)[j]? = some f
  | _, _, [], _, _, h, _ => by simp at h
  | i, k, g :: fs, j, f, h, hs => by
    unfold Dk.cut
    cases j with
    | zero =>
      simp only [List.getElem?_cons_zero, Option.some.injEq] at h
      subst h
      rw [if_neg (fun hh => by rw [hs] at hh; exact Nat.lt_irrefl _ hh.2)]
      rfl
    | succ j =>
      have h : fs[j]? = some f := by simpa using h
      split
      · simpa using cut_whole d ch (i + 1) (k + 1) fs j f h hs
      · simpa using cut_whole d ch (i + 1) k fs j f h hs
theorem read_restart {x : Ds} {ch : List Int} {nm : Tx} {i : Nat} {f : Fi} (hn : Dk.find ((x.pend.take (Dk.pick ch 0 (x.pend.length + 1))).foldl Dk.apply x.safe) nm = some i) (hf : x.files[i]? = some f) (hs : f.safe = f.data.length) :
    Dk.read (Dk.restart x ch) nm = (f.data, 0) := by
  have h1 : Dk.find (Dk.restart x ch).names nm = some i := hn
  unfold Dk.read
  rw [show (Dk.restart x ch).dead = false from rfl, h1]
  show ((fileAt (Dk.restart x ch) i).data, (0 : Int)) = _
  have h2 : (Dk.restart x ch).files[i]? = some f := cut_whole _ ch 0 1 x.files i f hf hs
  unfold fileAt
  rw [List.getD, h2]; rfl
theorem sw1_read {o : Tx} {f : Fi} {c n : Int} {dead : Bool} {ch : List Int} : Dk.read (Dk.restart (sw1 o f c dead n) ch) aN = (o, 0) := by
  refine read_restart (i := 0) (f := fo o) ?_ rfl rfl
  have h := Dk.pick_lt ch 0 2 (by omega)
  show Dk.find (([⟨[], bN, 1⟩] : List Cg).take (Dk.pick ch 0 2) |>.foldl Dk.apply [(aN, 0)]) aN = some 0
  rcases show Dk.pick ch 0 2 = 0 ∨ Dk.pick ch 0 2 = 1 by omega with e | e <;> (rw [e]; decide)
theorem sw2_read {o w : Tx} {c n : Int} {dead : Bool} {ch : List Int} : Dk.read (Dk.restart (sw2 o w c dead n) ch) aN = (o, 0) ∨ Dk.read (Dk.restart (sw2 o w c dead n) ch) aN = (w, 0) := by
  have h := Dk.pick_lt ch 0 3 (by omega)
  rcases show Dk.pick ch 0 3 = 0 ∨ Dk.pick ch 0 3 = 1 ∨ Dk.pick ch 0 3 = 2 by omega with e | e | e
  · refine .inl (read_restart (i := 0) (f := fo o) ?_ rfl rfl)
    show Dk.find (([⟨[], bN, 1⟩, ⟨bN, aN, 1⟩] : List Cg).take (Dk.pick ch 0 3) |>.foldl Dk.apply [(aN, 0)]) aN = some 0
    rw [e]; decide
  · refine .inl (read_restart (i := 0) (f := fo o) ?_ rfl rfl)
    show Dk.find (([⟨[], bN, 1⟩, ⟨bN, aN, 1⟩] : List Cg).take (Dk.pick ch 0 3) |>.foldl Dk.apply [(aN, 0)]) aN = some 0
    rw [e]; decide
  · refine .inr (read_restart (i := 1) (f := fo w) ?_ rfl rfl)
    show Dk.find (([⟨[], bN, 1⟩, ⟨bN, aN, 1⟩] : List Cg).take (Dk.pick ch 0 3) |>.foldl Dk.apply [(aN, 0)]) aN = some 1
    rw [e]; decide
theorem sw3_read {o w : Tx} {c n : Int} {ch : List Int} : Dk.read (Dk.restart (sw3 o w c n) ch) aN = (w, 0) := by
  refine read_restart (i := 1) (f := fo w) ?_ rfl rfl
  show Dk.find (([] : List Cg).take (Dk.pick ch 0 1) |>.foldl Dk.apply [(aN, 1)]) aN = some 1
  rw [List.take_nil]; decide

def su1 (c : Int) : Ds := ⟨[⟨[], 0⟩], [(aN, 0)], [], [⟨[], aN, 0⟩], 100000, -1, -1, false, c⟩
def su2 (m : Tx) (c : Int) : Ds := ⟨[⟨m, 0⟩], [(aN, 0)], [], [⟨[], aN, 0⟩], 100000, -1, -1, false, c⟩
def su3 (m : Tx) (c : Int) : Ds := ⟨[fo m], [(aN, 0)], [], [⟨[], aN, 0⟩], 100000, -1, -1, false, c⟩
theorem su1_eq : Dk.create (Dk.new 100000) aN = (su1 1, 0) := by decide
theorem su2_eq {m : Tx} (h : m.length ≤ 60) : Dk.append (su1 1) aN m = (su2 m 2, 0) := by
  unfold Dk.append
  show (if (false : Bool) = true then _ else if (m.length : Int) > Dk.free (su1 1) then _ else _) = _
  have hf : Dk.free (su1 1) = 100000 := by decide
  rw [if_neg (by simp), if_neg (by rw [hf]; omega)]
  rfl
/-- Behind a call that stopped. -/
theorem swap_tail {s0 s1 s5 s6 : ByteArray} {v2 : Value} {z3 : List Int} {i4 : Int} {n7 : Nat} {l : List D} {x : Ds} (r : RepL l x) (sx : Small x) (sr : Small (Dk.restart x z3)) (hd : x.dead = true) (hr : Dk.read (Dk.restart x z3) aN = (tx s5, 0) ∨ Dk.read (Dk.restart x z3) aN = (tx s6, 0)) :
    qDead.sig.pre [.N n7, .L l] ∧ (∀ b26 : Bool, qDead.sig.post [.N n7, .L l, .B b26] →
      ((b26 = false → LDiskSwap.sig.post [.S s0, .S s1, .V v2, .Z z3, .I i4, .B false]) ∧ (b26 = true →
        qRestart.sig.pre [.N n7, .L l, .V v2, .Z z3] ∧ (∀ l27 : List D, qRestart.sig.post [.N n7, .L l, .V v2, .Z z3, .L l27] →
          qRead.sig.pre [.N n7, .L l27, .S (⟨#[97]⟩ : ByteArray)] ∧ (∀ (s28 : ByteArray) (i29 : Int), qRead.sig.post [.N n7, .L l27, .S (⟨#[97]⟩ : ByteArray), .S s28, .I i29] → (s28.size : Int) ≤ 9223372036854775807 → (-9223372036854775808 ≤ i29 ∧ i29 < 9223372036854775808) →
            dAwake.sig.pre [] ∧ (∀ b30 : Bool, dAwake.sig.post [.B b30] →
              ((b30 = true → ((i29 = 0 → ((s28 = s6 → LDiskSwap.sig.post [.S s0, .S s1, .V v2, .Z z3, .I i4, .B true]) ∧ (s28 ≠ s6 → LDiskSwap.sig.post [.S s0, .S s1, .V v2, .Z z3, .I i4, .B (s28.toList == s5.toList)]))) ∧
                (i29 ≠ 0 → LDiskSwap.sig.post [.S s0, .S s1, .V v2, .Z z3, .I i4, .B false]))) ∧ (b30 = false → LDiskSwap.sig.post [.S s0, .S s1, .V v2, .Z z3, .I i4, .B false])))))))) := by
  refine ⟨⟨_, r, sx⟩, fun b26 h26 => ?_⟩
  have h26 : b26 = x.dead := h26 x r sx
  refine ⟨fun h => (by rw [h26, hd] at h; cases h), fun _ => ⟨⟨_, r, sx⟩, fun l27 h27 => ?_⟩⟩
  have r2 : RepL l27 (Dk.restart x z3) := h27 x r sx
  refine ⟨⟨_, r2, sr⟩, fun s28 i29 h28 _ _ => ?_⟩
  have q : (tx s28, i29) = Dk.read (Dk.restart x z3) aN := h28 _ r2 sr
  refine ⟨trivial, fun b30 (hb : b30 = true) => ⟨fun _ => ⟨fun _ => ⟨fun _ => rfl, fun hne => ?_⟩, fun h => ?_⟩, fun h => (by rw [hb] at h; cases h)⟩⟩
  · have : s28 = s5 := by
      rcases hr with hr | hr
      · rw [hr] at q; exact tx_inj (congrArg Prod.fst q)
      · rw [hr] at q; exact absurd (tx_inj (congrArg Prod.fst q)) hne
    rw [this]
    show (some (D.B _)) = _
    simp
  · have : i29 = 0 := by
      rcases hr with hr | hr <;> (rw [hr] at q; exact congrArg Prod.snd q)
    exact absurd this h

theorem lim_crash {n b : Nat} {x : Ds} (h : Lim n b x) (c : Int) : Lim n b { x with crash := c } := ⟨h.inv.same rfl rfl rfl rfl, h.files, h.hist, h.pend, h.calls0, h.calls, h.room, h.bytes⟩
theorem LDiskSwap.pure : LDiskSwap.Pure := by
  intro s0 s1 v2 z3 i4 _ _ _ _ _
  refine ⟨(by decide : (0 : Int) ≤ 60), fun s5 (h5 : s5 = s0.extract 0 60) _ => ⟨(by decide : (0 : Int) ≤ 60), fun s6 (h6 : s6 = s1.extract 0 60) _ => ?_⟩⟩
  have ho : (tx s5).length ≤ 60 := by rw [h5]; exact cut_len' _ _
  have hw : (tx s6).length ≤ 60 := by rw [h6]; exact cut_len' _ _
  clear h5 h6
  have m1 : Lim 1 0 (su1 1) := by have := lim_create (lim_new 100000) aN; rw [su1_eq] at this; exact this
  have m2 : Lim 2 60 (su2 (tx s5) 2) := by have := lim_append m1 aN (tx s5); rw [su2_eq ho] at this; exact this.mono (Nat.le_refl _) (by omega)
  have m3 : Lim 3 60 (su3 (tx s5) 3) := lim_sync m2 aN
  have m4 : Lim 4 60 (sw0 (tx s5) (-1)) := lim_syncNames m3
  refine ⟨trivial, fun n7 l8 (r1 : RepL l8 (Dk.new 100000)) => ⟨⟨_, r1, small_new⟩, fun l9 i10 h9 _ => ?_⟩⟩
  have r2 : RepL l9 (Dk.create (Dk.new 100000) aN).1 ∧ i10 = (Dk.create (Dk.new 100000) aN).2 := h9 _ r1 small_new
  rw [su1_eq] at r2
  refine ⟨fun h => absurd r2.2 h, fun _ => ⟨⟨_, r2.1, m1.small (by omega) (by omega)⟩, fun l11 i12 h11 _ => ?_⟩⟩
  have r3 : RepL l11 (Dk.append (su1 1) aN (tx s5)).1 ∧ i12 = (Dk.append (su1 1) aN (tx s5)).2 := h11 _ r2.1 (m1.small (by omega) (by omega))
  rw [su2_eq ho] at r3
  refine ⟨fun h => absurd r3.2 h, fun _ => ⟨⟨_, r3.1, m2.small (by omega) (by omega)⟩, fun l13 i14 h13 _ => ?_⟩⟩
  obtain ⟨r4, e4⟩ := h13 _ r3.1 (m2.small (by omega) (by omega))
  refine ⟨fun h => absurd e4 h, fun _ => ⟨⟨_, r4, m3.small (by omega) (by omega)⟩, fun l15 i16 h15 _ => ?_⟩⟩
  obtain ⟨r5, e5⟩ := h15 _ r4 (m3.small (by omega) (by omega))
  refine ⟨fun h => absurd e5 h, fun _ => ⟨⟨_, r5, m4.small (by omega) (by omega)⟩, fun l17 h17 => ?_⟩⟩
  obtain ⟨c, r6⟩ : ∃ c, RepL l17 (sw0 (tx s5) c) := ⟨_, h17 _ r5 (m4.small (by omega) (by omega))⟩
  have k0 : Lim 4 60 (sw0 (tx s5) c) := lim_crash m4 c
  have q0 := k0.small (by omega) (by omega)
  refine ⟨⟨_, r6, q0⟩, fun l18 i19 h18 _ => ?_⟩
  have r7 : RepL l18 (Dk.create (sw0 (tx s5) c) bN).1 ∧ i19 = (Dk.create (sw0 (tx s5) c) bN).2 := h18 _ r6 q0
  have k1 := lim_create k0 bN
  rw [sw_create] at r7 k1
  by_cases c0 : c = 0
  · rw [if_pos c0] at r7 k1
    exact ⟨fun h => by rw [r7.2] at h; exact absurd (show (9 : Int) = 0 from h) (by decide), fun _ => swap_tail r7.1 (k1.small (by omega) (by omega)) ((lim_restart k1 _).small (by omega) (by omega)) rfl (.inl sw1_read)⟩
  rw [if_neg c0] at r7 k1
  refine ⟨fun _ => ?_, fun h => absurd r7.2 h⟩
  have q1 := k1.small (by omega) (by omega)
  refine ⟨⟨_, r7.1, q1⟩, fun l20 i21 h20 _ => ?_⟩
  have r8 : RepL l20 (Dk.append (sw1 (tx s5) ⟨[], 0⟩ (dec c) false 5) bN (tx s6)).1 ∧ i21 = (Dk.append (sw1 (tx s5) ⟨[], 0⟩ (dec c) false 5) bN (tx s6)).2 := h20 _ r7.1 q1
  have k2 := lim_append k1 bN (tx s6)
  rw [sw_append ho hw] at r8 k2
  generalize dec c = c at r8 k2
  by_cases c0 : c = 0
  · rw [if_pos c0] at r8 k2
    exact ⟨fun h => by rw [r8.2] at h; exact absurd (show (9 : Int) = 0 from h) (by decide), fun _ => swap_tail r8.1 (k2.small (by omega) (by omega)) ((lim_restart k2 _).small (by omega) (by omega)) rfl (.inl sw1_read)⟩
  rw [if_neg c0] at r8 k2
  refine ⟨fun _ => ?_, fun h => absurd r8.2 h⟩
  have q2 := k2.small (by omega) (by omega)
  refine ⟨⟨_, r8.1, q2⟩, fun l22 i23 h22 _ => ?_⟩
  have r9 : RepL l22 (Dk.sync (sw1 (tx s5) ⟨tx s6, 0⟩ (dec c) false 6) bN).1 ∧ i23 = (Dk.sync (sw1 (tx s5) ⟨tx s6, 0⟩ (dec c) false 6) bN).2 := h22 _ r8.1 q2
  have k3 := lim_sync k2 bN
  rw [sw_sync] at r9 k3
  generalize dec c = c at r9 k3
  by_cases c0 : c = 0
  · rw [if_pos c0] at r9 k3
    exact ⟨fun h => by rw [r9.2] at h; exact absurd (show (9 : Int) = 0 from h) (by decide), fun _ => swap_tail r9.1 (k3.small (by omega) (by omega)) ((lim_restart k3 _).small (by omega) (by omega)) rfl (.inl sw1_read)⟩
  rw [if_neg c0] at r9 k3
  refine ⟨fun _ => ?_, fun h => absurd r9.2 h⟩
  have q3 := k3.small (by omega) (by omega)
  refine ⟨⟨_, r9.1, q3⟩, fun l24 i25 h24 _ => ?_⟩
  have ra : RepL l24 (Dk.rename (sw1 (tx s5) (fo (tx s6)) (dec c) false 7) bN aN).1 ∧ i25 = (Dk.rename (sw1 (tx s5) (fo (tx s6)) (dec c) false 7) bN aN).2 := h24 _ r9.1 q3
  have k4 := lim_rename k3 bN aN
  rw [sw_rename] at ra k4
  generalize dec c = c at ra k4
  by_cases c0 : c = 0
  · rw [if_pos c0] at ra k4
    exact ⟨fun h => by rw [ra.2] at h; exact absurd (show (9 : Int) = 0 from h) (by decide), fun _ => swap_tail ra.1 (k4.small (by omega) (by omega)) ((lim_restart k4 _).small (by omega) (by omega)) rfl sw2_read⟩
  rw [if_neg c0] at ra k4
  refine ⟨fun _ => ?_, fun h => absurd ra.2 h⟩
  have q4 := k4.small (by omega) (by omega)
  refine ⟨⟨_, ra.1, q4⟩, fun l26 i27 h26 _ => ?_⟩
  have rb : RepL l26 (Dk.syncNames (sw2 (tx s5) (tx s6) (dec c) false 8)).1 ∧ i27 = (Dk.syncNames (sw2 (tx s5) (tx s6) (dec c) false 8)).2 := h26 _ ra.1 q4
  have k5 := lim_syncNames k4
  rw [sw_names] at rb k5
  generalize dec c = c at rb k5
  by_cases c0 : c = 0
  · rw [if_pos c0] at rb k5
    exact ⟨fun _ => swap_tail rb.1 (k5.small (by omega) (by omega)) ((lim_restart k5 _).small (by omega) (by omega)) rfl sw2_read, fun h => by rw [rb.2] at h; exact absurd (show (9 : Int) = 0 from h) (by decide)⟩
  rw [if_neg c0] at rb k5
  refine ⟨fun h => absurd rb.2 h, fun _ => ?_⟩
  have q5 := k5.small (by omega) (by omega)
  refine ⟨⟨_, rb.1, q5⟩, fun l28 h28 => ?_⟩
  have rc : RepL l28 (Dk.restart (sw3 (tx s5) (tx s6) (dec c) 9) z3) := h28 _ rb.1 q5
  have q6 : Small (Dk.restart (sw3 (tx s5) (tx s6) (dec c) 9) z3) := (lim_restart k5 _).small (by omega) (by omega)
  refine ⟨⟨_, rc, q6⟩, fun s29 i30 h29 _ _ => ?_⟩
  have q : (tx s29, i30) = Dk.read (Dk.restart (sw3 (tx s5) (tx s6) (dec c) 9) z3) aN := h29 _ rc q6
  rw [sw3_read] at q
  refine ⟨trivial, fun b31 (hb : b31 = true) => ⟨fun _ => ⟨fun _ => ⟨fun _ => rfl, fun hne => absurd (tx_inj (congrArg Prod.fst q)) hne⟩, fun h => absurd (congrArg Prod.snd q) h⟩, fun h => by rw [hb] at h; cases h⟩⟩

end Go.Vc
