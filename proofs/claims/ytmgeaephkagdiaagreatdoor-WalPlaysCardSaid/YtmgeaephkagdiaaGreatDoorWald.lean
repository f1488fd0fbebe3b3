/-
 The log's files: frames, what a scan of them finds, and what of them a cut leaves.
 The log's files: what Open finds in them.
 The log's files: what a restart leaves of them.
 The log's files: what its calls make of them.
 The log's calls on its files: Sync, and what Append writes.
 The log's files: whatever a restart brings back.
 The log's files: a new one.
 The log's files: the last one, without records, goes.
 The log's files: a turn.
 The log's files: Append.
 The log on a disk on which nothing goes wrong: the disk's calls answer 0.
-/
import Derived.Test.YtmgeaephkagdiaaGreatDoorWalb
import Derived.Test.YtmgeaephkagdiaaGreatDoorWalc
set_option linter.unusedVariables false
set_option linter.unusedSimpArgs false
namespace Go.Vc
open Dk (Ds)
namespace Wl
def frs : Nat → List Tx → Tx
 | _, [] => []
 | q, r :: rs => frT q r ++ frs (q + 1) rs
def Torn (t : Tx) : Prop := ∃ q r c, r.length ≤ 4194304 ∧ c < (frT q r).length ∧ t = (frT q r).take c
theorem by_app (a b : Tx) : bytesOf (bx (a ++ b)) = bytesOf (bx a) ++ bytesOf (bx b) := by
 show (a ++ b).map (fun b => (b.toNat : Int)) = _
 rw [List.map_append]; rfl
theorem by_take (a : Tx) (n : Nat) : bytesOf (bx (a.take n)) = (bytesOf (bx a)).take n := by
 show (a.take n).map (fun b => (b.toNat : Int)) = _
 rw [List.map_take]; rfl
theorem by_len (a : Tx) : (bytesOf (bx a)).length = a.length := by
 show (a.map (fun b => (b.toNat : Int))).length = _
 rw [List.length_map]
theorem by_frT (q : Nat) (r : Tx) : bytesOf (bx (frT q r)) = frameB q (bx r) := by
 unfold frT
 rw [bx_tx, bytesOf_textOf (frameB_has _ _)]
theorem frT_len (q : Nat) (r : Tx) : (frT q r).length = 18 + r.length := by
 rw [← by_len, by_frT, frameB_len]; rfl
theorem frs_len_cons (q : Nat) (r : Tx) (rs : List Tx) : (frs q (r :: rs)).length = 18 + r.length + (frs (q + 1) rs).length := by
 rw [frs, List.length_append, frT_len]
theorem frs_snoc (r : Tx) : ∀ (rs : List Tx) (q : Nat), frs q (rs ++ [r]) = frs q rs ++ frT (q + rs.length) r
 | [], q => by simp [frs]
 | a :: rs, q => by
  rw [List.cons_append, frs, frs, frs_snoc r rs, List.append_assoc, List.length_cons, show q + 1 + rs.length = q + (rs.length + 1) from by omega]
theorem torn_nil : Torn [] := ⟨0, [], 0, by simp, by rw [frT_len]; omega, rfl⟩
theorem torn_read {t : Tx} (h : Torn t) : (fRead (bytesOf (bx t))).2.2.2 ≠ 0 := by
 obtain ⟨q, r, c, h1, h2, rfl⟩ := h
 rw [frT_len] at h2
 rw [by_take, by_frT, fRead_torn (r := bx r) h1 h2]
 decide
theorem scan_frs : ∀ (rs : List Tx) (q : Nat) (t : Tx) (f : Nat), q + rs.length ≤ 18446744073709551616 → (rs ≠ [] → q < 18446744073709551616) → (∀ r ∈ rs, r.length ≤ 4194304) → Torn t → (frs q rs ++ t).length < f →
  (fScan f (bytesOf (bx (frs q rs ++ t))) ((q : Nat) : Int)).1 = rs.map fun r => bytesOf (bx r)
 | [], q, t, f, _, _, _, ht, hf => by
  obtain ⟨g, rfl⟩ : ∃ g, f = g + 1 := ⟨f - 1, by omega⟩
  show (fScan (g + 1) (bytesOf (bx t)) _).1 = _
  rw [scan_stop (.inl (torn_read ht))]; rfl
 | r :: rs, q, t, f, hq, hq2, hr, ht, hf => by
  obtain ⟨g, rfl⟩ : ∃ g, f = g + 1 := ⟨f - 1, by omega⟩
  have hq3 := hq2 (by simp)
  have hr0 := hr r (by simp)
  rw [List.length_append, frs_len_cons] at hf
  have hsp : bytesOf (bx (frs q (r :: rs) ++ t)) = frameB q (bx r) ++ bytesOf (bx (frs (q + 1) rs ++ t)) := by
   rw [frs, List.append_assoc, by_app, by_frT]
  have h := fRead_frame (q := (q : Int)) (r := bx r) (bytesOf (bx (frs (q + 1) rs ++ t))) ⟨by omega, by omega⟩ hr0
  rw [hsp, scan_step (by rw [h]) (by rw [h]), h]
  dsimp only
  have e : (18 + ((bx r).size : Int)).toNat = 18 + (bx r).size := by omega
  rw [e, drop_left (frameB_len _ _), List.map_cons]
  congr 1
  cases rs with
  | nil =>
   obtain ⟨k, rfl⟩ : ∃ k, g = k + 1 := ⟨g - 1, by omega⟩
   show (fScan (k + 1) (bytesOf (bx t)) _).1 = _
   rw [scan_stop (.inl (torn_read ht))]; rfl
  | cons r2 rs =>
   rw [List.length_cons, List.length_cons] at hq
   rw [show ((q : Int) + 1) % 18446744073709551616 = ((q + 1 : Nat) : Int) from by omega]
   exact scan_frs (r2 :: rs) (q + 1) t g (by rw [List.length_cons]; omega) (fun _ => by omega) (fun x hx => hr x (List.mem_cons_of_mem _ hx)) ht (by rw [List.length_append]; omega)
theorem scanT_frs {rs : List Tx} {q : Nat} {t : Tx} (hq : q + rs.length ≤ 18446744073709551616) (hq2 : q < 18446744073709551616) (hr : ∀ r ∈ rs, r.length ≤ 4194304) (ht : Torn t) : scanT (frs q rs ++ t) q = rs := by
 unfold scanT scanF
 rw [by_len, scan_frs rs q t _ hq (fun _ => hq2) hr ht (by omega), List.map_map]
 refine (List.map_congr_left (g := id) fun r _ => ?_).trans (List.map_id _)
 show tx (textOf (bytesOf (bx r))) = r
 rw [textOf_bytesOf]; rfl
theorem cut_frs : ∀ (rs : List Tx) (q : Nat) (t : Tx) (c : Nat), (∀ r ∈ rs, r.length ≤ 4194304) → Torn t →
  ∃ m t', m ≤ rs.length ∧ Torn t' ∧ (frs q rs ++ t).take c = frs q (rs.take m) ++ t' ∧ ∀ k, k ≤ rs.length → (frs q (rs.take k)).length ≤ c → k ≤ m
 | [], q, t, c, _, ⟨q1, r1, c1, h1, h2, he⟩ => by
  refine ⟨0, t.take c, Nat.le_refl _, ⟨q1, r1, min c c1, h1, by omega, ?_⟩, rfl, fun k hk _ => hk⟩
  rw [he, List.take_take]
 | r :: rs, q, t, c, hr, ht => by
  have hr0 := hr r (by simp)
  by_cases hc : (frT q r).length ≤ c
  ·obtain ⟨m, t', h1, h2, h3, h4⟩ := cut_frs rs (q + 1) t (c - (frT q r).length) (fun x hx => hr x (List.mem_cons_of_mem _ hx)) ht
   refine ⟨m + 1, t', by rw [List.length_cons]; omega, h2, ?_, fun k hk hl => ?_⟩
   ·rw [frs, List.append_assoc, List.take_append, List.take_of_length_le hc, h3, List.take_succ_cons, frs, List.append_assoc]
   ·cases k with
    | zero => omega
    | succ k =>
     rw [List.take_succ_cons, frs, List.length_append] at hl
     rw [List.length_cons] at hk
     have := h4 k (by omega) (by omega)
     omega
  ·refine ⟨0, (frT q r).take c, Nat.zero_le _, ⟨q, r, c, hr0, by omega, rfl⟩, ?_, fun k hk hl => ?_⟩
   ·rw [frs, List.append_assoc, List.take_append_of_le_length (by omega)]; rfl
   ·cases k with
    | zero => exact Nat.le_refl _
    | succ k =>
     rw [List.take_succ_cons, frs, List.length_append] at hl
     omega
end Wl
end Go.Vc
namespace Go.Vc
open Dk (Ds fileAt)
namespace Wl
structure Fl where
 q : Nat
 ix : Nat
 rs : List Tx
 tl : Tx
def Fl.text (f : Fl) : Tx := frs f.q f.rs ++ f.tl
def chain : Nat → List Fl → Prop
 | _, [] => True
 | s, f :: l => f.q = s ∧ chain (s + f.rs.length) l
def recsOf (Q : List Fl) : List Tx := Q.flatMap fun f => f.rs
structure Log (x : Ds) (s : Nat) (Q : List Fl) : Prop where
 names : x.names = Q.map fun f => (name f.q, f.ix)
 data : ∀ f ∈ Q, (fileAt x f.ix).data = f.text
 torn : ∀ f ∈ Q, Torn f.tl
 fits : ∀ f ∈ Q, ∀ r ∈ f.rs, r.length ≤ 4194304
 chain : chain s Q
 top : s + (recsOf Q).length < 18446744073709551616
theorem chain_app : ∀ {s : Nat} {P Q : List Fl}, chain s (P ++ Q) ↔ chain s P ∧ chain (s + (recsOf P).length) Q
 | s, [], Q => by simp [chain, recsOf]
 | s, f :: P, Q => by
  rw [List.cons_append, chain, chain, chain_app (P := P)]
  have : (recsOf (f :: P)).length = f.rs.length + (recsOf P).length := by simp [recsOf]
  rw [this, Nat.add_assoc]
  constructor
  ·rintro ⟨h1, h2, h3⟩; exact ⟨⟨h1, h2⟩, h3⟩
  ·rintro ⟨⟨h1, h2⟩, h3⟩; exact ⟨h1, h2, h3⟩
theorem recs_app (P Q : List Fl) : recsOf (P ++ Q) = recsOf P ++ recsOf Q := by simp [recsOf]
theorem chain_q : ∀ {s : Nat} {Q : List Fl}, chain s Q → ∀ f ∈ Q, s ≤ f.q ∧ f.q + f.rs.length ≤ s + (recsOf Q).length
 | s, g :: Q, h, f, hf => by
  have hl : (recsOf (g :: Q)).length = g.rs.length + (recsOf Q).length := by simp [recsOf]
  rw [hl]
  rcases List.mem_cons.1 hf with rfl | hf
  ·have := h.1; omega
  ·have := chain_q h.2 f hf; omega
theorem Log.lt {x : Ds} {s : Nat} {Q : List Fl} (h : Log x s Q) : ∀ f ∈ Q, f.q < 18446744073709551616 := fun f hf => by
 have := (chain_q h.chain f hf).2
 have := h.top
 omega
theorem Log.files {x : Ds} {s : Nat} {Q : List Fl} (h : Log x s Q) : files x = Q.map fun f => f.q := by
 unfold Wl.files
 rw [h.names, List.filterMap_map]
 have : ∀ (R : List Fl), (∀ f ∈ R, f.q < 18446744073709551616) → R.filterMap ((fun p : Tx × Nat => first p.1) ∘ fun f : Fl => (name f.q, f.ix)) = R.map fun f => f.q := by
  intro R hR
  induction R with
  | nil => rfl
  | cons f R ih =>
   rw [List.filterMap_cons, List.map_cons, ih fun g hg => hR g (List.mem_cons_of_mem _ hg)]
   have e : ((fun p : Tx × Nat => first p.1) ∘ fun f : Fl => (name f.q, f.ix)) f = some f.q := first_name (hR f (by simp))
   rw [e]
 exact this Q h.lt
theorem Log.read {x : Ds} {s : Nat} {Q : List Fl} (h : Log x s Q) (hi : Dk.Inv x) (hd : x.dead = false) : ∀ f ∈ Q, Dk.read x (name f.q) = (f.text, 0) := by
 intro f hf
 have hm : (name f.q, f.ix) ∈ x.names := by rw [h.names]; exact List.mem_map.2 ⟨f, hf, rfl⟩
 unfold Dk.read
 rw [if_neg (by rw [hd]; simp), find_sorted hi.sn hm]
 dsimp only
 rw [h.data f hf]
theorem open_log {x : Ds} : ∀ (Q : List Fl) (s : Nat) (O F : List Tx), (∀ f ∈ Q, Dk.read x (name f.q) = (f.text, 0)) → (∀ f ∈ Q, Torn f.tl) → (∀ f ∈ Q, ∀ r ∈ f.rs, r.length ≤ 4194304) → chain s Q → s + (recsOf Q).length < 18446744073709551616 →
  openAll x (Q.map fun f => f.q) s O F = (s + (recsOf Q).length, O ++ recsOf Q, F ++ Q.map (fun f => name f.q), 0)
 | [], s, O, F, _, _, _, _, _ => by simp [openAll, recsOf]
 | f :: Q, s, O, F, hr, ht, hz, hc, htop => by
  obtain ⟨rfl, hc⟩ := hc
  have hl : (recsOf (f :: Q)).length = f.rs.length + (recsOf Q).length := by simp [recsOf]
  rw [hl] at htop
  have h1 := hr f (by simp)
  have hsc : scanT f.text f.q = f.rs := scanT_frs (by omega) (by omega) (hz f (by simp)) (ht f (by simp))
  rw [List.map_cons, openAll, if_neg (by simp), h1]
  dsimp only
  rw [if_neg (by simp), hsc, Nat.mod_eq_of_lt (by omega), open_log Q (f.q + f.rs.length) _ _ (fun g hg => hr g (List.mem_cons_of_mem _ hg)) (fun g hg => ht g (List.mem_cons_of_mem _ hg)) (fun g hg => hz g (List.mem_cons_of_mem _ hg)) hc (by omega), hl]
  have e : recsOf (f :: Q) = f.rs ++ recsOf Q := by simp [recsOf]
  rw [e, List.append_assoc, List.append_assoc, List.map_cons, Nat.add_assoc]
  rfl
theorem Log.opened {x : Ds} {s : Nat} {Q : List Fl} (h : Log x s Q) (hi : Dk.Inv x) (hd : x.dead = false) (limit : Int) :
  opened x limit = (some (⟨max limit 1, if Q = [] then 1 else s + (recsOf Q).length, [], 0, false, Q.map fun f => name f.q⟩, recsOf Q), 0) := by
 unfold Wl.opened
 rw [if_neg (by rw [hd]; simp), h.files]
 cases Q with
 | nil => rfl
 | cons f Q =>
  have hs : f.q = s := h.chain.1
  rw [show ((f :: Q).map fun f => f.q).headD 1 = s from hs, open_log (f :: Q) s [] [] (h.read hi hd) h.torn h.fits h.chain h.top]
  unfold openR
  rw [if_neg (by simp), if_neg (by simp)]
  rfl
end Wl
end Go.Vc
namespace Go.Vc
open Dk (Ds Fi fileAt)
namespace Wl
theorem cut_at (d : Ds) (ch : List Int) : ∀ (i k : Nat) (fs : List Fi) (j : Nat) (f : Fi), fs[j]? = some f → Dk.held d (i + j) = true → f.safe ≤ f.data.length → ∃ n, f.safe ≤ n ∧ n ≤ f.data.length ∧ (Dk.cut d ch i k fs)[j]? = some ⟨f.data.take n, n⟩
 | _, _, [], j, f, h, _, _ => by simp at h
 | i, k, g :: fs, 0, f, h, hh, hs => by
  obtain rfl : g = f := by simpa using h
  rw [Dk.cut]
  split
  ·rename_i hc
   have := Dk.pick_lt ch k (g.data.length - g.safe + 1) (by omega)
   exact ⟨g.safe + Dk.pick ch k (g.data.length - g.safe + 1), by omega, by omega, rfl⟩
  ·rename_i hc
   have hl : ¬ g.safe < g.data.length := fun h => hc ⟨hh, h⟩
   have e : g.safe = g.data.length := by omega
   refine ⟨g.safe, Nat.le_refl _, hs, ?_⟩
   rw [List.getElem?_cons_zero]
   congr 1
   rw [e, List.take_length, ← e]
 | i, k, g :: fs, j + 1, f, h, hh, hs => by
  have h : fs[j]? = some f := by simpa using h
  have hh : Dk.held d (i + 1 + j) = true := by rw [show i + 1 + j = i + (j + 1) from by omega]; exact hh
  rw [Dk.cut]
  split
  ·obtain ⟨n, h1, h2, h3⟩ := cut_at d ch (i + 1) (k + 1) fs j f h hh hs
   exact ⟨n, h1, h2, by rw [List.getElem?_cons_succ]; exact h3⟩
  ·obtain ⟨n, h1, h2, h3⟩ := cut_at d ch (i + 1) k fs j f h hh hs
   exact ⟨n, h1, h2, by rw [List.getElem?_cons_succ]; exact h3⟩
theorem file_restart {x : Ds} (hi : Dk.Inv x) (ch : List Int) {p : Tx × Nat} (hp : p ∈ (Dk.restart x ch).names) : ∃ n, (fileAt x p.2).safe ≤ n ∧ n ≤ (fileAt x p.2).data.length ∧ fileAt (Dk.restart x ch) p.2 = ⟨(fileAt x p.2).data.take n, n⟩ := by
 have hi2 := Dk.inv_restart hi ch
 have hlt : p.2 < x.files.length := by
  have h1 := hi2.ins p hp
  have h2 : (Dk.restart x ch).files.length = x.files.length := Dk.cut_len _ _ _ _ _
  omega
 have hg : x.files[p.2]? = some (fileAt x p.2) := by
  unfold fileAt
  rw [List.getD, List.getElem?_eq_getElem hlt]; rfl
 have hf : (fileAt x p.2).safe ≤ (fileAt x p.2).data.length := by
  refine hi.fs _ ?_
  exact List.mem_of_getElem? hg
 have hh : Dk.held { x with safe := (Dk.restart x ch).names, names := (Dk.restart x ch).names, pend := [], dead := false, crash := -1, fail := -1 } (0 + p.2) = true := by
  rw [Nat.zero_add]
  exact held_name (x := { x with safe := (Dk.restart x ch).names, names := (Dk.restart x ch).names, pend := [], dead := false, crash := -1, fail := -1 }) hp
 obtain ⟨n, h1, h2, h3⟩ := cut_at _ ch 0 1 x.files p.2 _ hg hh hf
 refine ⟨n, h1, h2, ?_⟩
 have h3 : (Dk.restart x ch).files[p.2]? = some ⟨(fileAt x p.2).data.take n, n⟩ := h3
 show (Dk.restart x ch).files.getD p.2 ⟨[], 0⟩ = _
 rw [List.getD, h3]; rfl
structure Half (x : Ds) (nm : List (Tx × Nat)) (s : Nat) (Q : List Fl) (lo : Nat) : Prop where
 names : nm = Q.map fun f => (name f.q, f.ix)
 data : ∀ f ∈ Q, (fileAt x f.ix).data = f.text
 torn : ∀ f ∈ Q, Torn f.tl
 fits : ∀ f ∈ Q, ∀ r ∈ f.rs, r.length ≤ 4194304
 chain : chain s Q
 top : s + (recsOf Q).length < 18446744073709551616
 nodup : (Q.map fun f => f.ix).Nodup
 bare : Q = [] → lo = 0
 whole : ∀ P f, Q = P ++ [f] → ∀ g ∈ P, (fileAt x g.ix).safe = (fileAt x g.ix).data.length
 last : ∀ P f, Q = P ++ [f] → ∃ k, k ≤ f.rs.length ∧ (frs f.q (f.rs.take k)).length ≤ (fileAt x f.ix).safe ∧ lo ≤ (recsOf P).length + k
theorem Half.log {x : Ds} {s : Nat} {Q : List Fl} {lo : Nat} (h : Half x x.names s Q lo) : Log x s Q := ⟨h.names, h.data, h.torn, h.fits, h.chain, h.top⟩
theorem snoc_or {α : Type} (l : List α) : l = [] ∨ ∃ P a, l = P ++ [a] := by
 rcases List.eq_nil_or_concat l with h | ⟨P, a, h⟩
 ·exact .inl h
 ·exact .inr ⟨P, a, by rw [h, List.concat_eq_append]⟩
theorem snoc_inj {α : Type} {P P' : List α} {a a' : α} (h : P ++ [a] = P' ++ [a']) : P = P' ∧ a = a' := by
 have := List.append_inj' h rfl
 exact ⟨this.1, by simpa using this.2⟩
theorem Half.restart {x : Ds} {s : Nat} {Q : List Fl} {lo : Nat} {ch : List Int} (h : Half x (Dk.restart x ch).names s Q lo) (hi : Dk.Inv x) :
  ∃ Q' m, Half (Dk.restart x ch) (Dk.restart x ch).names s Q' (recsOf Q').length ∧ lo ≤ m ∧ m ≤ (recsOf Q).length ∧ recsOf Q' = (recsOf Q).take m := by
 have hn := h.names
 have hmem : ∀ f ∈ Q, (name f.q, f.ix) ∈ (Dk.restart x ch).names := fun f hf => by rw [hn]; exact List.mem_map.2 ⟨f, hf, rfl⟩
 rcases snoc_or Q with rfl | ⟨P, f, rfl⟩
 ·refine ⟨[], 0, ⟨hn, by simp, by simp, by simp, trivial, ?_, by simp, fun _ => rfl, ?_, ?_⟩, by have := h.bare rfl; omega, Nat.zero_le _, rfl⟩
  ·exact h.top
  ·intro P f he; simp at he
  ·intro P f he; simp at he
 have hwh := h.whole P f rfl
 obtain ⟨k, k1, k2, k3⟩ := h.last P f rfl
 -- the files ahead of the last stay
 have hP : ∀ g ∈ P, fileAt (Dk.restart x ch) g.ix = fileAt x g.ix := by
  intro g hg
  obtain ⟨n, h1, h2, h3⟩ := file_restart hi ch (hmem g (by simp [hg]))
  have h1 : (fileAt x g.ix).safe ≤ n := h1
  have h2 : n ≤ (fileAt x g.ix).data.length := h2
  have h3 : fileAt (Dk.restart x ch) g.ix = ⟨(fileAt x g.ix).data.take n, n⟩ := h3
  have e := hwh g hg
  have en : n = (fileAt x g.ix).data.length := by omega
  rw [h3, en, List.take_length, ← e]
 obtain ⟨n, n1, n2, n3⟩ := file_restart hi ch (hmem f (by simp))
 have n1 : (fileAt x f.ix).safe ≤ n := n1
 have n2 : n ≤ (fileAt x f.ix).data.length := n2
 have n3 : fileAt (Dk.restart x ch) f.ix = ⟨(fileAt x f.ix).data.take n, n⟩ := n3
 obtain ⟨m, t', m1, m2, m3, m4⟩ := cut_frs f.rs f.q f.tl n (h.fits f (by simp)) (h.torn f (by simp))
 have hkm : k ≤ m := m4 k k1 (by omega)
 have hdat : (fileAt (Dk.restart x ch) f.ix).data = frs f.q (f.rs.take m) ++ t' := by
  rw [n3, h.data f (by simp)]; exact m3
 have hsafe : (fileAt (Dk.restart x ch) f.ix).safe = (fileAt (Dk.restart x ch) f.ix).data.length := by
  rw [n3]
  show n = ((fileAt x f.ix).data.take n).length
  rw [List.length_take]; omega
 have hchain := chain_app.1 h.chain
 have hrec : recsOf (P ++ [⟨f.q, f.ix, f.rs.take m, t'⟩]) = recsOf P ++ f.rs.take m := by simp [recsOf]
 have hrec0 : recsOf (P ++ [f]) = recsOf P ++ f.rs := by simp [recsOf]
 have htk : (f.rs.take m).length = m := by rw [List.length_take]; omega
 have htop := h.top
 rw [hrec0, List.length_append] at htop
 refine ⟨P ++ [⟨f.q, f.ix, f.rs.take m, t'⟩], (recsOf P).length + m, ⟨?_, ?_, ?_, ?_, ?_, ?_, ?_, ?_, ?_, ?_⟩, by omega, by rw [hrec0, List.length_append]; omega, ?_⟩
 ·rw [hn, List.map_append, List.map_append]; rfl
 ·intro g hg
  rcases List.mem_append.1 hg with hg | hg
  ·rw [hP g hg]; exact h.data g (by simp [hg])
  ·obtain rfl : g = _ := by simpa using hg
   exact hdat
 ·intro g hg
  rcases List.mem_append.1 hg with hg | hg
  ·exact h.torn g (by simp [hg])
  ·obtain rfl : g = _ := by simpa using hg
   exact m2
 ·intro g hg
  rcases List.mem_append.1 hg with hg | hg
  ·exact h.fits g (by simp [hg])
  ·obtain rfl : g = _ := by simpa using hg
   exact fun r hr => h.fits f (by simp) r (List.mem_of_mem_take hr)
 ·exact chain_app.2 ⟨hchain.1, hchain.2.1, trivial⟩
 ·rw [hrec, List.length_append, htk]; omega
 ·have := h.nodup
  rw [List.map_append] at this ⊢
  exact this
 ·intro he; simp at he
 ·intro P' f' he g hg
  obtain ⟨rfl, rfl⟩ := snoc_inj he
  rw [hP g hg]; exact hwh g hg
 ·intro P' f' he
  obtain ⟨rfl, rfl⟩ := snoc_inj he
  refine ⟨m, by show m ≤ (f.rs.take m).length; omega, ?_, by rw [hrec, List.length_append, htk]; exact Nat.le_refl _⟩
  show (frs f.q ((f.rs.take m).take m)).length ≤ (fileAt (Dk.restart x ch) f.ix).safe
  rw [hsafe, hdat, List.take_take, Nat.min_self, List.length_append]
  omega
 ·rw [hrec, hrec0, List.take_append, List.take_of_length_le (show (recsOf P).length ≤ (recsOf P).length + m from by omega), show (recsOf P).length + m - (recsOf P).length = m from by omega]
end Wl
end Go.Vc
namespace Go.Vc
open Dk (Ds Fi fileAt)
namespace Wl
theorem at_set {y : Ds} {i j : Nat} {f : Fi} (hi : i < y.files.length) : fileAt (Dk.set y i f) j = if j = i then f else fileAt y j := by
 unfold fileAt Dk.set
 dsimp only
 rw [List.getD, List.getD, List.getElem?_set]
 by_cases h : i = j
 ·subst h; rw [if_pos rfl, if_pos hi, if_pos rfl]; rfl
 ·rw [if_neg h, if_neg (fun e => h e.symm)]
theorem Half.core {x y : Ds} {nm : List (Tx × Nat)} {s lo : Nat} {Q : List Fl} (h : Half x nm s Q lo) (c : Core x y) : Half y nm s Q lo :=
 ⟨h.names, fun f hf => by rw [c.at]; exact h.data f hf, h.torn, h.fits, h.chain, h.top, h.nodup, h.bare, fun P f e g hg => by rw [c.at]; exact h.whole P f e g hg, fun P f e => by rw [c.at]; exact h.last P f e⟩
theorem Half.more {x y : Ds} {nm : List (Tx × Nat)} {s lo : Nat} {Q : List Fl} (h : Half x nm s Q lo) (hd : ∀ f ∈ Q, (fileAt y f.ix).data = (fileAt x f.ix).data)
  (hs : ∀ f ∈ Q, (fileAt x f.ix).safe ≤ (fileAt y f.ix).safe ∧ ((fileAt x f.ix).safe = (fileAt x f.ix).data.length → (fileAt y f.ix).safe = (fileAt y f.ix).data.length)) : Half y nm s Q lo := by
 refine ⟨h.names, fun f hf => by rw [hd f hf]; exact h.data f hf, h.torn, h.fits, h.chain, h.top, h.nodup, h.bare, fun P f e g hg => ?_, fun P f e => ?_⟩
 ·exact (hs g (by rw [e]; simp [hg])).2 (h.whole P f e g hg)
 ·obtain ⟨k, k1, k2, k3⟩ := h.last P f e
  have := (hs f (by rw [e]; simp)).1
  exact ⟨k, k1, by omega, k3⟩
theorem Half.full {x : Ds} {nm : List (Tx × Nat)} {s lo : Nat} {Q : List Fl} (h : Half x nm s Q lo) (hl : ∀ P f, Q = P ++ [f] → (fileAt x f.ix).safe = (fileAt x f.ix).data.length) : Half x nm s Q (recsOf Q).length := by
 refine ⟨h.names, h.data, h.torn, h.fits, h.chain, h.top, h.nodup, fun e => by rw [e]; rfl, h.whole, fun P f e => ⟨f.rs.length, Nat.le_refl _, ?_, ?_⟩⟩
 ·rw [hl P f e, h.data f (by rw [e]; simp), List.take_length]
  show _ ≤ (frs f.q f.rs ++ f.tl).length
  rw [List.length_append]; omega
 ·rw [e, recs_app, List.length_append]
  simp [recsOf]
theorem Half.find {x : Ds} {s lo : Nat} {Q : List Fl} (h : Half x x.names s Q lo) (hi : Dk.Inv x) {f : Fl} (hf : f ∈ Q) : Dk.find x.names (name f.q) = some f.ix :=
 find_sorted hi.sn (by rw [h.names]; exact List.mem_map.2 ⟨f, hf, rfl⟩)
theorem Half.lt {x : Ds} {s lo : Nat} {Q : List Fl} (h : Half x x.names s Q lo) (hi : Dk.Inv x) (hs : x.safe = x.names) {f : Fl} (hf : f ∈ Q) : f.ix < x.files.length :=
 hi.ins (name f.q, f.ix) (by rw [hs, h.names]; exact List.mem_map.2 ⟨f, hf, rfl⟩)
structure Hold (x : Ds) (s : Nat) (Q : List Fl) (lo : Nat) : Prop where
 half : Half x x.names s Q lo
 pend : x.pend = []
 safe : x.safe = x.names
 inv : Dk.Inv x
theorem Hold.core {x y : Ds} {s lo : Nat} {Q : List Fl} (h : Hold x s Q lo) (c : Core x y) (hi : Dk.Inv y) : Hold y s Q lo :=
 ⟨by rw [c.names]; exact h.half.core c, by rw [c.pend]; exact h.pend, by rw [c.safe, c.names]; exact h.safe, hi⟩
theorem Hold.sync {x : Ds} {s lo : Nat} {Q : List Fl} (h : Hold x s Q lo) {f : Fl} (hf : f ∈ Q) : Hold (Dk.sync x (name f.q)).1 s Q lo := by
 have hi := Dk.inv_sync h.inv (name f.q)
 rcases sync_sh x (name f.q) with c | ⟨y, i, c, hfd, he⟩
 ·exact h.core c hi
 ·rw [h.half.find h.inv hf] at hfd
  obtain rfl : f.ix = i := Option.some.inj hfd
  have hlt : f.ix < y.files.length := by rw [c.files]; exact h.half.lt h.inv h.safe hf
  have hc := h.core c
  rw [he] at hi ⊢
  have z : Half (Dk.set y f.ix ⟨(fileAt x f.ix).data, (fileAt x f.ix).data.length⟩) x.names s Q lo := by
   refine (h.half.core c).more (fun g hg => ?_) (fun g hg => ?_)
   ·rw [at_set hlt]
    split
    ·rename_i e; rw [e, c.at]
    ·rfl
   ·rw [at_set hlt]
    split
    ·rename_i e
     have hfs : (fileAt x f.ix).safe ≤ (fileAt x f.ix).data.length := by
      have hl := h.half.lt h.inv h.safe hf
      refine h.inv.fs _ ?_
      unfold fileAt
      rw [List.getD, List.getElem?_eq_getElem hl]
      exact List.getElem_mem _
     rw [e, c.at]
     exact ⟨hfs, fun _ => rfl⟩
    ·exact ⟨Nat.le_refl _, id⟩
  have e : (Dk.set y f.ix ⟨(fileAt x f.ix).data, (fileAt x f.ix).data.length⟩).names = x.names := c.names
  exact ⟨by rw [e]; exact z, c.pend.trans h.pend, (c.safe.trans h.safe).trans c.names.symm, hi⟩
theorem Half.put {x y : Ds} {nm : List (Tx × Nat)} {s lo : Nat} {P : List Fl} {f : Fl} {r : Tx} (h : Half x nm s (P ++ [f]) lo) (ht : f.tl = []) (hr : r.length ≤ 4194304) (htop : s + (recsOf (P ++ [f])).length + 1 < 18446744073709551616)
  (hd : fileAt y f.ix = ⟨(fileAt x f.ix).data ++ frT (f.q + f.rs.length) r, (fileAt x f.ix).safe⟩) (ho : ∀ g ∈ P, fileAt y g.ix = fileAt x g.ix) : Half y nm s (P ++ [⟨f.q, f.ix, f.rs ++ [r], []⟩]) lo := by
 have hch := chain_app.1 h.chain
 have hrec : recsOf (P ++ [⟨f.q, f.ix, f.rs ++ [r], []⟩]) = recsOf (P ++ [f]) ++ [r] := by simp [recsOf]
 refine ⟨?_, ?_, ?_, ?_, ?_, ?_, ?_, ?_, ?_, ?_⟩
 ·rw [h.names, List.map_append, List.map_append]; rfl
 ·intro g hg
  rcases List.mem_append.1 hg with hg | hg
  ·rw [ho g hg]; exact h.data g (by simp [hg])
  ·obtain rfl : g = _ := by simpa using hg
   show (fileAt y f.ix).data = frs f.q (f.rs ++ [r]) ++ []
   rw [hd, frs_snoc, List.append_nil]
   show (fileAt x f.ix).data ++ _ = _
   rw [h.data f (by simp)]
   show (frs f.q f.rs ++ f.tl) ++ _ = _
   rw [ht, List.append_nil]
 ·intro g hg
  rcases List.mem_append.1 hg with hg | hg
  ·exact h.torn g (by simp [hg])
  ·obtain rfl : g = _ := by simpa using hg
   exact torn_nil
 ·intro g hg
  rcases List.mem_append.1 hg with hg | hg
  ·exact h.fits g (by simp [hg])
  ·obtain rfl : g = _ := by simpa using hg
   intro a ha
   rcases List.mem_append.1 ha with ha | ha
   ·exact h.fits f (by simp) a ha
   ·obtain rfl : a = r := by simpa using ha
    exact hr
 ·exact chain_app.2 ⟨hch.1, hch.2.1, trivial⟩
 ·rw [hrec, List.length_append]
  show s + (_ + 1) < _
  omega
 ·have := h.nodup
  rw [List.map_append] at this ⊢
  exact this
 ·intro he; simp at he
 ·intro P' f' he g hg
  obtain ⟨rfl, rfl⟩ := snoc_inj he
  rw [ho g hg]; exact h.whole P f rfl g hg
 ·intro P' f' he
  obtain ⟨rfl, rfl⟩ := snoc_inj he
  obtain ⟨k, k1, k2, k3⟩ := h.last P f rfl
  refine ⟨k, by show k ≤ (f.rs ++ [r]).length; rw [List.length_append]; omega, ?_, k3⟩
  show (frs f.q ((f.rs ++ [r]).take k)).length ≤ (fileAt y f.ix).safe
  rw [List.take_append_of_le_length k1, hd]
  exact k2
end Wl
end Go.Vc
namespace Go.Vc
open Dk (Ds Fi fileAt)
namespace Wl
theorem at_set' {y : Ds} {i j : Nat} {f : Fi} : fileAt (Dk.set y i f) j = if j = i ∧ i < y.files.length then f else fileAt y j := by
 by_cases hi : i < y.files.length
 ·rw [at_set hi]
  by_cases h : j = i
  ·rw [if_pos h, if_pos ⟨h, hi⟩]
  ·rw [if_neg h, if_neg (fun e => h e.1)]
 ·rw [if_neg (fun e => hi e.2)]
  unfold fileAt Dk.set
  dsimp only
  rw [List.set_eq_of_length_le (by omega)]
theorem sync_ok {x : Ds} {nm : Tx} (h : (Dk.sync x nm).2 = 0) : ∃ y i, Core x y ∧ Dk.find x.names nm = some i ∧ (Dk.sync x nm).1 = Dk.set y i ⟨(fileAt x i).data, (fileAt x i).data.length⟩ := by
 unfold Dk.sync at h ⊢
 split at h
 ·exact absurd (show (9 : Int) = 0 from h) (by decide)
 ·rename_i hd
  rw [if_neg hd]
  split at h
  ·exact absurd (show (5 : Int) = 0 from h) (by decide)
  ·rename_i i hf
   rw [hf]
   have hc := core_begin x
   generalize Dk.begin x = z at hc h ⊢
   obtain ⟨y, st, e⟩ := z
   dsimp only at hc h ⊢
   by_cases he : e ≠ 0
   ·rw [if_pos he] at h; exact absurd h he
   ·rw [if_neg he]
    exact ⟨y, i, hc, rfl, by rw [hc.at]⟩
theorem append_ok {x : Ds} {nm s : Tx} (h : (Dk.append x nm s).2 = 0) : ∃ y i, Core x y ∧ Dk.find x.names nm = some i ∧ (Dk.append x nm s).1 = Dk.set y i ⟨(fileAt x i).data ++ s, (fileAt x i).safe⟩ := by
 unfold Dk.append at h ⊢
 split at h
 ·exact absurd (show (9 : Int) = 0 from h) (by decide)
 ·rename_i hd
  rw [if_neg hd]
  split at h
  ·exact absurd (show (5 : Int) = 0 from h) (by decide)
  ·rename_i i hf
   rw [hf]
   dsimp only at h ⊢
   split at h
   ·exact absurd (show (7 : Int) = 0 from h) (by decide)
   ·rename_i hfr
    rw [if_neg hfr]
    have hc := core_begin x
    generalize Dk.begin x = z at hc h ⊢
    obtain ⟨y, st, e⟩ := z
    dsimp only at hc h ⊢
    by_cases he : e ≠ 0 ∧ st = false
    ·rw [if_pos he] at h; exact absurd h he.1
    ·rw [if_neg he]
     exact ⟨y, i, hc, rfl, by rw [hc.at]⟩
def Whole (x : Ds) (i : Nat) : Prop := (fileAt x i).safe = (fileAt x i).data.length
theorem Whole.sync {x : Ds} {i : Nat} (h : Whole x i) (nm : Tx) : Whole (Dk.sync x nm).1 i := by
 unfold Whole at h ⊢
 rcases sync_sh x nm with c | ⟨y, j, c, _, he⟩
 ·rw [c.at]; exact h
 ·rw [he, at_set']
  split
  ·rfl
  ·rw [c.at]; exact h
theorem Hold.sync_whole {x : Ds} {s lo : Nat} {Q : List Fl} (h : Hold x s Q lo) {f : Fl} (hf : f ∈ Q) (h0 : (Dk.sync x (name f.q)).2 = 0) : Whole (Dk.sync x (name f.q)).1 f.ix := by
 obtain ⟨y, i, c, hfd, he⟩ := sync_ok h0
 rw [h.half.find h.inv hf] at hfd
 obtain rfl : f.ix = i := Option.some.inj hfd
 have hlt : f.ix < y.files.length := by rw [c.files]; exact h.half.lt h.inv h.safe hf
 unfold Whole
 rw [he, at_set hlt, if_pos rfl]
theorem Hold.syncFound {s lo : Nat} {Q : List Fl} : ∀ (l : List Tx) (x : Ds), Hold x s Q lo → (∀ n ∈ l, ∃ f ∈ Q, n = name f.q) →
  Hold (syncFound x l).1 s Q lo ∧ (∀ i, Whole x i → Whole (syncFound x l).1 i) ∧ ((syncFound x l).2.2 = 0 → (syncFound x l).2.1 = []) ∧ ∀ f ∈ Q, name f.q ∈ l → name f.q ∈ (syncFound x l).2.1 ∨ Whole (syncFound x l).1 f.ix
 | [], x, h, _ => ⟨h, fun _ hi => hi, fun _ => rfl, fun f _ hm => by simp at hm⟩
 | n :: l, x, h, hl => by
  obtain ⟨f, hf, rfl⟩ := hl n (by simp)
  have h1 := h.sync hf
  have hw := fun i (hi : Whole x i) => hi.sync (name f.q)
  rw [Wl.syncFound]
  by_cases he : (Dk.sync x (name f.q)).2 ≠ 0
  ·rw [if_pos he]
   exact ⟨h1, hw, fun h0 => absurd h0 he, fun g _ hm => .inl hm⟩
  ·rw [if_neg he]
   have he : (Dk.sync x (name f.q)).2 = 0 := Classical.byContradiction he
   obtain ⟨r1, r2, r3, r4⟩ := Hold.syncFound l _ h1 fun n hn => hl n (List.mem_cons_of_mem _ hn)
   refine ⟨r1, fun i hi => r2 i (hw i hi), r3, fun g hg hm => ?_⟩
   rcases List.mem_cons.1 hm with e | hm
   ·have hq : g.q = f.q := name_inj (by have := (chain_q h.half.chain g hg).2; have := h.half.top; omega) (by have := (chain_q h.half.chain f hf).2; have := h.half.top; omega) e
    have hi : g.ix = f.ix := by
     have a := h.half.find h.inv hg
     rw [hq, h.half.find h.inv hf] at a
     exact (Option.some.inj a).symm
    rw [hi]
    exact .inr (r2 _ (h.sync_whole hf he))
   ·exact r4 g hg hm
structure Tied (x : Ds) (g : Lg) (s : Nat) (Q : List Fl) : Prop where
 next : g.next = s + (recsOf Q).length
 found : ∀ n ∈ g.found, ∃ f ∈ Q, n = name f.q
 cur : g.name ≠ [] → ∃ P f, Q = P ++ [f] ∧ g.name = name f.q ∧ f.tl = []
 bound : g.loose = true → g.name ≠ []
 last : ∀ P f, Q = P ++ [f] → name f.q ∈ g.found ∨ Whole x f.ix ∨ (g.name = name f.q ∧ g.loose = true)
theorem sync_ends (x : Ds) (g : Lg) : (Wl.sync x g).2.2 = 0 → (Wl.syncFound x g.found).2.2 = 0 := by
 unfold Wl.sync sync1
 intro h
 by_cases he : (Wl.syncFound x g.found).2.2 ≠ 0
 ·rw [if_pos he] at h; exact h
 ·exact Classical.byContradiction he
theorem Hold.wsync {x : Ds} {g : Lg} {s lo : Nat} {Q : List Fl} (h : Hold x s Q lo) (t : Tied x g s Q) :
  Hold (Wl.sync x g).1 s Q lo ∧ Tied (Wl.sync x g).1 (Wl.sync x g).2.1 s Q ∧ ((Wl.sync x g).2.2 = 0 → ∀ P f, Q = P ++ [f] → Whole (Wl.sync x g).1 f.ix) := by
 obtain ⟨r1, r2, r3, r4⟩ := Hold.syncFound g.found x h t.found
 have hsub : ∀ n ∈ (Wl.syncFound x g.found).2.1, n ∈ g.found := by
  have : ∀ (l : List Tx) (x : Ds), ∀ n ∈ (Wl.syncFound x l).2.1, n ∈ l := by
   intro l
   induction l with
   | nil => intro x n hn; exact hn
   | cons a l ih =>
    intro x n hn
    rw [Wl.syncFound] at hn
    split at hn
    ·exact hn
    ·exact List.mem_cons_of_mem _ (ih _ n hn)
  exact this _ _
 unfold Wl.sync sync1
 generalize hz : Wl.syncFound x g.found = z at r1 r2 r3 r4 hsub
 obtain ⟨y, fd, e⟩ := z
 dsimp only at r1 r2 r3 r4 hsub ⊢
 have lst : ∀ P f, Q = P ++ [f] → name f.q ∈ fd ∨ Whole y f.ix ∨ (g.name = name f.q ∧ g.loose = true) := by
  intro P f e'
  rcases t.last P f e' with h1 | h1 | h1
  ·rcases r4 f (by rw [e']; simp) h1 with h2 | h2
   ·exact .inl h2
   ·exact .inr (.inl h2)
  ·exact .inr (.inl (r2 _ h1))
  ·exact .inr (.inr h1)
 by_cases he : e ≠ 0
 ·rw [if_pos he]
  exact ⟨r1, ⟨t.next, fun n hn => t.found n (hsub n hn), t.cur, t.bound, lst⟩, fun h0 => absurd h0 he⟩
 ·rw [if_neg he]
  obtain rfl : fd = [] := r3 (Classical.byContradiction he)
  unfold sync2
  dsimp only
  by_cases hl : g.loose = false
  ·rw [if_pos hl]
   refine ⟨r1, ⟨t.next, fun n hn => by simp at hn, t.cur, t.bound, lst⟩, fun _ P f e' => ?_⟩
   rcases lst P f e' with h1 | h1 | h1
   ·simp at h1
   ·exact h1
   ·rw [hl] at h1; exact absurd h1.2 (by decide)
  ·rw [if_neg hl]
   have hl : g.loose = true := by simpa using hl
   obtain ⟨P, f, hQ, hn, ht⟩ := t.cur (t.bound hl)
   have hf : f ∈ Q := by rw [hQ]; simp
   have h1 := r1.sync hf
   have hw := r1.sync_whole hf
   rw [← hn] at h1 hw
   by_cases h2 : (Dk.sync y g.name).2 ≠ 0
   ·rw [if_pos h2]
    refine ⟨h1, ⟨t.next, fun n hn => by simp at hn, t.cur, t.bound, fun P' f' e' => ?_⟩, fun h0 => absurd h0 h2⟩
    obtain ⟨rfl, rfl⟩ := snoc_inj (hQ.symm.trans e')
    exact .inr (.inr ⟨hn, hl⟩)
   ·rw [if_neg h2]
    have h2 : (Dk.sync y g.name).2 = 0 := Classical.byContradiction h2
    refine ⟨h1, ⟨t.next, fun n hn => by simp at hn, t.cur, fun h => by simp at h, fun P' f' e' => ?_⟩, fun _ P' f' e' => ?_⟩
    ·obtain ⟨rfl, rfl⟩ := snoc_inj (hQ.symm.trans e')
     exact .inr (.inl (hw h2))
    ·obtain ⟨rfl, rfl⟩ := snoc_inj (hQ.symm.trans e')
     exact hw h2
end Wl
end Go.Vc
namespace Go.Vc
open Dk (Ds Fi fileAt)
namespace Wl
def Backs (x : Ds) (s : Nat) (R : List Tx) (lo : Nat) : Prop := ∀ k, k ≤ x.pend.length → ∃ Q, Half x ((x.pend.take k).foldl Dk.apply x.safe) s Q lo ∧ recsOf Q = R
theorem Hold.backs {x : Ds} {s lo : Nat} {Q : List Fl} (h : Hold x s Q lo) : Backs x s (recsOf Q) lo := by
 intro k _
 refine ⟨Q, ?_, rfl⟩
 rw [h.pend, List.take_nil]
 show Half x x.safe s Q lo
 rw [h.safe]; exact h.half
theorem Backs.core {x y : Ds} {s lo : Nat} {R : List Tx} (h : Backs x s R lo) (c : Core x y) : Backs y s R lo := by
 intro k hk
 rw [c.pend] at hk
 obtain ⟨Q, h1, h2⟩ := h k hk
 exact ⟨Q, by rw [c.pend, c.safe]; exact h1.core c, h2⟩
theorem Backs.restart {x : Ds} {s lo : Nat} {R : List Tx} (h : Backs x s R lo) (hi : Dk.Inv x) (ch : List Int) :
  ∃ Q m, Hold (Dk.restart x ch) s Q (recsOf Q).length ∧ lo ≤ m ∧ m ≤ R.length ∧ recsOf Q = R.take m := by
 obtain ⟨Q0, h1, h2⟩ := h (Dk.pick ch 0 (x.pend.length + 1)) (by have := Dk.pick_lt ch 0 (x.pend.length + 1) (by omega); omega)
 have h1 : Half x (Dk.restart x ch).names s Q0 lo := h1
 obtain ⟨Q, m, h3, h4, h5, h6⟩ := h1.restart hi
 rw [h2] at h5 h6
 exact ⟨Q, m, ⟨h3, rfl, rfl, Dk.inv_restart hi ch⟩, h4, h5, h6⟩
theorem Hold.tied {x : Ds} {s lo : Nat} {Q : List Fl} (h : Hold x s Q lo) (hs : Q = [] → s = 1) (limit : Int) :
  Tied x ⟨limit, if Q = [] then 1 else s + (recsOf Q).length, [], 0, false, Q.map fun f => name f.q⟩ s Q := by
 refine ⟨?_, ?_, fun hn => absurd rfl hn, fun hl => absurd hl (by simp), fun P f e => .inl ?_⟩
 ·by_cases hQ : Q = []
  ·subst hQ
   rw [hs rfl]; rfl
  ·show (if Q = [] then 1 else _) = _
   rw [if_neg hQ]
 ·intro n hn
  obtain ⟨f, hf, rfl⟩ := List.mem_map.1 hn
  exact ⟨f, hf, rfl⟩
 ·exact List.mem_map.2 ⟨f, by rw [e]; simp, rfl⟩
theorem Hold.append {x : Ds} {s lo : Nat} {P : List Fl} {f : Fl} {r : Tx} (h : Hold x s (P ++ [f]) lo) (ht : f.tl = []) (hr : r.length ≤ 4194304) (htop : s + (recsOf (P ++ [f])).length + 1 < 18446744073709551616) :
  Hold (Dk.append x (name f.q) (frT (f.q + f.rs.length) r)).1 s (P ++ [⟨f.q, f.ix, f.rs ++ [r], []⟩]) lo ∨
   (Hold (Dk.append x (name f.q) (frT (f.q + f.rs.length) r)).1 s (P ++ [f]) lo ∧ (Dk.append x (name f.q) (frT (f.q + f.rs.length) r)).2 ≠ 0) := by
 have hi := Dk.inv_append h.inv (name f.q) (frT (f.q + f.rs.length) r)
 have hfd := h.half.find h.inv (f := f) (by simp)
 have hlt := h.half.lt h.inv h.safe (f := f) (by simp)
 have put : ∀ y, Core x y → Dk.Inv (Dk.set y f.ix ⟨(fileAt x f.ix).data ++ frT (f.q + f.rs.length) r, (fileAt x f.ix).safe⟩) → Hold (Dk.set y f.ix ⟨(fileAt x f.ix).data ++ frT (f.q + f.rs.length) r, (fileAt x f.ix).safe⟩) s (P ++ [⟨f.q, f.ix, f.rs ++ [r], []⟩]) lo := by
  intro y c hi
  have hlt : f.ix < y.files.length := by rw [c.files]; exact hlt
  have z : Half (Dk.set y f.ix ⟨(fileAt x f.ix).data ++ frT (f.q + f.rs.length) r, (fileAt x f.ix).safe⟩) x.names s (P ++ [⟨f.q, f.ix, f.rs ++ [r], []⟩]) lo := by
   refine h.half.put ht hr htop ?_ fun g hg => ?_
   ·rw [at_set hlt, if_pos rfl]
   ·have hne : g.ix ≠ f.ix := by
     have hn := h.half.nodup
     rw [List.map_append, List.nodup_append] at hn
     exact hn.2.2 g.ix (List.mem_map.2 ⟨g, hg, rfl⟩) f.ix (by simp)
    rw [at_set hlt, if_neg hne, c.at]
  have e : (Dk.set y f.ix ⟨(fileAt x f.ix).data ++ frT (f.q + f.rs.length) r, (fileAt x f.ix).safe⟩).names = x.names := c.names
  exact ⟨by rw [e]; exact z, c.pend.trans h.pend, (c.safe.trans h.safe).trans c.names.symm, hi⟩
 by_cases h0 : (Dk.append x (name f.q) (frT (f.q + f.rs.length) r)).2 = 0
 ·obtain ⟨y, i, c, h1, he⟩ := append_ok h0
  rw [hfd] at h1
  obtain rfl : f.ix = i := Option.some.inj h1
  rw [he] at hi ⊢
  exact .inl (put y c hi)
 ·rcases append_sh x (name f.q) (frT (f.q + f.rs.length) r) with c | ⟨y, i, c, h1, he⟩
  ·exact .inr ⟨h.core c hi, h0⟩
  ·rw [hfd] at h1
   obtain rfl : f.ix = i := Option.some.inj h1
   rw [he] at hi
   refine .inl ?_
   rw [he]
   exact put y c hi
end Wl
end Go.Vc
namespace Go.Vc
open Dk (Ds Fi fileAt)
namespace Wl
theorem ins_end {p : Tx × Nat} : ∀ {l : List (Tx × Nat)}, (∀ r ∈ l, ¬ p.1 < r.1) → Dk.ins p l = l ++ [p]
 | [], _ => rfl
 | r :: l, h => by
  rw [Dk.ins, if_neg (h r (by simp)), ins_end fun q hq => h q (List.mem_cons_of_mem _ hq)]
  rfl
theorem Half.files {x y : Ds} {nm : List (Tx × Nat)} {s lo : Nat} {Q : List Fl} (h : Half x nm s Q lo) (hf : ∀ f ∈ Q, fileAt y f.ix = fileAt x f.ix) : Half y nm s Q lo :=
 ⟨h.names, fun f hm => by rw [hf f hm]; exact h.data f hm, h.torn, h.fits, h.chain, h.top, h.nodup, h.bare, fun P f e g hg => by rw [hf g (by rw [e]; simp [hg])]; exact h.whole P f e g hg,
  fun P f e => by rw [hf f (by rw [e]; simp)]; exact h.last P f e⟩
theorem Half.ix_lt {x : Ds} {s lo k : Nat} {Q : List Fl} (h : Half x ((x.pend.take k).foldl Dk.apply x.safe) s Q lo) (hi : Dk.Inv x) : ∀ f ∈ Q, f.ix < x.files.length := by
 intro f hf
 have h1 : ∀ p ∈ (x.pend.take k).foldl Dk.apply x.safe, p.2 < x.files.length := Dk.foldl_apply (P := fun p => p.2 < x.files.length) hi.ins fun c hc => hi.inp c (List.mem_of_mem_take hc)
 exact h1 (name f.q, f.ix) (by rw [h.names]; exact List.mem_map.2 ⟨f, hf, rfl⟩)
theorem Half.at_all {x : Ds} {s lo : Nat} {Q : List Fl} (h : Half x x.names s Q lo) (hi : Dk.Inv x) : ∀ f ∈ Q, f.ix < x.files.length := by
 have : Half x ((x.pend.take x.pend.length).foldl Dk.apply x.safe) s Q lo := by rw [List.take_length, ← hi.names]; exact h
 exact this.ix_lt hi
theorem Backs.syncNames {x : Ds} {s lo : Nat} {Q : List Fl} (h : Backs x s (recsOf Q) lo) (hq : Half x x.names s Q lo) (hi : Dk.Inv x) :
  Backs (Dk.syncNames x).1 s (recsOf Q) lo ∧ ((Dk.syncNames x).2 = 0 → Hold (Dk.syncNames x).1 s Q lo) := by
 have hi2 := Dk.inv_syncNames hi
 have done : ∀ y, Core x y → Dk.Inv { y with safe := y.names, pend := [] } → Hold { y with safe := y.names, pend := [] } s Q lo := by
  intro y c hi3
  refine ⟨?_, rfl, rfl, hi3⟩
  have z : Half { y with safe := y.names, pend := [] } x.names s Q lo := hq.files fun f _ => c.at f.ix
  exact (congrArg (fun n => Half { y with safe := y.names, pend := [] } n s Q lo) c.names).mpr z
 unfold Dk.syncNames at hi2 ⊢
 have hc := core_begin x
 generalize Dk.begin x = z at hc hi2 ⊢
 obtain ⟨y, st, e⟩ := z
 dsimp only at hc hi2 ⊢
 by_cases he : e ≠ 0
 ·rw [if_pos he] at hi2 ⊢
  exact ⟨h.core hc, fun h0 => absurd h0 he⟩
 ·rw [if_neg he] at hi2 ⊢
  have hd := done y hc hi2
  exact ⟨hd.backs, fun _ => hd⟩
theorem Backs.create {x : Ds} {s : Nat} {Q : List Fl} (h : Backs x s (recsOf Q) (recsOf Q).length) (hq : Half x x.names s Q (recsOf Q).length) (hw : ∀ f ∈ Q, Whole x f.ix) (hi : Dk.Inv x) :
  Backs (Dk.create x (name (s + (recsOf Q).length))).1 s (recsOf Q) (recsOf Q).length ∧ Dk.Inv (Dk.create x (name (s + (recsOf Q).length))).1 ∧
   ((Dk.create x (name (s + (recsOf Q).length))).2 = 0 → Half (Dk.create x (name (s + (recsOf Q).length))).1 (Dk.create x (name (s + (recsOf Q).length))).1.names s (Q ++ [⟨s + (recsOf Q).length, x.files.length, [], []⟩]) (recsOf Q).length) := by
 have hi2 := Dk.inv_create hi (name (s + (recsOf Q).length))
 have hlt := hq.at_all hi
 have made : ∀ y, Core x y → Dk.find x.names (name (s + (recsOf Q).length)) = none → Backs (Dk.turn { y with files := y.files ++ [⟨[], 0⟩] } ⟨[], name (s + (recsOf Q).length), x.files.length⟩) s (recsOf Q) (recsOf Q).length ∧
   Half (Dk.turn { y with files := y.files ++ [⟨[], 0⟩] } ⟨[], name (s + (recsOf Q).length), x.files.length⟩) (Dk.turn { y with files := y.files ++ [⟨[], 0⟩] } ⟨[], name (s + (recsOf Q).length), x.files.length⟩).names s (Q ++ [⟨s + (recsOf Q).length, x.files.length, [], []⟩]) (recsOf Q).length := by
  intro y c hnone
  have hold : ∀ i, i < x.files.length → fileAt (Dk.turn { y with files := y.files ++ [⟨[], 0⟩] } ⟨[], name (s + (recsOf Q).length), x.files.length⟩) i = fileAt x i := by
   intro i hi
   rw [← c.at]
   show (y.files ++ ([⟨[], 0⟩] : List Fi)).getD i ⟨[], 0⟩ = y.files.getD i ⟨[], 0⟩
   rw [List.getD, List.getD, List.getElem?_append_left (by rw [c.files]; exact hi)]
  have hnew : fileAt (Dk.turn { y with files := y.files ++ [⟨[], 0⟩] } ⟨[], name (s + (recsOf Q).length), x.files.length⟩) x.files.length = ⟨[], 0⟩ := by
   show (y.files ++ ([⟨[], 0⟩] : List Fi)).getD x.files.length ⟨[], 0⟩ = _
   rw [c.files, List.getD, List.getElem?_append_right (Nat.le_refl _), Nat.sub_self]; rfl
  have hnames : Dk.apply x.names ⟨[], name (s + (recsOf Q).length), x.files.length⟩ = x.names ++ [(name (s + (recsOf Q).length), x.files.length)] := by
   have hne : name (s + (recsOf Q).length) ≠ [] := by intro e; have := name_len (s + (recsOf Q).length); rw [e] at this; simp at this
   have hfil : x.names.filter (fun p => p.1 ≠ ([] : Tx) ∧ p.1 ≠ name (s + (recsOf Q).length)) = x.names := by
    rw [List.filter_eq_self]
    intro p hp
    have h1 : p.1 ≠ [] := by
     rw [hq.names] at hp
     obtain ⟨f, _, rfl⟩ := List.mem_map.1 hp
     intro e; have := name_len f.q; rw [show name f.q = [] from e] at this; simp at this
    have h2 : p.1 ≠ name (s + (recsOf Q).length) := by
     intro e
     have := find_sorted (n := p.1) (i := p.2) hi.sn hp
     rw [e, hnone] at this; cases this
    simp [h1, h2]
   unfold Dk.apply
   dsimp only
   rw [hfil, if_neg hne]
   refine ins_end fun r hr => ?_
   rw [hq.names] at hr
   obtain ⟨f, hf, rfl⟩ := List.mem_map.1 hr
   intro hl
   have hb := (chain_q hq.chain f hf).2
   have := name_lt hq.top (by have := hq.top; omega) hl
   omega
  have hrec : recsOf (Q ++ [⟨s + (recsOf Q).length, x.files.length, [], []⟩]) = recsOf Q := by simp [recsOf]
  have hH : Half (Dk.turn { y with files := y.files ++ [⟨[], 0⟩] } ⟨[], name (s + (recsOf Q).length), x.files.length⟩) (x.names ++ [(name (s + (recsOf Q).length), x.files.length)]) s (Q ++ [⟨s + (recsOf Q).length, x.files.length, [], []⟩]) (recsOf Q).length := by
   refine ⟨?_, ?_, ?_, ?_, ?_, ?_, ?_, ?_, ?_, ?_⟩
   ·rw [List.map_append, ← hq.names]; rfl
   ·intro f hf
    rcases List.mem_append.1 hf with hf | hf
    ·rw [hold _ (hlt f hf)]; exact hq.data f hf
    ·obtain rfl : f = _ := by simpa using hf
     rw [hnew]; rfl
   ·intro f hf
    rcases List.mem_append.1 hf with hf | hf
    ·exact hq.torn f hf
    ·obtain rfl : f = _ := by simpa using hf
     exact torn_nil
   ·intro f hf
    rcases List.mem_append.1 hf with hf | hf
    ·exact hq.fits f hf
    ·obtain rfl : f = _ := by simpa using hf
     intro r hr; simp at hr
   ·exact chain_app.2 ⟨hq.chain, rfl, trivial⟩
   ·rw [hrec]; exact hq.top
   ·rw [List.map_append, List.nodup_append]
    refine ⟨hq.nodup, by simp, fun a ha b hb => ?_⟩
    obtain ⟨f, hf, rfl⟩ := List.mem_map.1 ha
    have := hlt f hf
    simp at hb
    omega
   ·intro he; simp at he
   ·intro P f he g hg
    obtain ⟨rfl, rfl⟩ := snoc_inj he
    rw [hold _ (hlt g hg)]; exact hw g hg
   ·intro P f he
    obtain ⟨rfl, rfl⟩ := snoc_inj he
    exact ⟨0, Nat.zero_le _, Nat.zero_le _, Nat.le_refl _⟩
  refine ⟨?_, ?_⟩
  ·intro k hk
   have hk : k ≤ (y.pend ++ [(⟨[], name (s + (recsOf Q).length), x.files.length⟩ : Dk.Cg)]).length := hk
   rw [List.length_append, c.pend] at hk
   have key : ∀ nm', nm' = ((x.pend ++ [(⟨[], name (s + (recsOf Q).length), x.files.length⟩ : Dk.Cg)]).take k).foldl Dk.apply x.safe →
     ∃ Q', Half (Dk.turn { y with files := y.files ++ [⟨[], 0⟩] } ⟨[], name (s + (recsOf Q).length), x.files.length⟩) nm' s Q' (recsOf Q).length ∧ recsOf Q' = recsOf Q := by
    intro nm' e
    by_cases hk2 : k ≤ x.pend.length
    ·obtain ⟨Q', h1, h2⟩ := h k hk2
     rw [List.take_append_of_le_length hk2] at e
     subst e
     exact ⟨Q', h1.files fun f hf => hold _ (h1.ix_lt hi f hf), h2⟩
    ·rw [List.take_of_length_le (by rw [List.length_append]; simp; omega), List.foldl_append, ← hi.names, List.foldl_cons, List.foldl_nil, hnames] at e
     subst e
     exact ⟨_, hH, hrec⟩
   refine key _ ?_
   show ((y.pend ++ [(⟨[], name (s + (recsOf Q).length), x.files.length⟩ : Dk.Cg)]).take k).foldl Dk.apply y.safe = _
   rw [c.pend, c.safe]
  ·have e : (Dk.turn { y with files := y.files ++ [⟨[], 0⟩] } ⟨[], name (s + (recsOf Q).length), x.files.length⟩).names = x.names ++ [(name (s + (recsOf Q).length), x.files.length)] := by
    show Dk.apply y.names ⟨[], name (s + (recsOf Q).length), x.files.length⟩ = _
    rw [c.names, hnames]
   exact (congrArg (fun n => Half (Dk.turn { y with files := y.files ++ [⟨[], 0⟩] } ⟨[], name (s + (recsOf Q).length), x.files.length⟩) n s (Q ++ [⟨s + (recsOf Q).length, x.files.length, [], []⟩]) (recsOf Q).length) e).mpr hH
 unfold Dk.create at hi2 ⊢
 split
 ·rename_i hd
  rw [if_pos hd] at hi2
  exact ⟨h, hi2, fun h0 => absurd (show (9 : Int) = 0 from h0) (by decide)⟩
 ·rename_i hd
  rw [if_neg hd] at hi2
  split
  ·rename_i h1
   rw [if_pos h1] at hi2
   exact ⟨h, hi2, fun h0 => absurd (show (1 : Int) = 0 from h0) (by decide)⟩
  ·rename_i h1
   rw [if_neg h1] at hi2
   split
   ·rename_i h2
    rw [if_pos h2] at hi2
    exact ⟨h, hi2, fun h0 => absurd (show (6 : Int) = 0 from h0) (by decide)⟩
   ·rename_i h2
    rw [if_neg h2] at hi2
    have hc := core_begin x
    have hn : Dk.find x.names (name (s + (recsOf Q).length)) = none := by simpa using h2
    generalize Dk.begin x = z at hc hi2 ⊢
    obtain ⟨y, st, e⟩ := z
    dsimp only at hc hi2 ⊢
    by_cases he : e ≠ 0 ∧ st = false
    ·rw [if_pos he] at hi2 ⊢
     exact ⟨h.core hc, hi2, fun h0 => absurd h0 he.1⟩
    ·rw [if_neg he] at hi2 ⊢
     rw [show y.files.length = x.files.length from by rw [hc.files]] at hi2 ⊢
     obtain ⟨m1, m2⟩ := made y hc hn
     exact ⟨m1, hi2, fun _ => m2⟩
end Wl
end Go.Vc
namespace Go.Vc
open Dk (Ds Fi fileAt)
namespace Wl
theorem Half.tail {x : Ds} {s lo : Nat} {Q : List Fl} (h : Half x x.names s Q lo) (hi : Dk.Inv x) {f : Fl} (hf : f ∈ Q) (hq : f.q = s + (recsOf Q).length) :
  ∃ A, Q = A ++ [f] ∧ recsOf A = recsOf Q ∧ ∀ g ∈ A, name g.q ≠ name f.q := by
 obtain ⟨A, B, rfl⟩ := List.append_of_mem hf
 have hs : ((A ++ f :: B).map fun f => (name f.q, f.ix)).Pairwise fun a b => a.1 < b.1 := by rw [← h.names]; exact hi.sn
 rw [List.map_append, List.map_cons, List.pairwise_append] at hs
 have hch := chain_app.1 h.chain
 have hr := (chain_q h.chain f hf).2
 have hrs : f.rs = [] := List.eq_nil_of_length_eq_zero (by omega)
 have hB : B = [] := by
  cases B with
  | nil => rfl
  | cons g B =>
   have h1 := hch.2.2.1
   have h2 := (List.pairwise_cons.1 hs.2.1).1 (name g.q, g.ix) (by simp)
   have h3 := hch.2.1
   rw [hrs] at h1
   have e : g.q = f.q := by simpa [h3] using h1
   have h2 : name f.q < name g.q := h2
   rw [e] at h2
   exact absurd h2 (Dk.lt_irrefl _)
 subst hB
 refine ⟨A, rfl, by simp [recsOf, hrs], fun g hg e => ?_⟩
 have h2 : name g.q < name f.q := hs.2.2 (name g.q, g.ix) (List.mem_map.2 ⟨g, hg, rfl⟩) (name f.q, f.ix) (by simp)
 rw [e] at h2
 exact Dk.lt_irrefl _ h2
theorem Half.front {x : Ds} {nm : List (Tx × Nat)} {s lo : Nat} {A : List Fl} {f : Fl} (h : Half x nm s (A ++ [f]) lo) (hw : ∀ g ∈ A, Whole x g.ix) : Half x (A.map fun f => (name f.q, f.ix)) s A (recsOf A).length := by
 have htop := h.top
 rw [recs_app, List.length_append] at htop
 refine ⟨rfl, fun g hg => h.data g (by simp [hg]), fun g hg => h.torn g (by simp [hg]), fun g hg => h.fits g (by simp [hg]), (chain_app.1 h.chain).1, by omega, ?_, fun e => by rw [e]; rfl, fun P g e a ha => hw a (by rw [e]; simp [ha]), fun P g e => ⟨g.rs.length, Nat.le_refl _, ?_, ?_⟩⟩
 ·have := h.nodup
  rw [List.map_append, List.nodup_append] at this
  exact this.1
 ·have h1 := hw g (by rw [e]; simp)
  unfold Whole at h1
  rw [h1, h.data g (by rw [e]; simp), List.take_length]
  show _ ≤ (frs g.q g.rs ++ g.tl).length
  rw [List.length_append]; omega
 ·rw [e, recs_app, List.length_append]; simp [recsOf]
theorem Hold.remove {x : Ds} {s : Nat} {Q : List Fl} (h : Hold x s Q (recsOf Q).length) (hw : ∀ f ∈ Q, Whole x f.ix) {f : Fl} (hf : f ∈ Q) (hq : f.q = s + (recsOf Q).length) :
  Backs (Dk.remove x (name f.q)).1 s (recsOf Q) (recsOf Q).length ∧ Dk.Inv (Dk.remove x (name f.q)).1 ∧
   ((Dk.remove x (name f.q)).2 = 0 → ∃ A, recsOf A = recsOf Q ∧ Half (Dk.remove x (name f.q)).1 (Dk.remove x (name f.q)).1.names s A (recsOf A).length ∧ ∀ g ∈ A, Whole (Dk.remove x (name f.q)).1 g.ix) := by
 have hi2 := Dk.inv_remove h.inv (name f.q)
 obtain ⟨A, hQ, hrec, hne⟩ := h.half.tail h.inv hf hq
 have hwA : ∀ g ∈ A, Whole x g.ix := fun g hg => hw g (by rw [hQ]; simp [hg])
 have hap : Dk.apply x.names ⟨name f.q, [], 0⟩ = A.map fun f => (name f.q, f.ix) := by
  unfold Dk.apply
  rw [if_pos rfl, h.half.names, hQ, List.map_append, List.filter_append]
  have h1 : (A.map fun f => (name f.q, f.ix)).filter (fun p : Tx × Nat => p.1 ≠ name f.q ∧ p.1 ≠ ([] : Tx)) = A.map fun f => (name f.q, f.ix) := by
   rw [List.filter_eq_self]
   intro p hp
   obtain ⟨g, hg, rfl⟩ := List.mem_map.1 hp
   have h2 : name g.q ≠ [] := by intro e; have := name_len g.q; rw [e] at this; simp at this
   simp [hne g hg, h2]
  have h2 : ([f].map fun f => (name f.q, f.ix)).filter (fun p : Tx × Nat => p.1 ≠ name f.q ∧ p.1 ≠ ([] : Tx)) = [] := by simp
  rw [h1, h2, List.append_nil]
 have gone : ∀ y, Core x y → Half (Dk.turn y ⟨name f.q, [], 0⟩) (A.map fun f => (name f.q, f.ix)) s A (recsOf A).length := by
  intro y c
  have h1 := h.half
  rw [hQ] at h1
  exact (h1.front hwA).files fun g _ => c.at g.ix
 have made : ∀ y, Core x y → Backs (Dk.turn y ⟨name f.q, [], 0⟩) s (recsOf Q) (recsOf Q).length ∧ (Dk.turn y ⟨name f.q, [], 0⟩).names = A.map (fun f => (name f.q, f.ix)) := by
  intro y c
  refine ⟨fun k hk => ?_, ?_⟩
  ·have key : ∀ nm', nm' = (([] ++ [(⟨name f.q, [], 0⟩ : Dk.Cg)]).take k).foldl Dk.apply x.names → ∃ Q', Half (Dk.turn y ⟨name f.q, [], 0⟩) nm' s Q' (recsOf Q).length ∧ recsOf Q' = recsOf Q := by
    intro nm' e
    cases k with
    | zero =>
     have e : nm' = x.names := e
     subst e
     exact ⟨Q, h.half.files fun g _ => c.at g.ix, rfl⟩
    | succ k =>
     have e : nm' = Dk.apply x.names ⟨name f.q, [], 0⟩ := by rw [e]; simp
     rw [hap] at e
     subst e
     exact ⟨A, by rw [← hrec]; exact gone y c, hrec⟩
   refine key _ ?_
   show ((y.pend ++ [(⟨name f.q, [], 0⟩ : Dk.Cg)]).take k).foldl Dk.apply y.safe = _
   rw [c.pend, c.safe, h.pend, h.safe]
  ·show Dk.apply y.names ⟨name f.q, [], 0⟩ = _
   rw [c.names, hap]
 by_cases h0 : (Dk.remove x (name f.q)).2 = 0
 ·obtain ⟨y, c, he⟩ : ∃ y, Core x y ∧ (Dk.remove x (name f.q)).1 = Dk.turn y ⟨name f.q, [], 0⟩ := by
   have h0 := h0
   unfold Dk.remove at h0 ⊢
   split at h0
   ·exact absurd (show (9 : Int) = 0 from h0) (by decide)
   ·rename_i hd
    rw [if_neg hd]
    split at h0
    ·exact absurd (show (5 : Int) = 0 from h0) (by decide)
    ·rename_i i hfd
     have hc := core_begin x
     generalize Dk.begin x = z at hc h0 ⊢
     obtain ⟨y, st, e⟩ := z
     dsimp only at hc h0 ⊢
     by_cases he : e ≠ 0 ∧ st = false
     ·rw [if_pos he] at h0; exact absurd h0 he.1
     ·rw [if_neg he]; exact ⟨y, hc, rfl⟩
  rw [he] at hi2 ⊢
  obtain ⟨m1, m2⟩ := made y c
  refine ⟨m1, hi2, fun _ => ⟨A, hrec, ?_, fun g hg => ?_⟩⟩
  ·exact (congrArg (fun n => Half (Dk.turn y ⟨name f.q, [], 0⟩) n s A (recsOf A).length) m2).mpr (gone y c)
  ·have := hwA g hg
   unfold Whole at this ⊢
   have e : fileAt (Dk.turn y ⟨name f.q, [], 0⟩) g.ix = fileAt x g.ix := c.at g.ix
   rw [e]; exact this
 ·refine ⟨?_, hi2, fun h => absurd h h0⟩
  rcases remove_sh x (name f.q) with c | ⟨y, i, c, _, he⟩
  ·exact h.backs.core c
  ·rw [he]; exact (made y c).1
end Wl
end Go.Vc
namespace Go.Vc
open Dk (Ds Fi fileAt)
namespace Wl
theorem Half.mono {x : Ds} {nm : List (Tx × Nat)} {s lo lo' : Nat} {Q : List Fl} (h : Half x nm s Q lo) (hl : lo' ≤ lo) : Half x nm s Q lo' :=
 ⟨h.names, h.data, h.torn, h.fits, h.chain, h.top, h.nodup, fun e => by have := h.bare e; omega, h.whole, fun P f e => by obtain ⟨k, a, b, c⟩ := h.last P f e; exact ⟨k, a, b, by omega⟩⟩
theorem Backs.mono {x : Ds} {s lo lo' : Nat} {R : List Tx} (h : Backs x s R lo) (hl : lo' ≤ lo) : Backs x s R lo' := fun k hk => by
 obtain ⟨Q, h1, h2⟩ := h k hk
 exact ⟨Q, h1.mono hl, h2⟩
theorem Half.le {x : Ds} {nm : List (Tx × Nat)} {s lo : Nat} {Q : List Fl} (h : Half x nm s Q lo) : lo ≤ (recsOf Q).length := by
 rcases snoc_or Q with rfl | ⟨P, f, rfl⟩
 ·rw [h.bare rfl]; exact Nat.zero_le _
 ·obtain ⟨k, k1, k2, k3⟩ := h.last P f rfl
  have : recsOf (P ++ [f]) = recsOf P ++ f.rs := by simp [recsOf]
  rw [this, List.length_append]; omega
theorem found_clear : ∀ (l : List Tx) (x : Ds), (Wl.syncFound x l).2.2 = 0 → (Wl.syncFound x l).2.1 = []
 | [], _, _ => rfl
 | a :: l, x, h => by
  rw [Wl.syncFound] at h ⊢
  by_cases he : (Dk.sync x a).2 ≠ 0
  ·rw [if_pos he] at h; exact absurd h he
  ·rw [if_neg he] at h ⊢; exact found_clear l _ h
theorem sync_clear {x : Ds} {g : Lg} (h : (Wl.sync x g).2.2 = 0) : (Wl.sync x g).2.1.found = [] := by
 have h1 := found_clear g.found x (sync_ends x g h)
 have h2 := sync_ends x g h
 unfold Wl.sync sync1
 rw [if_neg (by simp [h2])]
 unfold sync2
 split
 ·exact h1
 ·split <;> exact h1
theorem turn3_log {x : Ds} {g : Lg} {s : Nat} {Q : List Fl} (h : Backs x s (recsOf Q) (recsOf Q).length) (hq : Half x x.names s Q (recsOf Q).length) (hw : ∀ f ∈ Q, Whole x f.ix) (hi : Dk.Inv x) (hg : g.next = s + (recsOf Q).length) :
  Backs (turn3 x g).1 s (recsOf Q) (recsOf Q).length ∧ Dk.Inv (turn3 x g).1 ∧ ((turn3 x g).2.2 = 0 → ∃ ix, Hold (turn3 x g).1 s (Q ++ [⟨s + (recsOf Q).length, ix, [], []⟩]) (recsOf Q).length ∧ (turn3 x g).2.1 = { g with name := name g.next, size := 0 }) := by
 obtain ⟨c1, c2, c3⟩ := h.create hq hw hi
 rw [← hg] at c1 c2 c3
 unfold turn3
 by_cases he : (Dk.create x (name g.next)).2 ≠ 0
 ·rw [if_pos he]; exact ⟨c1, c2, fun h0 => absurd h0 he⟩
 ·rw [if_neg he]
  have c3 := c3 (Classical.byContradiction he)
  generalize (Dk.create x (name g.next)).1 = y at c1 c2 c3 ⊢
  have hrec : recsOf (Q ++ [⟨g.next, x.files.length, [], []⟩]) = recsOf Q := by simp [recsOf]
  rw [← hrec] at c1
  obtain ⟨d1, d2⟩ := c1.syncNames (lo := (recsOf (Q ++ [⟨g.next, x.files.length, [], []⟩])).length) (by rw [hrec]; exact c3) c2
  have d3 := Dk.inv_syncNames c2
  rw [hrec] at d1 d2
  unfold turn4
  by_cases he2 : (Dk.syncNames y).2 ≠ 0
  ·rw [if_pos he2]; exact ⟨d1, d3, fun h0 => absurd h0 he2⟩
  ·rw [if_neg he2]
   refine ⟨d1, d3, fun _ => ⟨x.files.length, ?_, rfl⟩⟩
   rw [← hg]
   exact d2 (Classical.byContradiction he2)
theorem Hold.turn {x : Ds} {g : Lg} {s lo : Nat} {Q : List Fl} (h : Hold x s Q lo) (t : Tied x g s Q) :
  Backs (Wl.turn x g).1 s (recsOf Q) lo ∧ Dk.Inv (Wl.turn x g).1 ∧ ((Wl.turn x g).2.2 = 0 → ∃ A f, recsOf (A ++ [f]) = recsOf Q ∧ f.rs = [] ∧ f.tl = [] ∧ f.q = g.next ∧ Hold (Wl.turn x g).1 s (A ++ [f]) (recsOf Q).length ∧
   Tied (Wl.turn x g).1 (Wl.turn x g).2.1 s (A ++ [f]) ∧ (Wl.turn x g).2.1.name = name f.q ∧ (Wl.turn x g).2.1.found = [] ∧ (Wl.turn x g).2.1.next = g.next) := by
 obtain ⟨w1, w2, w3⟩ := h.wsync t
 have hle := h.half.le
 have hcl := @sync_clear x g
 have hlg := sync_lg x g
 unfold Wl.turn
 generalize Wl.sync x g = z at w1 w2 w3 hcl hlg ⊢
 obtain ⟨y, g2, e⟩ := z
 dsimp only at w1 w2 w3 hcl hlg
 unfold turn1
 dsimp only
 by_cases he : e ≠ 0
 ·rw [if_pos he]
  exact ⟨w1.backs, w1.inv, fun h0 => absurd h0 he⟩
 ·rw [if_neg he]
  have he : e = 0 := Classical.byContradiction he
  have hwl := w3 he
  have hfd := hcl he
  by_cases hd : y.dead = true
  ·rw [if_pos hd]
   exact ⟨w1.backs, w1.inv, fun h0 => absurd (show (9 : Int) = 0 from h0) (by decide)⟩
  ·rw [if_neg hd]
   have hN : Hold y s Q (recsOf Q).length := ⟨w1.half.full hwl, w1.pend, w1.safe, w1.inv⟩
   have hw : ∀ f ∈ Q, Whole y f.ix := by
    intro f hf
    rcases snoc_or Q with rfl | ⟨P, f', rfl⟩
    ·simp at hf
    ·rcases List.mem_append.1 hf with hf | hf
     ·exact w1.half.whole P f' rfl f hf
     ·obtain rfl : f = f' := by simpa using hf
      exact hwl P f rfl
   have fin : ∀ (z : Ds) (A : List Fl), recsOf A = recsOf Q → Backs z s (recsOf A) (recsOf A).length → Half z z.names s A (recsOf A).length → (∀ f ∈ A, Whole z f.ix) → Dk.Inv z →
     Backs (turn3 z g2).1 s (recsOf Q) lo ∧ Dk.Inv (turn3 z g2).1 ∧ ((turn3 z g2).2.2 = 0 → ∃ A f, recsOf (A ++ [f]) = recsOf Q ∧ f.rs = [] ∧ f.tl = [] ∧ f.q = g.next ∧ Hold (turn3 z g2).1 s (A ++ [f]) (recsOf Q).length ∧
      Tied (turn3 z g2).1 (turn3 z g2).2.1 s (A ++ [f]) ∧ (turn3 z g2).2.1.name = name f.q ∧ (turn3 z g2).2.1.found = [] ∧ (turn3 z g2).2.1.next = g.next) := by
    intro z A hA b1 b2 b3 b4
    obtain ⟨u1, u2, u3⟩ := turn3_log (g := g2) b1 b2 b3 b4 (by rw [w2.next, hA])
    rw [hA] at u1
    refine ⟨u1.mono hle, u2, fun h0 => ?_⟩
    obtain ⟨ix, v1, v2⟩ := u3 h0
    have hr : recsOf (A ++ [⟨s + (recsOf A).length, ix, [], []⟩]) = recsOf Q := by rw [← hA]; simp [recsOf]
    have hnx : g2.next = g.next := hlg.1
    have hq : s + (recsOf A).length = g.next := by rw [hA, ← hnx]; exact w2.next.symm
    rw [hA] at v1
    have hwn : Whole (turn3 z g2).1 ix := by
     have hm : (⟨s + (recsOf Q).length, ix, [], []⟩ : Fl) ∈ A ++ [⟨s + (recsOf Q).length, ix, [], []⟩] := by simp
     have h1 := v1.half.data _ hm
     have h1 : (fileAt (turn3 z g2).1 ix).data = [] := h1
     have h2 := v1.half.lt v1.inv v1.safe hm
     have h2 : ix < (turn3 z g2).1.files.length := h2
     have h3 : (fileAt (turn3 z g2).1 ix).safe ≤ (fileAt (turn3 z g2).1 ix).data.length := by
      refine v1.inv.fs _ ?_
      unfold fileAt
      rw [List.getD, List.getElem?_eq_getElem h2]
      exact List.getElem_mem _
     unfold Whole
     rw [h1] at h3 ⊢
     simpa using h3
    rw [hA] at hr hq
    refine ⟨A, ⟨s + (recsOf Q).length, ix, [], []⟩, hr, rfl, rfl, hq, v1, ?_, ?_, ?_, ?_⟩
    ·rw [v2]
     refine ⟨?_, ?_, fun _ => ⟨A, _, rfl, ?_, rfl⟩, fun _ => ?_, fun P f e' => ?_⟩
     ·show g2.next = _
      rw [hr]; exact w2.next
     ·intro n hn
      have hn : n ∈ g2.found := hn
      rw [hfd] at hn; simp at hn
     ·show name g2.next = name (s + (recsOf Q).length)
      rw [w2.next]
     ·show name g2.next ≠ []
      intro e2; have := name_len g2.next; rw [e2] at this; simp at this
     ·obtain ⟨rfl, rfl⟩ := snoc_inj e'
      exact .inr (.inl hwn)
    ·rw [v2]; show name g2.next = name (s + (recsOf Q).length); rw [w2.next]
    ·rw [v2]; exact hfd
    ·rw [v2]; exact hnx
   unfold turn2
   by_cases ha : (y.names.any fun p => p.1 == name g2.next) = true
   ·rw [if_pos ha]
    obtain ⟨p, hp, hpe⟩ := List.any_eq_true.1 ha
    rw [hN.half.names] at hp
    obtain ⟨f, hf, rfl⟩ := List.mem_map.1 hp
    have hpe : name f.q = name g2.next := by simpa using hpe
    have hfq : f.q = s + (recsOf Q).length := by
     have h1 := (chain_q hN.half.chain f hf).2
     have h2 := hN.half.top
     have h3 := w2.next
     have := name_inj (by omega) (by omega) hpe
     omega
    obtain ⟨r1, r2, r3⟩ := hN.remove hw hf hfq
    rw [hpe] at r1 r2 r3
    by_cases hr : (Dk.remove y (name g2.next)).2 ≠ 0
    ·rw [if_pos hr]
     exact ⟨r1.mono hle, r2, fun h0 => absurd h0 hr⟩
    ·rw [if_neg hr]
     obtain ⟨A, a1, a2, a3⟩ := r3 (Classical.byContradiction hr)
     exact fin _ A a1 (by rw [a1]; exact r1) a2 a3 r2
   ·rw [if_neg ha]
    exact fin y Q rfl hN.backs hN.half hw hN.inv
end Wl
end Go.Vc
namespace Go.Vc
open Dk (Ds Fi fileAt)
namespace Wl
theorem app2_log {x : Ds} {g : Lg} {s lo : Nat} {P : List Fl} {f : Fl} {r : Tx} (h : Hold x s (P ++ [f]) lo) (t : Tied x g s (P ++ [f])) (ht : f.tl = []) (hn : g.name = name f.q) (hr : r.length ≤ 4194304) (htop : s + (recsOf (P ++ [f])).length + 1 < 18446744073709551616) :
  ∃ R, (R = recsOf (P ++ [f]) ∨ R = recsOf (P ++ [f]) ++ [r]) ∧ Backs (app2 (frT g.next r) x g).1 s R lo ∧ Dk.Inv (app2 (frT g.next r) x g).1 ∧
   ((app2 (frT g.next r) x g).2.2 = 0 → R = recsOf (P ++ [f]) ++ [r] ∧ ∃ Q', Q' ≠ [] ∧ recsOf Q' = R ∧ Hold (app2 (frT g.next r) x g).1 s Q' lo ∧ Tied (app2 (frT g.next r) x g).1 (app2 (frT g.next r) x g).2.1 s Q') := by
 have hch := (chain_app.1 h.half.chain).2.1
 have hr0 : recsOf (P ++ [f]) = recsOf P ++ f.rs := by simp [recsOf]
 have hnx : g.next = f.q + f.rs.length := by rw [t.next, hr0, List.length_append, hch]; omega
 have hrec : recsOf (P ++ [⟨f.q, f.ix, f.rs ++ [r], []⟩]) = recsOf (P ++ [f]) ++ [r] := by simp [recsOf]
 have hi := Dk.inv_append h.inv g.name (frT g.next r)
 have hap := h.append (r := r) ht hr htop
 rw [← hnx, ← hn] at hap
 unfold app2
 by_cases he : (Dk.append x g.name (frT g.next r)).2 ≠ 0
 ·rw [if_pos he]
  rcases hap with h1 | ⟨h1, _⟩
  ·exact ⟨_, .inr rfl, by rw [← hrec]; exact h1.backs, hi, fun h0 => absurd h0 he⟩
  ·exact ⟨_, .inl rfl, h1.backs, hi, fun h0 => absurd h0 he⟩
 ·rw [if_neg he]
  rcases hap with h1 | ⟨_, h1⟩
  ·refine ⟨_, .inr rfl, by rw [← hrec]; exact h1.backs, hi, fun _ => ⟨rfl, _, by simp, hrec, h1, ?_⟩⟩
   refine ⟨?_, ?_, fun _ => ⟨P, _, rfl, hn, rfl⟩, fun _ => ?_, fun P' f' e' => ?_⟩
   ·show (g.next + 1) % 18446744073709551616 = _
    rw [hrec, List.length_append, t.next, Nat.mod_eq_of_lt (by omega)]; rfl
   ·intro n hm
    obtain ⟨k, hk, rfl⟩ := t.found n hm
    rcases List.mem_append.1 hk with hk | hk
    ·exact ⟨k, by simp [hk], rfl⟩
    ·obtain rfl : k = f := by simpa using hk
     exact ⟨⟨k.q, k.ix, k.rs ++ [r], []⟩, by simp, rfl⟩
   ·show g.name ≠ []
    rw [hn]; intro e2; have := name_len f.q; rw [e2] at this; simp at this
   ·obtain ⟨rfl, rfl⟩ := snoc_inj e'
    exact .inr (.inr ⟨hn, rfl⟩)
  ·exact absurd h1 he
theorem Hold.wappend {x : Ds} {g : Lg} {s lo : Nat} {Q : List Fl} {r : Tx} (h : Hold x s Q lo) (t : Tied x g s Q) (hr : r.length ≤ 4194304) (htop : s + (recsOf Q).length + 1 < 18446744073709551616) :
  ∃ R, (R = recsOf Q ∨ R = recsOf Q ++ [r]) ∧ Backs (Wl.append x g r).1 s R lo ∧ Dk.Inv (Wl.append x g r).1 ∧
   ((Wl.append x g r).2.2 = 0 → R = recsOf Q ++ [r] ∧ ∃ Q', Q' ≠ [] ∧ recsOf Q' = R ∧ Hold (Wl.append x g r).1 s Q' lo ∧ Tied (Wl.append x g r).1 (Wl.append x g r).2.1 s Q') := by
 unfold Wl.append
 rw [if_neg (by omega)]
 by_cases hc : g.name = [] ∨ (g.size > 0 ∧ g.size > g.limit - (frT g.next r).length)
 ·rw [if_pos hc]
  obtain ⟨t1, t2, t3⟩ := h.turn t
  have hle := h.half.le
  generalize Wl.turn x g = z at t1 t2 t3 ⊢
  obtain ⟨y, g2, e⟩ := z
  dsimp only at t1 t2 t3
  unfold app1
  dsimp only
  by_cases he : e ≠ 0
  ·rw [if_pos he]
   exact ⟨_, .inl rfl, t1, t2, fun h0 => absurd h0 he⟩
  ·rw [if_neg he]
   obtain ⟨A, f, a1, a2, a3, a4, a5, a6, a7, a8, a9⟩ := t3 (Classical.byContradiction he)
   have a5 : Hold y s (A ++ [f]) lo := ⟨a5.half.mono hle, a5.pend, a5.safe, a5.inv⟩
   have := app2_log (r := r) a5 a6 a3 a7 hr (by rw [a1]; exact htop)
   rw [a1, a9] at this
   exact this
 ·rw [if_neg hc]
  have hn : g.name ≠ [] := fun e => hc (.inl e)
  obtain ⟨P, f, rfl, h2, h3⟩ := t.cur hn
  exact app2_log h t h3 h2 hr htop
end Wl
end Go.Vc
namespace Go.Vc
open Dk (Ds Fi fileAt)
theorem well_restart {x : Ds} (h : x.room = 100000) (ch : List Int) : Well (Dk.restart x ch) := ⟨rfl, rfl, rfl, h⟩
theorem well_sync {x : Ds} (h : Well x) (hi : Dk.Inv x) {nm : Tx} {i : Nat} (hm : (nm, i) ∈ x.names) : Well (Dk.sync x nm).1 ∧ (Dk.sync x nm).2 = 0 := by
 unfold Dk.sync
 rw [if_neg (by rw [h.dead]; simp), find_sorted hi.sn hm, begin_calm h.dead h.crash h.fail]
 dsimp only
 rw [if_neg (by simp)]
 exact ⟨⟨h.dead, h.crash, h.fail, h.room⟩, rfl⟩
theorem well_remove {x : Ds} (h : Well x) (hi : Dk.Inv x) {nm : Tx} {i : Nat} (hm : (nm, i) ∈ x.names) : Well (Dk.remove x nm).1 ∧ (Dk.remove x nm).2 = 0 := by
 unfold Dk.remove
 rw [if_neg (by rw [h.dead]; simp), find_sorted hi.sn hm, begin_calm h.dead h.crash h.fail]
 dsimp only
 rw [if_neg (by simp)]
 exact ⟨⟨h.dead, h.crash, h.fail, h.room⟩, rfl⟩
theorem well_syncNames {x : Ds} (h : Well x) : Well (Dk.syncNames x).1 ∧ (Dk.syncNames x).2 = 0 := by
 unfold Dk.syncNames
 rw [begin_calm h.dead h.crash h.fail]
 dsimp only
 rw [if_neg (by simp)]
 exact ⟨⟨h.dead, h.crash, h.fail, h.room⟩, rfl⟩
theorem well_create0 {x : Ds} (h : Well x) {nm : Tx} (hn : nm ≠ []) (hf : Dk.find x.names nm = none) : Well (Dk.create x nm).1 ∧ (Dk.create x nm).2 = 0 := by
 refine ⟨(well_create h nm).1, ?_⟩
 unfold Dk.create
 rw [if_neg (by rw [h.dead]; simp), if_neg hn, if_neg (by rw [hf]; simp), begin_calm h.dead h.crash h.fail]
 dsimp only
 rw [if_neg (by simp)]
namespace Wl
theorem Hold.syncFound_well {s lo : Nat} {Q : List Fl} : ∀ (l : List Tx) (x : Ds), Hold x s Q lo → Well x → (∀ n ∈ l, ∃ f ∈ Q, n = name f.q) → Well (Wl.syncFound x l).1 ∧ (Wl.syncFound x l).2.2 = 0
 | [], x, _, w, _ => ⟨w, rfl⟩
 | n :: l, x, h, w, hl => by
  obtain ⟨f, hf, rfl⟩ := hl n (by simp)
  have hm : (name f.q, f.ix) ∈ x.names := by rw [h.half.names]; exact List.mem_map.2 ⟨f, hf, rfl⟩
  obtain ⟨w1, w2⟩ := well_sync w h.inv hm
  rw [Wl.syncFound, if_neg (by simp [w2])]
  exact Hold.syncFound_well l _ (h.sync hf) w1 fun n hn => hl n (List.mem_cons_of_mem _ hn)
theorem Hold.wsync_well {x : Ds} {g : Lg} {s lo : Nat} {Q : List Fl} (h : Hold x s Q lo) (t : Tied x g s Q) (w : Well x) : Well (Wl.sync x g).1 ∧ (Wl.sync x g).2.2 = 0 := by
 obtain ⟨w1, w2⟩ := Hold.syncFound_well g.found x h w t.found
 have h1 := (Hold.syncFound g.found x h t.found).1
 unfold Wl.sync sync1
 rw [if_neg (by simp [w2])]
 unfold sync2
 dsimp only
 split
 ·exact ⟨w1, rfl⟩
 ·rename_i hl
  obtain ⟨P, f, hQ, hn, _⟩ := t.cur (t.bound (by simpa using hl))
  have hm : (g.name, f.ix) ∈ (Wl.syncFound x g.found).1.names := by rw [h1.half.names, hn]; exact List.mem_map.2 ⟨f, by rw [hQ]; simp, rfl⟩
  obtain ⟨v1, v2⟩ := well_sync w1 h1.inv hm
  rw [if_neg (by simp [v2])]
  exact ⟨v1, rfl⟩
theorem turn3_well {z : Ds} {g : Lg} (w : Well z) (hf : Dk.find z.names (name g.next) = none) : Well (turn3 z g).1 ∧ (turn3 z g).2.2 = 0 := by
 have hne : name g.next ≠ [] := by intro e; have := name_len g.next; rw [e] at this; simp at this
 obtain ⟨w1, w2⟩ := well_create0 w hne hf
 obtain ⟨w3, w4⟩ := well_syncNames w1
 unfold turn3
 rw [if_neg (by simp [w2])]
 unfold turn4
 rw [if_neg (by simp [w4])]
 exact ⟨w3, rfl⟩
theorem Hold.turn_well {x : Ds} {g : Lg} {s lo : Nat} {Q : List Fl} (h : Hold x s Q lo) (t : Tied x g s Q) (w : Well x) : Well (Wl.turn x g).1 ∧ (Wl.turn x g).2.2 = 0 := by
 obtain ⟨w1, w2⟩ := h.wsync_well t w
 obtain ⟨h1, _, _⟩ := h.wsync t
 unfold Wl.turn
 generalize Wl.sync x g = z at w1 w2 h1 ⊢
 obtain ⟨y, g2, e⟩ := z
 dsimp only at w1 w2 h1
 unfold turn1
 dsimp only
 rw [if_neg (by simp [w2]), if_neg (by rw [w1.dead]; simp)]
 unfold turn2
 by_cases ha : (y.names.any fun p => p.1 == name g2.next) = true
 ·rw [if_pos ha]
  obtain ⟨p, hp, hpe⟩ := List.any_eq_true.1 ha
  have hpe : p.1 = name g2.next := by simpa using hpe
  have hm : (name g2.next, p.2) ∈ y.names := by rw [← hpe]; exact hp
  obtain ⟨v1, v2⟩ := well_remove w1 h1.inv hm
  have hn : (Dk.remove y (name g2.next)).1.names = Dk.apply y.names ⟨name g2.next, [], 0⟩ := by
   unfold Dk.remove
   rw [if_neg (by rw [w1.dead]; simp), find_sorted h1.inv.sn hm, begin_calm w1.dead w1.crash w1.fail]
   dsimp only
   rw [if_neg (by simp)]
   rfl
  rw [if_neg (by simp [v2])]
  refine turn3_well v1 ?_
  cases hfd : Dk.find (Dk.remove y (name g2.next)).1.names (name g2.next) with
  | none => rfl
  | some i =>
   have h2 := Dk.find_mem hfd
   rw [hn] at h2
   rcases Dk.mem_apply.1 h2 with ⟨h3, _⟩ | ⟨_, h3, _⟩
   ·exact absurd rfl h3
   ·exact absurd rfl h3
 ·rw [if_neg ha]
  refine turn3_well w1 ?_
  cases hfd : Dk.find y.names (name g2.next) with
  | none => rfl
  | some i => exact absurd (List.any_eq_true.2 ⟨_, Dk.find_mem hfd, by simp⟩) ha
theorem app2_well {x : Ds} {g : Lg} {s lo n b : Nat} {P : List Fl} {f : Fl} {d : Tx} (h : Hold x s (P ++ [f]) lo) (w : Well x) (hl : Lim n b x) (hn : g.name = name f.q) (hb : b + d.length ≤ 100000) : Well (app2 d x g).1 ∧ (app2 d x g).2.2 = 0 := by
 have hm : (g.name, f.ix) ∈ x.names := by rw [h.half.names, hn]; exact List.mem_map.2 ⟨f, by simp, rfl⟩
 obtain ⟨w1, w2⟩ := well_append w hl hm hb
 unfold app2
 rw [if_neg (by simp [w2])]
 exact ⟨w1, rfl⟩
theorem Hold.wappend_well {x : Ds} {g : Lg} {s lo n b : Nat} {Q : List Fl} {r : Tx} (h : Hold x s Q lo) (t : Tied x g s Q) (w : Well x) (hl : Lim n b x) (hr : r.length ≤ 4194304) (hb : b + (18 + r.length) ≤ 100000) :
  Well (Wl.append x g r).1 ∧ (Wl.append x g r).2.2 = 0 := by
 unfold Wl.append
 rw [if_neg (by omega)]
 by_cases hc : g.name = [] ∨ (g.size > 0 ∧ g.size > g.limit - (frT g.next r).length)
 ·rw [if_pos hc]
  obtain ⟨w1, w2⟩ := h.turn_well t w
  obtain ⟨_, _, t3⟩ := h.turn t
  have hl2 := lim_wturn (g := g) hl
  generalize Wl.turn x g = z at w1 w2 t3 hl2 ⊢
  obtain ⟨y, g2, e⟩ := z
  dsimp only at w1 w2 t3 hl2
  obtain ⟨A, f, _, _, _, _, a5, _, a7, _, _⟩ := t3 w2
  unfold app1
  dsimp only
  rw [if_neg (by simp [w2])]
  exact app2_well a5 w1 hl2 a7 (by rw [frT_len]; exact hb)
 ·rw [if_neg hc]
  obtain ⟨P, f, rfl, h2, _⟩ := t.cur fun e => hc (.inl e)
  exact app2_well h w hl h2 (by rw [frT_len]; exact hb)
end Wl
end Go.Vc