/-
 The log behind a restart: what it bears, and what goes on behind it.
 The log behind a restart: more goes on behind what came back; and what Retire leaves.
 The log's laws with crashes: contracts.
 Printed by wip/vct.py: the conditions of functions, by their contracts.
 The log's laws with crashes: fits.
 The log's laws with crashes: WalCrash.
 The log with pending changes of names: whatever comes true of them, the same records come back.
 The log between any calls, with faults: turn, Append, Sync, Retire.
 The log's law without crashes: contracts.
 The log's law with faults: contracts.
 The log's law with faults: each call of the play.
 Printed by wip/vct.py: the conditions of functions, by their contracts.
 The log's law with faults: WalPlays.
-/
import Derived.Test.YtmgeaephkagdiaaGreatDoorWald
import Derived.Test.YtmgeaephkagdiaaGreatDoorWalc
import Derived.KernelRfl
set_option linter.unusedVariables false
set_option linter.unusedSimpArgs false
namespace Go.Vc
open Dk (Ds Fi fileAt)
namespace Wl
theorem syncFound_less : ∀ (l : List Tx) (x : Ds), (syncFound x l).2.1.length ≤ l.length
 | [], x => Nat.le_refl _
 | n :: l, x => by
  rw [syncFound]
  split
  ·exact Nat.le_refl _
  ·exact Nat.le_succ_of_le (syncFound_less l _)
theorem wsync_less (x : Ds) (g : Lg) : (Wl.sync x g).2.1.found.length ≤ g.found.length := by
 unfold Wl.sync sync1
 split
 ·exact syncFound_less _ _
 ·unfold sync2
  split
  ·exact syncFound_less _ _
  ·split
   ·exact syncFound_less _ _
   ·exact syncFound_less _ _
theorem turn3_less (x : Ds) (g : Lg) : (turn3 x g).2.1.found = g.found := by
 unfold turn3
 split
 ·rfl
 ·unfold turn4
  split <;> rfl
theorem wturn_less (x : Ds) (g : Lg) : (Wl.turn x g).2.1.found.length ≤ g.found.length := by
 unfold Wl.turn turn1
 split
 ·exact wsync_less _ _
 ·split
  ·exact wsync_less _ _
  ·unfold turn2
   split
   ·split
    ·exact wsync_less _ _
    ·rw [turn3_less]; exact wsync_less _ _
   ·rw [turn3_less]; exact wsync_less _ _
theorem app2_lg (s : Tx) (x : Ds) (g : Lg) : (app2 s x g).2.1.found = g.found ∧ (app2 s x g).2.1.limit = g.limit ∧ ((app2 s x g).2.1.size = g.size ∨ (app2 s x g).2.1.size = g.size + s.length) := by
 unfold app2
 split
 ·exact ⟨rfl, rfl, .inl rfl⟩
 ·exact ⟨rfl, rfl, .inr rfl⟩
theorem app2_next (s : Tx) (x : Ds) (g : Lg) (h : g.next < 18446744073709551616) : (app2 s x g).2.1.next < 18446744073709551616 := by
 unfold app2
 split
 ·exact h
 ·exact Nat.mod_lt _ (by decide)
structure Neat (k : Nat) (z : Int) (g : Lg) : Prop where
 found : g.found.length ≤ k
 limit : 1 ≤ g.limit ∧ g.limit < 9223372036854775808
 size : 0 ≤ g.size ∧ g.size ≤ z
 next : g.next < 18446744073709551616
theorem Neat.ok {k : Nat} {z : Int} {g : Lg} (h : Neat k z g) (hk : k ≤ 50000) (hz : z ≤ 1000000000000) : LgOk g :=
 ⟨by have := h.found; omega, h.next, h.limit, h.size.1, by have := h.size.2; omega⟩
theorem Neat.sync {k : Nat} {z : Int} {g : Lg} (h : Neat k z g) (x : Ds) : Neat k z (Wl.sync x g).2.1 := by
 obtain ⟨a1, a2, a3, _⟩ := sync_lg x g
 exact ⟨Nat.le_trans (wsync_less x g) h.found, by rw [a2]; exact h.limit, by rw [a3]; exact h.size, by rw [a1]; exact h.next⟩
theorem Neat.turn {k : Nat} {z : Int} {g : Lg} (h : Neat k z g) (x : Ds) : Neat k z (Wl.turn x g).2.1 := by
 obtain ⟨a1, a2, a3⟩ := turn_lg x g
 refine ⟨Nat.le_trans (wturn_less x g) h.found, by rw [a2]; exact h.limit, ?_, by rw [a1]; exact h.next⟩
 rcases a3 with a3 | a3
 ·rw [a3]; exact h.size
 ·rw [a3]; have := h.size; omega
theorem Neat.app2 {k : Nat} {z : Int} {g : Lg} (h : Neat k z g) (s : Tx) (x : Ds) : Neat k (z + s.length) (Wl.app2 s x g).2.1 := by
 obtain ⟨a1, a2, a3⟩ := app2_lg s x g
 refine ⟨by rw [a1]; exact h.found, by rw [a2]; exact h.limit, ?_, app2_next s x g h.next⟩
 have := h.size
 rcases a3 with a3 | a3 <;> rw [a3] <;> omega
theorem Neat.append {k : Nat} {z : Int} {g : Lg} (h : Neat k z g) (x : Ds) (r : Tx) : Neat k (z + (18 + r.length)) (Wl.append x g r).2.1 := by
 have e : ∀ q, (frT q r).length = 18 + r.length := fun q => frT_len q r
 have keep : ∀ {g : Lg}, Neat k z g → Neat k (z + (18 + r.length)) g := fun h => ⟨h.found, h.limit, ⟨h.size.1, by have := h.size.2; omega⟩, h.next⟩
 unfold Wl.append
 split
 ·exact keep h
 ·split
  ·unfold app1
   split
   ·exact keep (h.turn x)
   ·have := (h.turn x).app2 (frT g.next r) (Wl.turn x g).1
    rw [e] at this
    exact this
  ·have := h.app2 (frT g.next r) x
   rw [e] at this
   exact this
end Wl
end Go.Vc
namespace Go.Vc
open Dk (Ds Fi fileAt)
namespace Wl
theorem Backs.back {y : Ds} {lo n b : Nat} {R : List Tx} (h : Backs y 1 R lo) (hl : Lim n b y) (hroom : y.room = 100000) (hR : R.length ≤ 1000) (hn : n ≤ 10000) (hb : b ≤ 90000) (ch : List Int) (limit : Int) (hlim : limit < 9223372036854775808) (more : Tx) (hmo : more.length ≤ 100) :
  ∃ g m, Wl.opened (Dk.restart y ch) limit = (some (g, R.take m), 0) ∧ lo ≤ m ∧ m ≤ R.length ∧ g.next = m + 1 ∧ LgOk g ∧ Mid (Dk.restart y ch) ∧
   (Wl.append (Dk.restart y ch) g more).2.2 = 0 ∧ LgOk (Wl.append (Dk.restart y ch) g more).2.1 ∧ Mid (Wl.append (Dk.restart y ch) g more).1 ∧
   (Wl.sync (Wl.append (Dk.restart y ch) g more).1 (Wl.append (Dk.restart y ch) g more).2.1).2.2 = 0 ∧
   Mid (Wl.sync (Wl.append (Dk.restart y ch) g more).1 (Wl.append (Dk.restart y ch) g more).2.1).1 ∧
   Mid (Dk.restart (Wl.sync (Wl.append (Dk.restart y ch) g more).1 (Wl.append (Dk.restart y ch) g more).2.1).1 ch) ∧
   ∃ g2, Wl.opened (Dk.restart (Wl.sync (Wl.append (Dk.restart y ch) g more).1 (Wl.append (Dk.restart y ch) g more).2.1).1 ch) limit = (some (g2, R.take m ++ [more]), 0) := by
 obtain ⟨Q, m, hH, m1, m2, m3⟩ := h.restart hl.inv ch
 have hl1 := lim_restart hl ch
 have hlen : (recsOf Q).length = m := by rw [m3, List.length_take]; omega
 have hop := hH.half.log.opened hH.inv rfl limit
 have t := hH.tied (fun _ => rfl) (max limit 1)
 have hQn : Q.length ≤ n := by
  have h1 := hl1.hist.names hl1.inv
  rw [hH.half.names, List.length_map] at h1
  exact Nat.le_trans h1 hl1.files
 have hnx : (if Q = [] then 1 else 1 + (recsOf Q).length) = m + 1 := by
  split
  ·rename_i e
   subst e
   rw [← hlen]; rfl
  ·omega
 have hneat : Neat n 0 ⟨max limit 1, if Q = [] then 1 else 1 + (recsOf Q).length, [], 0, false, Q.map fun f => name f.q⟩ :=
  ⟨by show (Q.map _).length ≤ n; rw [List.length_map]; exact hQn, ⟨by show (1 : Int) ≤ max limit 1; omega, by show max limit 1 < 9223372036854775808; omega⟩, ⟨Int.le_refl _, Int.le_refl _⟩, by show (if Q = [] then 1 else 1 + (recsOf Q).length) < _; rw [hnx]; omega⟩
 have w0 : Well (Dk.restart y ch) := well_restart hroom ch
 have hf0 : (Q.map fun f => name f.q).length ≤ n := by rw [List.length_map]; exact hQn
 refine ⟨_, m, by rw [← m3]; exact hop, m1, m2, hnx, hneat.ok (by omega) (by omega), hl1.mono (by omega) (by omega), ?_⟩
 have hfl : (⟨max limit 1, if Q = [] then 1 else 1 + (recsOf Q).length, [], 0, false, Q.map fun f => name f.q⟩ : Lg).found.length ≤ n := hf0
 generalize (⟨max limit 1, if Q = [] then 1 else 1 + (recsOf Q).length, [], 0, false, Q.map fun f => name f.q⟩ : Lg) = g at t hneat hfl ⊢
 have hr : more.length ≤ 4194304 := by omega
 obtain ⟨w1, w2⟩ := hH.wappend_well t w0 hl1 hr (by omega)
 obtain ⟨R', _, _, _, hok⟩ := hH.wappend t hr (by omega)
 obtain ⟨e1, Q', _, e2, hH', t'⟩ := hok w2
 have hl2 := lim_wappend (g := g) (r := more) hl1
 have hneat2 := hneat.append (Dk.restart y ch) more
 rw [frT_len] at hl2
 generalize Wl.append (Dk.restart y ch) g more = z at w1 w2 hH' t' hl2 hneat2 ⊢
 obtain ⟨y1, g1, e⟩ := z
 dsimp only at w1 w2 hH' t' hl2 hneat2 ⊢
 refine ⟨w2, hneat2.ok (by omega) (by omega), hl2.mono (by omega) (by omega), ?_⟩
 obtain ⟨v1, v2⟩ := hH'.wsync_well t' w1
 obtain ⟨hH2, t2, hw⟩ := hH'.wsync t'
 have hl3 := lim_wsync (g := g1) hl2
 have hf1 := hneat2.found
 generalize Wl.sync y1 g1 = z at v1 v2 hH2 t2 hw hl3 ⊢
 obtain ⟨y2, g2, e3⟩ := z
 dsimp only at v1 v2 hH2 t2 hw hl3 ⊢
 have hfull : Hold y2 1 Q' (recsOf Q').length := ⟨hH2.half.full (hw v2), hH2.pend, hH2.safe, hH2.inv⟩
 obtain ⟨Q2, k, hK, k1, k2, k3⟩ := hfull.backs.restart hfull.inv ch
 have hop2 := hK.half.log.opened hK.inv rfl limit
 have e4 : recsOf Q2 = R.take m ++ [more] := by
  rw [k3, List.take_of_length_le (by omega), e2, e1, m3]
 rw [e4] at hop2
 have hl4 := lim_restart hl3 ch
 exact ⟨v2, hl3.mono (by omega) (by omega), hl4.mono (by omega) (by omega), _, hop2⟩
def Ends (x : Ds) (R : List Tx) : Prop := ∀ k, k ≤ x.pend.length → ∃ s Q, Half x ((x.pend.take k).foldl Dk.apply x.safe) s Q (recsOf Q).length ∧ (recsOf Q) <:+ R
theorem Ends.core {x y : Ds} {R : List Tx} (h : Ends x R) (c : Core x y) : Ends y R := by
 intro k hk
 rw [c.pend] at hk
 obtain ⟨s, Q, h1, h2⟩ := h k hk
 exact ⟨s, Q, by rw [c.pend, c.safe]; exact h1.core c, h2⟩
theorem Ends.restart {x : Ds} {R : List Tx} (h : Ends x R) (hi : Dk.Inv x) (ch : List Int) : ∃ s Q, Hold (Dk.restart x ch) s Q (recsOf Q).length ∧ (recsOf Q) <:+ R := by
 obtain ⟨s, Q0, h1, h2⟩ := h (Dk.pick ch 0 (x.pend.length + 1)) (by have := Dk.pick_lt ch 0 (x.pend.length + 1) (by omega); omega)
 have h1 : Half x (Dk.restart x ch).names s Q0 (recsOf Q0).length := h1
 obtain ⟨Q, m, h3, h4, h5, h6⟩ := h1.restart hi
 rw [List.take_of_length_le h4] at h6
 exact ⟨s, Q, ⟨h3, rfl, rfl, Dk.inv_restart hi ch⟩, by rw [h6]; exact h2⟩
theorem Half.behind {x : Ds} {nm : List (Tx × Nat)} {s lo : Nat} {f : Fl} {B : List Fl} (h : Half x nm s (f :: B) lo) (hw : ∀ g ∈ f :: B, Whole x g.ix) : Half x (B.map fun f => (name f.q, f.ix)) (s + f.rs.length) B (recsOf B).length := by
 have htop := h.top
 have hr : recsOf (f :: B) = f.rs ++ recsOf B := by simp [recsOf]
 rw [hr, List.length_append] at htop
 have hn := h.nodup
 rw [List.map_cons, List.nodup_cons] at hn
 refine ⟨rfl, fun g hg => h.data g (by simp [hg]), fun g hg => h.torn g (by simp [hg]), fun g hg => h.fits g (by simp [hg]), h.chain.2, by omega, hn.2, fun e => by rw [e]; rfl, fun P g e a ha => hw a (by rw [e]; simp [ha]), fun P g e => ⟨g.rs.length, Nat.le_refl _, ?_, ?_⟩⟩
 ·have h1 := hw g (by rw [e]; simp)
  unfold Whole at h1
  rw [h1, h.data g (by rw [e]; simp), List.take_length]
  show _ ≤ (frs g.q g.rs ++ g.tl).length
  rw [List.length_append]; omega
 ·rw [e, recs_app, List.length_append]; simp [recsOf]
theorem apply_first {x : Ds} {s lo : Nat} {f : Fl} {B : List Fl} (h : Half x x.names s (f :: B) lo) (hi : Dk.Inv x) : Dk.apply x.names ⟨name f.q, [], 0⟩ = B.map fun f => (name f.q, f.ix) := by
 have hs : ((f :: B).map fun f => (name f.q, f.ix)).Pairwise fun a b => a.1 < b.1 := by rw [← h.names]; exact hi.sn
 rw [List.map_cons, List.pairwise_cons] at hs
 unfold Dk.apply
 rw [if_pos rfl, h.names, List.map_cons, List.filter_cons_of_neg (by simp), List.filter_eq_self]
 intro p hp
 have h1 := hs.1 p hp
 obtain ⟨g, hg, rfl⟩ := List.mem_map.1 hp
 have h2 : name g.q ≠ [] := by intro e; have := name_len g.q; rw [e] at this; simp at this
 have h3 : name g.q ≠ name f.q := by
  intro e
  have h1 : name f.q < name g.q := h1
  rw [e] at h1
  exact Dk.lt_irrefl _ h1
 simp [h2, h3]
theorem remove_calm {x : Ds} (hf : x.fail = -1) {nm : Tx} (hn : Dk.find x.names nm ≠ none) : (Dk.remove x nm).1.fail = -1 ∧ ((Dk.remove x nm).2 = 0 ∨ (Dk.remove x nm).2 = 9) := by
 unfold Dk.remove
 split
 ·exact ⟨hf, .inr rfl⟩
 ·rename_i hd
  split
  ·rename_i h; exact absurd h hn
  ·obtain ⟨a1, a2, a3, a4, a5, a6, a7, a8, a9⟩ := x
   have hf : a7 = -1 := hf
   subst hf
   have hd : a8 = false := by simpa using hd
   subst hd
   unfold Dk.begin
   dsimp only
   by_cases h0 : a6 = 0
   ·simp [h0, Dk.turn]
   ·by_cases h1 : a6 > 0 <;> simp [h0, h1, Dk.turn]
theorem syncNames_calm {x : Ds} (hf : x.fail = -1) : (Dk.syncNames x).2 = 0 ∨ (Dk.syncNames x).2 = 9 := by
 unfold Dk.syncNames
 obtain ⟨a1, a2, a3, a4, a5, a6, a7, a8, a9⟩ := x
 have hf : a7 = -1 := hf
 subst hf
 unfold Dk.begin
 dsimp only
 cases a8 with
 | true => simp
 | false =>
  by_cases h0 : a6 = 0
  ·simp [h0]
  ·by_cases h1 : a6 > 0 <;> simp [h0, h1]
theorem removeAll_ends {R : List Tx} : ∀ (B : List Fl) (x : Ds) (s : Nat), Half x x.names s B (recsOf B).length → (∀ f ∈ B, Whole x f.ix) → Ends x R → (recsOf B) <:+ R → Dk.Inv x → x.fail = -1 →
  Ends (removeAll x (B.map fun f => f.q)).1 R ∧ Dk.Inv (removeAll x (B.map fun f => f.q)).1 ∧ (removeAll x (B.map fun f => f.q)).1.fail = -1 ∧ ((removeAll x (B.map fun f => f.q)).2 = 0 ∧ (removeAll x (B.map fun f => f.q)).1.names = [] ∨ (removeAll x (B.map fun f => f.q)).2 = 9)
 | [], x, s, h, _, he, _, hi, hf => ⟨he, hi, hf, .inl ⟨rfl, h.names⟩⟩
 | f :: B, x, s, h, hw, he, hs, hi, hf => by
  have hr : recsOf (f :: B) = f.rs ++ recsOf B := by simp [recsOf]
  have hs2 : recsOf B <:+ R := (List.suffix_append f.rs (recsOf B)).trans (hr ▸ hs)
  have hfd := h.find hi (f := f) (by simp)
  obtain ⟨c1, c2⟩ := remove_calm hf (nm := name f.q) (by rw [hfd]; simp)
  have hi2 := Dk.inv_remove hi (name f.q)
  have hap := apply_first h hi
  have gone : ∀ y, Core x y → Half (Dk.turn y ⟨name f.q, [], 0⟩) (B.map fun f => (name f.q, f.ix)) (s + f.rs.length) B (recsOf B).length := fun y c => (h.behind hw).files fun g _ => c.at g.ix
  have hnm : ∀ y, Core x y → (Dk.turn y ⟨name f.q, [], 0⟩).names = B.map fun f => (name f.q, f.ix) := by
   intro y c
   show Dk.apply y.names ⟨name f.q, [], 0⟩ = _
   rw [c.names, hap]
  have ends : ∀ y, Core x y → Ends (Dk.turn y ⟨name f.q, [], 0⟩) R := by
   intro y c k hk
   rcases dtake_snoc y.pend (⟨name f.q, [], 0⟩ : Dk.Cg) k with e | e
   ·by_cases hk2 : k ≤ y.pend.length
    ·obtain ⟨s', Q', q1, q2⟩ := he k (by rw [c.pend] at hk2; exact hk2)
     refine ⟨s', Q', ?_, q2⟩
     show Half _ (((y.pend ++ [_]).take k).foldl Dk.apply y.safe) s' Q' _
     rw [e, c.pend, c.safe]
     exact q1.files fun g _ => c.at g.ix
    ·rw [List.take_of_length_le (by rw [List.length_append, List.length_singleton]; omega), List.take_of_length_le (by omega)] at e
     have := congrArg List.length e
     rw [List.length_append, List.length_singleton] at this
     omega
   ·refine ⟨s + f.rs.length, B, ?_, hs2⟩
    show Half _ (((y.pend ++ [_]).take k).foldl Dk.apply y.safe) _ B _
    rw [e, c.pend, c.safe, List.foldl_append, ← hi.names]
    rw [List.foldl_cons, List.foldl_nil, hap]
    exact gone y c
  rw [List.map_cons, removeAll]
  by_cases h0 : (Dk.remove x (name f.q)).2 = 0
  ·rw [if_neg (by simp [h0])]
   obtain ⟨y, c, e⟩ : ∃ y, Core x y ∧ (Dk.remove x (name f.q)).1 = Dk.turn y ⟨name f.q, [], 0⟩ := by
    have h0 := h0
    unfold Dk.remove at h0 ⊢
    split at h0
    ·exact absurd (show (9 : Int) = 0 from h0) (by decide)
    ·rename_i hd
     rw [if_neg hd]
     split at h0
     ·exact absurd (show (5 : Int) = 0 from h0) (by decide)
     ·rename_i i hfd
      have hc := core_begin x
      generalize Dk.begin x = z at hc h0 ⊢
      obtain ⟨y, st, e⟩ := z
      dsimp only at hc h0 ⊢
      by_cases he : e ≠ 0 ∧ st = false
      ·rw [if_pos he] at h0; exact absurd h0 he.1
      ·rw [if_neg he]; exact ⟨y, hc, rfl⟩
   rw [e] at hi2 c1 ⊢
   refine removeAll_ends B _ (s + f.rs.length) ?_ (fun g hg => ?_) (ends y c) hs2 hi2 c1
   ·exact (congrArg (fun n => Half (Dk.turn y ⟨name f.q, [], 0⟩) n (s + f.rs.length) B (recsOf B).length) (hnm y c)).mpr (gone y c)
   ·have := hw g (List.mem_cons_of_mem _ hg)
    unfold Whole at this ⊢
    have e : fileAt (Dk.turn y ⟨name f.q, [], 0⟩) g.ix = fileAt x g.ix := c.at g.ix
    rw [e]; exact this
  ·rw [if_pos h0]
   refine ⟨?_, hi2, c1, .inr (c2.resolve_left h0)⟩
   rcases remove_sh x (name f.q) with c | ⟨y, i, c, _, e⟩
   ·exact he.core c
   ·rw [e]; exact ends y c
theorem Ends.syncNames {x : Ds} {R : List Tx} (h : Ends x R) (hi : Dk.Inv x) : Ends (Dk.syncNames x).1 R ∧ ((Dk.syncNames x).2 = 0 → (Dk.syncNames x).1.pend = [] ∧ (Dk.syncNames x).1.safe = x.names) := by
 unfold Dk.syncNames
 have hc := core_begin x
 generalize Dk.begin x = z at hc ⊢
 obtain ⟨y, st, e⟩ := z
 dsimp only at hc ⊢
 by_cases he : e ≠ 0
 ·rw [if_pos he]
  exact ⟨h.core hc, fun h0 => absurd h0 he⟩
 ·rw [if_neg he]
  refine ⟨fun k hk => ?_, fun _ => ⟨rfl, hc.names⟩⟩
  obtain ⟨s, Q, q1, q2⟩ := h x.pend.length (Nat.le_refl _)
  rw [List.take_length, ← hi.names] at q1
  refine ⟨s, Q, ?_, q2⟩
  have e1 : (([] : List Dk.Cg).take k).foldl Dk.apply y.names = x.names := by rw [List.take_nil]; exact hc.names
  show Half _ ((([] : List Dk.Cg).take k).foldl Dk.apply y.names) s Q _
  rw [e1]
  exact q1.files fun g _ => hc.at g.ix
theorem Hold.retire {x : Ds} {g : Lg} {s : Nat} {Q : List Fl} (h : Hold x s Q (recsOf Q).length) (hw : ∀ f ∈ Q, Whole x f.ix) (hf : x.fail = -1) :
  Ends (Wl.retire x g).1 (recsOf Q) ∧ Dk.Inv (Wl.retire x g).1 ∧ ((Wl.retire x g).2.2 = 0 ∧ (Wl.retire x g).1.pend = [] ∧ (Wl.retire x g).1.safe = [] ∨ (Wl.retire x g).2.2 = 9) := by
 have h0 : Ends x (recsOf Q) := fun k hk => by
  obtain ⟨Q', q1, q2⟩ := h.backs k hk
  exact ⟨s, Q', by rw [q2]; exact q1, by rw [q2]; exact List.suffix_refl _⟩
 unfold Wl.retire
 split
 ·exact ⟨h0, h.inv, .inr rfl⟩
 ·rw [h.half.log.files]
  obtain ⟨r1, r2, r3, r4⟩ := removeAll_ends Q x s h.half hw h0 (List.suffix_refl _) h.inv hf
  unfold ret2
  generalize hz : removeAll x (Q.map fun f => f.q) = z at r1 r2 r3 r4 ⊢
  obtain ⟨y, e⟩ := z
  dsimp only at r1 r2 r3 r4 ⊢
  by_cases he : e ≠ 0
  ·rw [if_pos he]
   exact ⟨r1, r2, .inr (r4.resolve_left fun h => he h.1)⟩
  ·rw [if_neg he]
   have he : e = 0 := Classical.byContradiction he
   by_cases hq : Q = []
   ·subst hq
    rw [List.map_nil, if_pos rfl]
    obtain ⟨rfl, _⟩ : x = y ∧ (0 : Int) = e := Prod.mk.inj hz
    exact ⟨r1, r2, .inl ⟨rfl, h.pend, h.safe.trans h.half.names⟩⟩
   ·rw [if_neg (by simpa using hq)]
    obtain ⟨t1, t2⟩ := r1.syncNames r2
    refine ⟨t1, Dk.inv_syncNames r2, ?_⟩
    have hn : y.names = [] := (r4.resolve_right fun h => by omega).2
    rcases syncNames_calm r3 with h9 | h9
    ·exact .inl ⟨h9, (t2 h9).1, (t2 h9).2.trans hn⟩
    ·exact .inr h9
theorem lim_removeAll : ∀ (l : List Nat) {n b : Nat} {x : Ds}, Lim n b x → Lim (n + l.length) b (removeAll x l).1
 | [], _, _, _, h => h
 | q :: l, n, b, x, h => by
  have h1 := lim_remove h (name q)
  rw [removeAll]
  split
  ·exact h1.mono (by simp) (Nat.le_refl _)
  ·exact (lim_removeAll l h1).mono (by simp; omega) (Nat.le_refl _)
theorem Hold.retired {x : Ds} {g : Lg} {s : Nat} {Q : List Fl} (h : Hold x s Q (recsOf Q).length) (hw : ∀ f ∈ Q, Whole x f.ix) (hf : x.fail = -1) (ch : List Int) (limit : Int) :
  ∃ g2 r, Wl.opened (Dk.restart (Wl.retire x g).1 ch) limit = (some (g2, r), 0) ∧ r <:+ recsOf Q ∧ ((Wl.retire x g).2.2 = 0 ∧ r = [] ∨ (Wl.retire x g).2.2 = 9) := by
 obtain ⟨h1, h2, h3⟩ := h.retire (g := g) hw hf
 obtain ⟨s2, Q2, hH, hsuf⟩ := h1.restart h2 ch
 refine ⟨_, _, hH.half.log.opened hH.inv rfl limit, hsuf, ?_⟩
 rcases h3 with ⟨a, b, c⟩ | h9
 ·refine .inl ⟨a, ?_⟩
  have hnm : (Dk.restart (Wl.retire x g).1 ch).names = [] := by
   show ((Wl.retire x g).1.pend.take _).foldl Dk.apply (Wl.retire x g).1.safe = []
   rw [b, c, List.take_nil]; rfl
  have := hH.half.names
  rw [hnm] at this
  cases Q2 with
  | nil => rfl
  | cons _ _ => cases this
 ·exact .inr h9
end Wl
end Go.Vc
namespace Go.Vc
open Dk (Ds)
def fits7.sig : Sig := sigF [.l [.str], .l [.str], .i .i64] [.i .i64] (fun l => (arg l 1).toL.length ≤ 1000000 ∧ 0 ≤ (arg l 4).toI) fun l =>
 (arg l 4).toI ≤ (arg l 1).toL.length → (∃ m, (arg l 1).toL = (arg l 3).toL.take m) → (arg l 5).toI = 0
end Go.Vc
namespace Go.Vc
set_option linter.unusedVariables false
set_option maxRecDepth 100000
def fits7.Pure : Prop :=
 ∀ v0 : Value,
 ∀ l1 : List D,
 ∀ v2 : Value,
 ∀ l3 : List D,
 ∀ i4 : Int,
 R64 i4 →
 (EK.ok [.str] (D.L l1)) →
 (EK.ok [.str] (D.L l3)) →
 fits7.sig.pre [.V v0, .L l1, .V v2, .L l3, .I i4] →
 ((
 (((l1.length : Nat) : Int) < i4) →
  fits7.sig.post [.V v0, .L l1, .V v2, .L l3, .I i4, .I (-1 : Int)]) ∧ (
 (i4 ≤ ((l1.length : Nat) : Int)) →
 ((
 (((l3.length : Nat) : Int) < ((l1.length : Nat) : Int)) →
   fits7.sig.post [.V v0, .L l1, .V v2, .L l3, .I i4, .I (-1 : Int)]) ∧ (
 (((l1.length : Nat) : Int) ≤ ((l3.length : Nat) : Int)) →
 (((l1.length : Nat) : Int) ≤ ((l3.length : Nat) : Int)) ∧ ((((l1.length : Nat) : Int) ≤ ((l3.length : Nat) : Int)) →
 ∀ v5 : Value,
  SameL.sig.pre [.V v0, .L l1, .V v5, .L (l3.take ((l1.length : Nat) : Int).toNat)] ∧ (
 ∀ i6 : Int,
  SameL.sig.post [.V v0, .L l1, .V v5, .L (l3.take ((l1.length : Nat) : Int).toNat), .I i6] →
 R64 i6 →
  fits7.sig.post [.V v0, .L l1, .V v2, .L l3, .I i4, .I i6]))))))
end Go.Vc
namespace Go.Vc
theorem fits7.pure : fits7.Pure := by
 intro v0 l1 v2 l3 i4 _ _ _ ⟨p1, p2⟩
 have p1 : l1.length ≤ 1000000 := p1
 refine ⟨fun h => ?_, fun h => ⟨fun h2 => ?_, fun h2 => ⟨h2, fun _ v5 => ⟨?_, fun i6 h6 _ => ?_⟩⟩⟩⟩
 ·intro (h3 : i4 ≤ l1.length) _
  omega
 ·rintro _ ⟨m, (e : l1 = l3.take m)⟩
  have := congrArg List.length e
  rw [List.length_take] at this
  omega
 ·show (l3.take ((l1.length : Nat) : Int).toNat).length ≤ 1000000
  rw [List.length_take]; omega
 ·rintro _ ⟨m, (e : l1 = l3.take m)⟩
  have h6 : l1 = l3.take ((l1.length : Nat) : Int).toNat → i6 = 0 := h6
  refine h6 ?_
  rw [Int.toNat_natCast]
  have hl := congrArg List.length e
  rw [List.length_take] at hl
  by_cases hm : m ≤ l3.length
  ·rw [show l1.length = m from by omega]; exact e
  ·rw [show l1.length = l3.length from by omega, List.take_length, e, List.take_of_length_le (by omega)]
end Go.Vc
namespace Go.Vc
open Dk (Ds)
namespace Wl
theorem Tied.core {x y : Ds} {g : Lg} {s : Nat} {Q : List Fl} (h : Tied x g s Q) (c : Core x y) : Tied y g s Q :=
 ⟨h.next, h.found, h.cur, h.bound, fun P f e => by
  rcases h.last P f e with h1 | h1 | h1
  ·exact .inl h1
  ·refine .inr (.inl ?_)
   unfold Whole at h1 ⊢
   rw [c.at]; exact h1
  ·exact .inr (.inr h1)⟩
theorem hold_new (r : Int) : Hold (Dk.new r) 1 [] 0 :=
 ⟨⟨rfl, fun f hf => absurd hf (by simp), fun f hf => absurd hf (by simp), fun f hf => absurd hf (by simp), trivial, by show (1 + 0 : Nat) < _; omega, List.nodup_nil, fun _ => rfl, fun P f e => absurd e (by simp), fun P f e => absurd e (by simp)⟩, rfl, rfl, Dk.inv_new r⟩
theorem opened_new (r limit : Int) : Wl.opened (Dk.new r) limit = (some (⟨max limit 1, 1, [], 0, false, []⟩, []), 0) := rfl
theorem tied_new (r limit : Int) : Tied (Dk.new r) ⟨max limit 1, 1, [], 0, false, []⟩ 1 [] := (hold_new r).tied (fun _ => rfl) (max limit 1)
theorem neat_new (limit : Int) (h : limit < 9223372036854775808) : Neat 0 0 ⟨max limit 1, 1, [], 0, false, []⟩ :=
 ⟨Nat.le_refl _, ⟨by show (1 : Int) ≤ max limit 1; omega, by show max limit 1 < 9223372036854775808; omega⟩, ⟨Int.le_refl _, Int.le_refl _⟩, by show (1 : Nat) < _; omega⟩
end Wl
theorem txD_app (a b : List Tx) : txD (a ++ b) = txD a ++ txD b := by simp [txD]
theorem txD_take (a : List Tx) (n : Nat) : (txD a).take n = txD (a.take n) := by simp [txD]
theorem txD_len (a : List Tx) : (txD a).length = a.length := by simp [txD]
theorem fnd_len (a : List D) : (fnd a).length = a.length := by simp [fnd]
theorem str_snoc {l : List D} (h : txD (fnd l) = l) (s : ByteArray) : txD (fnd (l ++ [.S s])) = l ++ [.S s] := by
 have e : fnd (l ++ [.S s]) = fnd l ++ [tx s] := by simp [fnd, D.toS]
 rw [e, txD_app, h]
 show l ++ [D.S (bx (tx s))] = _
 rw [bx_tx]
end Go.Vc
namespace Go.Vc
open Dk (Ds Fi fileAt)
theorem begin_nine {x : Ds} (h : (Dk.begin x).2.2 = 9) : (Dk.begin x).1.dead = true := by
 obtain ⟨a1, a2, a3, a4, a5, a6, a7, a8, a9⟩ := x
 unfold Dk.begin at h ⊢
 dsimp only at h ⊢
 cases a8 with
 | true => rfl
 | false =>
  by_cases h0 : a7 = 0
  ·simp [h0] at h
  ·by_cases h1 : a7 > 0 <;> by_cases h2 : a6 = 0 <;> by_cases h3 : a6 > 0 <;> simp [h0, h1, h2, h3] at h ⊢
theorem begin_stops {x : Ds} (h : (Dk.begin x).2.1 = true) : (Dk.begin x).2.2 = 9 := by
 obtain ⟨a1, a2, a3, a4, a5, a6, a7, a8, a9⟩ := x
 unfold Dk.begin at h ⊢
 dsimp only at h ⊢
 cases a8 with
 | true => simp at h
 | false =>
  by_cases h0 : a7 = 0
  ·simp [h0] at h
  ·by_cases h1 : a7 > 0 <;> by_cases h2 : a6 = 0 <;> by_cases h3 : a6 > 0 <;> simp [h0, h1, h2, h3] at h ⊢
theorem create_nine {x : Ds} {nm : Tx} (h : (Dk.create x nm).2 = 9) : (Dk.create x nm).1.dead = true := by
 unfold Dk.create at h ⊢
 by_cases hd : x.dead = true
 ·rw [if_pos hd] at h ⊢; exact hd
 rw [if_neg hd] at h ⊢
 by_cases h1 : nm = []
 ·rw [if_pos h1] at h; exact absurd (show (1 : Int) = 9 from h) (by decide)
 rw [if_neg h1] at h ⊢
 by_cases h2 : (Dk.find x.names nm).isSome = true
 ·rw [if_pos h2] at h; exact absurd (show (6 : Int) = 9 from h) (by decide)
 rw [if_neg h2] at h ⊢
 have hb := @begin_nine x
 generalize Dk.begin x = z at hb h ⊢
 obtain ⟨y, st, e⟩ := z
 dsimp only at hb h ⊢
 by_cases he : e ≠ 0 ∧ st = false
 ·rw [if_pos he] at h ⊢; exact hb h
 ·rw [if_neg he] at h ⊢; exact hb h
theorem append_nine {x : Ds} {nm s : Tx} (h : (Dk.append x nm s).2 = 9) : (Dk.append x nm s).1.dead = true := by
 unfold Dk.append at h ⊢
 by_cases hd : x.dead = true
 ·rw [if_pos hd] at h ⊢; exact hd
 rw [if_neg hd] at h ⊢
 cases hf : Dk.find x.names nm with
 | none => rw [hf] at h; exact absurd (show (5 : Int) = 9 from h) (by decide)
 | some i =>
  rw [hf] at h
  dsimp only at h ⊢
  by_cases h2 : (s.length : Int) > Dk.free x
  ·rw [if_pos h2] at h; exact absurd (show (7 : Int) = 9 from h) (by decide)
  rw [if_neg h2] at h ⊢
  have hb := @begin_nine x
  generalize Dk.begin x = z at hb h ⊢
  obtain ⟨y, st, e⟩ := z
  dsimp only at hb h ⊢
  by_cases he : e ≠ 0 ∧ st = false
  ·rw [if_pos he] at h ⊢; exact hb h
  ·rw [if_neg he] at h ⊢; exact hb h
theorem sync_nine {x : Ds} {nm : Tx} (h : (Dk.sync x nm).2 = 9) : (Dk.sync x nm).1.dead = true := by
 unfold Dk.sync at h ⊢
 by_cases hd : x.dead = true
 ·rw [if_pos hd] at h ⊢; exact hd
 rw [if_neg hd] at h ⊢
 cases hf : Dk.find x.names nm with
 | none => rw [hf] at h; exact absurd (show (5 : Int) = 9 from h) (by decide)
 | some i =>
  rw [hf] at h
  dsimp only at h ⊢
  have hb := @begin_nine x
  generalize Dk.begin x = z at hb h ⊢
  obtain ⟨y, st, e⟩ := z
  dsimp only at hb h ⊢
  by_cases he : e ≠ 0
  ·rw [if_pos he] at h ⊢; exact hb h
  ·rw [if_neg he] at h; exact absurd (show (0 : Int) = 9 from h) (by decide)
theorem syncNames_nine {x : Ds} (h : (Dk.syncNames x).2 = 9) : (Dk.syncNames x).1.dead = true := by
 unfold Dk.syncNames at h ⊢
 have hb := @begin_nine x
 generalize Dk.begin x = z at hb h ⊢
 obtain ⟨y, st, e⟩ := z
 dsimp only at hb h ⊢
 by_cases he : e ≠ 0
 ·rw [if_pos he] at h ⊢; exact hb h
 ·rw [if_neg he] at h; exact absurd (show (0 : Int) = 9 from h) (by decide)
theorem remove_nine {x : Ds} {nm : Tx} (h : (Dk.remove x nm).2 = 9) : (Dk.remove x nm).1.dead = true := by
 unfold Dk.remove at h ⊢
 by_cases hd : x.dead = true
 ·rw [if_pos hd] at h ⊢; exact hd
 rw [if_neg hd] at h ⊢
 cases hf : Dk.find x.names nm with
 | none => rw [hf] at h; exact absurd (show (5 : Int) = 9 from h) (by decide)
 | some i =>
  rw [hf] at h
  dsimp only at h ⊢
  have hb := @begin_nine x
  generalize Dk.begin x = z at hb h ⊢
  obtain ⟨y, st, e⟩ := z
  dsimp only at hb h ⊢
  by_cases he : e ≠ 0 ∧ st = false
  ·rw [if_pos he] at h ⊢; exact hb h
  ·rw [if_neg he] at h ⊢; exact hb h
theorem append_core {x : Ds} {nm s : Tx} (h : (Dk.append x nm s).2 ≠ 0) (h9 : (Dk.append x nm s).2 ≠ 9) : Core x (Dk.append x nm s).1 := by
 unfold Dk.append at h h9 ⊢
 by_cases hd : x.dead = true
 ·rw [if_pos hd] at h9; exact absurd rfl h9
 rw [if_neg hd] at h h9 ⊢
 cases hf : Dk.find x.names nm with
 | none => exact Core.refl x
 | some i =>
  rw [hf] at h h9
  dsimp only at h h9 ⊢
  by_cases h2 : (s.length : Int) > Dk.free x
  ·rw [if_pos h2]; exact Core.refl x
  rw [if_neg h2] at h h9 ⊢
  have hc := core_begin x
  have hb := @begin_stops x
  generalize Dk.begin x = z at hb hc h h9 ⊢
  obtain ⟨y, st, e⟩ := z
  dsimp only at hb hc h h9 ⊢
  by_cases he : e ≠ 0 ∧ st = false
  ·rw [if_pos he]; exact hc
  ·rw [if_neg he] at h h9
   cases st with
   | true => exact absurd (hb rfl) h9
   | false => exact absurd ⟨h, rfl⟩ he
theorem create_ok {x : Ds} {nm : Tx} (h : (Dk.create x nm).2 = 0) : ∃ y, Core x y ∧ nm ≠ [] ∧ Dk.find x.names nm = none ∧ (Dk.create x nm).1 = Dk.turn { y with files := y.files ++ [⟨[], 0⟩] } ⟨[], nm, x.files.length⟩ := by
 unfold Dk.create at h ⊢
 by_cases hd : x.dead = true
 ·rw [if_pos hd] at h; exact absurd (show (9 : Int) = 0 from h) (by decide)
 rw [if_neg hd] at h ⊢
 by_cases h1 : nm = []
 ·rw [if_pos h1] at h; exact absurd (show (1 : Int) = 0 from h) (by decide)
 rw [if_neg h1] at h ⊢
 by_cases h2 : (Dk.find x.names nm).isSome = true
 ·rw [if_pos h2] at h; exact absurd (show (6 : Int) = 0 from h) (by decide)
 rw [if_neg h2] at h ⊢
 have hc := core_begin x
 generalize Dk.begin x = z at hc h ⊢
 obtain ⟨y, st, e⟩ := z
 dsimp only at hc h ⊢
 by_cases he : e ≠ 0 ∧ st = false
 ·rw [if_pos he] at h; exact absurd h he.1
 ·rw [if_neg he]
  exact ⟨y, hc, h1, by simpa using h2, by rw [hc.files]⟩
theorem remove_ok {x : Ds} {nm : Tx} (h : (Dk.remove x nm).2 = 0) : ∃ y, Core x y ∧ (Dk.remove x nm).1 = Dk.turn y ⟨nm, [], 0⟩ := by
 unfold Dk.remove at h ⊢
 by_cases hd : x.dead = true
 ·rw [if_pos hd] at h; exact absurd (show (9 : Int) = 0 from h) (by decide)
 rw [if_neg hd] at h ⊢
 cases hf : Dk.find x.names nm with
 | none => rw [hf] at h; exact absurd (show (5 : Int) = 0 from h) (by decide)
 | some i =>
  rw [hf] at h
  dsimp only at h ⊢
  have hc := core_begin x
  generalize Dk.begin x = z at hc h ⊢
  obtain ⟨y, st, e⟩ := z
  dsimp only at hc h ⊢
  by_cases he : e ≠ 0 ∧ st = false
  ·rw [if_pos he] at h; exact absurd h he.1
  ·rw [if_neg he]; exact ⟨y, hc, rfl⟩
theorem syncNames_ok {x : Ds} (h : (Dk.syncNames x).2 = 0) : ∃ y, Core x y ∧ (Dk.syncNames x).1 = { y with safe := x.names, pend := [] } := by
 unfold Dk.syncNames at h ⊢
 have hc := core_begin x
 generalize Dk.begin x = z at hc h ⊢
 obtain ⟨y, st, e⟩ := z
 dsimp only at hc h ⊢
 by_cases he : e ≠ 0
 ·rw [if_pos he] at h; exact absurd h he
 ·rw [if_neg he]
  exact ⟨y, hc, by rw [← hc.names]⟩
namespace Wl
structure Synced (x y : Ds) : Prop where
 names : y.names = x.names
 safe : y.safe = x.safe
 pend : y.pend = x.pend
 data : ∀ i, (fileAt y i).data = (fileAt x i).data
 more : ∀ i, (fileAt x i).safe ≤ (fileAt y i).safe
 whole : ∀ i, Whole x i → Whole y i
 inv : Dk.Inv y
theorem Synced.refl {x : Ds} (h : Dk.Inv x) : Synced x x := ⟨rfl, rfl, rfl, fun _ => rfl, fun _ => Nat.le_refl _, fun _ h => h, h⟩
theorem Synced.trans {x y z : Ds} (a : Synced x y) (b : Synced y z) : Synced x z :=
 ⟨b.names.trans a.names, b.safe.trans a.safe, b.pend.trans a.pend, fun i => (b.data i).trans (a.data i), fun i => Nat.le_trans (a.more i) (b.more i), fun i h => b.whole i (a.whole i h), b.inv⟩
theorem safe_le {x : Ds} (hi : Dk.Inv x) (i : Nat) : (fileAt x i).safe ≤ (fileAt x i).data.length := by
 by_cases h : i < x.files.length
 ·exact hi.fs _ (Dk.fileAt_mem h)
 ·unfold fileAt
  rw [List.getD, List.getElem?_eq_none (by omega)]
  exact Nat.le_refl _
theorem synced_sync {x : Ds} (hi : Dk.Inv x) (nm : Tx) : Synced x (Dk.sync x nm).1 := by
 have hi2 := Dk.inv_sync hi nm
 refine ⟨?_, ?_, ?_, ?_, ?_, fun i h => h.sync nm, hi2⟩
 all_goals rcases sync_sh x nm with c | ⟨y, j, c, _, he⟩
 ·exact c.names
 ·rw [he]; exact c.names
 ·exact c.safe
 ·rw [he]; exact c.safe
 ·exact c.pend
 ·rw [he]; exact c.pend
 ·intro i; rw [c.at]
 ·intro i
  rw [he, at_set']
  split
  ·rename_i h; rw [h.1]
  ·rw [c.at]
 ·intro i; rw [c.at]; exact Nat.le_refl _
 ·intro i
  rw [he, at_set']
  split
  ·rename_i h; rw [h.1]; exact safe_le hi j
  ·rw [c.at]; exact Nat.le_refl _
theorem synced_found : ∀ (l : List Tx) {x : Ds}, Dk.Inv x → Synced x (syncFound x l).1
 | [], _, hi => Synced.refl hi
 | n :: l, x, hi => by
  rw [syncFound]
  split
  ·exact synced_sync hi n
  ·exact (synced_sync hi n).trans (synced_found l (synced_sync hi n).inv)
theorem synced_wsync {x : Ds} (hi : Dk.Inv x) (g : Lg) : Synced x (Wl.sync x g).1 := by
 have h := synced_found g.found hi
 unfold Wl.sync sync1
 split
 ·exact h
 ·unfold sync2
  split
  ·exact h
  ·split
   ·exact h.trans (synced_sync h.inv _)
   ·exact h.trans (synced_sync h.inv _)
theorem Half.synced {x y : Ds} {nm : List (Tx × Nat)} {s lo : Nat} {Q : List Fl} (h : Half x nm s Q lo) (c : Synced x y) : Half y nm s Q lo :=
 h.more (fun f _ => c.data f.ix) (fun f _ => ⟨c.more f.ix, fun hw => c.whole f.ix hw⟩)
def BacksE (x : Ds) (R : List Tx) (lo N : Nat) : Prop := ∀ k, k ≤ x.pend.length → ∃ s Q, Half x ((x.pend.take k).foldl Dk.apply x.safe) s Q lo ∧ recsOf Q = R ∧ s + R.length ≤ N
theorem Backs.e {x : Ds} {s lo N : Nat} {R : List Tx} (h : Backs x s R lo) (hN : s + R.length ≤ N) : BacksE x R lo N := fun k hk => by
 obtain ⟨Q, h1, h2⟩ := h k hk
 exact ⟨s, Q, h1, h2, hN⟩
theorem BacksE.core {x y : Ds} {lo N : Nat} {R : List Tx} (h : BacksE x R lo N) (c : Core x y) : BacksE y R lo N := by
 intro k hk
 rw [c.pend] at hk
 obtain ⟨s, Q, h1, h2⟩ := h k hk
 exact ⟨s, Q, by rw [c.pend, c.safe]; exact h1.core c, h2⟩
theorem BacksE.synced {x y : Ds} {lo N : Nat} {R : List Tx} (h : BacksE x R lo N) (c : Synced x y) : BacksE y R lo N := by
 intro k hk
 rw [c.pend] at hk
 obtain ⟨s, Q, h1, h2⟩ := h k hk
 exact ⟨s, Q, by rw [c.pend, c.safe]; exact h1.synced c, h2⟩
theorem BacksE.mono {x : Ds} {lo lo' N : Nat} {R : List Tx} (h : BacksE x R lo N) (hl : lo' ≤ lo) : BacksE x R lo' N := fun k hk => by
 obtain ⟨s, Q, h1, h2⟩ := h k hk
 exact ⟨s, Q, h1.mono hl, h2⟩
theorem BacksE.now {x : Ds} {lo N : Nat} {R : List Tx} (h : BacksE x R lo N) (hi : Dk.Inv x) : ∃ s Q, Half x x.names s Q lo ∧ recsOf Q = R ∧ s + R.length ≤ N := by
 obtain ⟨s, Q, h1, h2⟩ := h x.pend.length (Nat.le_refl _)
 rw [List.take_length, ← hi.names] at h1
 exact ⟨s, Q, h1, h2⟩
theorem BacksE.restart {x : Ds} {lo N : Nat} {R : List Tx} (h : BacksE x R lo N) (hi : Dk.Inv x) (ch : List Int) :
  ∃ s Q m, Hold (Dk.restart x ch) s Q (recsOf Q).length ∧ lo ≤ m ∧ m ≤ R.length ∧ recsOf Q = R.take m ∧ s + R.length ≤ N := by
 obtain ⟨s, Q0, h1, h2, hN⟩ := h (Dk.pick ch 0 (x.pend.length + 1)) (by have := Dk.pick_lt ch 0 (x.pend.length + 1) (by omega); omega)
 have h1 : Half x (Dk.restart x ch).names s Q0 lo := h1
 obtain ⟨Q, m, h3, h4, h5, h6⟩ := h1.restart hi
 rw [h2] at h5 h6
 exact ⟨s, Q, m, ⟨h3, rfl, rfl, Dk.inv_restart hi ch⟩, h4, h5, h6, hN⟩
theorem BacksE.turn {x z : Ds} {lo N : Nat} {R : List Tx} {cg : Dk.Cg} (h : BacksE x R lo N) (hi : Dk.Inv x) (hp : z.pend = x.pend ++ [cg]) (hs : z.safe = x.safe) (hf : ∀ i, i < x.files.length → fileAt z i = fileAt x i)
  (hnew : ∃ s Q, Half z (Dk.apply x.names cg) s Q lo ∧ recsOf Q = R ∧ s + R.length ≤ N) : BacksE z R lo N := by
 intro k hk
 rw [hp, List.length_append, List.length_singleton] at hk
 rw [hp, hs]
 by_cases hk2 : k ≤ x.pend.length
 ·obtain ⟨s, Q, h1, h2⟩ := h k hk2
  rw [List.take_append_of_le_length hk2]
  exact ⟨s, Q, h1.files fun f hf' => hf _ (h1.ix_lt hi f hf'), h2⟩
 ·rw [List.take_of_length_le (by rw [List.length_append]; simp; omega), List.foldl_append, ← hi.names, List.foldl_cons, List.foldl_nil]
  exact hnew
theorem Half.made {x y : Ds} {s : Nat} {Q : List Fl} (hq : Half x x.names s Q (recsOf Q).length) (hw : ∀ f ∈ Q, Whole x f.ix) (hi : Dk.Inv x) (c : Core x y) (hnone : Dk.find x.names (name (s + (recsOf Q).length)) = none) :
  (∀ i, i < x.files.length → fileAt (Dk.turn { y with files := y.files ++ [⟨[], 0⟩] } ⟨[], name (s + (recsOf Q).length), x.files.length⟩) i = fileAt x i) ∧
   Half (Dk.turn { y with files := y.files ++ [⟨[], 0⟩] } ⟨[], name (s + (recsOf Q).length), x.files.length⟩) (Dk.apply x.names ⟨[], name (s + (recsOf Q).length), x.files.length⟩) s (Q ++ [⟨s + (recsOf Q).length, x.files.length, [], []⟩]) (recsOf Q).length := by
 have hlt := hq.at_all hi
 have hold : ∀ i, i < x.files.length → fileAt (Dk.turn { y with files := y.files ++ [⟨[], 0⟩] } ⟨[], name (s + (recsOf Q).length), x.files.length⟩) i = fileAt x i := by
  intro i hi
  rw [← c.at]
  show (y.files ++ ([⟨[], 0⟩] : List Fi)).getD i ⟨[], 0⟩ = y.files.getD i ⟨[], 0⟩
  rw [List.getD, List.getD, List.getElem?_append_left (by rw [c.files]; exact hi)]
 have hnew : fileAt (Dk.turn { y with files := y.files ++ [⟨[], 0⟩] } ⟨[], name (s + (recsOf Q).length), x.files.length⟩) x.files.length = ⟨[], 0⟩ := by
  show (y.files ++ ([⟨[], 0⟩] : List Fi)).getD x.files.length ⟨[], 0⟩ = _
  rw [c.files, List.getD, List.getElem?_append_right (Nat.le_refl _), Nat.sub_self]; rfl
 have hnames : Dk.apply x.names ⟨[], name (s + (recsOf Q).length), x.files.length⟩ = x.names ++ [(name (s + (recsOf Q).length), x.files.length)] := by
  have hne : name (s + (recsOf Q).length) ≠ [] := by intro e; have := name_len (s + (recsOf Q).length); rw [e] at this; simp at this
  have hfil : x.names.filter (fun p => p.1 ≠ ([] : Tx) ∧ p.1 ≠ name (s + (recsOf Q).length)) = x.names := by
   rw [List.filter_eq_self]
   intro p hp
   have h1 : p.1 ≠ [] := by
    rw [hq.names] at hp
    obtain ⟨f, _, rfl⟩ := List.mem_map.1 hp
    intro e; have := name_len f.q; rw [show name f.q = [] from e] at this; simp at this
   have h2 : p.1 ≠ name (s + (recsOf Q).length) := by
    intro e
    have := find_sorted (n := p.1) (i := p.2) hi.sn hp
    rw [e, hnone] at this; cases this
   simp [h1, h2]
  unfold Dk.apply
  dsimp only
  rw [hfil, if_neg hne]
  refine ins_end fun r hr => ?_
  rw [hq.names] at hr
  obtain ⟨f, hf, rfl⟩ := List.mem_map.1 hr
  intro hl
  have hb := (chain_q hq.chain f hf).2
  have := name_lt hq.top (by have := hq.top; omega) hl
  omega
 have hrec : recsOf (Q ++ [⟨s + (recsOf Q).length, x.files.length, [], []⟩]) = recsOf Q := by simp [recsOf]
 have hH : Half (Dk.turn { y with files := y.files ++ [⟨[], 0⟩] } ⟨[], name (s + (recsOf Q).length), x.files.length⟩) (x.names ++ [(name (s + (recsOf Q).length), x.files.length)]) s (Q ++ [⟨s + (recsOf Q).length, x.files.length, [], []⟩]) (recsOf Q).length := by
  refine ⟨?_, ?_, ?_, ?_, ?_, ?_, ?_, ?_, ?_, ?_⟩
  ·rw [List.map_append, ← hq.names]; rfl
  ·intro f hf
   rcases List.mem_append.1 hf with hf | hf
   ·rw [hold _ (hlt f hf)]; exact hq.data f hf
   ·obtain rfl : f = _ := by simpa using hf
    rw [hnew]; rfl
  ·intro f hf
   rcases List.mem_append.1 hf with hf | hf
   ·exact hq.torn f hf
   ·obtain rfl : f = _ := by simpa using hf
    exact torn_nil
  ·intro f hf
   rcases List.mem_append.1 hf with hf | hf
   ·exact hq.fits f hf
   ·obtain rfl : f = _ := by simpa using hf
    intro r hr; simp at hr
  ·exact chain_app.2 ⟨hq.chain, rfl, trivial⟩
  ·rw [hrec]; exact hq.top
  ·rw [List.map_append, List.nodup_append]
   refine ⟨hq.nodup, by simp, fun a ha b hb => ?_⟩
   obtain ⟨f, hf, rfl⟩ := List.mem_map.1 ha
   have := hlt f hf
   simp at hb
   omega
  ·intro he; simp at he
  ·intro P f he g hg
   obtain ⟨rfl, rfl⟩ := snoc_inj he
   rw [hold _ (hlt g hg)]; exact hw g hg
  ·intro P f he
   obtain ⟨rfl, rfl⟩ := snoc_inj he
   exact ⟨0, Nat.zero_le _, Nat.zero_le _, Nat.le_refl _⟩
 rw [hnames]
 exact ⟨hold, hH⟩
theorem BacksE.create {x : Ds} {s N : Nat} {Q : List Fl} (h : BacksE x (recsOf Q) (recsOf Q).length N) (hN : s + (recsOf Q).length ≤ N) (hq : Half x x.names s Q (recsOf Q).length) (hw : ∀ f ∈ Q, Whole x f.ix) (hi : Dk.Inv x) :
  BacksE (Dk.create x (name (s + (recsOf Q).length))).1 (recsOf Q) (recsOf Q).length N ∧ ((Dk.create x (name (s + (recsOf Q).length))).2 = 0 → Half (Dk.create x (name (s + (recsOf Q).length))).1 (Dk.create x (name (s + (recsOf Q).length))).1.names s (Q ++ [⟨s + (recsOf Q).length, x.files.length, [], []⟩]) (recsOf Q).length) := by
 have hrec : recsOf (Q ++ [⟨s + (recsOf Q).length, x.files.length, [], []⟩]) = recsOf Q := by simp [recsOf]
 refine ⟨?_, fun h0 => ?_⟩
 ·rcases create_sh x (name (s + (recsOf Q).length)) with c | ⟨y, c, _, hn, e⟩
  ·exact h.core c
  ·rw [e]
   obtain ⟨m1, m2⟩ := hq.made hw hi c hn
   exact h.turn hi (congrArg (· ++ _) c.pend) c.safe m1 ⟨s, _, m2, hrec, hN⟩
 ·obtain ⟨y, c, _, hn, e⟩ := create_ok h0
  rw [e]
  obtain ⟨_, m2⟩ := hq.made hw hi c hn
  have en : (Dk.turn { y with files := y.files ++ [⟨[], 0⟩] } ⟨[], name (s + (recsOf Q).length), x.files.length⟩).names = Dk.apply x.names ⟨[], name (s + (recsOf Q).length), x.files.length⟩ := by
   show Dk.apply y.names ⟨[], name (s + (recsOf Q).length), x.files.length⟩ = _
   rw [c.names]
  exact (congrArg (fun n => Half (Dk.turn { y with files := y.files ++ [⟨[], 0⟩] } ⟨[], name (s + (recsOf Q).length), x.files.length⟩) n s (Q ++ [⟨s + (recsOf Q).length, x.files.length, [], []⟩]) (recsOf Q).length) en).mpr m2
theorem BacksE.syncNames {x : Ds} {s lo N : Nat} {Q : List Fl} (h : BacksE x (recsOf Q) lo N) (hN : s + (recsOf Q).length ≤ N) (hq : Half x x.names s Q lo) (hi : Dk.Inv x) :
  BacksE (Dk.syncNames x).1 (recsOf Q) lo N ∧ ((Dk.syncNames x).2 = 0 → Hold (Dk.syncNames x).1 s Q lo) := by
 have hi2 := Dk.inv_syncNames hi
 have done : ∀ y, Core x y → Dk.Inv { y with safe := x.names, pend := [] } → Hold { y with safe := x.names, pend := [] } s Q lo := by
  intro y c hi3
  refine ⟨?_, rfl, c.names.symm, hi3⟩
  have z : Half { y with safe := x.names, pend := [] } x.names s Q lo := hq.files fun f _ => c.at f.ix
  exact (congrArg (fun n => Half { y with safe := x.names, pend := [] } n s Q lo) c.names).mpr z
 refine ⟨?_, fun h0 => ?_⟩
 ·rcases syncNames_sh x with c | ⟨y, c, e⟩
  ·exact h.core c
  ·rw [e] at hi2 ⊢
   exact (done y c hi2).backs.e hN
 ·obtain ⟨y, c, e⟩ := syncNames_ok h0
  rw [e] at hi2 ⊢
  exact done y c hi2
theorem BacksE.remove {x : Ds} {s N : Nat} {Q : List Fl} (h : BacksE x (recsOf Q) (recsOf Q).length N) (hN : s + (recsOf Q).length ≤ N) (hq : Half x x.names s Q (recsOf Q).length) (hw : ∀ f ∈ Q, Whole x f.ix) (hi : Dk.Inv x) {f : Fl} (hf : f ∈ Q) (hfq : f.q = s + (recsOf Q).length) :
  BacksE (Dk.remove x (name f.q)).1 (recsOf Q) (recsOf Q).length N ∧
   ((Dk.remove x (name f.q)).2 = 0 → ∃ A, recsOf A = recsOf Q ∧ Half (Dk.remove x (name f.q)).1 (Dk.remove x (name f.q)).1.names s A (recsOf A).length ∧ ∀ g ∈ A, Whole (Dk.remove x (name f.q)).1 g.ix) := by
 obtain ⟨A, hQ, hrec, hne⟩ := hq.tail hi hf hfq
 have hwA : ∀ g ∈ A, Whole x g.ix := fun g hg => hw g (by rw [hQ]; simp [hg])
 have hap : Dk.apply x.names ⟨name f.q, [], 0⟩ = A.map fun f => (name f.q, f.ix) := by
  unfold Dk.apply
  rw [if_pos rfl, hq.names, hQ, List.map_append, List.filter_append]
  have h1 : (A.map fun f => (name f.q, f.ix)).filter (fun p : Tx × Nat => p.1 ≠ name f.q ∧ p.1 ≠ ([] : Tx)) = A.map fun f => (name f.q, f.ix) := by
   rw [List.filter_eq_self]
   intro p hp
   obtain ⟨g, hg, rfl⟩ := List.mem_map.1 hp
   have h2 : name g.q ≠ [] := by intro e; have := name_len g.q; rw [e] at this; simp at this
   simp [hne g hg, h2]
  have h2 : ([f].map fun f => (name f.q, f.ix)).filter (fun p : Tx × Nat => p.1 ≠ name f.q ∧ p.1 ≠ ([] : Tx)) = [] := by simp
  rw [h1, h2, List.append_nil]
 have gone : ∀ y, Core x y → Half (Dk.turn y ⟨name f.q, [], 0⟩) (A.map fun f => (name f.q, f.ix)) s A (recsOf A).length := by
  intro y c
  have h1 := hq
  rw [hQ] at h1
  exact (h1.front hwA).files fun g _ => c.at g.ix
 refine ⟨?_, fun h0 => ?_⟩
 ·rcases remove_sh x (name f.q) with c | ⟨y, i, c, _, e⟩
  ·exact h.core c
  ·rw [e]
   exact h.turn hi (congrArg (· ++ _) c.pend) c.safe (fun i _ => c.at i) ⟨s, A, by rw [hap, ← hrec]; exact gone y c, hrec, hN⟩
 ·obtain ⟨y, c, e⟩ := remove_ok h0
  rw [e]
  have en : (Dk.turn y ⟨name f.q, [], 0⟩).names = A.map fun f => (name f.q, f.ix) := by
   show Dk.apply y.names ⟨name f.q, [], 0⟩ = _
   rw [c.names, hap]
  refine ⟨A, hrec, (congrArg (fun n => Half (Dk.turn y ⟨name f.q, [], 0⟩) n s A (recsOf A).length) en).mpr (gone y c), fun g hg => ?_⟩
  have := hwA g hg
  unfold Whole at this ⊢
  have e : fileAt (Dk.turn y ⟨name f.q, [], 0⟩) g.ix = fileAt x g.ix := c.at g.ix
  rw [e]; exact this
theorem sync_whole {x : Ds} {s lo : Nat} {Q : List Fl} (h : Half x x.names s Q lo) (hi : Dk.Inv x) {f : Fl} (hf : f ∈ Q) (h0 : (Dk.sync x (name f.q)).2 = 0) : Whole (Dk.sync x (name f.q)).1 f.ix := by
 obtain ⟨y, i, c, hfd, he⟩ := sync_ok h0
 rw [h.find hi hf] at hfd
 obtain rfl : f.ix = i := Option.some.inj hfd
 have hlt : f.ix < y.files.length := by rw [c.files]; exact h.at_all hi f hf
 unfold Whole
 rw [he, at_set hlt, if_pos rfl]
theorem found_whole {s lo : Nat} {Q : List Fl} : ∀ (l : List Tx) (x : Ds), Half x x.names s Q lo → Dk.Inv x → (∀ n ∈ l, ∃ f ∈ Q, n = name f.q) →
  ((syncFound x l).2.2 = 0 → (syncFound x l).2.1 = []) ∧ ∀ f ∈ Q, name f.q ∈ l → name f.q ∈ (syncFound x l).2.1 ∨ Whole (syncFound x l).1 f.ix
 | [], x, _, _, _ => ⟨fun _ => rfl, fun f _ hm => by simp at hm⟩
 | n :: l, x, h, hi, hl => by
  obtain ⟨f, hf, rfl⟩ := hl n (by simp)
  have hs := synced_sync hi (name f.q)
  have h1 : Half (Dk.sync x (name f.q)).1 (Dk.sync x (name f.q)).1.names s Q lo := by rw [hs.names]; exact h.synced hs
  rw [Wl.syncFound]
  by_cases he : (Dk.sync x (name f.q)).2 ≠ 0
  ·rw [if_pos he]
   exact ⟨fun h0 => absurd h0 he, fun g _ hm => .inl hm⟩
  ·rw [if_neg he]
   have he : (Dk.sync x (name f.q)).2 = 0 := Classical.byContradiction he
   obtain ⟨r3, r4⟩ := found_whole l _ h1 hs.inv fun n hn => hl n (List.mem_cons_of_mem _ hn)
   refine ⟨r3, fun g hg hm => ?_⟩
   rcases List.mem_cons.1 hm with e | hm
   ·have hq : g.q = f.q := name_inj (by have := (chain_q h.chain g hg).2; have := h.top; omega) (by have := (chain_q h.chain f hf).2; have := h.top; omega) e
    have hix : g.ix = f.ix := by
     have a := h.find hi hg
     rw [hq, h.find hi hf] at a
     exact (Option.some.inj a).symm
    rw [hix]
    exact .inr ((synced_found l hs.inv).whole _ (sync_whole h hi hf he))
   ·exact r4 g hg hm
theorem Half.wsync {x : Ds} {g : Lg} {s lo : Nat} {Q : List Fl} (h : Half x x.names s Q lo) (hi : Dk.Inv x) (t : Tied x g s Q) :
  Tied (Wl.sync x g).1 (Wl.sync x g).2.1 s Q ∧ ((Wl.sync x g).2.2 = 0 → ∀ f ∈ Q, Whole (Wl.sync x g).1 f.ix) := by
 obtain ⟨r3, r4⟩ := found_whole g.found x h hi t.found
 have hs := synced_found g.found hi
 have hsub : ∀ n ∈ (Wl.syncFound x g.found).2.1, n ∈ g.found := by
  have : ∀ (l : List Tx) (x : Ds), ∀ n ∈ (Wl.syncFound x l).2.1, n ∈ l := by
   intro l
   induction l with
   | nil => intro x n hn; exact hn
   | cons a l ih =>
    intro x n hn
    rw [Wl.syncFound] at hn
    split at hn
    ·exact hn
    ·exact List.mem_cons_of_mem _ (ih _ n hn)
  exact this _ _
 unfold Wl.sync sync1
 generalize hz : Wl.syncFound x g.found = z at hs r3 r4 hsub
 obtain ⟨y, fd, e⟩ := z
 dsimp only at hs r3 r4 hsub ⊢
 have hy : Half y y.names s Q lo := by rw [hs.names]; exact h.synced hs
 have lst : ∀ P f, Q = P ++ [f] → name f.q ∈ fd ∨ Whole y f.ix ∨ (g.name = name f.q ∧ g.loose = true) := by
  intro P f e'
  rcases t.last P f e' with h1 | h1 | h1
  ·rcases r4 f (by rw [e']; simp) h1 with h2 | h2
   ·exact .inl h2
   ·exact .inr (.inl h2)
  ·exact .inr (.inl (hs.whole _ h1))
  ·exact .inr (.inr h1)
 have all : ∀ (y' : Ds), Synced y y' → (∀ P f, Q = P ++ [f] → Whole y' f.ix) → ∀ f ∈ Q, Whole y' f.ix := by
  intro y' c hw f hf
  rcases snoc_or Q with rfl | ⟨P, a, rfl⟩
  ·simp at hf
  ·rcases List.mem_append.1 hf with h1 | h1
   ·exact c.whole _ (hy.whole P a rfl f h1)
   ·obtain rfl : f = a := by simpa using h1
    exact hw P f rfl
 by_cases he : e ≠ 0
 ·rw [if_pos he]
  exact ⟨⟨t.next, fun n hn => t.found n (hsub n hn), t.cur, t.bound, lst⟩, fun h0 => absurd h0 he⟩
 ·rw [if_neg he]
  obtain rfl : fd = [] := r3 (Classical.byContradiction he)
  unfold sync2
  dsimp only
  by_cases hl : g.loose = false
  ·rw [if_pos hl]
   refine ⟨⟨t.next, fun n hn => by simp at hn, t.cur, t.bound, lst⟩, fun _ => all y (Synced.refl hs.inv) fun P f e' => ?_⟩
   rcases lst P f e' with h1 | h1 | h1
   ·simp at h1
   ·exact h1
   ·rw [hl] at h1; exact absurd h1.2 (by decide)
  ·rw [if_neg hl]
   have hl : g.loose = true := by simpa using hl
   obtain ⟨P, f, hQ, hn, ht⟩ := t.cur (t.bound hl)
   have hf : f ∈ Q := by rw [hQ]; simp
   have hw := sync_whole hy hs.inv hf
   have hs2 := synced_sync hs.inv (name f.q)
   rw [← hn] at hw hs2
   by_cases h2 : (Dk.sync y g.name).2 ≠ 0
   ·rw [if_pos h2]
    refine ⟨⟨t.next, fun n hn => by simp at hn, t.cur, t.bound, fun P' f' e' => ?_⟩, fun h0 => absurd h0 h2⟩
    obtain ⟨rfl, rfl⟩ := snoc_inj (hQ.symm.trans e')
    exact .inr (.inr ⟨hn, hl⟩)
   ·rw [if_neg h2]
    have h2 : (Dk.sync y g.name).2 = 0 := Classical.byContradiction h2
    refine ⟨⟨t.next, fun n hn => by simp at hn, t.cur, fun h => by simp at h, fun P' f' e' => ?_⟩, fun _ => all _ hs2 fun P' f' e' => ?_⟩
    ·obtain ⟨rfl, rfl⟩ := snoc_inj (hQ.symm.trans e')
     exact .inr (.inl (hw h2))
    ·obtain ⟨rfl, rfl⟩ := snoc_inj (hQ.symm.trans e')
     exact hw h2
end Wl
end Go.Vc
namespace Go.Vc
open Dk (Ds Fi fileAt)
namespace Wl
def Mix (x : Ds) (s : Nat) (Q : List Fl) (lo N : Nat) : Prop :=
 s + (recsOf Q).length ≤ N ∧ (Hold x s Q lo ∨ (Half x x.names s Q (recsOf Q).length ∧ BacksE x (recsOf Q) (recsOf Q).length N ∧ Dk.Inv x ∧ lo ≤ (recsOf Q).length))
theorem Mix.inv {x : Ds} {s lo N : Nat} {Q : List Fl} (h : Mix x s Q lo N) : Dk.Inv x := by
 rcases h.2 with h | h
 ·exact h.inv
 ·exact h.2.2.1
theorem Mix.half {x : Ds} {s lo N : Nat} {Q : List Fl} (h : Mix x s Q lo N) : Half x x.names s Q lo := by
 rcases h.2 with h | h
 ·exact h.half
 ·exact h.1.mono h.2.2.2
theorem Mix.le {x : Ds} {s lo N : Nat} {Q : List Fl} (h : Mix x s Q lo N) : lo ≤ (recsOf Q).length := h.half.le
theorem Mix.backs {x : Ds} {s lo N : Nat} {Q : List Fl} (h : Mix x s Q lo N) : BacksE x (recsOf Q) lo N := by
 obtain ⟨hN, h | h⟩ := h
 ·exact h.backs.e hN
 ·exact h.2.1.mono h.2.2.2
theorem Hold.mono {x : Ds} {s lo lo' : Nat} {Q : List Fl} (h : Hold x s Q lo) (hl : lo' ≤ lo) : Hold x s Q lo' := ⟨h.half.mono hl, h.pend, h.safe, h.inv⟩
theorem Mix.mono {x : Ds} {s lo lo' N : Nat} {Q : List Fl} (h : Mix x s Q lo N) (hl : lo' ≤ lo) : Mix x s Q lo' N := by
 obtain ⟨hN, h | h⟩ := h
 ·exact ⟨hN, .inl (h.mono hl)⟩
 ·exact ⟨hN, .inr ⟨h.1, h.2.1, h.2.2.1, by have := h.2.2.2; omega⟩⟩
theorem Hold.synced {x y : Ds} {s lo : Nat} {Q : List Fl} (h : Hold x s Q lo) (c : Synced x y) : Hold y s Q lo :=
 ⟨by rw [c.names]; exact h.half.synced c, c.pend.trans h.pend, (c.safe.trans h.safe).trans c.names.symm, c.inv⟩
theorem Mix.synced {x y : Ds} {s lo N : Nat} {Q : List Fl} (h : Mix x s Q lo N) (c : Synced x y) : Mix y s Q lo N := by
 obtain ⟨hN, h | h⟩ := h
 ·exact ⟨hN, .inl (h.synced c)⟩
 ·exact ⟨hN, .inr ⟨by rw [c.names]; exact h.1.synced c, h.2.1.synced c, c.inv, h.2.2.2⟩⟩
theorem Mix.core {x y : Ds} {s lo N : Nat} {Q : List Fl} (h : Mix x s Q lo N) (c : Core x y) (hi : Dk.Inv y) : Mix y s Q lo N := by
 obtain ⟨hN, h | h⟩ := h
 ·exact ⟨hN, .inl (h.core c hi)⟩
 ·exact ⟨hN, .inr ⟨by rw [c.names]; exact h.1.core c, h.2.1.core c, hi, h.2.2.2⟩⟩
theorem Mix.full {x : Ds} {s lo N : Nat} {Q : List Fl} (h : Mix x s Q lo N) (hw : ∀ f ∈ Q, Whole x f.ix) : Mix x s Q (recsOf Q).length N := by
 obtain ⟨hN, h | h⟩ := h
 ·exact ⟨hN, .inl ⟨h.half.full fun P f e => hw f (by rw [e]; simp), h.pend, h.safe, h.inv⟩⟩
 ·exact ⟨hN, .inr ⟨h.1, h.2.1, h.2.2.1, Nat.le_refl _⟩⟩
def Sound (x : Ds) (R : List Tx) (lo N : Nat) : Prop := ∃ s Q, recsOf Q = R ∧ Mix x s Q lo N
theorem sound_of {x : Ds} {R : List Tx} {lo N : Nat} (h : BacksE x R R.length N) (hi : Dk.Inv x) (hl : lo ≤ R.length) : Sound x R lo N := by
 obtain ⟨s, Q, h1, rfl, hN⟩ := h.now hi
 exact ⟨s, Q, rfl, hN, .inr ⟨h1, h, hi, hl⟩⟩
theorem turn3_mix {x : Ds} {g : Lg} {s N : Nat} {Q : List Fl} (h : BacksE x (recsOf Q) (recsOf Q).length N) (hN : s + (recsOf Q).length ≤ N) (hq : Half x x.names s Q (recsOf Q).length) (hw : ∀ f ∈ Q, Whole x f.ix) (hi : Dk.Inv x) (hg : g.next = s + (recsOf Q).length) :
  BacksE (turn3 x g).1 (recsOf Q) (recsOf Q).length N ∧ Dk.Inv (turn3 x g).1 ∧ ((turn3 x g).2.2 = 0 → ∃ ix, Hold (turn3 x g).1 s (Q ++ [⟨s + (recsOf Q).length, ix, [], []⟩]) (recsOf Q).length ∧ (turn3 x g).2.1 = { g with name := name g.next, size := 0 }) := by
 obtain ⟨c1, c3⟩ := h.create hN hq hw hi
 have c2 := Dk.inv_create hi (name g.next)
 rw [← hg] at c1 c3
 unfold turn3
 by_cases he : (Dk.create x (name g.next)).2 ≠ 0
 ·rw [if_pos he]; exact ⟨c1, c2, fun h0 => absurd h0 he⟩
 ·rw [if_neg he]
  have c3 := c3 (Classical.byContradiction he)
  generalize (Dk.create x (name g.next)).1 = y at c1 c2 c3 ⊢
  have hrec : recsOf (Q ++ [⟨g.next, x.files.length, [], []⟩]) = recsOf Q := by simp [recsOf]
  rw [← hrec] at c1
  obtain ⟨d1, d2⟩ := c1.syncNames (s := s) (lo := (recsOf (Q ++ [⟨g.next, x.files.length, [], []⟩])).length) (by rw [hrec]; exact hN) (by rw [hrec]; exact c3) c2
  have d3 := Dk.inv_syncNames c2
  rw [hrec] at d1 d2
  unfold turn4
  by_cases he2 : (Dk.syncNames y).2 ≠ 0
  ·rw [if_pos he2]; exact ⟨d1, d3, fun h0 => absurd h0 he2⟩
  ·rw [if_neg he2]
   refine ⟨d1, d3, fun _ => ⟨x.files.length, ?_, rfl⟩⟩
   rw [← hg]
   exact d2 (Classical.byContradiction he2)
theorem Mix.turn {x : Ds} {g : Lg} {s lo N : Nat} {Q : List Fl} (h : Mix x s Q lo N) (t : Tied x g s Q) :
  Sound (Wl.turn x g).1 (recsOf Q) lo N ∧ ((Wl.turn x g).2.2 = 0 → ∃ A f, recsOf (A ++ [f]) = recsOf Q ∧ f.rs = [] ∧ f.tl = [] ∧ f.q = g.next ∧ Hold (Wl.turn x g).1 s (A ++ [f]) (recsOf Q).length ∧
   Tied (Wl.turn x g).1 (Wl.turn x g).2.1 s (A ++ [f]) ∧ (Wl.turn x g).2.1.name = name f.q ∧ (Wl.turn x g).2.1.found = [] ∧ (Wl.turn x g).2.1.next = g.next) := by
 obtain ⟨w2, w3⟩ := h.half.wsync h.inv t
 have hS := synced_wsync h.inv g
 have hM := h.synced hS
 have hle := h.le
 have hcl := @sync_clear x g
 have hlg := sync_lg x g
 unfold Wl.turn
 generalize Wl.sync x g = z at w2 w3 hS hM hcl hlg ⊢
 obtain ⟨y, g2, e⟩ := z
 dsimp only at w2 w3 hS hM hcl hlg
 unfold turn1
 dsimp only
 by_cases he : e ≠ 0
 ·rw [if_pos he]
  exact ⟨⟨s, Q, rfl, hM⟩, fun h0 => absurd h0 he⟩
 ·rw [if_neg he]
  have he : e = 0 := Classical.byContradiction he
  have hw := w3 he
  have hfd := hcl he
  by_cases hd : y.dead = true
  ·rw [if_pos hd]
   exact ⟨⟨s, Q, rfl, hM⟩, fun h0 => absurd (show (9 : Int) = 0 from h0) (by decide)⟩
  ·rw [if_neg hd]
   have hN := hM.full hw
   have fin : ∀ (z : Ds) (A : List Fl), recsOf A = recsOf Q → BacksE z (recsOf A) (recsOf A).length N → Half z z.names s A (recsOf A).length → (∀ f ∈ A, Whole z f.ix) → Dk.Inv z →
     Sound (turn3 z g2).1 (recsOf Q) lo N ∧ ((turn3 z g2).2.2 = 0 → ∃ A f, recsOf (A ++ [f]) = recsOf Q ∧ f.rs = [] ∧ f.tl = [] ∧ f.q = g.next ∧ Hold (turn3 z g2).1 s (A ++ [f]) (recsOf Q).length ∧
      Tied (turn3 z g2).1 (turn3 z g2).2.1 s (A ++ [f]) ∧ (turn3 z g2).2.1.name = name f.q ∧ (turn3 z g2).2.1.found = [] ∧ (turn3 z g2).2.1.next = g.next) := by
    intro z A hA b1 b2 b3 b4
    obtain ⟨u1, u2, u3⟩ := turn3_mix (g := g2) b1 (by rw [hA]; exact h.1) b2 b3 b4 (by rw [w2.next, hA])
    rw [hA] at u1
    refine ⟨sound_of u1 u2 hle, fun h0 => ?_⟩
    obtain ⟨ix, v1, v2⟩ := u3 h0
    have hr : recsOf (A ++ [⟨s + (recsOf A).length, ix, [], []⟩]) = recsOf Q := by rw [← hA]; simp [recsOf]
    have hnx : g2.next = g.next := hlg.1
    have hq : s + (recsOf A).length = g.next := by rw [hA, ← hnx]; exact w2.next.symm
    rw [hA] at v1
    have hwn : Whole (turn3 z g2).1 ix := by
     have hm : (⟨s + (recsOf Q).length, ix, [], []⟩ : Fl) ∈ A ++ [⟨s + (recsOf Q).length, ix, [], []⟩] := by simp
     have h1 := v1.half.data _ hm
     have h1 : (fileAt (turn3 z g2).1 ix).data = [] := h1
     have h2 := v1.half.lt v1.inv v1.safe hm
     have h2 : ix < (turn3 z g2).1.files.length := h2
     have h3 := safe_le v1.inv ix
     unfold Whole
     rw [h1] at h3 ⊢
     simpa using h3
    rw [hA] at hr hq
    refine ⟨A, ⟨s + (recsOf Q).length, ix, [], []⟩, hr, rfl, rfl, hq, v1, ?_, ?_, ?_, ?_⟩
    ·rw [v2]
     refine ⟨?_, ?_, fun _ => ⟨A, _, rfl, ?_, rfl⟩, fun _ => ?_, fun P f e' => ?_⟩
     ·show g2.next = _
      rw [hr]; exact w2.next
     ·intro n hn
      have hn : n ∈ g2.found := hn
      rw [hfd] at hn; simp at hn
     ·show name g2.next = name (s + (recsOf Q).length)
      rw [w2.next]
     ·show name g2.next ≠ []
      intro e2; have := name_len g2.next; rw [e2] at this; simp at this
     ·obtain ⟨rfl, rfl⟩ := snoc_inj e'
      exact .inr (.inl hwn)
    ·rw [v2]; show name g2.next = name (s + (recsOf Q).length); rw [w2.next]
    ·rw [v2]; exact hfd
    ·rw [v2]; exact hnx
   unfold turn2
   by_cases ha : (y.names.any fun p => p.1 == name g2.next) = true
   ·rw [if_pos ha]
    obtain ⟨p, hp, hpe⟩ := List.any_eq_true.1 ha
    rw [hN.half.names] at hp
    obtain ⟨f, hf, rfl⟩ := List.mem_map.1 hp
    have hpe : name f.q = name g2.next := by simpa using hpe
    have hfq : f.q = s + (recsOf Q).length := by
     have h1 := (chain_q hN.half.chain f hf).2
     have h2 := hN.half.top
     have h3 := w2.next
     have := name_inj (by omega) (by omega) hpe
     omega
    obtain ⟨r1, r3⟩ := hN.backs.remove h.1 hN.half hw hN.inv hf hfq
    have r2 := Dk.inv_remove hN.inv (name f.q)
    rw [hpe] at r1 r2 r3
    by_cases hr : (Dk.remove y (name g2.next)).2 ≠ 0
    ·rw [if_pos hr]
     exact ⟨sound_of r1 r2 hle, fun h0 => absurd h0 hr⟩
    ·rw [if_neg hr]
     obtain ⟨A, a1, a2, a3⟩ := r3 (Classical.byContradiction hr)
     exact fin _ A a1 (by rw [a1]; exact r1) a2 a3 r2
   ·rw [if_neg ha]
    exact fin y Q rfl hN.backs hN.half hw hN.inv
theorem syncFound_nine : ∀ (l : List Tx) {x : Ds}, (syncFound x l).2.2 = 9 → (syncFound x l).1.dead = true
 | [], _, h => absurd (show (0 : Int) = 9 from h) (by decide)
 | n :: l, x, h => by
  rw [syncFound] at h ⊢
  by_cases he : (Dk.sync x n).2 ≠ 0
  ·rw [if_pos he] at h ⊢; exact sync_nine h
  ·rw [if_neg he] at h ⊢; exact syncFound_nine l h
theorem wsync_nine {x : Ds} {g : Lg} (h : (Wl.sync x g).2.2 = 9) : (Wl.sync x g).1.dead = true := by
 unfold Wl.sync sync1 at h ⊢
 by_cases he : (syncFound x g.found).2.2 ≠ 0
 ·rw [if_pos he] at h ⊢; exact syncFound_nine _ h
 ·rw [if_neg he] at h ⊢
  unfold sync2 at h ⊢
  dsimp only at h ⊢
  by_cases hl : g.loose = false
  ·rw [if_pos hl] at h; exact absurd (show (0 : Int) = 9 from h) (by decide)
  ·rw [if_neg hl] at h ⊢
   by_cases h2 : (Dk.sync (syncFound x g.found).1 g.name).2 ≠ 0
   ·rw [if_pos h2] at h ⊢; exact sync_nine h
   ·rw [if_neg h2] at h; exact absurd (show (0 : Int) = 9 from h) (by decide)
theorem turn3_nine {x : Ds} {g : Lg} (h : (turn3 x g).2.2 = 9) : (turn3 x g).1.dead = true := by
 unfold turn3 at h ⊢
 by_cases he : (Dk.create x (name g.next)).2 ≠ 0
 ·rw [if_pos he] at h ⊢; exact create_nine h
 ·rw [if_neg he] at h ⊢
  unfold turn4 at h ⊢
  by_cases h2 : (Dk.syncNames (Dk.create x (name g.next)).1).2 ≠ 0
  ·rw [if_pos h2] at h ⊢; exact syncNames_nine h
  ·rw [if_neg h2] at h; exact absurd (show (0 : Int) = 9 from h) (by decide)
theorem wturn_nine {x : Ds} {g : Lg} (h : (Wl.turn x g).2.2 = 9) : (Wl.turn x g).1.dead = true := by
 unfold Wl.turn turn1 at h ⊢
 by_cases he : (Wl.sync x g).2.2 ≠ 0
 ·rw [if_pos he] at h ⊢; exact wsync_nine h
 ·rw [if_neg he] at h ⊢
  by_cases hd : (Wl.sync x g).1.dead = true
  ·rw [if_pos hd]; exact hd
  ·rw [if_neg hd] at h ⊢
   unfold turn2 at h ⊢
   by_cases ha : ((Wl.sync x g).1.names.any fun p => p.1 == name (Wl.sync x g).2.1.next) = true
   ·rw [if_pos ha] at h ⊢
    by_cases h2 : (Dk.remove (Wl.sync x g).1 (name (Wl.sync x g).2.1.next)).2 ≠ 0
    ·rw [if_pos h2] at h ⊢; exact remove_nine h
    ·rw [if_neg h2] at h ⊢; exact turn3_nine h
   ·rw [if_neg ha] at h ⊢; exact turn3_nine h
theorem app2_nine {s : Tx} {x : Ds} {g : Lg} (h : (app2 s x g).2.2 = 9) : (app2 s x g).1.dead = true := by
 unfold app2 at h ⊢
 by_cases he : (Dk.append x g.name s).2 ≠ 0
 ·rw [if_pos he] at h ⊢; exact append_nine h
 ·rw [if_neg he] at h; exact absurd (show (0 : Int) = 9 from h) (by decide)
theorem wappend_nine {x : Ds} {g : Lg} {r : Tx} (h : (Wl.append x g r).2.2 = 9) : (Wl.append x g r).1.dead = true := by
 unfold Wl.append at h ⊢
 by_cases h1 : r.length > 4194304
 ·rw [if_pos h1] at h; exact absurd (show (12 : Int) = 9 from h) (by decide)
 ·rw [if_neg h1] at h ⊢
  by_cases hc : g.name = [] ∨ (g.size > 0 ∧ g.size > g.limit - (frT g.next r).length)
  ·rw [if_pos hc] at h ⊢
   unfold app1 at h ⊢
   by_cases he : (Wl.turn x g).2.2 ≠ 0
   ·rw [if_pos he] at h ⊢; exact wturn_nine h
   ·rw [if_neg he] at h ⊢; exact app2_nine h
  ·rw [if_neg hc] at h ⊢; exact app2_nine h
theorem app2_mix {x : Ds} {g : Lg} {s lo N : Nat} {P : List Fl} {f : Fl} {r : Tx} (h : Hold x s (P ++ [f]) lo) (t : Tied x g s (P ++ [f])) (ht : f.tl = []) (hn : g.name = name f.q) (hr : r.length ≤ 4194304) (hN : s + (recsOf (P ++ [f])).length ≤ N) (htop : N + 1 < 18446744073709551616) :
  ((app2 (frT g.next r) x g).2.2 = 0 → ∃ Q', Q' ≠ [] ∧ recsOf Q' = recsOf (P ++ [f]) ++ [r] ∧ Hold (app2 (frT g.next r) x g).1 s Q' lo ∧ Tied (app2 (frT g.next r) x g).1 (app2 (frT g.next r) x g).2.1 s Q') ∧
  ((app2 (frT g.next r) x g).2.2 ≠ 0 → (app2 (frT g.next r) x g).2.2 ≠ 9 → Sound (app2 (frT g.next r) x g).1 (recsOf (P ++ [f])) lo N) ∧
  ∃ R, (R = recsOf (P ++ [f]) ∨ R = recsOf (P ++ [f]) ++ [r]) ∧ BacksE (app2 (frT g.next r) x g).1 R lo (N + 1) ∧ Dk.Inv (app2 (frT g.next r) x g).1 := by
 obtain ⟨R, hR, hB, hI, hok⟩ := app2_log (r := r) h t ht hn hr (by omega)
 have hRl : s + R.length ≤ N + 1 := by
  have : R.length ≤ (recsOf (P ++ [f])).length + 1 := by rcases hR with e | e <;> rw [e] <;> simp
  omega
 refine ⟨fun h0 => ?_, fun h0 h9 => ?_, R, hR, hB.e hRl, hI⟩
 ·obtain ⟨rfl, Q', q1, q2, q3, q4⟩ := hok h0
  exact ⟨Q', q1, q2, q3, q4⟩
 ·unfold app2 at h0 h9 hI ⊢
  by_cases he : (Dk.append x g.name (frT g.next r)).2 ≠ 0
  ·rw [if_pos he] at h0 h9 hI ⊢
   exact ⟨s, _, rfl, hN, .inl (h.core (append_core h0 h9) hI)⟩
  ·rw [if_neg he] at h0; exact absurd rfl h0
theorem Mix.wappend {x : Ds} {g : Lg} {s lo N : Nat} {Q : List Fl} {r : Tx} (h : Mix x s Q lo N) (t : Tied x g s Q) (hc : g.name ≠ [] → Hold x s Q lo) (hr : r.length ≤ 4194304) (htop : N + 1 < 18446744073709551616) :
  ((Wl.append x g r).2.2 = 0 → ∃ Q', Q' ≠ [] ∧ recsOf Q' = recsOf Q ++ [r] ∧ Hold (Wl.append x g r).1 s Q' lo ∧ Tied (Wl.append x g r).1 (Wl.append x g r).2.1 s Q') ∧
  ((Wl.append x g r).2.2 ≠ 0 → (Wl.append x g r).2.2 ≠ 9 → Sound (Wl.append x g r).1 (recsOf Q) lo N) ∧
  ∃ R, (R = recsOf Q ∨ R = recsOf Q ++ [r]) ∧ BacksE (Wl.append x g r).1 R lo (N + 1) ∧ Dk.Inv (Wl.append x g r).1 := by
 unfold Wl.append
 rw [if_neg (by omega)]
 by_cases hcc : g.name = [] ∨ (g.size > 0 ∧ g.size > g.limit - (frT g.next r).length)
 ·rw [if_pos hcc]
  obtain ⟨t1, t3⟩ := h.turn t
  have hle := h.le
  generalize Wl.turn x g = z at t1 t3 ⊢
  obtain ⟨y, g2, e⟩ := z
  dsimp only at t1 t3
  unfold app1
  dsimp only
  by_cases he : e ≠ 0
  ·rw [if_pos he]
   obtain ⟨s', Q', q1, q2⟩ := t1
   exact ⟨fun h0 => absurd h0 he, fun _ _ => ⟨s', Q', q1, q2⟩, _, .inl rfl, fun k hk => (by obtain ⟨a, b, c1, c2, c3⟩ := q2.backs k hk; exact ⟨a, b, c1, by rw [← q1]; exact c2, by rw [← q1]; omega⟩), q2.inv⟩
  ·rw [if_neg he]
   obtain ⟨A, f, a1, a2, a3, a4, a5, a6, a7, a8, a9⟩ := t3 (Classical.byContradiction he)
   have := app2_mix (N := N) (r := r) (a5.mono hle) a6 a3 a7 hr (by rw [a1]; exact h.1) htop
   rw [a1, a9] at this
   exact this
 ·rw [if_neg hcc]
  have hn : g.name ≠ [] := fun e => hcc (.inl e)
  obtain ⟨P, f, rfl, h2, h3⟩ := t.cur hn
  exact app2_mix (hc hn) t h3 h2 hr h.1 htop
theorem Mix.opened {x : Ds} {s lo N : Nat} {Q : List Fl} (h : Mix x s Q lo N) (hN1 : 1 ≤ N) (hd : x.dead = false) (limit : Int) :
  ∃ g s', Wl.opened x limit = (some (g, recsOf Q), 0) ∧ g.name = [] ∧ g.found.length = Q.length ∧ g.size = 0 ∧ g.limit = max limit 1 ∧ g.next < 18446744073709551616 ∧ Mix x s' Q lo N ∧ Tied x g s' Q := by
 have hop := h.half.log.opened h.inv hd limit
 have hT : ∀ s', (Q = [] → s' = 1) → (Q ≠ [] → s' = s) → Tied x ⟨max limit 1, if Q = [] then 1 else s + (recsOf Q).length, [], 0, false, Q.map fun f => name f.q⟩ s' Q := by
  intro s' h1 h2
  refine ⟨?_, ?_, fun hn => absurd rfl hn, fun hl => absurd hl (by simp), fun P f e => .inl ?_⟩
  ·show (if Q = [] then 1 else _) = _
   by_cases hQ : Q = []
   ·rw [if_pos hQ, h1 hQ, hQ]; rfl
   ·rw [if_neg hQ, h2 hQ]
  ·intro n hn
   obtain ⟨f, hf, rfl⟩ := List.mem_map.1 hn
   exact ⟨f, hf, rfl⟩
  ·exact List.mem_map.2 ⟨f, by rw [e]; simp, rfl⟩
 have hnx : (if Q = [] then 1 else s + (recsOf Q).length) < 18446744073709551616 := by
  split
  ·decide
  ·exact h.half.top
 by_cases hQ : Q = []
 ·subst hQ
  have h0 : ∀ n, Half x n s [] lo → Half x n 1 [] lo := fun n k => ⟨k.names, k.data, k.torn, k.fits, trivial, by show 1 + 0 < _; omega, k.nodup, k.bare, k.whole, k.last⟩
  refine ⟨_, 1, hop, rfl, rfl, rfl, rfl, hnx, ?_, hT 1 (fun _ => rfl) (fun e => absurd rfl e)⟩
  refine ⟨hN1, ?_⟩
  rcases h.2 with h | h
  ·exact .inl ⟨h0 _ h.half, h.pend, h.safe, h.inv⟩
  ·refine .inr ⟨?_, h.2.1, h.2.2.1, h.2.2.2⟩
   have k := h.1
   exact ⟨k.names, k.data, k.torn, k.fits, trivial, by show 1 + 0 < _; omega, k.nodup, k.bare, k.whole, k.last⟩
 ·exact ⟨_, s, hop, rfl, by simp, rfl, rfl, hnx, h, hT s (fun e => absurd e hQ) (fun _ => rfl)⟩
def Some (x : Ds) (N : Nat) : Prop := Dk.Inv x ∧ ∀ k, k ≤ x.pend.length → ∃ s Q lo, Half x ((x.pend.take k).foldl Dk.apply x.safe) s Q lo ∧ s + (recsOf Q).length ≤ N
theorem Some.core {x y : Ds} {N : Nat} (h : Some x N) (c : Core x y) (hi : Dk.Inv y) : Some y N := by
 refine ⟨hi, fun k hk => ?_⟩
 rw [c.pend] at hk
 obtain ⟨s, Q, lo, h1, h2⟩ := h.2 k hk
 exact ⟨s, Q, lo, by rw [c.pend, c.safe]; exact h1.core c, h2⟩
theorem BacksE.anyLog {x : Ds} {R : List Tx} {lo N : Nat} (h : BacksE x R lo N) (hi : Dk.Inv x) : Some x N := ⟨hi, fun k hk => by
 obtain ⟨s, Q, h1, h2, h3⟩ := h k hk
 exact ⟨s, Q, lo, h1, by rw [h2]; exact h3⟩⟩
theorem Mix.anyLog {x : Ds} {s lo N : Nat} {Q : List Fl} (h : Mix x s Q lo N) : Some x N := h.backs.anyLog h.inv
theorem Some.restart {x : Ds} {N : Nat} (h : Some x N) (ch : List Int) : ∃ s Q, Mix (Dk.restart x ch) s Q (recsOf Q).length N := by
 obtain ⟨s, Q0, lo, h1, h2⟩ := h.2 (Dk.pick ch 0 (x.pend.length + 1)) (by have := Dk.pick_lt ch 0 (x.pend.length + 1) (by omega); omega)
 have h1 : Half x (Dk.restart x ch).names s Q0 lo := h1
 obtain ⟨Q, m, h3, _, _, h6⟩ := h1.restart h.1
 exact ⟨s, Q, by rw [h6, List.length_take]; omega, .inl ⟨h3, rfl, rfl, Dk.inv_restart h.1 ch⟩⟩
theorem Half.next {x : Ds} {nm : List (Tx × Nat)} {s lo : Nat} {f : Fl} {B : List Fl} (h : Half x nm s (f :: B) lo) : Half x (B.map fun f => (name f.q, f.ix)) (s + f.rs.length) B 0 := by
 have htop := h.top
 have hr : recsOf (f :: B) = f.rs ++ recsOf B := by simp [recsOf]
 rw [hr, List.length_append] at htop
 have hn := h.nodup
 rw [List.map_cons, List.nodup_cons] at hn
 refine ⟨rfl, fun g hg => h.data g (by simp [hg]), fun g hg => h.torn g (by simp [hg]), fun g hg => h.fits g (by simp [hg]), h.chain.2, by omega, hn.2, fun _ => rfl, fun P g e a ha => ?_, fun P g e => ⟨0, Nat.zero_le _, by show 0 ≤ _; omega, Nat.zero_le _⟩⟩
 exact h.whole (f :: P) g (by rw [e]; rfl) a (by simp [ha])
theorem removeAll_some {N : Nat} : ∀ (B : List Fl) (x : Ds) (s lo : Nat), Half x x.names s B lo → s + (recsOf B).length ≤ N → Some x N →
  Some (removeAll x (B.map fun f => f.q)).1 N ∧ ((removeAll x (B.map fun f => f.q)).2 = 0 → (removeAll x (B.map fun f => f.q)).1.names = [])
 | [], x, s, lo, h, _, he => ⟨he, fun _ => h.names⟩
 | f :: B, x, s, lo, h, hsN, he => by
  have hi := he.1
  have hsN2 : s + f.rs.length + (recsOf B).length ≤ N := by
   have : recsOf (f :: B) = f.rs ++ recsOf B := by simp [recsOf]
   rw [this, List.length_append] at hsN; omega
  have hi2 := Dk.inv_remove hi (name f.q)
  have hap := apply_first h hi
  have gone : ∀ y, Core x y → Half (Dk.turn y ⟨name f.q, [], 0⟩) (B.map fun f => (name f.q, f.ix)) (s + f.rs.length) B 0 := fun y c => h.next.files fun g _ => c.at g.ix
  have hnm : ∀ y, Core x y → (Dk.turn y ⟨name f.q, [], 0⟩).names = B.map fun f => (name f.q, f.ix) := by
   intro y c
   show Dk.apply y.names ⟨name f.q, [], 0⟩ = _
   rw [c.names, hap]
  have ends : ∀ y, Core x y → Dk.Inv (Dk.turn y ⟨name f.q, [], 0⟩) → Some (Dk.turn y ⟨name f.q, [], 0⟩) N := by
   intro y c hi3
   refine ⟨hi3, fun k hk => ?_⟩
   have hk : k ≤ (y.pend ++ [(⟨name f.q, [], 0⟩ : Dk.Cg)]).length := hk
   rw [List.length_append, List.length_singleton, c.pend] at hk
   show ∃ s Q lo, Half (Dk.turn y ⟨name f.q, [], 0⟩) (((y.pend ++ [(⟨name f.q, [], 0⟩ : Dk.Cg)]).take k).foldl Dk.apply y.safe) s Q lo ∧ s + (recsOf Q).length ≤ N
   rw [c.pend, c.safe]
   by_cases hk2 : k ≤ x.pend.length
   ·obtain ⟨s', Q', lo', q1, q2⟩ := he.2 k hk2
    rw [List.take_append_of_le_length hk2]
    exact ⟨s', Q', lo', q1.files fun g _ => c.at g.ix, q2⟩
   ·rw [List.take_of_length_le (by rw [List.length_append]; simp; omega), List.foldl_append, ← hi.names, List.foldl_cons, List.foldl_nil, hap]
    exact ⟨_, _, _, gone y c, hsN2⟩
  rw [List.map_cons, removeAll]
  by_cases h0 : (Dk.remove x (name f.q)).2 = 0
  ·rw [if_neg (by simp [h0])]
   obtain ⟨y, c, e⟩ := remove_ok h0
   rw [e] at hi2 ⊢
   refine removeAll_some B _ (s + f.rs.length) 0 ?_ hsN2 (ends y c hi2)
   exact (congrArg (fun n => Half (Dk.turn y ⟨name f.q, [], 0⟩) n (s + f.rs.length) B 0) (hnm y c)).mpr (gone y c)
  ·rw [if_pos h0]
   refine ⟨?_, fun h => absurd h h0⟩
   rcases remove_sh x (name f.q) with c | ⟨y, i, c, _, e⟩
   ·exact he.core c hi2
   ·rw [e] at hi2 ⊢; exact ends y c hi2
theorem half_bare (x : Ds) {s : Nat} (hs : s < 18446744073709551616) : Half x [] s [] 0 :=
 ⟨rfl, fun f hf => absurd hf (by simp), fun f hf => absurd hf (by simp), fun f hf => absurd hf (by simp), trivial, by show s + 0 < _; omega, List.nodup_nil, fun _ => rfl, fun P f e => absurd e (by simp), fun P f e => absurd e (by simp)⟩
theorem Mix.retire {x : Ds} {g : Lg} {s lo N : Nat} {Q : List Fl} (h : Mix x s Q lo N) (t : Tied x g s Q) :
  Some (Wl.retire x g).1 N ∧ ((Wl.retire x g).2.2 = 0 → ∃ s', Mix (Wl.retire x g).1 s' [] 0 N ∧ Tied (Wl.retire x g).1 (Wl.retire x g).2.1 s' [] ∧ (Wl.retire x g).2.1 = bareLg g) := by
 have hlt : g.next < 18446744073709551616 := by rw [t.next]; exact h.half.top
 have bare : ∀ (z : Ds) (s' : Nat), g.next = s' → Tied z (bareLg g) s' [] := by
  intro z s' e
  exact ⟨by show g.next = s' + 0; omega, fun n hn => absurd hn (by simp [bareLg]), fun hn => absurd rfl hn, fun hl => absurd hl (by simp [bareLg]), fun P f e => absurd e (by simp)⟩
 unfold Wl.retire
 by_cases hd : x.dead = true
 ·rw [if_pos hd]
  exact ⟨h.anyLog, fun h0 => absurd (show (9 : Int) = 0 from h0) (by decide)⟩
 ·rw [if_neg hd, h.half.log.files]
  obtain ⟨r1, r2⟩ := removeAll_some Q x s lo h.half h.1 h.anyLog
  unfold ret2
  generalize hz : removeAll x (Q.map fun f => f.q) = z at r1 r2 ⊢
  obtain ⟨y, e⟩ := z
  dsimp only at r1 r2 ⊢
  by_cases he : e ≠ 0
  ·rw [if_pos he]
   exact ⟨r1, fun h0 => absurd h0 he⟩
  ·rw [if_neg he]
   have hn := r2 (Classical.byContradiction he)
   by_cases hq : Q = []
   ·subst hq
    rw [List.map_nil, if_pos rfl]
    obtain ⟨rfl, _⟩ : x = y ∧ (0 : Int) = e := Prod.mk.inj hz
    exact ⟨r1, fun _ => ⟨s, h.mono (Nat.zero_le _), bare _ s t.next, rfl⟩⟩
   ·rw [if_neg (by simpa using hq)]
    have hi2 := Dk.inv_syncNames r1.1
    have hh : ∀ z : Ds, Half z [] g.next [] 0 := fun z => half_bare z hlt
    have hgN : g.next + (recsOf []).length ≤ N := by rw [t.next]; exact h.1
    refine ⟨?_, fun h0 => ⟨g.next, ⟨hgN, .inl ?_⟩, bare _ _ rfl, rfl⟩⟩
    ·rcases syncNames_sh y with c | ⟨w, c, e⟩
     ·exact r1.core c hi2
     ·rw [e] at hi2 ⊢
      refine ⟨hi2, fun k hk => ⟨g.next, [], 0, ?_, hgN⟩⟩
      show Half _ ((([] : List Dk.Cg).take k).foldl Dk.apply y.names) _ _ _
      rw [List.take_nil, hn]
      exact hh _
    ·obtain ⟨w, c, e⟩ := syncNames_ok h0
     rw [e] at hi2 ⊢
     have en : w.names = [] := c.names.trans hn
     refine ⟨?_, rfl, by show y.names = w.names; rw [hn, en], hi2⟩
     exact (congrArg (fun n => Half { w with safe := y.names, pend := [] } n g.next [] 0) en).mpr (hh _)
end Wl
end Go.Vc
namespace Go.Vc
open Dk (Ds)
theorem len_core {x y : Ds} (c : Core x y) : y.files.length = x.files.length := by rw [c.files]
theorem create_files (x : Ds) (nm : Tx) : (Dk.create x nm).1.files.length ≤ x.files.length + 1 := by
 rcases create_sh x nm with c | ⟨y, c, _, _, e⟩
 ·rw [len_core c]; omega
 ·rw [e]
  show (y.files ++ [_]).length ≤ _
  rw [List.length_append, c.files]; exact Nat.le_refl _
theorem append_files (x : Ds) (nm s : Tx) : (Dk.append x nm s).1.files.length = x.files.length := by
 rcases append_sh x nm s with c | ⟨y, i, c, _, e⟩
 ·exact len_core c
 ·rw [e]
  show (y.files.set i _).length = _
  rw [List.length_set, c.files]
theorem sync_files (x : Ds) (nm : Tx) : (Dk.sync x nm).1.files.length = x.files.length := by
 rcases sync_sh x nm with c | ⟨y, i, c, _, e⟩
 ·exact len_core c
 ·rw [e]
  show (y.files.set i _).length = _
  rw [List.length_set, c.files]
theorem syncNames_files (x : Ds) : (Dk.syncNames x).1.files.length = x.files.length := by
 rcases syncNames_sh x with c | ⟨y, c, e⟩
 ·exact len_core c
 ·rw [e]
  show y.files.length = _
  rw [c.files]
theorem remove_files (x : Ds) (nm : Tx) : (Dk.remove x nm).1.files.length = x.files.length := by
 rcases remove_sh x nm with c | ⟨y, i, c, _, e⟩
 ·exact len_core c
 ·rw [e]
  show y.files.length = _
  rw [c.files]
namespace Wl
theorem syncFound_files : ∀ (l : List Tx) (x : Ds), (syncFound x l).1.files.length = x.files.length
 | [], x => rfl
 | n :: l, x => by
  rw [syncFound]
  split
  ·exact sync_files x n
  ·rw [syncFound_files l]; exact sync_files x n
theorem wsync_files (x : Ds) (g : Lg) : (Wl.sync x g).1.files.length = x.files.length := by
 unfold Wl.sync sync1
 split
 ·exact syncFound_files _ _
 ·unfold sync2
  split
  ·exact syncFound_files _ _
  ·split
   ·rw [sync_files]; exact syncFound_files _ _
   ·rw [sync_files]; exact syncFound_files _ _
theorem turn3_files (x : Ds) (g : Lg) : (turn3 x g).1.files.length ≤ x.files.length + 1 := by
 unfold turn3
 split
 ·exact create_files _ _
 ·unfold turn4
  split
  ·rw [syncNames_files]; exact create_files _ _
  ·rw [syncNames_files]; exact create_files _ _
theorem wturn_files (x : Ds) (g : Lg) : (Wl.turn x g).1.files.length ≤ x.files.length + 1 := by
 have h := wsync_files x g
 unfold Wl.turn turn1
 split
 ·rw [h]; omega
 ·split
  ·rw [h]; omega
  ·unfold turn2
   split
   ·split
    ·rw [remove_files, h]; omega
    ·refine Nat.le_trans (turn3_files _ _) ?_
     rw [remove_files, h]; omega
   ·refine Nat.le_trans (turn3_files _ _) ?_
    rw [h]; omega
theorem app2_files (s : Tx) (x : Ds) (g : Lg) : (app2 s x g).1.files.length = x.files.length := by
 unfold app2
 split <;> exact append_files _ _ _
theorem wappend_files (x : Ds) (g : Lg) (r : Tx) : (Wl.append x g r).1.files.length ≤ x.files.length + 1 := by
 unfold Wl.append
 split
 ·show x.files.length ≤ _
  omega
 ·split
  ·unfold app1
   split
   ·exact wturn_files _ _
   ·rw [app2_files]; exact wturn_files _ _
  ·rw [app2_files]; omega
end Wl
end Go.Vc
namespace Go.Vc
open Dk (Ds)
namespace Wl
def PlayAt (n : Nat) (X : List Tx) (safe : Int) (sick retired : Bool) (y : Ds) (g : Lg) : Prop :=
 if retired = true then sick = true ∧ Some y (n + 1)
 else if sick = true then (y.dead = true ∧ ∃ R lo, BacksE y R lo (n + 1) ∧ Dk.Inv y ∧ R <+: X ∧ safe ≤ lo) ∨ (∃ lo : Nat, Sound y X lo (n + 1) ∧ safe ≤ lo)
 else ∃ s Q, ∃ lo : Nat, recsOf Q = X ∧ safe ≤ lo ∧ Mix y s Q lo (n + 1) ∧ Tied y g s Q ∧ (g.name ≠ [] → Hold y s Q lo)
end Wl
def act7K : EK := [.int .i64, .int .i64, .str, .sl [.int .i64]]
def LWalPlays.sig : Sig := sigF [.i .i64, .i .i64, .l act7K] [.b] (fun _ => True) yes
structure PlayH (i : Int) (x : List D) (safe : Int) (sick retired : Bool) (lw dw : List D) (y : Ds) (g : Wl.Lg) : Prop where
 lo : 0 ≤ i
 hi : i ≤ 25
 safe0 : 0 ≤ safe
 str : txD (fnd x) = x
 disk : RepL dw y
 log : LgRep lw g
 neat : Wl.Neat 25 (100 * i) g
 lim : Lim (100 * i.toNat) (100 * i.toNat) y
 files : y.files.length ≤ i.toNat
 play : Wl.PlayAt i.toNat (fnd x) safe sick retired y g
def Play (i : Int) (x : List D) (safe : Int) (sick retired : Bool) (lw dw : List D) : Prop := ∃ y g, PlayH i x safe sick retired lw dw y g
def LWalPlays.I0 : List D → Prop := fun l => Play (arg l 9).toI (arg l 5).toL (arg l 6).toI (arg l 7).toB (arg l 8).toB (arg l 10).toL (arg l 11).toL
def LWalPlays.I0M : List D → Nat := fun l => (25 - (arg l 9).toI).toNat
def LWalPlays.T : St :=
 ⟨[.one (.lf (.int .i64 (.at 0))), .one (.lf (.int .i64 (.at 1))), .one (.lf (.sl (.at 2)))] ++ List.replicate 4 (.one (.lf .junk)) ++ [.one (.lf (.ptr (.at 4) 0)), .one (.lf (.ptr (.at 19) 0)), .one (.lf (.sl (.at 9))), .one (.lf (.int .i64 (.int 0))), .one (.lf (.sl (.at 13))), .one (.lf (.int .i64 (.at 15))), .one (.lf (.bool (.at 16))), .one (.lf (.bool (.at 17))), .one (.lf (.int .i64 (.at 18))), .one (.lf (.ptr (.at 22) 0)), .one (.lf (.str (.at 23)))] ++ List.replicate 3 (.one (.lf .junk)) ++ [.one (.lf (.int .i64 (.at 0))), .one (.lf (.ptr (.at 4) 0)), .one (.lf (.bool (.at 6))), .one (.lf (.bool (.o1 .not (.at 6)))), .one (.lf (.bool (.bool false))), .one (.lf (.ptr (.at 4) 0)), .one (.lf (.bool (.bool false))), .one (.lf (.bool (.bool false))), .tup [(.lf (.ptr (.at 7) 0)), (.lf (.sl (.at 9))), (.lf (.int .i64 (.int 0)))], .one (.lf (.ptr (.at 4) 0)), .one (.lf (.int .i64 (.at 1))), .tup [(.lf (.ptr (.at 7) 0)), (.lf (.sl (.at 9))), (.lf (.int .i64 (.int 0)))], .one (.lf (.ptr (.at 7) 0)), .one (.lf (.sl (.at 9))), .one (.lf (.int .i64 (.int 0))), .one (.lf (.int .i64 (.int 0))), .one (.lf (.bool (.o1 .not (.o2 .eq (.int 0) (.int 0))))), .one (.lf (.bool (.bool false))), .one (.lf (.ptr (.at 7) 0)), .one (.lf (.bool (.bool false))), .one (.lf (.bool (.bool false))), .one (.lf (.bool (.bool false))), .one (.lf (.sl (.at 9))), .one (.lf (.int .i64 (.o1 .llen (.at 10)))), .one (.lf (.bool (.o2 .lt (.int 0) (.o1 .llen (.at 10))))), .one (.lf (.bool (.bool false))), .one (.lf (.sl (.at 11)))] ++ List.replicate 146 (.one (.lf .junk)),
  [.box (.at 22) [.lf (.int .i64 (.o1 .asI (.o2 .lget (.o1 .asL (.o2 .lget (.at 3) (.at 18))) (.int 0)))), .lf (.int .i64 (.o1 .asI (.o2 .lget (.o1 .asL (.o2 .lget (.at 3) (.at 18))) (.int 1)))), .lf (.str (.o1 .asS (.o2 .lget (.o1 .asL (.o2 .lget (.at 3) (.at 18))) (.int 2)))), .lf (.sl (.o1 .asV (.o2 .lget (.o2 .lget (.o1 .asL (.o2 .lget (.at 3) (.at 18))) (.int 3)) (.int 0))))], .rsl (.o1 .asV (.o2 .lget (.o2 .lget (.o1 .asL (.o2 .lget (.at 3) (.at 18))) (.int 3)) (.int 0))) [.int .i64] (.o1 .asZ (.o2 .lget (.o2 .lget (.o1 .asL (.o2 .lget (.at 3) (.at 18))) (.int 3)) (.int 1))), .rsl (.at 13) [.str] (.at 14), .box (.at 19) [.lf (.ptr (.at 4) 0), .lf (.int .i64 (.o1 .asI (.o2 .lget (.at 20) (.int 0)))), .lf (.int .u64 (.o1 .asI (.o2 .lget (.at 20) (.int 1)))), .lf (.str (.o1 .asS (.o2 .lget (.at 20) (.int 2)))), .lf (.int .i64 (.o1 .asI (.o2 .lget (.at 20) (.int 3)))), .lf (.bool (.o1 .asB (.o2 .lget (.at 20) (.int 4)))), .lf (.sl (.o1 .asV (.o2 .lget (.at 20) (.int 5))))], .rsl (.o1 .asV (.o2 .lget (.at 20) (.int 5))) [.str] (.o1 .asL (.o2 .lget (.at 20) (.int 6))), .osl (.at 9) [.str] (.at 10), .box (.at 4) [.lf (.mp (.o1 .asN (.o2 .lget (.at 21) (.int 0)))), .lf (.mp (.o1 .asN (.o2 .lget (.at 21) (.int 1)))), .lf (.mp (.o1 .asN (.o2 .lget (.at 21) (.int 2)))), .lf (.sl (.o1 .asV (.o2 .lget (.at 21) (.int 3)))), .lf (.int .i64 (.o1 .asI (.o2 .lget (.at 21) (.int 8)))), .lf (.int .i64 (.o1 .asI (.o2 .lget (.at 21) (.int 9)))), .lf (.int .i64 (.o1 .asI (.o2 .lget (.at 21) (.int 10)))), .lf (.int .i64 (.o1 .asI (.o2 .lget (.at 21) (.int 11)))), .lf (.bool (.o1 .asB (.o2 .lget (.at 21) (.int 12)))), .lf (.int .i64 (.o1 .asI (.o2 .lget (.at 21) (.int 13))))], .abs (.mpp (.int .i64) [.str, .int .i64]) [(.o1 .asN (.o2 .lget (.at 21) (.int 0))), (.o1 .asL (.o2 .lget (.at 21) (.int 4)))], .abs (.mp (.str) (.int .i64)) [(.o1 .asN (.o2 .lget (.at 21) (.int 1))), (.o1 .asL (.o2 .lget (.at 21) (.int 5)))], .abs (.mp (.str) (.int .i64)) [(.o1 .asN (.o2 .lget (.at 21) (.int 2))), (.o1 .asL (.o2 .lget (.at 21) (.int 6)))], .osl (.o1 .asV (.o2 .lget (.at 21) (.int 3))) [.str, .str, .int .i64] (.o1 .asL (.o2 .lget (.at 21) (.int 7))), .rsl (.at 2) [.int .i64, .int .i64, .str, .sl [.int .i64]] (.at 3), .abs (.deep [.int .i64, .int .i64, .str, .sl [.int .i64]]) [(.at 3)]], [.I, .I, .V, .L, .N, .L, .B, .N, .L, .V, .L, .V, .I, .V, .L, .I, .B, .B, .I, .N, .L, .L, .N, .S]⟩
def LWalPlays.J0 : List D → Prop := fun l => LWalPlays.I0 [arg l 0, arg l 1, arg l 2, arg l 3, arg l 12, arg l 14, arg l 15, arg l 16, arg l 17, arg l 18, arg l 20, arg l 21] ∧ (arg l 18).toI < 25 ∧ (tx (arg l 22).toS).length ≤ 60 ∧
 ((arg l 16).toB = true → 4 ≤ (((arg l 3).toL.getD (arg l 18).toI.toNat default).toL.getD 0 default).toI) ∧ ((arg l 17).toB = true → (((arg l 3).toL.getD (arg l 18).toI.toNat default).toL.getD 0 default).toI ≠ 4)
def LWalPlays.J0M : List D → Nat := fun _ => 0
end Go.Vc
namespace Go.Vc
open Dk (Ds Fi fileAt)
namespace Wl
structure Alike (x y : Ds) : Prop where
 files : y.files = x.files
 names : y.names = x.names
 safe : y.safe = x.safe
 pend : y.pend = x.pend
 dead : y.dead = x.dead
theorem Alike.at {x y : Ds} (h : Alike x y) (i : Nat) : fileAt y i = fileAt x i := by unfold fileAt; rw [h.files]
theorem Alike.inv {x y : Ds} (h : Alike x y) (hi : Dk.Inv x) : Dk.Inv y := hi.same h.files h.names h.safe h.pend
theorem BacksE.alike {x y : Ds} {R : List Tx} {lo N : Nat} (h : BacksE x R lo N) (c : Alike x y) : BacksE y R lo N := by
 intro k hk
 rw [c.pend] at hk
 obtain ⟨s, Q, h1, h2⟩ := h k hk
 exact ⟨s, Q, by rw [c.pend, c.safe]; exact h1.files fun f _ => c.at f.ix, h2⟩
theorem Hold.alike {x y : Ds} {s lo : Nat} {Q : List Fl} (h : Hold x s Q lo) (c : Alike x y) : Hold y s Q lo :=
 ⟨by rw [c.names]; exact h.half.files fun f _ => c.at f.ix, c.pend.trans h.pend, (c.safe.trans h.safe).trans c.names.symm, c.inv h.inv⟩
theorem Mix.alike {x y : Ds} {s lo N : Nat} {Q : List Fl} (h : Mix x s Q lo N) (c : Alike x y) : Mix y s Q lo N := by
 obtain ⟨hN, h | h⟩ := h
 ·exact ⟨hN, .inl (h.alike c)⟩
 ·exact ⟨hN, .inr ⟨by rw [c.names]; exact h.1.files fun f _ => c.at f.ix, h.2.1.alike c, c.inv h.2.2.1, h.2.2.2⟩⟩
theorem Some.alike {x y : Ds} {N : Nat} (h : Some x N) (c : Alike x y) : Some y N := by
 refine ⟨c.inv h.1, fun k hk => ?_⟩
 rw [c.pend] at hk
 obtain ⟨s, Q, lo, h1, h2⟩ := h.2 k hk
 exact ⟨s, Q, lo, by rw [c.pend, c.safe]; exact h1.files fun f _ => c.at f.ix, h2⟩
theorem Tied.alike {x y : Ds} {g : Lg} {s : Nat} {Q : List Fl} (h : Tied x g s Q) (c : Alike x y) : Tied y g s Q :=
 ⟨h.next, h.found, h.cur, h.bound, fun P f e => by
  rcases h.last P f e with h1 | h1 | h1
  ·exact .inl h1
  ·refine .inr (.inl ?_)
   unfold Whole at h1 ⊢
   rw [c.at]; exact h1
  ·exact .inr (.inr h1)⟩
theorem BacksE.up {x : Ds} {R : List Tx} {lo N M : Nat} (h : BacksE x R lo N) (hM : N ≤ M) : BacksE x R lo M := fun k hk => by
 obtain ⟨s, Q, h1, h2, h3⟩ := h k hk
 exact ⟨s, Q, h1, h2, by omega⟩
theorem Mix.up {x : Ds} {s lo N M : Nat} {Q : List Fl} (h : Mix x s Q lo N) (hM : N ≤ M) : Mix x s Q lo M := by
 obtain ⟨hN, h | h⟩ := h
 ·exact ⟨by omega, .inl h⟩
 ·exact ⟨by omega, .inr ⟨h.1, h.2.1.up hM, h.2.2.1, h.2.2.2⟩⟩
theorem Some.up {x : Ds} {N M : Nat} (h : Some x N) (hM : N ≤ M) : Some x M := ⟨h.1, fun k hk => by
 obtain ⟨s, Q, lo, h1, h2⟩ := h.2 k hk
 exact ⟨s, Q, lo, h1, by omega⟩⟩
theorem Sound.up {x : Ds} {R : List Tx} {lo N M : Nat} (h : Sound x R lo N) (hM : N ≤ M) : Sound x R lo M := by
 obtain ⟨s, Q, h1, h2⟩ := h
 exact ⟨s, Q, h1, h2.up hM⟩
theorem PlayAt.idle {n : Nat} {X : List Tx} {safe : Int} {sick ret : Bool} {y y' : Ds} {g : Lg} (h : PlayAt n X safe sick ret y g) (c : Alike y y') : PlayAt (n + 1) X safe sick ret y' g := by
 unfold PlayAt at h ⊢
 split
 ·rename_i hr
  rw [if_pos hr] at h
  exact ⟨h.1, (h.2.alike c).up (by omega)⟩
 ·rename_i hr
  rw [if_neg hr] at h
  split
  ·rename_i hs
   rw [if_pos hs] at h
   rcases h with ⟨h1, R, lo, h2, h3, h4, h5⟩ | ⟨lo, ⟨s, Q, h1, h2⟩, h3⟩
   ·exact .inl ⟨c.dead.trans h1, R, lo, (h2.alike c).up (by omega), c.inv h3, h4, h5⟩
   ·exact .inr ⟨lo, ⟨s, Q, h1, (h2.alike c).up (by omega)⟩, h3⟩
  ·rename_i hs
   rw [if_neg hs] at h
   obtain ⟨s, Q, lo, h1, h2, h3, h4, h5⟩ := h
   exact ⟨s, Q, lo, h1, h2, (h3.alike c).up (by omega), h4.alike c, fun hn => (h5 hn).alike c⟩
theorem Mix.play {n : Nat} {y : Ds} {s lo : Nat} {Q : List Fl} (h : Mix y s Q lo (n + 1)) (hd : y.dead = false) (limit : Int) (hl : limit < 9223372036854775808) {b m : Nat} (hL : Lim m b y) {safe : Int} (hs : safe ≤ lo) :
  ∃ g, Wl.opened y limit = (some (g, recsOf Q), 0) ∧ Neat y.files.length 0 g ∧ PlayAt (n + 1) (recsOf Q) safe false false y g := by
 obtain ⟨g, s', o1, o2, o3, o4, o5, o6, o7, o8⟩ := h.opened (by omega) hd limit
 refine ⟨g, o1, ⟨?_, ?_, ?_, o6⟩, ?_⟩
 ·have h1 := hL.hist.names h.inv
  rw [h.half.names, List.length_map] at h1
  rw [o3]; exact h1
 ·rw [o5]; omega
 ·rw [o4]; exact ⟨Int.le_refl _, Int.le_refl _⟩
 ·unfold PlayAt
  rw [if_neg (by simp), if_neg (by simp)]
  exact ⟨s', Q, lo, rfl, hs, o7.up (by omega), o8, fun hn => absurd o2 hn⟩
theorem PlayAt.reopen {n : Nat} {X : List Tx} {safe : Int} {sick : Bool} {y : Ds} {g : Lg} (h : PlayAt n X safe sick false y g) (hd : y.dead = false) (limit : Int) (hl : limit < 9223372036854775808) {b m : Nat} (hL : Lim m b y) :
  ∃ g', Wl.opened y limit = (some (g', X), 0) ∧ Neat y.files.length 0 g' ∧ safe ≤ X.length ∧ X.length ≤ n + 1 ∧ PlayAt (n + 1) X (min safe X.length) false false y g' := by
 have key : ∀ s Q, ∀ lo : Nat, recsOf Q = X → safe ≤ lo → Mix y s Q lo (n + 1) → ∃ g', Wl.opened y limit = (some (g', X), 0) ∧ Neat y.files.length 0 g' ∧ safe ≤ X.length ∧ X.length ≤ n + 1 ∧ PlayAt (n + 1) X (min safe X.length) false false y g' := by
  intro s Q lo hQ hs hM
  subst hQ
  have hle := hM.le
  obtain ⟨g', o1, o2, o3⟩ := hM.play hd limit hl hL (safe := min safe (recsOf Q).length) (by omega)
  exact ⟨g', o1, o2, by omega, by have := hM.1; omega, o3⟩
 unfold PlayAt at h
 rw [if_neg (by simp)] at h
 split at h
 ·rcases h with ⟨h1, _⟩ | ⟨lo, ⟨s, Q, h1, h2⟩, h3⟩
  ·rw [hd] at h1; cases h1
  ·exact key s Q lo h1 h3 h2
 ·obtain ⟨s, Q, lo, h1, h2, h3, _, _⟩ := h
  exact key s Q lo h1 h2 h3
theorem PlayAt.back {n : Nat} {X : List Tx} {safe : Int} {sick ret : Bool} {y : Ds} {g : Lg} (h : PlayAt n X safe sick ret y g) (ch : List Int) (limit : Int) (hl : limit < 9223372036854775808) {b m : Nat} (hL : Lim m b y) :
  ∃ g' X', Wl.opened (Dk.restart y ch) limit = (some (g', X'), 0) ∧ Neat (Dk.restart y ch).files.length 0 g' ∧ (ret = false → ∃ k, X' = X.take k ∧ safe ≤ X'.length) ∧ X'.length ≤ n + 1 ∧ PlayAt (n + 1) X' X'.length false false (Dk.restart y ch) g' := by
 have hL2 := lim_restart hL ch
 have fin : ∀ s Q, Mix (Dk.restart y ch) s Q (recsOf Q).length (n + 1) → ∃ g', Wl.opened (Dk.restart y ch) limit = (some (g', recsOf Q), 0) ∧ Neat (Dk.restart y ch).files.length 0 g' ∧ PlayAt (n + 1) (recsOf Q) (recsOf Q).length false false (Dk.restart y ch) g' := by
  intro s Q hM
  exact hM.play rfl limit hl hL2 (Int.le_refl _)
 have key : ∀ R, ∀ lo : Nat, BacksE y R lo (n + 1) → Dk.Inv y → R <+: X → safe ≤ lo → ∃ g' X', Wl.opened (Dk.restart y ch) limit = (some (g', X'), 0) ∧ Neat (Dk.restart y ch).files.length 0 g' ∧ (ret = false → ∃ k, X' = X.take k ∧ safe ≤ X'.length) ∧ X'.length ≤ n + 1 ∧ PlayAt (n + 1) X' X'.length false false (Dk.restart y ch) g' := by
  intro R lo hB hi hR hs
  obtain ⟨s, Q, k, h1, h2, h3, h4, h5⟩ := hB.restart hi ch
  have hlen : (recsOf Q).length = k := by rw [h4, List.length_take]; omega
  obtain ⟨g', o1, o2, o3⟩ := fin s Q ⟨by omega, .inl h1⟩
  refine ⟨g', _, o1, o2, fun _ => ⟨k, ?_, by omega⟩, by omega, o3⟩
  obtain ⟨T, rfl⟩ := hR
  rw [h4, List.take_append_of_le_length h3]
 unfold PlayAt at h
 split at h
 ·obtain ⟨s, Q, h1⟩ := h.2.restart ch
  obtain ⟨g', o1, o2, o3⟩ := fin s Q h1
  rename_i hr
  exact ⟨g', _, o1, o2, fun h0 => absurd (h0.symm.trans hr) (by decide), by have := h1.1; omega, o3⟩
 ·split at h
  ·rcases h with ⟨h1, R, lo, h2, h3, h4, h5⟩ | ⟨lo, ⟨s, Q, h1, h2⟩, h3⟩
   ·exact key R lo h2 h3 h4 h5
   ·exact key _ lo h2.backs h2.inv (by rw [h1]; exact List.prefix_refl _) h3
  ·obtain ⟨s, Q, lo, h1, h2, h3, _, _⟩ := h
   exact key _ lo h3.backs h3.inv (by rw [h1]; exact List.prefix_refl _) h2
theorem PlayAt.append {n : Nat} {X : List Tx} {safe : Int} {y : Ds} {g : Lg} (h : PlayAt n X safe false false y g) {r : Tx} (hr : r.length ≤ 4194304) (hn : n ≤ 1000) :
  X.length ≤ n + 1 ∧ ((Wl.append y g r).2.2 = 0 → PlayAt (n + 1) (X ++ [r]) safe false false (Wl.append y g r).1 (Wl.append y g r).2.1) ∧
  ((Wl.append y g r).2.2 ≠ 0 → (Wl.append y g r).2.2 ≠ 9 → PlayAt (n + 1) X safe true false (Wl.append y g r).1 (Wl.append y g r).2.1) ∧
  ((Wl.append y g r).2.2 = 9 → PlayAt (n + 1) (X ++ [r]) safe true false (Wl.append y g r).1 (Wl.append y g r).2.1) := by
 unfold PlayAt at h
 rw [if_neg (by simp), if_neg (by simp)] at h
 obtain ⟨s, Q, lo, rfl, hs, hM, hT, hh⟩ := h
 obtain ⟨a1, a2, R, a3, a4, a5⟩ := hM.wappend hT hh hr (by omega)
 have hl := hM.1
 refine ⟨by omega, fun h0 => ?_, fun h0 h9 => ?_, fun h9 => ?_⟩
 ·obtain ⟨Q', _, q2, q3, q4⟩ := a1 h0
  unfold PlayAt
  rw [if_neg (by simp), if_neg (by simp)]
  exact ⟨s, Q', lo, q2, hs, ⟨by rw [q2, List.length_append, List.length_singleton]; omega, .inl q3⟩, q4, fun _ => q3⟩
 ·unfold PlayAt
  rw [if_neg (by simp), if_pos rfl]
  exact .inr ⟨lo, (a2 h0 h9).up (by omega), hs⟩
 ·unfold PlayAt
  rw [if_neg (by simp), if_pos rfl]
  refine .inl ⟨wappend_nine h9, R, lo, a4, a5, ?_, hs⟩
  rcases a3 with rfl | rfl
  ·exact List.prefix_append _ _
  ·exact List.prefix_refl _
theorem PlayAt.sync {n : Nat} {X : List Tx} {safe : Int} {y : Ds} {g : Lg} (h : PlayAt n X safe false false y g) :
  ((Wl.sync y g).2.2 = 0 → PlayAt (n + 1) X X.length false false (Wl.sync y g).1 (Wl.sync y g).2.1) ∧
  ((Wl.sync y g).2.2 ≠ 0 → PlayAt (n + 1) X safe true false (Wl.sync y g).1 (Wl.sync y g).2.1) := by
 unfold PlayAt at h
 rw [if_neg (by simp), if_neg (by simp)] at h
 obtain ⟨s, Q, lo, rfl, hs, hM, hT, hh⟩ := h
 obtain ⟨t1, t2⟩ := hM.half.wsync hM.inv hT
 have hS := synced_wsync hM.inv g
 have hM2 := hM.synced hS
 refine ⟨fun h0 => ?_, fun h0 => ?_⟩
 ·unfold PlayAt
  rw [if_neg (by simp), if_neg (by simp)]
  refine ⟨s, Q, _, rfl, Int.le_refl _, (hM2.full (t2 h0)).up (by omega), t1, fun hn => ?_⟩
  rw [(sync_lg y g).2.2.2] at hn
  have hH := (hh hn).synced hS
  exact ⟨hH.half.full fun P f e => t2 h0 f (by rw [e]; simp), hH.pend, hH.safe, hH.inv⟩
 ·unfold PlayAt
  rw [if_neg (by simp), if_pos rfl]
  exact .inr ⟨lo, ⟨s, Q, rfl, hM2.up (by omega)⟩, hs⟩
theorem PlayAt.retire {n : Nat} {X : List Tx} {safe : Int} {y : Ds} {g : Lg} (h : PlayAt n X safe false false y g) :
  ((Wl.retire y g).2.2 = 0 → PlayAt (n + 1) [] 0 false false (Wl.retire y g).1 (Wl.retire y g).2.1) ∧
  ((Wl.retire y g).2.2 ≠ 0 → ∀ X', PlayAt (n + 1) X' 0 true true (Wl.retire y g).1 (Wl.retire y g).2.1) := by
 unfold PlayAt at h
 rw [if_neg (by simp), if_neg (by simp)] at h
 obtain ⟨s, Q, lo, rfl, hs, hM, hT, hh⟩ := h
 obtain ⟨r1, r2⟩ := hM.retire hT
 refine ⟨fun h0 => ?_, fun h0 X' => ?_⟩
 ·obtain ⟨s', q1, q2, q3⟩ := r2 h0
  unfold PlayAt
  rw [if_neg (by simp), if_neg (by simp)]
  exact ⟨s', [], 0, rfl, Int.le_refl _, q1.up (by omega), q2, fun hn => absurd (by rw [q3]; rfl) hn⟩
 ·unfold PlayAt
  rw [if_pos rfl]
  exact ⟨rfl, r1.up (by omega)⟩
theorem removeAll_files : ∀ (l : List Nat) (x : Ds), (removeAll x l).1.files.length = x.files.length
 | [], x => rfl
 | q :: l, x => by
  rw [removeAll]
  split
  ·exact remove_files _ _
  ·rw [removeAll_files l]; exact remove_files _ _
theorem wretire_files (x : Ds) (g : Lg) : (Wl.retire x g).1.files.length = x.files.length := by
 unfold Wl.retire
 split
 ·rfl
 ·unfold ret2
  split
  ·exact removeAll_files _ _
  ·split
   ·exact removeAll_files _ _
   ·rw [syncNames_files]; exact removeAll_files _ _
theorem lim_wretire2 {n b : Nat} {x : Ds} {g : Lg} (h : Lim n b x) : Lim (n + x.files.length + 1) b (Wl.retire x g).1 := by
 have hl : (files x).length ≤ x.files.length := Nat.le_trans (List.length_filterMap_le _ _) (h.hist.names h.inv)
 have h1 := lim_removeAll (files x) h
 unfold Wl.retire
 split
 ·exact h.mono (by omega) (Nat.le_refl _)
 ·unfold ret2
  split
  ·exact h1.mono (by omega) (Nat.le_refl _)
  ·split
   ·exact h1.mono (by omega) (Nat.le_refl _)
   ·exact (lim_syncNames h1).mono (by omega) (Nat.le_refl _)
theorem Neat.retire {k : Nat} {z : Int} {g : Lg} (h : Neat k z g) (x : Ds) (hz : 0 ≤ z) : Neat k z (Wl.retire x g).2.1 := by
 have hb : Neat k z (bareLg g) := ⟨Nat.zero_le _, h.limit, ⟨Int.le_refl _, hz⟩, h.next⟩
 unfold Wl.retire
 split
 ·exact h
 ·unfold ret2
  split
  ·exact hb
  ·split
   ·exact hb
   ·exact hb
theorem Neat.more {k k' : Nat} {z z' : Int} {g : Lg} (h : Neat k z g) (hk : k ≤ k') (hz : z ≤ z') : Neat k' z' g :=
 ⟨Nat.le_trans h.found hk, h.limit, ⟨h.size.1, by have := h.size.2; omega⟩, h.next⟩
end Wl
end Go.Vc
namespace Go.Vc
set_option linter.unusedVariables false
set_option maxRecDepth 100000
abbrev LWalPlays.K0 (i0 : Int) (i1 : Int) (v2 : Value) (l3 : List D) (n4 : Nat) (l5 : List D) (b6 : Bool) (n7 : Nat) (l8 : List D) (v9 : Value) (l10 : List D) (v11 : Value) (i12 : Int) (v13 : Value) (l14 : List D) (i15 : Int) (b16 : Bool) (b17 : Bool) (i18 : Int) (n19 : Nat) (l20 : List D) (l21 : List D) : Prop :=
 (
 (
 ∀ n22 : Nat,
 ∀ s23 : ByteArray,
 ((s23.size : Int) ≤ 9223372036854775807) →
     LWalPlays.J0 [.I i0, .I i1, .V v2, .L l3, .N n4, .L l5, .B b6, .N n7, .L l8, .V v9, .L l10, .V v11, .I i12, .V v13, .L l14, .I i15, .B b16, .B b17, .I i18, .N n19, .L l20, .L l21, .S s23] →
 ((
 (((((l3.getD i18.toNat default)).toL.getD (0 : Int).toNat default)).toI = 1) →
      pAppend.sig.pre [.N n19, .N n4, .L l20, .L l21, .S s23] ∧ (
 ∀ l24 l25 : List D,
 ∀ i26 : Int,
      pAppend.sig.post [.N n19, .N n4, .L l20, .L l21, .S s23, .L l24, .L l25, .I i26] →
 R64 i26 →
 ∀ v27 : Value,
 ((((([] : List D) ++ l14).length : Nat) : Int) ≤ (8796093022208 : Int)) ∧ (((((([] : List D) ++ l14).length : Nat) : Int) ≤ (8796093022208 : Int)) →
 ∀ v28 v29 : Value,
 (((((([] : List D) ++ l14) ++ ((D.S s23) :: ([] : List D))).length : Nat) : Int) ≤ (8796093022208 : Int)) ∧ ((((((([] : List D) ++ l14) ++ ((D.S s23) :: ([] : List D))).length : Nat) : Int) ≤ (8796093022208 : Int)) →
 ∀ v30 : Value,
 ((
 (i26 ≠ 0) →
 ((
 (i26 ≠ 9) →
 ((0 : Int) ≤ (IntKind.wrap .i64 (((((([] : List D) ++ l14) ++ ((D.S s23) :: ([] : List D))).length : Nat) : Int) - (1 : Int)))) ∧ (((0 : Int) ≤ (IntKind.wrap .i64 (((((([] : List D) ++ l14) ++ ((D.S s23) :: ([] : List D))).length : Nat) : Int) - (1 : Int)))) →
 ((IntKind.wrap .i64 (((((([] : List D) ++ l14) ++ ((D.S s23) :: ([] : List D))).length : Nat) : Int) - (1 : Int))) ≤ ((((([] : List D) ++ l14) ++ ((D.S s23) :: ([] : List D))).length : Nat) : Int)) ∧ (((IntKind.wrap .i64 (((((([] : List D) ++ l14) ++ ((D.S s23) :: ([] : List D))).length : Nat) : Int) - (1 : Int))) ≤ ((((([] : List D) ++ l14) ++ ((D.S s23) :: ([] : List D))).length : Nat) : Int)) →
 ∀ v31 : Value,
 ((
 (b16 = true) →
       Bk LWalPlays.I0 LWalPlays.I0M [.I i0, .I i1, .V v2, .L l3, .I i26, .L (((([] : List D) ++ l14) ++ ((D.S s23) :: ([] : List D))).take (IntKind.wrap .i64 (((((([] : List D) ++ l14) ++ ((D.S s23) :: ([] : List D))).length : Nat) : Int) - (1 : Int))).toNat), .I i15, .B true, .B b17, .I (IntKind.wrap .i64 (i18 + (1 : Int))), .L l24, .L l25] [.I i0, .I i1, .V v2, .L l3, .I i12, .L l14, .I i15, .B b16, .B b17, .I i18, .L l20, .L l21]) ∧ (
 (b16 = false) →
       Bk LWalPlays.I0 LWalPlays.I0M [.I i0, .I i1, .V v2, .L l3, .I i26, .L (((([] : List D) ++ l14) ++ ((D.S s23) :: ([] : List D))).take (IntKind.wrap .i64 (((((([] : List D) ++ l14) ++ ((D.S s23) :: ([] : List D))).length : Nat) : Int) - (1 : Int))).toNat), .I i15, .B (!(i26 == (0 : Int))), .B b17, .I (IntKind.wrap .i64 (i18 + (1 : Int))), .L l24, .L l25] [.I i0, .I i1, .V v2, .L l3, .I i12, .L l14, .I i15, .B b16, .B b17, .I i18, .L l20, .L l21]))))) ∧ (
 (i26 = 9) →
 ((
 (b16 = true) →
       Bk LWalPlays.I0 LWalPlays.I0M [.I i0, .I i1, .V v2, .L l3, .I i26, .L ((([] : List D) ++ l14) ++ ((D.S s23) :: ([] : List D))), .I i15, .B true, .B b17, .I (IntKind.wrap .i64 (i18 + 1)), .L l24, .L l25] [.I i0, .I i1, .V v2, .L l3, .I i12, .L l14, .I i15, .B b16, .B b17, .I i18, .L l20, .L l21]) ∧ (
 (b16 = false) →
       Bk LWalPlays.I0 LWalPlays.I0M [.I i0, .I i1, .V v2, .L l3, .I i26, .L ((([] : List D) ++ l14) ++ ((D.S s23) :: ([] : List D))), .I i15, .B (!(i26 == 0)), .B b17, .I (IntKind.wrap .i64 (i18 + 1)), .L l24, .L l25] [.I i0, .I i1, .V v2, .L l3, .I i12, .L l14, .I i15, .B b16, .B b17, .I i18, .L l20, .L l21]))))) ∧ (
 (i26 = 0) →
 ((
 (b16 = true) →
       Bk LWalPlays.I0 LWalPlays.I0M [.I i0, .I i1, .V v2, .L l3, .I i26, .L ((([] : List D) ++ l14) ++ ((D.S s23) :: ([] : List D))), .I i15, .B true, .B b17, .I (IntKind.wrap .i64 (i18 + 1)), .L l24, .L l25] [.I i0, .I i1, .V v2, .L l3, .I i12, .L l14, .I i15, .B b16, .B b17, .I i18, .L l20, .L l21]) ∧ (
 (b16 = false) →
       Bk LWalPlays.I0 LWalPlays.I0M [.I i0, .I i1, .V v2, .L l3, .I i26, .L ((([] : List D) ++ l14) ++ ((D.S s23) :: ([] : List D))), .I i15, .B (!(i26 == 0)), .B b17, .I (IntKind.wrap .i64 (i18 + 1)), .L l24, .L l25] [.I i0, .I i1, .V v2, .L l3, .I i12, .L l14, .I i15, .B b16, .B b17, .I i18, .L l20, .L l21])))))))) ∧ (
 (((((l3.getD i18.toNat default)).toL.getD (0 : Int).toNat default)).toI ≠ 1) →
 ((
 (((((l3.getD i18.toNat default)).toL.getD (0 : Int).toNat default)).toI = 2) →
      pSync.sig.pre [.N n19, .N n4, .L l20, .L l21] ∧ (
 ∀ l24 l25 : List D,
 ∀ i26 : Int,
      pSync.sig.post [.N n19, .N n4, .L l20, .L l21, .L l24, .L l25, .I i26] →
 R64 i26 →
 ((
 (i26 = 0) →
 ((
 (b16 = true) →
       Bk LWalPlays.I0 LWalPlays.I0M [.I i0, .I i1, .V v2, .L l3, .I i26, .L l14, .I ((l14.length : Nat) : Int), .B true, .B b17, .I (IntKind.wrap .i64 (i18 + 1)), .L l24, .L l25] [.I i0, .I i1, .V v2, .L l3, .I i12, .L l14, .I i15, .B b16, .B b17, .I i18, .L l20, .L l21]) ∧ (
 (b16 = false) →
       Bk LWalPlays.I0 LWalPlays.I0M [.I i0, .I i1, .V v2, .L l3, .I i26, .L l14, .I ((l14.length : Nat) : Int), .B (!(i26 == 0)), .B b17, .I (IntKind.wrap .i64 (i18 + 1)), .L l24, .L l25] [.I i0, .I i1, .V v2, .L l3, .I i12, .L l14, .I i15, .B b16, .B b17, .I i18, .L l20, .L l21]))) ∧ (
 (i26 ≠ 0) →
 ((
 (b16 = true) →
       Bk LWalPlays.I0 LWalPlays.I0M [.I i0, .I i1, .V v2, .L l3, .I i26, .L l14, .I i15, .B true, .B b17, .I (IntKind.wrap .i64 (i18 + 1)), .L l24, .L l25] [.I i0, .I i1, .V v2, .L l3, .I i12, .L l14, .I i15, .B b16, .B b17, .I i18, .L l20, .L l21]) ∧ (
 (b16 = false) →
       Bk LWalPlays.I0 LWalPlays.I0M [.I i0, .I i1, .V v2, .L l3, .I i26, .L l14, .I i15, .B (!(i26 == 0)), .B b17, .I (IntKind.wrap .i64 (i18 + 1)), .L l24, .L l25] [.I i0, .I i1, .V v2, .L l3, .I i12, .L l14, .I i15, .B b16, .B b17, .I i18, .L l20, .L l21])))))) ∧ (
 (((((l3.getD i18.toNat default)).toL.getD (0 : Int).toNat default)).toI ≠ 2) →
 ((
 (((((l3.getD i18.toNat default)).toL.getD (0 : Int).toNat default)).toI = 3) →
       pRetire.sig.pre [.N n19, .N n4, .L l20, .L l21] ∧ (
 ∀ l24 l25 : List D,
 ∀ i26 : Int,
       pRetire.sig.post [.N n19, .N n4, .L l20, .L l21, .L l24, .L l25, .I i26] →
 R64 i26 →
 ((
 (i26 = 0) →
 ∀ v27 : Value,
 ((
 (b16 = true) →
        Bk LWalPlays.I0 LWalPlays.I0M [.I i0, .I i1, .V v2, .L l3, .I i26, .L ([] : List D), .I 0, .B true, .B b17, .I (IntKind.wrap .i64 (i18 + 1)), .L l24, .L l25] [.I i0, .I i1, .V v2, .L l3, .I i12, .L l14, .I i15, .B b16, .B b17, .I i18, .L l20, .L l21]) ∧ (
 (b16 = false) →
        Bk LWalPlays.I0 LWalPlays.I0M [.I i0, .I i1, .V v2, .L l3, .I i26, .L ([] : List D), .I 0, .B (!(i26 == 0)), .B b17, .I (IntKind.wrap .i64 (i18 + 1)), .L l24, .L l25] [.I i0, .I i1, .V v2, .L l3, .I i12, .L l14, .I i15, .B b16, .B b17, .I i18, .L l20, .L l21]))) ∧ (
 (i26 ≠ 0) →
 ((
 (b16 = true) →
        Bk LWalPlays.I0 LWalPlays.I0M [.I i0, .I i1, .V v2, .L l3, .I i26, .L l14, .I 0, .B true, .B true, .I (IntKind.wrap .i64 (i18 + 1)), .L l24, .L l25] [.I i0, .I i1, .V v2, .L l3, .I i12, .L l14, .I i15, .B b16, .B b17, .I i18, .L l20, .L l21]) ∧ (
 (b16 = false) →
        Bk LWalPlays.I0 LWalPlays.I0M [.I i0, .I i1, .V v2, .L l3, .I i26, .L l14, .I 0, .B (!(i26 == 0)), .B true, .I (IntKind.wrap .i64 (i18 + 1)), .L l24, .L l25] [.I i0, .I i1, .V v2, .L l3, .I i12, .L l14, .I i15, .B b16, .B b17, .I i18, .L l20, .L l21])))))) ∧ (
 (((((l3.getD i18.toNat default)).toL.getD (0 : Int).toNat default)).toI ≠ 3) →
 ((
 (((((l3.getD i18.toNat default)).toL.getD (0 : Int).toNat default)).toI = 4) →
 ((
 (((((l3.getD i18.toNat default)).toL.getD (0 : Int).toNat default)).toI = 5) →
        qRestart.sig.pre [.N n4, .L l21, (D.V ((((((l3.getD i18.toNat default)).toL.getD (3 : Int).toNat default)).toL.getD (0 : Int).toNat default)).toV), (D.Z ((((((l3.getD i18.toNat default)).toL.getD (3 : Int).toNat default)).toL.getD (1 : Int).toNat default)).toLi)] ∧ (
 ∀ l24 : List D,
        qRestart.sig.post [.N n4, .L l21, (D.V ((((((l3.getD i18.toNat default)).toL.getD (3 : Int).toNat default)).toL.getD (0 : Int).toNat default)).toV), (D.Z ((((((l3.getD i18.toNat default)).toL.getD (3 : Int).toNat default)).toL.getD (1 : Int).toNat default)).toLi), .L l24] →
 ((
        pOpen.sig.pre [.N n4, .L l24, .I i1] ∧ (
 ∀ n25 : Nat,
 ∀ l26 : List D,
 ∀ v27 : Value,
 ∀ l28 : List D,
        pOpen.sig.post [.N n4, .L l24, .I i1, .N n25, .L l26, .V v27, .L l28] →
 (EK.ok [.str] (D.L l28)) →
                qDead.sig.pre [.N n4, .L l24] ∧ (
 ∀ b29 : Bool,
        qDead.sig.post [.N n4, .L l24, .B b29] →
 ((
 (b29 = true) →
         LWalPlays.sig.post [.I i0, .I i1, .V v2, .L l3, .B false]) ∧ (
 (b29 = false) →
 ((
 (b17 = false) →
         fits7.sig.pre [.V v27, .L l28, .V v13, .L l14, .I i15] ∧ (
 ∀ i30 : Int,
         fits7.sig.post [.V v27, .L l28, .V v13, .L l14, .I i15, .I i30] →
 R64 i30 →
 ((
 (i30 ≠ 0) →
          LWalPlays.sig.post [.I i0, .I i1, .V v2, .L l3, .B false]) ∧ (
 (i30 = 0) →
          Bk LWalPlays.I0 LWalPlays.I0M [.I i0, .I i1, .V v2, .L l3, .I (0 : Int), .L l28, .I ((l28.length : Nat) : Int), .B (!((0 : Int) == (0 : Int))), .B false, .I (IntKind.wrap .i64 (i18 + (1 : Int))), .L l26, .L l24] [.I i0, .I i1, .V v2, .L l3, .I i12, .L l14, .I i15, .B b16, .B b17, .I i18, .L l20, .L l21])))) ∧ (
 (b17 = true) →
         Bk LWalPlays.I0 LWalPlays.I0M [.I i0, .I i1, .V v2, .L l3, .I (0 : Int), .L l28, .I ((l28.length : Nat) : Int), .B (!((0 : Int) == (0 : Int))), .B false, .I (IntKind.wrap .i64 (i18 + (1 : Int))), .L l26, .L l24] [.I i0, .I i1, .V v2, .L l3, .I i12, .L l14, .I i15, .B b16, .B b17, .I i18, .L l20, .L l21]))))))) ∧ (
        pOpen.sig.pre [.N n4, .L l24, .I i1] ∧ (
 ∀ v25 : Value,
 ∀ l26 : List D,
 ∀ i27 : Int,
        pOpen.sig.post2 [.N n4, .L l24, .I i1, .V v25, .L l26, .I i27] →
 R64 i27 →
 (EK.ok [.str] (D.L l26)) →
                qDead.sig.pre [.N n4, .L l24] ∧ (
 ∀ b28 : Bool,
        qDead.sig.post [.N n4, .L l24, .B b28] →
 ((
 (b28 = true) →
 ((
 (i27 ≠ 9) →
         LWalPlays.sig.post [.I i0, .I i1, .V v2, .L l3, .B false]) ∧ (
 (i27 = 9) →
         Bk LWalPlays.I0 LWalPlays.I0M [.I i0, .I i1, .V v2, .L l3, .I 0, .L l14, .I i15, .B b16, .B b17, .I (IntKind.wrap .i64 (i18 + 1)), .L l20, .L l24] [.I i0, .I i1, .V v2, .L l3, .I i12, .L l14, .I i15, .B b16, .B b17, .I i18, .L l20, .L l21]))) ∧ (
 (b28 = false) →
 ((
 (i27 ≠ 0) →
         LWalPlays.sig.post [.I i0, .I i1, .V v2, .L l3, .B false]) ∧ (
 (i27 = 0) →
         LWalPlays.sig.post [.I i0, .I i1, .V v2, .L l3, .B false])))))))))) ∧ (
 (((((l3.getD i18.toNat default)).toL.getD (0 : Int).toNat default)).toI ≠ 5) →
 ((
        pOpen.sig.pre [.N n4, .L l21, .I i1] ∧ (
 ∀ n24 : Nat,
 ∀ l25 : List D,
 ∀ v26 : Value,
 ∀ l27 : List D,
        pOpen.sig.post [.N n4, .L l21, .I i1, .N n24, .L l25, .V v26, .L l27] →
 (EK.ok [.str] (D.L l27)) →
                qDead.sig.pre [.N n4, .L l21] ∧ (
 ∀ b28 : Bool,
        qDead.sig.post [.N n4, .L l21, .B b28] →
 ((
 (b28 = true) →
         LWalPlays.sig.post [.I i0, .I i1, .V v2, .L l3, .B false]) ∧ (
 (b28 = false) →
 ((
 (b17 = false) →
         fits7.sig.pre [.V v26, .L l27, .V v13, .L l14, .I i15] ∧ (
 ∀ i29 : Int,
         fits7.sig.post [.V v26, .L l27, .V v13, .L l14, .I i15, .I i29] →
 R64 i29 →
 ((
 (i29 ≠ 0) →
          LWalPlays.sig.post [.I i0, .I i1, .V v2, .L l3, .B false]) ∧ (
 (i29 = 0) →
          Bk LWalPlays.I0 LWalPlays.I0M [.I i0, .I i1, .V v2, .L l3, .I (0 : Int), .L l27, .I (minI i15 ((l27.length : Nat) : Int)), .B (!((0 : Int) == (0 : Int))), .B false, .I (IntKind.wrap .i64 (i18 + (1 : Int))), .L l25, .L l21] [.I i0, .I i1, .V v2, .L l3, .I i12, .L l14, .I i15, .B b16, .B b17, .I i18, .L l20, .L l21])))) ∧ (
 (b17 = true) →
         Bk LWalPlays.I0 LWalPlays.I0M [.I i0, .I i1, .V v2, .L l3, .I (0 : Int), .L l27, .I (minI i15 ((l27.length : Nat) : Int)), .B (!((0 : Int) == (0 : Int))), .B false, .I (IntKind.wrap .i64 (i18 + (1 : Int))), .L l25, .L l21] [.I i0, .I i1, .V v2, .L l3, .I i12, .L l14, .I i15, .B b16, .B b17, .I i18, .L l20, .L l21]))))))) ∧ (
        pOpen.sig.pre [.N n4, .L l21, .I i1] ∧ (
 ∀ v24 : Value,
 ∀ l25 : List D,
 ∀ i26 : Int,
        pOpen.sig.post2 [.N n4, .L l21, .I i1, .V v24, .L l25, .I i26] →
 R64 i26 →
 (EK.ok [.str] (D.L l25)) →
                qDead.sig.pre [.N n4, .L l21] ∧ (
 ∀ b27 : Bool,
        qDead.sig.post [.N n4, .L l21, .B b27] →
 ((
 (b27 = true) →
 ((
 (i26 ≠ 9) →
         LWalPlays.sig.post [.I i0, .I i1, .V v2, .L l3, .B false]) ∧ (
 (i26 = 9) →
         Bk LWalPlays.I0 LWalPlays.I0M [.I i0, .I i1, .V v2, .L l3, .I 0, .L l14, .I i15, .B b16, .B b17, .I (IntKind.wrap .i64 (i18 + 1)), .L l20, .L l21] [.I i0, .I i1, .V v2, .L l3, .I i12, .L l14, .I i15, .B b16, .B b17, .I i18, .L l20, .L l21]))) ∧ (
 (b27 = false) →
 ((
 (i26 ≠ 0) →
         LWalPlays.sig.post [.I i0, .I i1, .V v2, .L l3, .B false]) ∧ (
 (i26 = 0) →
         LWalPlays.sig.post [.I i0, .I i1, .V v2, .L l3, .B false]))))))))))) ∧ (
 (((((l3.getD i18.toNat default)).toL.getD (0 : Int).toNat default)).toI ≠ 4) →
 ((
 (((((l3.getD i18.toNat default)).toL.getD (0 : Int).toNat default)).toI = 5) →
        qRestart.sig.pre [.N n4, .L l21, (D.V ((((((l3.getD i18.toNat default)).toL.getD (3 : Int).toNat default)).toL.getD (0 : Int).toNat default)).toV), (D.Z ((((((l3.getD i18.toNat default)).toL.getD (3 : Int).toNat default)).toL.getD (1 : Int).toNat default)).toLi)] ∧ (
 ∀ l24 : List D,
        qRestart.sig.post [.N n4, .L l21, (D.V ((((((l3.getD i18.toNat default)).toL.getD (3 : Int).toNat default)).toL.getD (0 : Int).toNat default)).toV), (D.Z ((((((l3.getD i18.toNat default)).toL.getD (3 : Int).toNat default)).toL.getD (1 : Int).toNat default)).toLi), .L l24] →
 ((
        pOpen.sig.pre [.N n4, .L l24, .I i1] ∧ (
 ∀ n25 : Nat,
 ∀ l26 : List D,
 ∀ v27 : Value,
 ∀ l28 : List D,
        pOpen.sig.post [.N n4, .L l24, .I i1, .N n25, .L l26, .V v27, .L l28] →
 (EK.ok [.str] (D.L l28)) →
                qDead.sig.pre [.N n4, .L l24] ∧ (
 ∀ b29 : Bool,
        qDead.sig.post [.N n4, .L l24, .B b29] →
 ((
 (b29 = true) →
         LWalPlays.sig.post [.I i0, .I i1, .V v2, .L l3, .B false]) ∧ (
 (b29 = false) →
 ((
 (b17 = false) →
         fits7.sig.pre [.V v27, .L l28, .V v13, .L l14, .I i15] ∧ (
 ∀ i30 : Int,
         fits7.sig.post [.V v27, .L l28, .V v13, .L l14, .I i15, .I i30] →
 R64 i30 →
 ((
 (i30 ≠ 0) →
          LWalPlays.sig.post [.I i0, .I i1, .V v2, .L l3, .B false]) ∧ (
 (i30 = 0) →
          Bk LWalPlays.I0 LWalPlays.I0M [.I i0, .I i1, .V v2, .L l3, .I (0 : Int), .L l28, .I ((l28.length : Nat) : Int), .B (!((0 : Int) == (0 : Int))), .B false, .I (IntKind.wrap .i64 (i18 + (1 : Int))), .L l26, .L l24] [.I i0, .I i1, .V v2, .L l3, .I i12, .L l14, .I i15, .B b16, .B b17, .I i18, .L l20, .L l21])))) ∧ (
 (b17 = true) →
         Bk LWalPlays.I0 LWalPlays.I0M [.I i0, .I i1, .V v2, .L l3, .I (0 : Int), .L l28, .I ((l28.length : Nat) : Int), .B (!((0 : Int) == (0 : Int))), .B false, .I (IntKind.wrap .i64 (i18 + (1 : Int))), .L l26, .L l24] [.I i0, .I i1, .V v2, .L l3, .I i12, .L l14, .I i15, .B b16, .B b17, .I i18, .L l20, .L l21]))))))) ∧ (
        pOpen.sig.pre [.N n4, .L l24, .I i1] ∧ (
 ∀ v25 : Value,
 ∀ l26 : List D,
 ∀ i27 : Int,
        pOpen.sig.post2 [.N n4, .L l24, .I i1, .V v25, .L l26, .I i27] →
 R64 i27 →
 (EK.ok [.str] (D.L l26)) →
                qDead.sig.pre [.N n4, .L l24] ∧ (
 ∀ b28 : Bool,
        qDead.sig.post [.N n4, .L l24, .B b28] →
 ((
 (b28 = true) →
 ((
 (i27 ≠ 9) →
         LWalPlays.sig.post [.I i0, .I i1, .V v2, .L l3, .B false]) ∧ (
 (i27 = 9) →
         Bk LWalPlays.I0 LWalPlays.I0M [.I i0, .I i1, .V v2, .L l3, .I 0, .L l14, .I i15, .B b16, .B b17, .I (IntKind.wrap .i64 (i18 + 1)), .L l20, .L l24] [.I i0, .I i1, .V v2, .L l3, .I i12, .L l14, .I i15, .B b16, .B b17, .I i18, .L l20, .L l21]))) ∧ (
 (b28 = false) →
 ((
 (i27 ≠ 0) →
         LWalPlays.sig.post [.I i0, .I i1, .V v2, .L l3, .B false]) ∧ (
 (i27 = 0) →
         LWalPlays.sig.post [.I i0, .I i1, .V v2, .L l3, .B false])))))))))) ∧ (
 (((((l3.getD i18.toNat default)).toL.getD (0 : Int).toNat default)).toI ≠ 5) →
 ((
 (((((l3.getD i18.toNat default)).toL.getD (0 : Int).toNat default)).toI = 6) →
        qCrash.sig.pre [.N n4, .L l21, (D.I ((((l3.getD i18.toNat default)).toL.getD (1 : Int).toNat default)).toI)] ∧ (
 ∀ l24 : List D,
        qCrash.sig.post [.N n4, .L l21, (D.I ((((l3.getD i18.toNat default)).toL.getD (1 : Int).toNat default)).toI), .L l24] →
 ((
 (b16 = true) →
         Bk LWalPlays.I0 LWalPlays.I0M [.I i0, .I i1, .V v2, .L l3, .I 0, .L l14, .I i15, .B true, .B b17, .I (IntKind.wrap .i64 (i18 + 1)), .L l20, .L l24] [.I i0, .I i1, .V v2, .L l3, .I i12, .L l14, .I i15, .B b16, .B b17, .I i18, .L l20, .L l21]) ∧ (
 (b16 = false) →
         Bk LWalPlays.I0 LWalPlays.I0M [.I i0, .I i1, .V v2, .L l3, .I (0 : Int), .L l14, .I i15, .B (!((0 : Int) == (0 : Int))), .B b17, .I (IntKind.wrap .i64 (i18 + (1 : Int))), .L l20, .L l24] [.I i0, .I i1, .V v2, .L l3, .I i12, .L l14, .I i15, .B b16, .B b17, .I i18, .L l20, .L l21])))) ∧ (
 (((((l3.getD i18.toNat default)).toL.getD (0 : Int).toNat default)).toI ≠ 6) →
 ((
 (((((l3.getD i18.toNat default)).toL.getD (0 : Int).toNat default)).toI = 7) →
         qFail.sig.pre [.N n4, .L l21, (D.I ((((l3.getD i18.toNat default)).toL.getD (1 : Int).toNat default)).toI)] ∧ (
 ∀ l24 : List D,
         qFail.sig.post [.N n4, .L l21, (D.I ((((l3.getD i18.toNat default)).toL.getD (1 : Int).toNat default)).toI), .L l24] →
 ((
 (b16 = true) →
         Bk LWalPlays.I0 LWalPlays.I0M [.I i0, .I i1, .V v2, .L l3, .I 0, .L l14, .I i15, .B true, .B b17, .I (IntKind.wrap .i64 (i18 + 1)), .L l20, .L l24] [.I i0, .I i1, .V v2, .L l3, .I i12, .L l14, .I i15, .B b16, .B b17, .I i18, .L l20, .L l21]) ∧ (
 (b16 = false) →
         Bk LWalPlays.I0 LWalPlays.I0M [.I i0, .I i1, .V v2, .L l3, .I (0 : Int), .L l14, .I i15, .B (!((0 : Int) == (0 : Int))), .B b17, .I (IntKind.wrap .i64 (i18 + (1 : Int))), .L l20, .L l24] [.I i0, .I i1, .V v2, .L l3, .I i12, .L l14, .I i15, .B b16, .B b17, .I i18, .L l20, .L l21])))) ∧ (
 (((((l3.getD i18.toNat default)).toL.getD (0 : Int).toNat default)).toI ≠ 7) →
 ((
 (((((l3.getD i18.toNat default)).toL.getD (0 : Int).toNat default)).toI = 8) →
         qRoom.sig.pre [.N n4, .L l21, (D.I ((((l3.getD i18.toNat default)).toL.getD (1 : Int).toNat default)).toI)] ∧ (
 ∀ l24 : List D,
         qRoom.sig.post [.N n4, .L l21, (D.I ((((l3.getD i18.toNat default)).toL.getD (1 : Int).toNat default)).toI), .L l24] →
 ((
 (b16 = true) →
          Bk LWalPlays.I0 LWalPlays.I0M [.I i0, .I i1, .V v2, .L l3, .I 0, .L l14, .I i15, .B true, .B b17, .I (IntKind.wrap .i64 (i18 + 1)), .L l20, .L l24] [.I i0, .I i1, .V v2, .L l3, .I i12, .L l14, .I i15, .B b16, .B b17, .I i18, .L l20, .L l21]) ∧ (
 (b16 = false) →
          Bk LWalPlays.I0 LWalPlays.I0M [.I i0, .I i1, .V v2, .L l3, .I (0 : Int), .L l14, .I i15, .B (!((0 : Int) == (0 : Int))), .B b17, .I (IntKind.wrap .i64 (i18 + (1 : Int))), .L l20, .L l24] [.I i0, .I i1, .V v2, .L l3, .I i12, .L l14, .I i15, .B b16, .B b17, .I i18, .L l20, .L l21])))) ∧ (
 (((((l3.getD i18.toNat default)).toL.getD (0 : Int).toNat default)).toI ≠ 8) →
 ((
 (b16 = true) →
          Bk LWalPlays.I0 LWalPlays.I0M [.I i0, .I i1, .V v2, .L l3, .I 0, .L l14, .I i15, .B true, .B b17, .I (IntKind.wrap .i64 (i18 + 1)), .L l20, .L l21] [.I i0, .I i1, .V v2, .L l3, .I i12, .L l14, .I i15, .B b16, .B b17, .I i18, .L l20, .L l21]) ∧ (
 (b16 = false) →
          Bk LWalPlays.I0 LWalPlays.I0M [.I i0, .I i1, .V v2, .L l3, .I (0 : Int), .L l14, .I i15, .B (!((0 : Int) == (0 : Int))), .B b17, .I (IntKind.wrap .i64 (i18 + (1 : Int))), .L l20, .L l21] [.I i0, .I i1, .V v2, .L l3, .I i12, .L l14, .I i15, .B b16, .B b17, .I i18, .L l20, .L l21]))))))))))))))))))))
abbrev LWalPlays.K1 (b17 : Bool) (l3 : List D) (i18 : Int) (i0 : Int) (i1 : Int) (v2 : Value) (l14 : List D) (i15 : Int) (b16 : Bool) (l20 : List D) (l21 : List D) (i12 : Int) (n4 : Nat) (l5 : List D) (b6 : Bool) (n7 : Nat) (l8 : List D) (v9 : Value) (l10 : List D) (v11 : Value) (v13 : Value) (n19 : Nat) (s24 : ByteArray) : Prop :=
 ((
 (b17 = true) →
 ((
 (((((l3.getD i18.toNat default)).toL.getD (0 : Int).toNat default)).toI = 4) →
     Bk LWalPlays.I0 LWalPlays.I0M [.I i0, .I i1, .V v2, .L l3, .I 0, .L l14, .I i15, .B b16, .B b17, .I (IntKind.wrap .i64 (i18 + 1)), .L l20, .L l21] [.I i0, .I i1, .V v2, .L l3, .I i12, .L l14, .I i15, .B b16, .B b17, .I i18, .L l20, .L l21]) ∧ (
 (((((l3.getD i18.toNat default)).toL.getD (0 : Int).toNat default)).toI ≠ 4) →
     LWalPlays.J0 [.I i0, .I i1, .V v2, .L l3, .N n4, .L l5, .B b6, .N n7, .L l8, .V v9, .L l10, .V v11, .I i12, .V v13, .L l14, .I i15, .B b16, .B b17, .I i18, .N n19, .L l20, .L l21, .S s24] ∧ (LWalPlays.K0 i0 i1 v2 l3 n4 l5 b6 n7 l8 v9 l10 v11 i12 v13 l14 i15 b16 b17 i18 n19 l20 l21)))) ∧ (
 (b17 = false) →
     LWalPlays.J0 [.I i0, .I i1, .V v2, .L l3, .N n4, .L l5, .B b6, .N n7, .L l8, .V v9, .L l10, .V v11, .I i12, .V v13, .L l14, .I i15, .B b16, .B b17, .I i18, .N n19, .L l20, .L l21, .S s24] ∧ (LWalPlays.K0 i0 i1 v2 l3 n4 l5 b6 n7 l8 v9 l10 v11 i12 v13 l14 i15 b16 b17 i18 n19 l20 l21)))
def LWalPlays.Pure : Prop :=
 ∀ i0 i1 : Int,
 ∀ v2 : Value,
 ∀ l3 : List D,
 R64 i0 →
 R64 i1 →
 (EK.ok [.int .i64, .int .i64, .str, .sl [.int .i64]] (D.L l3)) →
 LWalPlays.sig.pre [.I i0, .I i1, .V v2, .L l3] →
 qNew.sig.pre [.I i0] ∧ (
 ∀ n4 : Nat,
 ∀ l5 : List D,
 qNew.sig.post [.I i0, .N n4, .L l5] →
 aw7.sig.pre [] ∧ (
 ∀ b6 : Bool,
 aw7.sig.post [.B b6] →
 ((
 (b6 = false) →
  LWalPlays.sig.post [.I i0, .I i1, .V v2, .L l3, .B false]) ∧ (
 (b6 = true) →
 ((
  pOpen.sig.pre [.N n4, .L l5, .I i1] ∧ (
 ∀ n7 : Nat,
 ∀ l8 : List D,
 ∀ v9 : Value,
 ∀ l10 : List D,
  pOpen.sig.post [.N n4, .L l5, .I i1, .N n7, .L l8, .V v9, .L l10] →
 (EK.ok [.str] (D.L l10)) →
 ((
 (0 < ((l10.length : Nat) : Int)) →
  LWalPlays.sig.post [.I i0, .I i1, .V v2, .L l3, .B false]) ∧ (
 (((l10.length : Nat) : Int) ≤ (0 : Int)) →
 ∀ v11 : Value,
  LWalPlays.I0 [.I i0, .I i1, .V v2, .L l3, .I 0, .L ([] : List D), .I 0, .B false, .B false, .I 0, .L l8, .L l5] ∧ (
 ∀ i12 : Int,
 ∀ v13 : Value,
 ∀ l14 : List D,
 ∀ i15 : Int,
 ∀ b16 b17 : Bool,
 ∀ i18 : Int,
 ∀ n19 : Nat,
 ∀ l20 l21 : List D,
 R64 i12 →
 R64 i15 →
 R64 i18 →
 (EK.ok [.str] (D.L l14)) →
  LWalPlays.I0 [.I i0, .I i1, .V v2, .L l3, .I i12, .L l14, .I i15, .B b16, .B b17, .I i18, .L l20, .L l21] →
 ((
 (i18 < ((l3.length : Nat) : Int)) →
 ((
 (i18 < 25) →
 (0 ≤ i18) ∧ ((0 ≤ i18) →
 ∀ v22 : Value,
 ∀ n23 : Nat,
   dCut.sig.pre [(D.S ((((l3.getD i18.toNat default)).toL.getD (2 : Int).toNat default)).toS), .I 60] ∧ (
 ∀ s24 : ByteArray,
   dCut.sig.post [(D.S ((((l3.getD i18.toNat default)).toL.getD (2 : Int).toNat default)).toS), .I 60, .S s24] →
 ((s24.size : Int) ≤ 9223372036854775807) →
 ((
 (b16 = true) →
 ((
 (((((l3.getD i18.toNat default)).toL.getD (0 : Int).toNat default)).toI < 4) →
    Bk LWalPlays.I0 LWalPlays.I0M [.I i0, .I i1, .V v2, .L l3, .I 0, .L l14, .I i15, .B b16, .B b17, .I (IntKind.wrap .i64 (i18 + 1)), .L l20, .L l21] [.I i0, .I i1, .V v2, .L l3, .I i12, .L l14, .I i15, .B b16, .B b17, .I i18, .L l20, .L l21]) ∧ (
 (4 ≤ ((((l3.getD i18.toNat default)).toL.getD (0 : Int).toNat default)).toI) →
 (LWalPlays.K1 b17 l3 i18 i0 i1 v2 l14 i15 b16 l20 l21 i12 n4 l5 b6 n7 l8 v9 l10 v11 v13 n19 s24)))) ∧ (
 (b16 = false) →
 (LWalPlays.K1 b17 l3 i18 i0 i1 v2 l14 i15 b16 l20 l21 i12 n4 l5 b6 n7 l8 v9 l10 v11 v13 n19 s24)))))) ∧ (
 (25 ≤ i18) →
   LWalPlays.sig.post [.I i0, .I i1, .V v2, .L l3, .B true]))) ∧ (
 (((l3.length : Nat) : Int) ≤ i18) →
   LWalPlays.sig.post [.I i0, .I i1, .V v2, .L l3, .B true]))))))) ∧ (
  pOpen.sig.pre [.N n4, .L l5, .I i1] ∧ (
 ∀ v7 : Value,
 ∀ l8 : List D,
 ∀ i9 : Int,
  pOpen.sig.post2 [.N n4, .L l5, .I i1, .V v7, .L l8, .I i9] →
 R64 i9 →
 (EK.ok [.str] (D.L l8)) →
 ((
 (i9 ≠ 0) →
  LWalPlays.sig.post [.I i0, .I i1, .V v2, .L l3, .B false]) ∧ (
 (i9 = 0) →
  LWalPlays.sig.post [.I i0, .I i1, .V v2, .L l3, .B false])))))))))
end Go.Vc
namespace Go.Vc
open Dk (Ds)
section
variable {i0 i1 i12 i15 i18 : Int} {v2 v13 : Value} {l3 l14 l20 l21 : List D} {b16 b17 : Bool} {n4 n19 : Nat} {y : Ds} {g : Wl.Lg}
theorem PlayH.mid (H : PlayH i18 l14 i15 b16 b17 l20 l21 y g) : Mid y := by
 have h1 := H.lo
 have h2 := H.hi
 exact H.lim.mono (by omega) (by omega)
theorem PlayH.ok (H : PlayH i18 l14 i15 b16 b17 l20 l21 y g) : LgOk (lgOf l20 0) := by
 have h2 := H.hi
 rw [H.log.2]; exact H.neat.ok (by omega) (by omega)
theorem PlayH.wrap (H : PlayH i18 l14 i15 b16 b17 l20 l21 y g) : IntKind.i64.wrap (i18 + 1) = i18 + 1 := by
 have h1 := H.lo
 have h2 := H.hi
 exact wrap64 (by omega) (by omega)
theorem toNat_next (h : 0 ≤ i18) : (i18 + 1).toNat = i18.toNat + 1 := by omega
theorem PlayH.idle (H : PlayH i18 l14 i15 b16 b17 l20 l21 y g) (h25 : i18 < 25) {y' : Ds} {l25 : List D} (rc : RepL l25 y') (c : Wl.Alike y y') (hl : Lim (100 * i18.toNat) (100 * i18.toNat) y') : Play (i18 + 1) l14 i15 b16 b17 l20 l25 := by
 have h1 := H.lo
 have hp := H.play.idle c
 rw [← toNat_next h1] at hp
 exact ⟨y', g, ⟨by omega, by omega, H.safe0, H.str, rc, H.log, H.neat.more (Nat.le_refl _) (by omega), hl.mono (by omega) (by omega), by rw [c.files]; have := H.files; omega, hp⟩⟩
theorem PlayH.same (H : PlayH i18 l14 i15 b16 b17 l20 l21 y g) (h25 : i18 < 25) : Play (i18 + 1) l14 i15 b16 b17 l20 l21 := H.idle h25 H.disk ⟨rfl, rfl, rfl, rfl, rfl⟩ H.lim
theorem PlayH.crash (H : PlayH i18 l14 i15 b16 b17 l20 l21 y g) (h25 : i18 < 25) (k : Int) : qCrash.sig.pre [.N n4, .L l21, .I k] ∧ ∀ l25 : List D, qCrash.sig.post [.N n4, .L l21, .I k, .L l25] → Play (i18 + 1) l14 i15 b16 b17 l20 l25 := by
 refine ⟨⟨y, H.disk, H.mid.small⟩, fun l25 hc => ?_⟩
 have rc : RepL l25 { y with crash := max k (-1) } := hc y H.disk H.mid.small
 have l := H.lim
 exact H.idle h25 rc ⟨rfl, rfl, rfl, rfl, rfl⟩ ⟨l.inv.same rfl rfl rfl rfl, l.files, l.hist, l.pend, l.calls0, l.calls, l.room, l.bytes⟩
theorem PlayH.fail (H : PlayH i18 l14 i15 b16 b17 l20 l21 y g) (h25 : i18 < 25) (k : Int) : qFail.sig.pre [.N n4, .L l21, .I k] ∧ ∀ l25 : List D, qFail.sig.post [.N n4, .L l21, .I k, .L l25] → Play (i18 + 1) l14 i15 b16 b17 l20 l25 := by
 refine ⟨⟨y, H.disk, H.mid.small⟩, fun l25 hc => ?_⟩
 have rc : RepL l25 { y with fail := max k (-1) } := hc y H.disk H.mid.small
 have l := H.lim
 exact H.idle h25 rc ⟨rfl, rfl, rfl, rfl, rfl⟩ ⟨l.inv.same rfl rfl rfl rfl, l.files, l.hist, l.pend, l.calls0, l.calls, l.room, l.bytes⟩
theorem PlayH.room (H : PlayH i18 l14 i15 b16 b17 l20 l21 y g) (h25 : i18 < 25) (k : Int) : qRoom.sig.pre [.N n4, .L l21, .I k] ∧ ∀ l25 : List D, qRoom.sig.post [.N n4, .L l21, .I k, .L l25] → Play (i18 + 1) l14 i15 b16 b17 l20 l25 := by
 refine ⟨⟨y, H.disk, H.mid.small⟩, fun l25 hc => ?_⟩
 have rc : RepL l25 { y with room := max k 0 } := hc y H.disk H.mid.small
 have l := H.lim
 exact H.idle h25 rc ⟨rfl, rfl, rfl, rfl, rfl⟩ ⟨l.inv.same rfl rfl rfl rfl, l.files, l.hist, l.pend, l.calls0, l.calls, by show 0 ≤ max k 0; omega, l.bytes⟩
theorem PlayH.restart (H : PlayH i18 l14 i15 b16 b17 l20 l21 y g) (h25 : i18 < 25) {ch : List Int} {l25 l27 l29 : List D} {g' : Wl.Lg} {X' : List Tx} (rr : RepL l25 (Dk.restart y ch)) (gg : LgRep l27 g') (e29 : l29 = txD X') (hN : Wl.Neat (Dk.restart y ch).files.length 0 g') (hP : Wl.PlayAt (i18.toNat + 1) X' X'.length false false (Dk.restart y ch) g') :
  Play (i18 + 1) l29 l29.length false false l27 l25 := by
 have hlo := H.lo
 have hf : (Dk.restart y ch).files.length = y.files.length := Dk.cut_len _ _ _ _ _
 have hfl := H.files
 rw [hf] at hN
 have e1 : fnd l29 = X' := by rw [e29, fnd_txD]
 refine ⟨_, g', ⟨by omega, by omega, Int.natCast_nonneg _, by rw [e1, ← e29], rr, gg, hN.more (by omega) (by omega), (lim_restart H.lim ch).mono (by omega) (by omega), by omega, ?_⟩⟩
 rw [toNat_next hlo, e1, show l29.length = X'.length from by rw [e29, txD_len]]
 exact hP
theorem PlayH.live (H : PlayH i18 l14 i15 b16 b17 l20 l21 y g) (h : b16 = false) : b17 = false := by
 cases h17 : b17 with
 | false => rfl
 | true =>
  have hp := H.play
  unfold Wl.PlayAt at hp
  rw [if_pos h17, h] at hp
  cases hp.1
end
theorem LWalPlays.call {i0 i1 i12 i15 i18 : Int} {v2 v9 v11 v13 : Value} {l3 l5 l8 l10 l14 l20 l21 : List D} {b6 b16 b17 : Bool} {n4 n7 n19 : Nat} (r1 : i1 < 9223372036854775808) : LWalPlays.K0 i0 i1 v2 l3 n4 l5 b6 n7 l8 v9 l10 v11 i12 v13 l14 i15 b16 b17 i18 n19 l20 l21 := by
 intro n22 s24 _ ⟨⟨y, g, H⟩, h25, hs, hk16, hk17⟩
 have H : PlayH i18 l14 i15 b16 b17 l20 l21 y g := H
 have h25 : i18 < 25 := h25
 have hs : (tx s24).length ≤ 60 := hs
 have hk16 : b16 = true → 4 ≤ (((l3.getD i18.toNat default)).toL.getD (0 : Int).toNat default).toI := hk16
 have hk17 : b17 = true → (((l3.getD i18.toNat default)).toL.getD (0 : Int).toNat default).toI ≠ 4 := hk17
 have hlo := H.lo
 have mm : (25 - (i18 + 1)).toNat < (25 - i18).toNat := by omega
 have early : (((l3.getD i18.toNat default)).toL.getD (0 : Int).toNat default).toI < 4 → b16 = false ∧ b17 = false := by
  intro h
  have h16 : b16 = false := by
   cases h16 : b16 with
   | false => rfl
   | true => have := hk16 h16; omega
  exact ⟨h16, H.live h16⟩
 have hm := H.mid
 have same := H.same h25
 rw [H.wrap]
 refine ⟨fun h1 => ?_, fun _ => ⟨fun h2 => ?_, fun _ => ⟨fun h3 => ?_, fun _ => ⟨fun h4 => ⟨fun h5 => by omega, fun _ => ?_⟩, fun _ => ⟨fun h5 => ?_, fun _ => ⟨fun h6 => ?_, fun _ => ⟨fun h7 => ?_, fun _ => ⟨fun h8 => ?_, fun _ => ⟨?_, ?_⟩⟩⟩⟩⟩⟩⟩⟩⟩
 ·obtain ⟨h16, h17⟩ := early (by omega)
  subst h16 h17
  have hz : s24.size ≤ 900000000 := by have : s24.size = (tx s24).length := rfl; omega
  have hfl := H.files
  obtain ⟨a0, a1, a2, a3⟩ := H.play.append (r := tx s24) (by omega) (by omega)
  have hl14 : (fnd l14).length = l14.length := fnd_len l14
  refine ⟨⟨⟨y, H.disk, hm⟩, H.log.1, H.ok, hz⟩, fun l25 l26 i27 ha _ v28 => ?_⟩
  rw [List.nil_append]
  have hxl : (l14 ++ [D.S s24]).length = l14.length + 1 := by rw [List.length_append]; rfl
  refine ⟨by omega, fun _ v29 v30 => ⟨by rw [hxl]; omega, fun _ v31 => ?_⟩⟩
  obtain ⟨ra, ga, ea⟩ := ha y g H.disk hm H.log
  have ra : RepL l26 (Wl.append y g (tx s24)).1 := ra
  have ga : LgRep l25 (Wl.append y g (tx s24)).2.1 := ga
  have ea : i27 = (Wl.append y g (tx s24)).2.2 := ea
  rw [← ea] at a1 a2 a3
  have hN2 := H.neat.append y (tx s24)
  have hl2 := lim_wappend (g := g) (r := tx s24) H.lim
  have hf2 := Wl.wappend_files y g (tx s24)
  have hf0 := H.neat.found
  rw [Wl.frT_len] at hl2
  have hx' := str_snoc H.str s24
  have hfx : fnd (l14 ++ [D.S s24]) = fnd l14 ++ [tx s24] := by simp [fnd, D.toS]
  have next : ∀ (x' : List D) (sick : Bool), txD (fnd x') = x' → Wl.PlayAt (i18.toNat + 1) (fnd x') i15 sick false (Wl.append y g (tx s24)).1 (Wl.append y g (tx s24)).2.1 → Play (i18 + 1) x' i15 sick false l25 l26 := by
   intro x' sick e1 e2
   rw [← toNat_next hlo] at e2
   exact ⟨_, _, ⟨by omega, by omega, H.safe0, e1, ra, ga, hN2.more (Nat.le_refl _) (by omega), hl2.mono (by omega) (by omega), by omega, e2⟩⟩
  have wl : IntKind.i64.wrap (((l14 ++ [D.S s24]).length : Int) - 1) = l14.length := by rw [hxl, wrap64 (by omega) (by omega)]; omega
  refine ⟨fun h0 => ⟨fun h9 => ?_, fun h9 => ⟨fun h => absurd h (by decide), fun _ => ⟨next _ _ hx' ?_, mm⟩⟩⟩, fun h0 => ⟨fun h => absurd h (by decide), fun _ => ⟨next _ _ hx' ?_, mm⟩⟩⟩
  ·rw [wl]
   refine ⟨by omega, fun _ => ⟨by rw [hxl]; omega, fun _ v32 => ⟨fun h => absurd h (by decide), fun _ => ⟨next _ _ ?_ ?_, mm⟩⟩⟩⟩
   all_goals rw [Int.toNat_natCast, List.take_left]
   ·exact H.str
   ·have e : (!(i27 == 0)) = true := by simp [h0]
    rw [e]; exact a2 h0 h9
  ·have e : (!(i27 == 0)) = true := by simp [h0]
   have hr := a3 h9
   rw [← hfx] at hr
   rw [e]; exact hr
  ·have e : (!(i27 == 0)) = false := by simp [h0]
   have hr := a1 h0
   rw [← hfx] at hr
   rw [e]; exact hr
 ·obtain ⟨h16, h17⟩ := early (by omega)
  subst h16 h17
  have hfl := H.files
  obtain ⟨a1, a2⟩ := H.play.sync
  refine ⟨⟨⟨y, H.disk, hm⟩, H.log.1, H.ok⟩, fun l25 l26 i27 ha _ => ?_⟩
  obtain ⟨ra, ga, ea⟩ := ha y g H.disk hm H.log
  have ra : RepL l26 (Wl.sync y g).1 := ra
  have ga : LgRep l25 (Wl.sync y g).2.1 := ga
  have ea : i27 = (Wl.sync y g).2.2 := ea
  rw [← ea] at a1 a2
  have hN2 := H.neat.sync y
  have hl2 := lim_wsync (g := g) H.lim
  have hf2 := Wl.wsync_files y g
  have hf0 := H.neat.found
  have next : ∀ (safe : Int) (sick : Bool), 0 ≤ safe → Wl.PlayAt (i18.toNat + 1) (fnd l14) safe sick false (Wl.sync y g).1 (Wl.sync y g).2.1 → Play (i18 + 1) l14 safe sick false l25 l26 := by
   intro safe sick e1 e2
   rw [← toNat_next hlo] at e2
   exact ⟨_, _, ⟨by omega, by omega, e1, H.str, ra, ga, hN2.more (Nat.le_refl _) (by omega), hl2.mono (by omega) (by omega), by omega, e2⟩⟩
  refine ⟨fun h0 => ⟨fun h => absurd h (by decide), fun _ => ⟨next _ _ (Int.natCast_nonneg _) ?_, mm⟩⟩, fun h0 => ⟨fun h => absurd h (by decide), fun _ => ⟨next _ _ H.safe0 ?_, mm⟩⟩⟩
  ·have e : (!(i27 == 0)) = false := by simp [h0]
   have h1 := a1 h0
   rw [fnd_len] at h1
   rw [e]; exact h1
  ·have e : (!(i27 == 0)) = true := by simp [h0]
   rw [e]; exact a2 h0
 ·obtain ⟨h16, h17⟩ := early (by omega)
  subst h16 h17
  have hfl := H.files
  obtain ⟨a1, a2⟩ := H.play.retire
  refine ⟨⟨⟨y, H.disk, hm⟩, H.log.1, H.ok⟩, fun l25 l26 i27 ha _ => ?_⟩
  obtain ⟨ra, ga, ea⟩ := ha y g H.disk hm H.log
  have ra : RepL l26 (Wl.retire y g).1 := ra
  have ga : LgRep l25 (Wl.retire y g).2.1 := ga
  have ea : i27 = (Wl.retire y g).2.2 := ea
  rw [← ea] at a1 a2
  have hN2 := H.neat.retire y (by omega)
  have hl2 := Wl.lim_wretire2 (g := g) H.lim
  have hf2 := Wl.wretire_files y g
  have next : ∀ (x' : List D) (sick ret : Bool), txD (fnd x') = x' → Wl.PlayAt (i18.toNat + 1) (fnd x') 0 sick ret (Wl.retire y g).1 (Wl.retire y g).2.1 → Play (i18 + 1) x' 0 sick ret l25 l26 := by
   intro x' sick ret e1 e2
   rw [← toNat_next hlo] at e2
   exact ⟨_, _, ⟨by omega, by omega, Int.le_refl _, e1, ra, ga, hN2.more (Nat.le_refl _) (by omega), hl2.mono (by omega) (by omega), by omega, e2⟩⟩
  refine ⟨fun h0 v28 => ⟨fun h => absurd h (by decide), fun _ => ⟨next _ _ _ rfl ?_, mm⟩⟩, fun h0 => ⟨fun h => absurd h (by decide), fun _ => ⟨next _ _ _ H.str ?_, mm⟩⟩⟩
  ·have e : (!(i27 == 0)) = false := by simp [h0]
   rw [e]; exact a1 h0
  ·have e : (!(i27 == 0)) = true := by simp [h0]
   rw [e]; exact a2 h0 _
 ·have h17 : b17 = false := by
   cases h17 : b17 with
   | false => rfl
   | true => exact absurd h4 (hk17 h17)
  by_cases hd : y.dead = true
  ·have ho : Wl.opened y i1 = (none, 9) := by unfold Wl.opened; rw [if_pos hd]
   refine ⟨⟨⟨y, H.disk, hm⟩, fun n25 l26 v27 l28 hpo _ => ?_⟩, ⟨y, H.disk, hm⟩, fun v25 l26 i27 hpo _ _ => ⟨⟨y, H.disk, hm.small⟩, fun b28 h28 => ⟨fun _ => ⟨fun h => ?_, fun _ => ⟨H.same h25, mm⟩⟩, fun h => ?_⟩⟩⟩
   ·obtain ⟨g', r', o1, _⟩ := hpo y H.disk hm
    have o1 : Wl.opened y i1 = (some (g', r'), 0) := o1
    rw [ho] at o1; cases o1
   ·obtain ⟨_, _, h2⟩ := hpo y H.disk hm
    have h2 : Wl.opened y i1 = (none, i27) := h2
    rw [ho] at h2
    exact absurd (Prod.mk.inj h2).2.symm h
   ·have h28 : b28 = y.dead := h28 y H.disk hm.small
    rw [h28, hd] at h; cases h
  ·have hd : y.dead = false := by simpa using hd
   obtain ⟨g', ho, hN, hs, hlen, hP⟩ := (h17 ▸ H.play : Wl.PlayAt i18.toNat (fnd l14) i15 b16 false y g).reopen hd i1 r1 H.lim
   refine ⟨⟨⟨y, H.disk, hm⟩, fun n25 l26 v27 l28 hpo _ => ⟨⟨y, H.disk, hm.small⟩, fun b29 h29 => ⟨fun h => ?_, fun _ => ⟨fun _ => ⟨?_, fun i30 h30 _ => ⟨fun h => ?_, fun _ => ⟨?_, mm⟩⟩⟩, fun h => absurd h (by simp [h17])⟩⟩⟩⟩, ⟨y, H.disk, hm⟩, fun v25 l26 i27 hpo _ _ => ?_⟩
   rotate_right
   ·obtain ⟨_, _, h2⟩ := hpo y H.disk hm
    have h2 : Wl.opened y i1 = (none, i27) := h2
    rw [ho] at h2; cases h2
   ·have h29 : b29 = y.dead := h29 y H.disk hm.small
    rw [h29, hd] at h; cases h
   all_goals
    obtain ⟨g2, r2, o1, gg, e28, _⟩ := hpo y H.disk hm
    have o1 : Wl.opened y i1 = (some (g2, r2), 0) := o1
    rw [ho] at o1
    obtain ⟨rfl, rfl⟩ := Prod.mk.inj (Option.some.inj (Prod.mk.inj o1).1)
    have e28 : l28 = txD (fnd l14) := e28
    rw [H.str] at e28
    subst e28
    have hl14 : (fnd l28).length = l28.length := fnd_len l28
    have hi := H.hi
   ·exact ⟨by show l28.length ≤ 1000000; omega, H.safe0⟩
   ·have e30 : i30 = 0 := h30 (by show i15 ≤ l28.length; omega) ⟨l28.length, (List.take_length).symm⟩
    exact absurd e30 h
   ·have hlo := H.lo
    have hfl := H.files
    suffices hs : Play (i18 + 1) l28 (minI i15 l28.length) false false l26 l21 from hs
    refine ⟨y, g', ⟨by omega, by omega, ?_, H.str, H.disk, gg, hN.more (by omega) (by omega), H.lim.mono (by omega) (by omega), by omega, ?_⟩⟩
    ·have := H.safe0
     unfold minI; split <;> omega
    ·rw [toNat_next hlo]
     rw [hl14] at hP
     have e : minI i15 l28.length = min i15 (l28.length : Int) := by unfold minI; split <;> omega
     rw [e]; exact hP
 ·refine ⟨⟨y, H.disk, hm.small⟩, fun l25 hr => ?_⟩
  have rr := hr y H.disk hm.small
  generalize (arg [_, _, _, _, D.L l25] 3).toLi = ch at rr
  have rr : RepL l25 (Dk.restart y ch) := rr
  have hm2 : Mid (Dk.restart y ch) := lim_restart hm ch
  obtain ⟨g', X', ho, hN, hfit, hlen, hP⟩ := H.play.back ch i1 r1 H.lim
  refine ⟨⟨⟨_, rr, hm2⟩, fun n26 l27 v28 l29 hpo _ => ⟨⟨_, rr, hm2.small⟩, fun b30 h30 => ⟨fun h => ?_, fun _ => ⟨fun h17 => ⟨?_, fun i31 h31 _ => ⟨fun h => ?_, fun _ => ⟨?_, mm⟩⟩⟩, fun h17 => ⟨?_, mm⟩⟩⟩⟩⟩, ⟨_, rr, hm2⟩, fun v26 l27 i28 hpo _ _ => ?_⟩
  rotate_right
  ·obtain ⟨_, _, h2⟩ := hpo _ rr hm2
   have h2 : Wl.opened (Dk.restart y ch) i1 = (none, i28) := h2
   rw [ho] at h2; cases h2
  ·have h30 : b30 = (Dk.restart y ch).dead := h30 _ rr hm2.small
   rw [h30] at h; cases h
  all_goals
   obtain ⟨g2, r2, o1, gg, e29, _⟩ := hpo _ rr hm2
   have o1 : Wl.opened (Dk.restart y ch) i1 = (some (g2, r2), 0) := o1
   rw [ho] at o1
   obtain ⟨rfl, rfl⟩ := Prod.mk.inj (Option.some.inj (Prod.mk.inj o1).1)
   have e29 : l29 = txD X' := e29
   have h29 : l29.length = X'.length := by rw [e29, txD_len]
   have hi := H.hi
  ·obtain ⟨k, hk, hs⟩ := hfit h17
   exact ⟨by show l29.length ≤ 1000000; omega, H.safe0⟩
  ·obtain ⟨k, hk, hs⟩ := hfit h17
   have e31 : i31 = 0 := h31 (by show i15 ≤ l29.length; omega) ⟨k, by show l29 = l14.take k; rw [e29, hk, ← H.str, txD_take, fnd_txD]⟩
   exact absurd e31 h
  ·exact H.restart h25 rr gg e29 hN hP
  ·exact H.restart h25 rr gg e29 hN hP
 ·exact ⟨(H.crash h25 _).1, fun l25 h => ⟨fun h16 => ⟨h16 ▸ (H.crash (n4 := n4) h25 _).2 l25 h, mm⟩, fun h16 => ⟨by have q := (H.crash (n4 := n4) h25 _).2 l25 h; rw [h16] at q; exact q, mm⟩⟩⟩
 ·exact ⟨(H.fail h25 _).1, fun l25 h => ⟨fun h16 => ⟨h16 ▸ (H.fail (n4 := n4) h25 _).2 l25 h, mm⟩, fun h16 => ⟨by have q := (H.fail (n4 := n4) h25 _).2 l25 h; rw [h16] at q; exact q, mm⟩⟩⟩
 ·exact ⟨(H.room h25 _).1, fun l25 h => ⟨fun h16 => ⟨h16 ▸ (H.room (n4 := n4) h25 _).2 l25 h, mm⟩, fun h16 => ⟨by have q := (H.room (n4 := n4) h25 _).2 l25 h; rw [h16] at q; exact q, mm⟩⟩⟩
 ·exact fun h16 => ⟨h16 ▸ same, mm⟩
 ·exact fun h16 => ⟨by rw [h16] at same; exact same, mm⟩
theorem LWalPlays.pure : LWalPlays.Pure := by
 intro i0 i1 v2 l3 r0 r1 _ _
 refine ⟨trivial, fun n4 l5 r5 => ⟨trivial, fun b6 h6 => ⟨fun h => ?_, fun _ => ?_⟩⟩⟩
 ·have h6 : b6 = true := h6
  rw [h6] at h; cases h
 have r5 : RepL l5 (Dk.new i0) := r5
 have l0 : Lim 0 0 (Dk.new i0) := lim_new i0
 have m0 : Mid (Dk.new i0) := mid_of l0
 refine ⟨⟨⟨_, r5, m0⟩, fun n7 l8 v9 l10 ho _ => ?_⟩, ⟨_, r5, m0⟩, fun v7 l8 i9 ho _ _ => ?_⟩
 rotate_right
 ·obtain ⟨h1, _, h2⟩ := ho _ r5 m0
  have h2 : Wl.opened (Dk.new i0) i1 = (none, i9) := h2
  rw [Wl.opened_new] at h2; cases h2
 obtain ⟨g, r, o1, gg, e10, _⟩ := ho _ r5 m0
 have o1 : Wl.opened (Dk.new i0) i1 = (some (g, r), 0) := o1
 rw [Wl.opened_new] at o1
 obtain ⟨rfl, rfl⟩ := Prod.mk.inj (Option.some.inj (Prod.mk.inj o1).1)
 have e10 : l10 = [] := e10
 refine ⟨fun h => ?_, fun _ v11 => ⟨?_, ?_⟩⟩
 ·rw [e10] at h; exact absurd h (by decide)
 ·have hN := Wl.neat_new i1 r1.2
  refine ⟨_, _, ⟨Int.le_refl _, (by decide : (0 : Int) ≤ 25), Int.le_refl _, rfl, r5, gg, hN.more (by omega) (Int.le_refl _), l0, Nat.le_refl _, ?_⟩⟩
  have hP : Wl.PlayAt 0 [] 0 false false (Dk.new i0) ⟨max i1 1, 1, [], 0, false, []⟩ := by
   unfold Wl.PlayAt
   rw [if_neg (by simp), if_neg (by simp)]
   exact ⟨1, [], 0, rfl, Int.le_refl _, ⟨Nat.le_refl _, .inl (Wl.hold_new i0)⟩, Wl.tied_new i0 i1, fun _ => Wl.hold_new i0⟩
  exact hP
 clear ho r5 gg
 intro i12 v13 l14 i15 b16 b17 i18 n19 l20 l21 _ _ _ _ ⟨y, g, H⟩
 have H : PlayH i18 l14 i15 b16 b17 l20 l21 y g := H
 refine ⟨fun h1 => ⟨fun h25 => ⟨H.lo, fun _ v22 n23 => ⟨(by decide : (0 : Int) ≤ 60), fun s24 h24 _ => ?_⟩⟩, fun _ => rfl⟩, fun _ => rfl⟩
 have hs : (tx s24).length ≤ 60 := by
  have h24 : s24 = ((((l3.getD i18.toNat default)).toL.getD (2 : Int).toNat default)).toS.extract 0 60 := h24
  rw [h24]; exact cut_le _ 60
 have mm : (25 - (i18 + 1)).toNat < (25 - i18).toNat := by have := H.lo; omega
 have hw := H.wrap
 have same := H.same h25
 have fin : ∀ {e : Int} {x' : List D} {safe : Int} {sick ret : Bool} {lw dw : List D}, Play (i18 + 1) x' safe sick ret lw dw →
   LWalPlays.I0 [(D.I i0), (D.I i1), (D.V v2), (D.L l3), (D.I e), (D.L x'), (D.I safe), (D.B sick), (D.B ret), (D.I (IntKind.wrap .i64 (i18 + (1 : Int)))), (D.L lw), (D.L dw)] ∧ LWalPlays.I0M [(D.I i0), (D.I i1), (D.V v2), (D.L l3), (D.I e), (D.L x'), (D.I safe), (D.B sick), (D.B ret), (D.I (IntKind.wrap .i64 (i18 + (1 : Int)))), (D.L lw), (D.L dw)] < LWalPlays.I0M [(D.I i0), (D.I i1), (D.V v2), (D.L l3), (D.I i12), (D.L l14), (D.I i15), (D.B b16), (D.B b17), (D.I i18), (D.L l20), (D.L l21)] := by
  intro e x' safe sick ret lw dw h
  rw [hw]; exact ⟨h, mm⟩
 have call := LWalPlays.call (i0 := i0) (i1 := i1) (i12 := i12) (i15 := i15) (i18 := i18) (v2 := v2) (v9 := v9) (v11 := v11) (v13 := v13) (l3 := l3) (l5 := l5) (l8 := l8) (l10 := l10) (l14 := l14) (l20 := l20) (l21 := l21) (b6 := b6) (b16 := b16) (b17 := b17) (n4 := n4) (n7 := n7) (n19 := n19) r1.2
 have mk : (b16 = true → 4 ≤ (((l3.getD i18.toNat default)).toL.getD (0 : Int).toNat default).toI) → (b17 = true → (((l3.getD i18.toNat default)).toL.getD (0 : Int).toNat default).toI ≠ 4) →
   LWalPlays.J0 [(D.I i0), (D.I i1), (D.V v2), (D.L l3), (D.N n4), (D.L l5), (D.B b6), (D.N n7), (D.L l8), (D.V v9), (D.L l10), (D.V v11), (D.I i12), (D.V v13), (D.L l14), (D.I i15), (D.B b16), (D.B b17), (D.I i18), (D.N n19), (D.L l20), (D.L l21), (D.S s24)] :=
  fun a b => ⟨⟨y, g, H⟩, h25, hs, a, b⟩
 refine ⟨fun h16 => ⟨fun _ => fin same, fun hk4 => ⟨fun h17 => ⟨fun _ => fin same, fun hn4 => ⟨mk (fun _ => hk4) (fun _ => hn4), call⟩⟩, fun h17 => ⟨mk (fun _ => hk4) (fun h => by rw [h17] at h; cases h), call⟩⟩⟩,
  fun h16 => ⟨fun h17 => ⟨fun _ => fin same, fun hn4 => ⟨mk (fun h => by rw [h16] at h; cases h) (fun _ => hn4), call⟩⟩, fun h17 => ⟨mk (fun h => by rw [h16] at h; cases h) (fun h => by rw [h17] at h; cases h), call⟩⟩⟩
end Go.Vc