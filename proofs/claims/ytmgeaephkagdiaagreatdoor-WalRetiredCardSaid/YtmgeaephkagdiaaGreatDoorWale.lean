/-
 The log behind a restart: what it bears, and what goes on behind it.
 The log behind a restart: more goes on behind what came back; and what Retire leaves.
 The log's laws with crashes: contracts.
 Printed by wip/vct.py: the conditions of functions, by their contracts.
 The log's laws with crashes: fits.
 The log's laws with crashes: WalCrash.
 The log's laws with crashes: WalRetired.
-/
import Derived.Test.YtmgeaephkagdiaaGreatDoorWald
import Derived.Test.YtmgeaephkagdiaaGreatDoorWalc
import Derived.KernelRfl
set_option linter.unusedVariables false
set_option linter.unusedSimpArgs false
namespace Go.Vc
open Dk (Ds Fi fileAt)
namespace Wl
theorem syncFound_less : ∀ (l : List Tx) (x : Ds), (syncFound x l).2.1.length ≤ l.length
 | [], x => Nat.le_refl _
 | n :: l, x => by
  rw [syncFound]
  split
  ·exact Nat.le_refl _
  ·exact Nat.le_succ_of_le (syncFound_less l _)
theorem wsync_less (x : Ds) (g : Lg) : (Wl.sync x g).2.1.found.length ≤ g.found.length := by
 unfold Wl.sync sync1
 split
 ·exact syncFound_less _ _
 ·unfold sync2
  split
  ·exact syncFound_less _ _
  ·split
   ·exact syncFound_less _ _
   ·exact syncFound_less _ _
theorem turn3_less (x : Ds) (g : Lg) : (turn3 x g).2.1.found = g.found := by
 unfold turn3
 split
 ·rfl
 ·unfold turn4
  split <;> rfl
theorem wturn_less (x : Ds) (g : Lg) : (Wl.turn x g).2.1.found.length ≤ g.found.length := by
 unfold Wl.turn turn1
 split
 ·exact wsync_less _ _
 ·split
  ·exact wsync_less _ _
  ·unfold turn2
   split
   ·split
    ·exact wsync_less _ _
    ·rw [turn3_less]; exact wsync_less _ _
   ·rw [turn3_less]; exact wsync_less _ _
theorem app2_lg (s : Tx) (x : Ds) (g : Lg) : (app2 s x g).2.1.found = g.found ∧ (app2 s x g).2.1.limit = g.limit ∧ ((app2 s x g).2.1.size = g.size ∨ (app2 s x g).2.1.size = g.size + s.length) := by
 unfold app2
 split
 ·exact ⟨rfl, rfl, .inl rfl⟩
 ·exact ⟨rfl, rfl, .inr rfl⟩
theorem app2_next (s : Tx) (x : Ds) (g : Lg) (h : g.next < 18446744073709551616) : (app2 s x g).2.1.next < 18446744073709551616 := by
 unfold app2
 split
 ·exact h
 ·exact Nat.mod_lt _ (by decide)
structure Neat (k : Nat) (z : Int) (g : Lg) : Prop where
 found : g.found.length ≤ k
 limit : 1 ≤ g.limit ∧ g.limit < 9223372036854775808
 size : 0 ≤ g.size ∧ g.size ≤ z
 next : g.next < 18446744073709551616
theorem Neat.ok {k : Nat} {z : Int} {g : Lg} (h : Neat k z g) (hk : k ≤ 50000) (hz : z ≤ 1000000000000) : LgOk g :=
 ⟨by have := h.found; omega, h.next, h.limit, h.size.1, by have := h.size.2; omega⟩
theorem Neat.sync {k : Nat} {z : Int} {g : Lg} (h : Neat k z g) (x : Ds) : Neat k z (Wl.sync x g).2.1 := by
 obtain ⟨a1, a2, a3, _⟩ := sync_lg x g
 exact ⟨Nat.le_trans (wsync_less x g) h.found, by rw [a2]; exact h.limit, by rw [a3]; exact h.size, by rw [a1]; exact h.next⟩
theorem Neat.turn {k : Nat} {z : Int} {g : Lg} (h : Neat k z g) (x : Ds) : Neat k z (Wl.turn x g).2.1 := by
 obtain ⟨a1, a2, a3⟩ := turn_lg x g
 refine ⟨Nat.le_trans (wturn_less x g) h.found, by rw [a2]; exact h.limit, ?_, by rw [a1]; exact h.next⟩
 rcases a3 with a3 | a3
 ·rw [a3]; exact h.size
 ·rw [a3]; have := h.size; omega
theorem Neat.app2 {k : Nat} {z : Int} {g : Lg} (h : Neat k z g) (s : Tx) (x : Ds) : Neat k (z + s.length) (Wl.app2 s x g).2.1 := by
 obtain ⟨a1, a2, a3⟩ := app2_lg s x g
 refine ⟨by rw [a1]; exact h.found, by rw [a2]; exact h.limit, ?_, app2_next s x g h.next⟩
 have := h.size
 rcases a3 with a3 | a3 <;> rw [a3] <;> omega
theorem Neat.append {k : Nat} {z : Int} {g : Lg} (h : Neat k z g) (x : Ds) (r : Tx) : Neat k (z + (18 + r.length)) (Wl.append x g r).2.1 := by
 have e : ∀ q, (frT q r).length = 18 + r.length := fun q => frT_len q r
 have keep : ∀ {g : Lg}, Neat k z g → Neat k (z + (18 + r.length)) g := fun h => ⟨h.found, h.limit, ⟨h.size.1, by have := h.size.2; omega⟩, h.next⟩
 unfold Wl.append
 split
 ·exact keep h
 ·split
  ·unfold app1
   split
   ·exact keep (h.turn x)
   ·have := (h.turn x).app2 (frT g.next r) (Wl.turn x g).1
    rw [e] at this
    exact this
  ·have := h.app2 (frT g.next r) x
   rw [e] at this
   exact this
end Wl
end Go.Vc
namespace Go.Vc
open Dk (Ds Fi fileAt)
namespace Wl
theorem Backs.back {y : Ds} {lo n b : Nat} {R : List Tx} (h : Backs y 1 R lo) (hl : Lim n b y) (hroom : y.room = 100000) (hR : R.length ≤ 1000) (hn : n ≤ 10000) (hb : b ≤ 90000) (ch : List Int) (limit : Int) (hlim : limit < 9223372036854775808) (more : Tx) (hmo : more.length ≤ 100) :
  ∃ g m, Wl.opened (Dk.restart y ch) limit = (some (g, R.take m), 0) ∧ lo ≤ m ∧ m ≤ R.length ∧ g.next = m + 1 ∧ LgOk g ∧ Mid (Dk.restart y ch) ∧
   (Wl.append (Dk.restart y ch) g more).2.2 = 0 ∧ LgOk (Wl.append (Dk.restart y ch) g more).2.1 ∧ Mid (Wl.append (Dk.restart y ch) g more).1 ∧
   (Wl.sync (Wl.append (Dk.restart y ch) g more).1 (Wl.append (Dk.restart y ch) g more).2.1).2.2 = 0 ∧
   Mid (Wl.sync (Wl.append (Dk.restart y ch) g more).1 (Wl.append (Dk.restart y ch) g more).2.1).1 ∧
   Mid (Dk.restart (Wl.sync (Wl.append (Dk.restart y ch) g more).1 (Wl.append (Dk.restart y ch) g more).2.1).1 ch) ∧
   ∃ g2, Wl.opened (Dk.restart (Wl.sync (Wl.append (Dk.restart y ch) g more).1 (Wl.append (Dk.restart y ch) g more).2.1).1 ch) limit = (some (g2, R.take m ++ [more]), 0) := by
 obtain ⟨Q, m, hH, m1, m2, m3⟩ := h.restart hl.inv ch
 have hl1 := lim_restart hl ch
 have hlen : (recsOf Q).length = m := by rw [m3, List.length_take]; omega
 have hop := hH.half.log.opened hH.inv rfl limit
 have t := hH.tied (fun _ => rfl) (max limit 1)
 have hQn : Q.length ≤ n := by
  have h1 := hl1.hist.names hl1.inv
  rw [hH.half.names, List.length_map] at h1
  exact Nat.le_trans h1 hl1.files
 have hnx : (if Q = [] then 1 else 1 + (recsOf Q).length) = m + 1 := by
  split
  ·rename_i e
   subst e
   rw [← hlen]; rfl
  ·omega
 have hneat : Neat n 0 ⟨max limit 1, if Q = [] then 1 else 1 + (recsOf Q).length, [], 0, false, Q.map fun f => name f.q⟩ :=
  ⟨by show (Q.map _).length ≤ n; rw [List.length_map]; exact hQn, ⟨by show (1 : Int) ≤ max limit 1; omega, by show max limit 1 < 9223372036854775808; omega⟩, ⟨Int.le_refl _, Int.le_refl _⟩, by show (if Q = [] then 1 else 1 + (recsOf Q).length) < _; rw [hnx]; omega⟩
 have w0 : Well (Dk.restart y ch) := well_restart hroom ch
 have hf0 : (Q.map fun f => name f.q).length ≤ n := by rw [List.length_map]; exact hQn
 refine ⟨_, m, by rw [← m3]; exact hop, m1, m2, hnx, hneat.ok (by omega) (by omega), hl1.mono (by omega) (by omega), ?_⟩
 have hfl : (⟨max limit 1, if Q = [] then 1 else 1 + (recsOf Q).length, [], 0, false, Q.map fun f => name f.q⟩ : Lg).found.length ≤ n := hf0
 generalize (⟨max limit 1, if Q = [] then 1 else 1 + (recsOf Q).length, [], 0, false, Q.map fun f => name f.q⟩ : Lg) = g at t hneat hfl ⊢
 have hr : more.length ≤ 4194304 := by omega
 obtain ⟨w1, w2⟩ := hH.wappend_well t w0 hl1 hr (by omega)
 obtain ⟨R', _, _, _, hok⟩ := hH.wappend t hr (by omega)
 obtain ⟨e1, Q', _, e2, hH', t'⟩ := hok w2
 have hl2 := lim_wappend (g := g) (r := more) hl1
 have hneat2 := hneat.append (Dk.restart y ch) more
 rw [frT_len] at hl2
 generalize Wl.append (Dk.restart y ch) g more = z at w1 w2 hH' t' hl2 hneat2 ⊢
 obtain ⟨y1, g1, e⟩ := z
 dsimp only at w1 w2 hH' t' hl2 hneat2 ⊢
 refine ⟨w2, hneat2.ok (by omega) (by omega), hl2.mono (by omega) (by omega), ?_⟩
 obtain ⟨v1, v2⟩ := hH'.wsync_well t' w1
 obtain ⟨hH2, t2, hw⟩ := hH'.wsync t'
 have hl3 := lim_wsync (g := g1) hl2
 have hf1 := hneat2.found
 generalize Wl.sync y1 g1 = z at v1 v2 hH2 t2 hw hl3 ⊢
 obtain ⟨y2, g2, e3⟩ := z
 dsimp only at v1 v2 hH2 t2 hw hl3 ⊢
 have hfull : Hold y2 1 Q' (recsOf Q').length := ⟨hH2.half.full (hw v2), hH2.pend, hH2.safe, hH2.inv⟩
 obtain ⟨Q2, k, hK, k1, k2, k3⟩ := hfull.backs.restart hfull.inv ch
 have hop2 := hK.half.log.opened hK.inv rfl limit
 have e4 : recsOf Q2 = R.take m ++ [more] := by
  rw [k3, List.take_of_length_le (by omega), e2, e1, m3]
 rw [e4] at hop2
 have hl4 := lim_restart hl3 ch
 exact ⟨v2, hl3.mono (by omega) (by omega), hl4.mono (by omega) (by omega), _, hop2⟩

def Ends (x : Ds) (R : List Tx) : Prop := ∀ k, k ≤ x.pend.length → ∃ s Q, Half x ((x.pend.take k).foldl Dk.apply x.safe) s Q (recsOf Q).length ∧ (recsOf Q) <:+ R
theorem Ends.core {x y : Ds} {R : List Tx} (h : Ends x R) (c : Core x y) : Ends y R := by
 intro k hk
 rw [c.pend] at hk
 obtain ⟨s, Q, h1, h2⟩ := h k hk
 exact ⟨s, Q, by rw [c.pend, c.safe]; exact h1.core c, h2⟩
theorem Ends.restart {x : Ds} {R : List Tx} (h : Ends x R) (hi : Dk.Inv x) (ch : List Int) : ∃ s Q, Hold (Dk.restart x ch) s Q (recsOf Q).length ∧ (recsOf Q) <:+ R := by
 obtain ⟨s, Q0, h1, h2⟩ := h (Dk.pick ch 0 (x.pend.length + 1)) (by have := Dk.pick_lt ch 0 (x.pend.length + 1) (by omega); omega)
 have h1 : Half x (Dk.restart x ch).names s Q0 (recsOf Q0).length := h1
 obtain ⟨Q, m, h3, h4, h5, h6⟩ := h1.restart hi
 rw [List.take_of_length_le h4] at h6
 exact ⟨s, Q, ⟨h3, rfl, rfl, Dk.inv_restart hi ch⟩, by rw [h6]; exact h2⟩
theorem Half.behind {x : Ds} {nm : List (Tx × Nat)} {s lo : Nat} {f : Fl} {B : List Fl} (h : Half x nm s (f :: B) lo) (hw : ∀ g ∈ f :: B, Whole x g.ix) : Half x (B.map fun f => (name f.q, f.ix)) (s + f.rs.length) B (recsOf B).length := by
 have htop := h.top
 have hr : recsOf (f :: B) = f.rs ++ recsOf B := by simp [recsOf]
 rw [hr, List.length_append] at htop
 have hn := h.nodup
 rw [List.map_cons, List.nodup_cons] at hn
 refine ⟨rfl, fun g hg => h.data g (by simp [hg]), fun g hg => h.torn g (by simp [hg]), fun g hg => h.fits g (by simp [hg]), h.chain.2, by omega, hn.2, fun e => by rw [e]; rfl, fun P g e a ha => hw a (by rw [e]; simp [ha]), fun P g e => ⟨g.rs.length, Nat.le_refl _, ?_, ?_⟩⟩
 ·have h1 := hw g (by rw [e]; simp)
  unfold Whole at h1
  rw [h1, h.data g (by rw [e]; simp), List.take_length]
  show _ ≤ (frs g.q g.rs ++ g.tl).length
  rw [List.length_append]; omega
 ·rw [e, recs_app, List.length_append]; simp [recsOf]
theorem apply_first {x : Ds} {s lo : Nat} {f : Fl} {B : List Fl} (h : Half x x.names s (f :: B) lo) (hi : Dk.Inv x) : Dk.apply x.names ⟨name f.q, [], 0⟩ = B.map fun f => (name f.q, f.ix) := by
 have hs : ((f :: B).map fun f => (name f.q, f.ix)).Pairwise fun a b => a.1 < b.1 := by rw [← h.names]; exact hi.sn
 rw [List.map_cons, List.pairwise_cons] at hs
 unfold Dk.apply
 rw [if_pos rfl, h.names, List.map_cons, List.filter_cons_of_neg (by simp), List.filter_eq_self]
 intro p hp
 have h1 := hs.1 p hp
 obtain ⟨g, hg, rfl⟩ := List.mem_map.1 hp
 have h2 : name g.q ≠ [] := by intro e; have := name_len g.q; rw [e] at this; simp at this
 have h3 : name g.q ≠ name f.q := by
  intro e
  have h1 : name f.q < name g.q := h1
  rw [e] at h1
  exact Dk.lt_irrefl _ h1
 simp [h2, h3]
theorem remove_calm {x : Ds} (hf : x.fail = -1) {nm : Tx} (hn : Dk.find x.names nm ≠ none) : (Dk.remove x nm).1.fail = -1 ∧ ((Dk.remove x nm).2 = 0 ∨ (Dk.remove x nm).2 = 9) := by
 unfold Dk.remove
 split
 ·exact ⟨hf, .inr rfl⟩
 ·rename_i hd
  split
  ·rename_i h; exact absurd h hn
  ·obtain ⟨a1, a2, a3, a4, a5, a6, a7, a8, a9⟩ := x
   have hf : a7 = -1 := hf
   subst hf
   have hd : a8 = false := by simpa using hd
   subst hd
   unfold Dk.begin
   dsimp only
   by_cases h0 : a6 = 0
   ·simp [h0, Dk.turn]
   ·by_cases h1 : a6 > 0 <;> simp [h0, h1, Dk.turn]
theorem syncNames_calm {x : Ds} (hf : x.fail = -1) : (Dk.syncNames x).2 = 0 ∨ (Dk.syncNames x).2 = 9 := by
 unfold Dk.syncNames
 obtain ⟨a1, a2, a3, a4, a5, a6, a7, a8, a9⟩ := x
 have hf : a7 = -1 := hf
 subst hf
 unfold Dk.begin
 dsimp only
 cases a8 with
 | true => simp
 | false =>
  by_cases h0 : a6 = 0
  ·simp [h0]
  ·by_cases h1 : a6 > 0 <;> simp [h0, h1]
theorem removeAll_ends {R : List Tx} : ∀ (B : List Fl) (x : Ds) (s : Nat), Half x x.names s B (recsOf B).length → (∀ f ∈ B, Whole x f.ix) → Ends x R → (recsOf B) <:+ R → Dk.Inv x → x.fail = -1 →
  Ends (removeAll x (B.map fun f => f.q)).1 R ∧ Dk.Inv (removeAll x (B.map fun f => f.q)).1 ∧ (removeAll x (B.map fun f => f.q)).1.fail = -1 ∧ ((removeAll x (B.map fun f => f.q)).2 = 0 ∧ (removeAll x (B.map fun f => f.q)).1.names = [] ∨ (removeAll x (B.map fun f => f.q)).2 = 9)
 | [], x, s, h, _, he, _, hi, hf => ⟨he, hi, hf, .inl ⟨rfl, h.names⟩⟩
 | f :: B, x, s, h, hw, he, hs, hi, hf => by
  have hr : recsOf (f :: B) = f.rs ++ recsOf B := by simp [recsOf]
  have hs2 : recsOf B <:+ R := (List.suffix_append f.rs (recsOf B)).trans (hr ▸ hs)
  have hfd := h.find hi (f := f) (by simp)
  obtain ⟨c1, c2⟩ := remove_calm hf (nm := name f.q) (by rw [hfd]; simp)
  have hi2 := Dk.inv_remove hi (name f.q)
  have hap := apply_first h hi
  have gone : ∀ y, Core x y → Half (Dk.turn y ⟨name f.q, [], 0⟩) (B.map fun f => (name f.q, f.ix)) (s + f.rs.length) B (recsOf B).length := fun y c => (h.behind hw).files fun g _ => c.at g.ix
  have hnm : ∀ y, Core x y → (Dk.turn y ⟨name f.q, [], 0⟩).names = B.map fun f => (name f.q, f.ix) := by
   intro y c
   show Dk.apply y.names ⟨name f.q, [], 0⟩ = _
   rw [c.names, hap]
  have ends : ∀ y, Core x y → Ends (Dk.turn y ⟨name f.q, [], 0⟩) R := by
   intro y c k hk
   rcases dtake_snoc y.pend (⟨name f.q, [], 0⟩ : Dk.Cg) k with e | e
   ·by_cases hk2 : k ≤ y.pend.length
    ·obtain ⟨s', Q', q1, q2⟩ := he k (by rw [c.pend] at hk2; exact hk2)
     refine ⟨s', Q', ?_, q2⟩
     show Half _ (((y.pend ++ [_]).take k).foldl Dk.apply y.safe) s' Q' _
     rw [e, c.pend, c.safe]
     exact q1.files fun g _ => c.at g.ix
    ·rw [List.take_of_length_le (by rw [List.length_append, List.length_singleton]; omega), List.take_of_length_le (by omega)] at e
     have := congrArg List.length e
     rw [List.length_append, List.length_singleton] at this
     omega
   ·refine ⟨s + f.rs.length, B, ?_, hs2⟩
    show Half _ (((y.pend ++ [_]).take k).foldl Dk.apply y.safe) _ B _
    rw [e, c.pend, c.safe, List.foldl_append, ← hi.names]
    rw [List.foldl_cons, List.foldl_nil, hap]
    exact gone y c
  rw [List.map_cons, removeAll]
  by_cases h0 : (Dk.remove x (name f.q)).2 = 0
  ·rw [if_neg (by simp [h0])]
   obtain ⟨y, c, e⟩ : ∃ y, Core x y ∧ (Dk.remove x (name f.q)).1 = Dk.turn y ⟨name f.q, [], 0⟩ := by
    have h0 := h0
    unfold Dk.remove at h0 ⊢
    split at h0
    ·exact absurd (show (9 : Int) = 0 from h0) (by decide)
    ·rename_i hd
     rw [if_neg hd]
     split at h0
     ·exact absurd (show (5 : Int) = 0 from h0) (by decide)
     ·rename_i i hfd
      have hc := core_begin x
      generalize Dk.begin x = z at hc h0 ⊢
      obtain ⟨y, st, e⟩ := z
      dsimp only at hc h0 ⊢
      by_cases he : e ≠ 0 ∧ st = false
      ·rw [if_pos he] at h0; exact absurd h0 he.1
      ·rw [if_neg he]; exact ⟨y, hc, rfl⟩
   rw [e] at hi2 c1 ⊢
   refine removeAll_ends B _ (s + f.rs.length) ?_ (fun g hg => ?_) (ends y c) hs2 hi2 c1
   ·exact (congrArg (fun n => Half (Dk.turn y ⟨name f.q, [], 0⟩) n (s + f.rs.length) B (recsOf B).length) (hnm y c)).mpr (gone y c)
   ·have := hw g (List.mem_cons_of_mem _ hg)
    unfold Whole at this ⊢
    have e : fileAt (Dk.turn y ⟨name f.q, [], 0⟩) g.ix = fileAt x g.ix := c.at g.ix
    rw [e]; exact this
  ·rw [if_pos h0]
   refine ⟨?_, hi2, c1, .inr (c2.resolve_left h0)⟩
   rcases remove_sh x (name f.q) with c | ⟨y, i, c, _, e⟩
   ·exact he.core c
   ·rw [e]; exact ends y c
theorem Ends.syncNames {x : Ds} {R : List Tx} (h : Ends x R) (hi : Dk.Inv x) : Ends (Dk.syncNames x).1 R ∧ ((Dk.syncNames x).2 = 0 → (Dk.syncNames x).1.pend = [] ∧ (Dk.syncNames x).1.safe = x.names) := by
 unfold Dk.syncNames
 have hc := core_begin x
 generalize Dk.begin x = z at hc ⊢
 obtain ⟨y, st, e⟩ := z
 dsimp only at hc ⊢
 by_cases he : e ≠ 0
 ·rw [if_pos he]
  exact ⟨h.core hc, fun h0 => absurd h0 he⟩
 ·rw [if_neg he]
  refine ⟨fun k hk => ?_, fun _ => ⟨rfl, hc.names⟩⟩
  obtain ⟨s, Q, q1, q2⟩ := h x.pend.length (Nat.le_refl _)
  rw [List.take_length, ← hi.names] at q1
  refine ⟨s, Q, ?_, q2⟩
  have e1 : (([] : List Dk.Cg).take k).foldl Dk.apply y.names = x.names := by rw [List.take_nil]; exact hc.names
  show Half _ ((([] : List Dk.Cg).take k).foldl Dk.apply y.names) s Q _
  rw [e1]
  exact q1.files fun g _ => hc.at g.ix
theorem Hold.retire {x : Ds} {g : Lg} {s : Nat} {Q : List Fl} (h : Hold x s Q (recsOf Q).length) (hw : ∀ f ∈ Q, Whole x f.ix) (hf : x.fail = -1) :
  Ends (Wl.retire x g).1 (recsOf Q) ∧ Dk.Inv (Wl.retire x g).1 ∧ ((Wl.retire x g).2.2 = 0 ∧ (Wl.retire x g).1.pend = [] ∧ (Wl.retire x g).1.safe = [] ∨ (Wl.retire x g).2.2 = 9) := by
 have h0 : Ends x (recsOf Q) := fun k hk => by
  obtain ⟨Q', q1, q2⟩ := h.backs k hk
  exact ⟨s, Q', by rw [q2]; exact q1, by rw [q2]; exact List.suffix_refl _⟩
 unfold Wl.retire
 split
 ·exact ⟨h0, h.inv, .inr rfl⟩
 ·rw [h.half.log.files]
  obtain ⟨r1, r2, r3, r4⟩ := removeAll_ends Q x s h.half hw h0 (List.suffix_refl _) h.inv hf
  unfold ret2
  generalize hz : removeAll x (Q.map fun f => f.q) = z at r1 r2 r3 r4 ⊢
  obtain ⟨y, e⟩ := z
  dsimp only at r1 r2 r3 r4 ⊢
  by_cases he : e ≠ 0
  ·rw [if_pos he]
   exact ⟨r1, r2, .inr (r4.resolve_left fun h => he h.1)⟩
  ·rw [if_neg he]
   have he : e = 0 := Classical.byContradiction he
   by_cases hq : Q = []
   ·subst hq
    rw [List.map_nil, if_pos rfl]
    obtain ⟨rfl, _⟩ : x = y ∧ (0 : Int) = e := Prod.mk.inj hz
    exact ⟨r1, r2, .inl ⟨rfl, h.pend, h.safe.trans h.half.names⟩⟩
   ·rw [if_neg (by simpa using hq)]
    obtain ⟨t1, t2⟩ := r1.syncNames r2
    refine ⟨t1, Dk.inv_syncNames r2, ?_⟩
    have hn : y.names = [] := (r4.resolve_right fun h => by omega).2
    rcases syncNames_calm r3 with h9 | h9
    ·exact .inl ⟨h9, (t2 h9).1, (t2 h9).2.trans hn⟩
    ·exact .inr h9
theorem lim_removeAll : ∀ (l : List Nat) {n b : Nat} {x : Ds}, Lim n b x → Lim (n + l.length) b (removeAll x l).1
 | [], _, _, _, h => h
 | q :: l, n, b, x, h => by
  have h1 := lim_remove h (name q)
  rw [removeAll]
  split
  ·exact h1.mono (by simp) (Nat.le_refl _)
  ·exact (lim_removeAll l h1).mono (by simp; omega) (Nat.le_refl _)
theorem lim_wretire {n b : Nat} {x : Ds} {g : Lg} (h : Lim n b x) : Lim (n + n + 1) b (Wl.retire x g).1 := by
 have hl : (files x).length ≤ n := Nat.le_trans (List.length_filterMap_le _ _) (Nat.le_trans (h.hist.names h.inv) h.files)
 have h1 := lim_removeAll (files x) h
 unfold Wl.retire
 split
 ·exact h.mono (by omega) (Nat.le_refl _)
 ·unfold ret2
  split
  ·exact h1.mono (by omega) (Nat.le_refl _)
  ·split
   ·exact h1.mono (by omega) (Nat.le_refl _)
   ·exact (lim_syncNames h1).mono (by omega) (Nat.le_refl _)
theorem Hold.retired {x : Ds} {g : Lg} {s : Nat} {Q : List Fl} (h : Hold x s Q (recsOf Q).length) (hw : ∀ f ∈ Q, Whole x f.ix) (hf : x.fail = -1) (ch : List Int) (limit : Int) :
  ∃ g2 r, Wl.opened (Dk.restart (Wl.retire x g).1 ch) limit = (some (g2, r), 0) ∧ r <:+ recsOf Q ∧ ((Wl.retire x g).2.2 = 0 ∧ r = [] ∨ (Wl.retire x g).2.2 = 9) := by
 obtain ⟨h1, h2, h3⟩ := h.retire (g := g) hw hf
 obtain ⟨s2, Q2, hH, hsuf⟩ := h1.restart h2 ch
 refine ⟨_, _, hH.half.log.opened hH.inv rfl limit, hsuf, ?_⟩
 rcases h3 with ⟨a, b, c⟩ | h9
 ·refine .inl ⟨a, ?_⟩
  have hnm : (Dk.restart (Wl.retire x g).1 ch).names = [] := by
   show ((Wl.retire x g).1.pend.take _).foldl Dk.apply (Wl.retire x g).1.safe = []
   rw [b, c, List.take_nil]; rfl
  have := hH.half.names
  rw [hnm] at this
  cases Q2 with
  | nil => rfl
  | cons _ _ => cases this
 ·exact .inr h9
end Wl
end Go.Vc
namespace Go.Vc
open Dk (Ds)
def LWalRetired.sig : Sig := sigF [.l [.str], .i .i64, .i .i64, .z .i64] [.b] (fun _ => True) yes
def LWalRetired.I0 : List D → Prop := fun l => 0 ≤ (arg l 7).toI ∧ (arg l 7).toI ≤ 12 ∧ ((arg l 6).toL.length : Int) = (arg l 7).toI ∧
 ∃ y g Q lo, RepL (arg l 9).toL y ∧ LgRep (arg l 8).toL g ∧ Wl.Neat 0 (100 * (arg l 7).toI) g ∧ Lim (10 * (arg l 7).toI.toNat) (100 * (arg l 7).toI.toNat) y ∧ Well y ∧ Wl.Hold y 1 Q lo ∧ Wl.Tied y g 1 Q ∧ Wl.recsOf Q = fnd (arg l 6).toL ∧ txD (fnd (arg l 6).toL) = (arg l 6).toL
def LWalRetired.I0M : List D → Nat := fun l => (12 - (arg l 7).toI).toNat
end Go.Vc
namespace Go.Vc
set_option linter.unusedVariables false
set_option maxRecDepth 100000
def LWalRetired.Pure : Prop :=
 ∀ (v0 : Value),
 ∀ (l1 : List D),
 ∀ (i2 : Int),
 ∀ (i3 : Int),
 ∀ (v4 : Value),
 ∀ (z5 : List Int),
 (-9223372036854775808 ≤ i2 ∧ i2 < 9223372036854775808) →
 (-9223372036854775808 ≤ i3 ∧ i3 < 9223372036854775808) →
 (EK.ok [.str] (D.L l1)) →
 (∀ x ∈ z5, IntKind.has .i64 x) →
 LWalRetired.sig.pre [.V v0, .L l1, .I i2, .I i3, .V v4, .Z z5] →
 qNew.sig.pre [(D.I (100000 : Int))] ∧ (
 ∀ (n6 : Nat),
 ∀ (l7 : List D),
 qNew.sig.post [(D.I (100000 : Int)), .N n6, .L l7] →
 ((
  pOpen.sig.pre [.N n6, .L l7, .I i2] ∧ (
 ∀ (n8 : Nat),
 ∀ (l9 : List D),
 ∀ (v10 : Value),
 ∀ (l11 : List D),
  pOpen.sig.post [.N n6, .L l7, .I i2, .N n8, .L l9, .V v10, .L l11] →
 (EK.ok [.str] (D.L l11)) →
 ∀ (v12 : Value),
  LWalRetired.I0 [.V v0, .L l1, .I i2, .I i3, .V v4, .Z z5, (D.L ([] : List D)), (D.I (0 : Int)), .L l9, .L l7] ∧ (
 ∀ (v13 : Value),
 ∀ (l14 : List D),
 ∀ (i15 : Int),
 ∀ (l16 : List D),
 ∀ (l17 : List D),
 (-9223372036854775808 ≤ i15 ∧ i15 < 9223372036854775808) →
 (EK.ok [.str] (D.L l14)) →
  LWalRetired.I0 [.V v0, .L l1, .I i2, .I i3, .V v4, .Z z5, .L l14, .I i15, .L l16, .L l17] →
 ((
 (i15 < ((l1.length : Nat) : Int)) →
 ((
 (i15 < (12 : Int)) →
 ((0 : Int) ≤ i15) ∧ (((0 : Int) ≤ i15) →
  dCut.sig.pre [(D.S ((l1.getD i15.toNat default)).toS), (D.I (60 : Int))] ∧ (
 ∀ (s18 : ByteArray),
    dCut.sig.post [(D.S ((l1.getD i15.toNat default)).toS), (D.I (60 : Int)), .S s18] →
 ((s18.size : Int) ≤ 9223372036854775807) →
 ∀ (v19 : Value),
 ((((l14 ++ ((D.S s18) :: ([] : List D))).length : Nat) : Int) ≤ (8796093022208 : Int)) ∧ (((((l14 ++ ((D.S s18) :: ([] : List D))).length : Nat) : Int) ≤ (8796093022208 : Int)) →
 ∀ (v20 : Value),
 (i15 < (((l14 ++ ((D.S s18) :: ([] : List D))).length : Nat) : Int)) ∧ ((i15 < (((l14 ++ ((D.S s18) :: ([] : List D))).length : Nat) : Int)) →
  pAppend.sig.pre [.N n8, .N n6, .L l16, .L l17, (D.S (((l14 ++ ((D.S s18) :: ([] : List D))).getD i15.toNat default)).toS)] ∧ (
 ∀ (l21 : List D),
 ∀ (l22 : List D),
 ∀ (i23 : Int),
    pAppend.sig.post [.N n8, .N n6, .L l16, .L l17, (D.S (((l14 ++ ((D.S s18) :: ([] : List D))).getD i15.toNat default)).toS), .L l21, .L l22, .I i23] →
 (-9223372036854775808 ≤ i23 ∧ i23 < 9223372036854775808) →
 ((
 (i23 ≠ (0 : Int)) →
   LWalRetired.sig.post [.V v0, .L l1, .I i2, .I i3, .V v4, .Z z5, .B false]) ∧ (
 (i23 = (0 : Int)) →
   LWalRetired.I0 [.V v0, .L l1, .I i2, .I i3, .V v4, .Z z5, (D.L (l14 ++ ((D.S s18) :: ([] : List D)))), (D.I (IntKind.wrap .i64 (i15 + (1 : Int)))), .L l21, .L l22] ∧ LWalRetired.I0M [.V v0, .L l1, .I i2, .I i3, .V v4, .Z z5, (D.L (l14 ++ ((D.S s18) :: ([] : List D)))), (D.I (IntKind.wrap .i64 (i15 + (1 : Int)))), .L l21, .L l22] < LWalRetired.I0M [.V v0, .L l1, .I i2, .I i3, .V v4, .Z z5, .L l14, .I i15, .L l16, .L l17])))))))) ∧ (
 ((12 : Int) ≤ i15) →
  pSync.sig.pre [.N n8, .N n6, .L l16, .L l17] ∧ (
 ∀ (l18 : List D),
 ∀ (l19 : List D),
 ∀ (i20 : Int),
    pSync.sig.post [.N n8, .N n6, .L l16, .L l17, .L l18, .L l19, .I i20] →
 (-9223372036854775808 ≤ i20 ∧ i20 < 9223372036854775808) →
 ((
 (i20 ≠ (0 : Int)) →
   LWalRetired.sig.post [.V v0, .L l1, .I i2, .I i3, .V v4, .Z z5, .B false]) ∧ (
 (i20 = (0 : Int)) →
   qCrash.sig.pre [.N n6, .L l19, .I i3] ∧ (
 ∀ (l21 : List D),
   qCrash.sig.post [.N n6, .L l19, .I i3, .L l21] →
   pRetire.sig.pre [.N n8, .N n6, .L l18, .L l21] ∧ (
 ∀ (l22 : List D),
 ∀ (l23 : List D),
 ∀ (i24 : Int),
   pRetire.sig.post [.N n8, .N n6, .L l18, .L l21, .L l22, .L l23, .I i24] →
 (-9223372036854775808 ≤ i24 ∧ i24 < 9223372036854775808) →
   qRestart.sig.pre [.N n6, .L l23, .V v4, .Z z5] ∧ (
 ∀ (l25 : List D),
   qRestart.sig.post [.N n6, .L l23, .V v4, .Z z5, .L l25] →
 ((
   pOpen.sig.pre [.N n6, .L l25, .I i2] ∧ (
 ∀ (n26 : Nat),
 ∀ (l27 : List D),
 ∀ (v28 : Value),
 ∀ (l29 : List D),
   pOpen.sig.post [.N n6, .L l25, .I i2, .N n26, .L l27, .V v28, .L l29] →
 (EK.ok [.str] (D.L l29)) →
 ((
 (((l14.length : Nat) : Int) < ((l29.length : Nat) : Int)) →
    LWalRetired.sig.post [.V v0, .L l1, .I i2, .I i3, .V v4, .Z z5, .B false]) ∧ (
 (((l29.length : Nat) : Int) ≤ ((l14.length : Nat) : Int)) →
 ((IntKind.wrap .i64 (((l14.length : Nat) : Int) - ((l29.length : Nat) : Int))) ≤ ((l14.length : Nat) : Int)) ∧ (((IntKind.wrap .i64 (((l14.length : Nat) : Int) - ((l29.length : Nat) : Int))) ≤ ((l14.length : Nat) : Int)) →
 ((0 : Int) ≤ (IntKind.wrap .i64 (((l14.length : Nat) : Int) - ((l29.length : Nat) : Int)))) ∧ (((0 : Int) ≤ (IntKind.wrap .i64 (((l14.length : Nat) : Int) - ((l29.length : Nat) : Int)))) →
 ∀ (v30 : Value),
    SameL.sig.pre [.V v28, .L l29, .V v30, (D.L (l14.drop (IntKind.wrap .i64 (((l14.length : Nat) : Int) - ((l29.length : Nat) : Int))).toNat))] ∧ (
 ∀ (i31 : Int),
    SameL.sig.post [.V v28, .L l29, .V v30, (D.L (l14.drop (IntKind.wrap .i64 (((l14.length : Nat) : Int) - ((l29.length : Nat) : Int))).toNat)), .I i31] →
 (-9223372036854775808 ≤ i31 ∧ i31 < 9223372036854775808) →
 ((
 (i31 ≠ (0 : Int)) →
    LWalRetired.sig.post [.V v0, .L l1, .I i2, .I i3, .V v4, .Z z5, .B false]) ∧ (
 (i31 = (0 : Int)) →
    aw7.sig.pre [] ∧ (
 ∀ (b32 : Bool),
    aw7.sig.post [.B b32] →
 ((
 (b32 = true) →
 ((
 (i24 ≠ (0 : Int)) →
     LWalRetired.sig.post [.V v0, .L l1, .I i2, .I i3, .V v4, .Z z5, (D.B (i24 == (9 : Int)))]) ∧ (
 (i24 = (0 : Int)) →
 ((
 (((l29.length : Nat) : Int) = (0 : Int)) →
      LWalRetired.sig.post [.V v0, .L l1, .I i2, .I i3, .V v4, .Z z5, .B true]) ∧ (
 (((l29.length : Nat) : Int) ≠ (0 : Int)) →
      LWalRetired.sig.post [.V v0, .L l1, .I i2, .I i3, .V v4, .Z z5, .B false]))))) ∧ (
 (b32 = false) →
     LWalRetired.sig.post [.V v0, .L l1, .I i2, .I i3, .V v4, .Z z5, .B false])))))))))))) ∧ (
   pOpen.sig.pre [.N n6, .L l25, .I i2] ∧ (
 ∀ (v26 : Value),
 ∀ (l27 : List D),
 ∀ (i28 : Int),
   pOpen.sig.post2 [.N n6, .L l25, .I i2, .V v26, .L l27, .I i28] →
 (-9223372036854775808 ≤ i28 ∧ i28 < 9223372036854775808) →
 (EK.ok [.str] (D.L l27)) →
 ((
 (i28 ≠ (0 : Int)) →
    LWalRetired.sig.post [.V v0, .L l1, .I i2, .I i3, .V v4, .Z z5, .B false]) ∧ (
 (i28 = (0 : Int)) →
    LWalRetired.sig.post [.V v0, .L l1, .I i2, .I i3, .V v4, .Z z5, .B false])))))))))))))) ∧ (
 (((l1.length : Nat) : Int) ≤ i15) →
   pSync.sig.pre [.N n8, .N n6, .L l16, .L l17] ∧ (
 ∀ (l18 : List D),
 ∀ (l19 : List D),
 ∀ (i20 : Int),
  pSync.sig.post [.N n8, .N n6, .L l16, .L l17, .L l18, .L l19, .I i20] →
 (-9223372036854775808 ≤ i20 ∧ i20 < 9223372036854775808) →
 ((
 (i20 ≠ (0 : Int)) →
  LWalRetired.sig.post [.V v0, .L l1, .I i2, .I i3, .V v4, .Z z5, .B false]) ∧ (
 (i20 = (0 : Int)) →
  qCrash.sig.pre [.N n6, .L l19, .I i3] ∧ (
 ∀ (l21 : List D),
    qCrash.sig.post [.N n6, .L l19, .I i3, .L l21] →
    pRetire.sig.pre [.N n8, .N n6, .L l18, .L l21] ∧ (
 ∀ (l22 : List D),
 ∀ (l23 : List D),
 ∀ (i24 : Int),
    pRetire.sig.post [.N n8, .N n6, .L l18, .L l21, .L l22, .L l23, .I i24] →
 (-9223372036854775808 ≤ i24 ∧ i24 < 9223372036854775808) →
  qRestart.sig.pre [.N n6, .L l23, .V v4, .Z z5] ∧ (
 ∀ (l25 : List D),
    qRestart.sig.post [.N n6, .L l23, .V v4, .Z z5, .L l25] →
 ((
   pOpen.sig.pre [.N n6, .L l25, .I i2] ∧ (
 ∀ (n26 : Nat),
 ∀ (l27 : List D),
 ∀ (v28 : Value),
 ∀ (l29 : List D),
   pOpen.sig.post [.N n6, .L l25, .I i2, .N n26, .L l27, .V v28, .L l29] →
 (EK.ok [.str] (D.L l29)) →
 ((
 (((l14.length : Nat) : Int) < ((l29.length : Nat) : Int)) →
   LWalRetired.sig.post [.V v0, .L l1, .I i2, .I i3, .V v4, .Z z5, .B false]) ∧ (
 (((l29.length : Nat) : Int) ≤ ((l14.length : Nat) : Int)) →
 ((IntKind.wrap .i64 (((l14.length : Nat) : Int) - ((l29.length : Nat) : Int))) ≤ ((l14.length : Nat) : Int)) ∧ (((IntKind.wrap .i64 (((l14.length : Nat) : Int) - ((l29.length : Nat) : Int))) ≤ ((l14.length : Nat) : Int)) →
 ((0 : Int) ≤ (IntKind.wrap .i64 (((l14.length : Nat) : Int) - ((l29.length : Nat) : Int)))) ∧ (((0 : Int) ≤ (IntKind.wrap .i64 (((l14.length : Nat) : Int) - ((l29.length : Nat) : Int)))) →
 ∀ (v30 : Value),
   SameL.sig.pre [.V v28, .L l29, .V v30, (D.L (l14.drop (IntKind.wrap .i64 (((l14.length : Nat) : Int) - ((l29.length : Nat) : Int))).toNat))] ∧ (
 ∀ (i31 : Int),
   SameL.sig.post [.V v28, .L l29, .V v30, (D.L (l14.drop (IntKind.wrap .i64 (((l14.length : Nat) : Int) - ((l29.length : Nat) : Int))).toNat)), .I i31] →
 (-9223372036854775808 ≤ i31 ∧ i31 < 9223372036854775808) →
 ((
 (i31 ≠ (0 : Int)) →
    LWalRetired.sig.post [.V v0, .L l1, .I i2, .I i3, .V v4, .Z z5, .B false]) ∧ (
 (i31 = (0 : Int)) →
    aw7.sig.pre [] ∧ (
 ∀ (b32 : Bool),
    aw7.sig.post [.B b32] →
 ((
 (b32 = true) →
 ((
 (i24 ≠ (0 : Int)) →
         LWalRetired.sig.post [.V v0, .L l1, .I i2, .I i3, .V v4, .Z z5, (D.B (i24 == (9 : Int)))]) ∧ (
 (i24 = (0 : Int)) →
 ((
 (((l29.length : Nat) : Int) = (0 : Int)) →
     LWalRetired.sig.post [.V v0, .L l1, .I i2, .I i3, .V v4, .Z z5, .B true]) ∧ (
 (((l29.length : Nat) : Int) ≠ (0 : Int)) →
     LWalRetired.sig.post [.V v0, .L l1, .I i2, .I i3, .V v4, .Z z5, .B false]))))) ∧ (
 (b32 = false) →
    LWalRetired.sig.post [.V v0, .L l1, .I i2, .I i3, .V v4, .Z z5, .B false])))))))))))) ∧ (
   pOpen.sig.pre [.N n6, .L l25, .I i2] ∧ (
 ∀ (v26 : Value),
 ∀ (l27 : List D),
 ∀ (i28 : Int),
   pOpen.sig.post2 [.N n6, .L l25, .I i2, .V v26, .L l27, .I i28] →
 (-9223372036854775808 ≤ i28 ∧ i28 < 9223372036854775808) →
 (EK.ok [.str] (D.L l27)) →
 ((
 (i28 ≠ (0 : Int)) →
   LWalRetired.sig.post [.V v0, .L l1, .I i2, .I i3, .V v4, .Z z5, .B false]) ∧ (
 (i28 = (0 : Int)) →
   LWalRetired.sig.post [.V v0, .L l1, .I i2, .I i3, .V v4, .Z z5, .B false])))))))))))))))) ∧ (
  pOpen.sig.pre [.N n6, .L l7, .I i2] ∧ (
 ∀ (v8 : Value),
 ∀ (l9 : List D),
 ∀ (i10 : Int),
  pOpen.sig.post2 [.N n6, .L l7, .I i2, .V v8, .L l9, .I i10] →
 (-9223372036854775808 ≤ i10 ∧ i10 < 9223372036854775808) →
 (EK.ok [.str] (D.L l9)) →
 ((
 (i10 ≠ (0 : Int)) →
  LWalRetired.sig.post [.V v0, .L l1, .I i2, .I i3, .V v4, .Z z5, .B false]) ∧ (
 (i10 = (0 : Int)) →
  LWalRetired.sig.post [.V v0, .L l1, .I i2, .I i3, .V v4, .Z z5, .B false]))))))
end Go.Vc
namespace Go.Vc
end Go.Vc
namespace Go.Vc
open Dk (Ds)
namespace Wl
theorem Tied.core {x y : Ds} {g : Lg} {s : Nat} {Q : List Fl} (h : Tied x g s Q) (c : Core x y) : Tied y g s Q :=
 ⟨h.next, h.found, h.cur, h.bound, fun P f e => by
  rcases h.last P f e with h1 | h1 | h1
  ·exact .inl h1
  ·refine .inr (.inl ?_)
   unfold Whole at h1 ⊢
   rw [c.at]; exact h1
  ·exact .inr (.inr h1)⟩
theorem hold_new (r : Int) : Hold (Dk.new r) 1 [] 0 :=
 ⟨⟨rfl, fun f hf => absurd hf (by simp), fun f hf => absurd hf (by simp), fun f hf => absurd hf (by simp), trivial, by show (1 + 0 : Nat) < _; omega, List.nodup_nil, fun _ => rfl, fun P f e => absurd e (by simp), fun P f e => absurd e (by simp)⟩, rfl, rfl, Dk.inv_new r⟩
theorem opened_new (r limit : Int) : Wl.opened (Dk.new r) limit = (some (⟨max limit 1, 1, [], 0, false, []⟩, []), 0) := rfl
theorem tied_new (r limit : Int) : Tied (Dk.new r) ⟨max limit 1, 1, [], 0, false, []⟩ 1 [] := (hold_new r).tied (fun _ => rfl) (max limit 1)
theorem neat_new (limit : Int) (h : limit < 9223372036854775808) : Neat 0 0 ⟨max limit 1, 1, [], 0, false, []⟩ :=
 ⟨Nat.le_refl _, ⟨by show (1 : Int) ≤ max limit 1; omega, by show max limit 1 < 9223372036854775808; omega⟩, ⟨Int.le_refl _, Int.le_refl _⟩, by show (1 : Nat) < _; omega⟩
end Wl
def crashed (x : Ds) (k : Int) : Ds := { x with crash := k }
theorem core_crashed (x : Ds) (k : Int) : Core x (crashed x k) := ⟨rfl, rfl, rfl, rfl, rfl⟩
theorem txD_app (a b : List Tx) : txD (a ++ b) = txD a ++ txD b := by simp [txD]
theorem txD_len (a : List Tx) : (txD a).length = a.length := by simp [txD]
theorem fnd_len (a : List D) : (fnd a).length = a.length := by simp [fnd]
theorem str_snoc {l : List D} (h : txD (fnd l) = l) (s : ByteArray) : txD (fnd (l ++ [.S s])) = l ++ [.S s] := by
 have e : fnd (l ++ [.S s]) = fnd l ++ [tx s] := by simp [fnd, D.toS]
 rw [e, txD_app, h]
 show l ++ [D.S (bx (tx s))] = _
 rw [bx_tx]
theorem lim_crashed {n b : Nat} {x : Ds} (h : Lim n b x) (c : Int) : Lim n b (crashed x c) := ⟨h.inv.same rfl rfl rfl rfl, h.files, h.hist, h.pend, h.calls0, h.calls, h.room, h.bytes⟩

end Go.Vc
namespace Go.Vc
open Dk (Ds)
namespace Wl
theorem Half.wholes {x : Ds} {nm : List (Tx × Nat)} {s lo : Nat} {Q : List Fl} (h : Half x nm s Q lo) (hw : ∀ P f, Q = P ++ [f] → Whole x f.ix) : ∀ f ∈ Q, Whole x f.ix := by
 intro f hf
 rcases snoc_or Q with rfl | ⟨P, a, rfl⟩
 ·simp at hf
 ·rcases List.mem_append.1 hf with h1 | h1
  ·exact h.whole P a rfl f h1
  ·obtain rfl : f = a := by simpa using h1
   exact hw P f rfl
end Wl
theorem LWalRetired.tail (n6 n8 : Nat) (v0 v4 v13 : Value) (l1 l14 l16 l17 : List D) (i2 i3 : Int) (z5 : List Int) (r2 : i2 < 9223372036854775808) (hx : txD (fnd l14) = l14) {y : Ds} {g : Wl.Lg} {Q : List Wl.Fl} {lo n b : Nat} (ry : RepL l17 y) (gg : LgRep l16 g) (gN : Wl.Neat 0 10000 g) (hl : Lim n b y) (w0 : Well y) (hn : n ≤ 10000) (hb : b ≤ 90000) (hH : Wl.Hold y 1 Q lo) (hT : Wl.Tied y g 1 Q) (hrec : Wl.recsOf Q = fnd l14) (h14 : l14.length ≤ 12) :
  (pSync.sig.pre [(D.N n8), (D.N n6), (D.L l16), (D.L l17)] ∧ (
  ∀ (l18 : List D),
  ∀ (l19 : List D),
  ∀ (i20 : Int),
  pSync.sig.post [(D.N n8), (D.N n6), (D.L l16), (D.L l17), (D.L l18), (D.L l19), (D.I i20)] →
  (-9223372036854775808 ≤ i20 ∧ i20 < 9223372036854775808) →
  ((
   (i20 ≠ (0 : Int)) →
   LWalRetired.sig.post [(D.V v0), (D.L l1), (D.I i2), (D.I i3), (D.V v4), (D.Z z5), (D.B false)]) ∧ (
   (i20 = (0 : Int)) →
   qCrash.sig.pre [(D.N n6), (D.L l19), (D.I i3)] ∧ (
   ∀ (l21 : List D),
   qCrash.sig.post [(D.N n6), (D.L l19), (D.I i3), (D.L l21)] →
   pRetire.sig.pre [(D.N n8), (D.N n6), (D.L l18), (D.L l21)] ∧ (
   ∀ (l22 : List D),
   ∀ (l23 : List D),
   ∀ (i24 : Int),
   pRetire.sig.post [(D.N n8), (D.N n6), (D.L l18), (D.L l21), (D.L l22), (D.L l23), (D.I i24)] →
   (-9223372036854775808 ≤ i24 ∧ i24 < 9223372036854775808) →
   qRestart.sig.pre [(D.N n6), (D.L l23), (D.V v4), (D.Z z5)] ∧ (
   ∀ (l25 : List D),
   qRestart.sig.post [(D.N n6), (D.L l23), (D.V v4), (D.Z z5), (D.L l25)] →
   ((
    pOpen.sig.pre [(D.N n6), (D.L l25), (D.I i2)] ∧ (
    ∀ (n26 : Nat),
    ∀ (l27 : List D),
    ∀ (v28 : Value),
    ∀ (l29 : List D),
    pOpen.sig.post [(D.N n6), (D.L l25), (D.I i2), (D.N n26), (D.L l27), (D.V v28), (D.L l29)] →
    (EK.ok [.str] (D.L l29)) →
    ((
     (((l14.length : Nat) : Int) < ((l29.length : Nat) : Int)) →
     LWalRetired.sig.post [(D.V v0), (D.L l1), (D.I i2), (D.I i3), (D.V v4), (D.Z z5), (D.B false)]) ∧ (
     (((l29.length : Nat) : Int) ≤ ((l14.length : Nat) : Int)) →
     ((IntKind.wrap .i64 (((l14.length : Nat) : Int) - ((l29.length : Nat) : Int))) ≤ ((l14.length : Nat) : Int)) ∧ (((IntKind.wrap .i64 (((l14.length : Nat) : Int) - ((l29.length : Nat) : Int))) ≤ ((l14.length : Nat) : Int)) →
     ((0 : Int) ≤ (IntKind.wrap .i64 (((l14.length : Nat) : Int) - ((l29.length : Nat) : Int)))) ∧ (((0 : Int) ≤ (IntKind.wrap .i64 (((l14.length : Nat) : Int) - ((l29.length : Nat) : Int)))) →
     ∀ (v30 : Value),
     SameL.sig.pre [(D.V v28), (D.L l29), (D.V v30), (D.L (l14.drop (IntKind.wrap .i64 (((l14.length : Nat) : Int) - ((l29.length : Nat) : Int))).toNat))] ∧ (
     ∀ (i31 : Int),
     SameL.sig.post [(D.V v28), (D.L l29), (D.V v30), (D.L (l14.drop (IntKind.wrap .i64 (((l14.length : Nat) : Int) - ((l29.length : Nat) : Int))).toNat)), (D.I i31)] →
     (-9223372036854775808 ≤ i31 ∧ i31 < 9223372036854775808) →
     ((
      (i31 ≠ (0 : Int)) →
      LWalRetired.sig.post [(D.V v0), (D.L l1), (D.I i2), (D.I i3), (D.V v4), (D.Z z5), (D.B false)]) ∧ (
      (i31 = (0 : Int)) →
      aw7.sig.pre [] ∧ (
      ∀ (b32 : Bool),
      aw7.sig.post [(D.B b32)] →
      ((
       (b32 = true) →
       ((
        (i24 ≠ (0 : Int)) →
        LWalRetired.sig.post [(D.V v0), (D.L l1), (D.I i2), (D.I i3), (D.V v4), (D.Z z5), (D.B (i24 == (9 : Int)))]) ∧ (
        (i24 = (0 : Int)) →
        ((
         (((l29.length : Nat) : Int) = (0 : Int)) →
         LWalRetired.sig.post [(D.V v0), (D.L l1), (D.I i2), (D.I i3), (D.V v4), (D.Z z5), (D.B true)]) ∧ (
         (((l29.length : Nat) : Int) ≠ (0 : Int)) →
         LWalRetired.sig.post [(D.V v0), (D.L l1), (D.I i2), (D.I i3), (D.V v4), (D.Z z5), (D.B false)]))))) ∧ (
       (b32 = false) →
       LWalRetired.sig.post [(D.V v0), (D.L l1), (D.I i2), (D.I i3), (D.V v4), (D.Z z5), (D.B false)])))))))))))) ∧ (
    pOpen.sig.pre [(D.N n6), (D.L l25), (D.I i2)] ∧ (
    ∀ (v26 : Value),
    ∀ (l27 : List D),
    ∀ (i28 : Int),
    pOpen.sig.post2 [(D.N n6), (D.L l25), (D.I i2), (D.V v26), (D.L l27), (D.I i28)] →
    (-9223372036854775808 ≤ i28 ∧ i28 < 9223372036854775808) →
    (EK.ok [.str] (D.L l27)) →
    ((
     (i28 ≠ (0 : Int)) →
     LWalRetired.sig.post [(D.V v0), (D.L l1), (D.I i2), (D.I i3), (D.V v4), (D.Z z5), (D.B false)]) ∧ (
     (i28 = (0 : Int)) →
     LWalRetired.sig.post [(D.V v0), (D.L l1), (D.I i2), (D.I i3), (D.V v4), (D.Z z5), (D.B false)])))))))))))) := by
 have hm : Mid y := mid_of hl
 refine ⟨⟨⟨y, ry, hm⟩, gg.1, (show LgOk (lgOf l16 0) from by rw [gg.2]; exact gN.ok (by omega) (by omega))⟩, fun l18 l19 i20 hs _ => ?_⟩
 obtain ⟨rs, gs, es⟩ := hs y g ry hm gg
 have rs : RepL l19 (Wl.sync y g).1 := rs
 have gs : LgRep l18 (Wl.sync y g).2.1 := gs
 have es : i20 = (Wl.sync y g).2.2 := es
 obtain ⟨hH3, _, hw3⟩ := hH.wsync hT
 obtain ⟨v1, v2⟩ := hH.wsync_well hT w0
 have hN := gN.sync y
 have hl2 := lim_wsync (g := g) hl
 have hf0 := gN.found
 generalize Wl.sync y g = w at rs gs es hH3 hw3 v1 v2 hN hl2
 obtain ⟨y2, g2, e2⟩ := w
 dsimp only at rs gs es hH3 hw3 v1 v2 hN hl2
 refine ⟨fun h => absurd (es.trans v2) h, fun _ => ?_⟩
 have hl2 : Lim (n + 1) b y2 := hl2.mono (by omega) (by omega)
 have hm2 : Mid y2 := hl2.mono (by omega) (by omega)
 refine ⟨⟨y2, rs, hm2.small⟩, fun l21 hc => ?_⟩
 have rc : RepL l21 (crashed y2 (max i3 (-1))) := hc y2 rs hm2.small
 have hc2 := core_crashed y2 (max i3 (-1))
 have hl3 : Lim (n + 1) b (crashed y2 (max i3 (-1))) := lim_crashed hl2 _
 have hfull : Wl.Hold (crashed y2 (max i3 (-1))) 1 Q (Wl.recsOf Q).length := Wl.Hold.core ⟨hH3.half.full (hw3 v2), hH3.pend, hH3.safe, hH3.inv⟩ hc2 hl3.inv
 have hwh : ∀ f ∈ Q, Wl.Whole (crashed y2 (max i3 (-1))) f.ix := fun f hf => by
  have h1 := hH3.half.wholes (hw3 v2) f hf
  unfold Wl.Whole at h1 ⊢
  rw [hc2.at]; exact h1
 have hfl : (crashed y2 (max i3 (-1))).fail = -1 := v1.fail
 generalize crashed y2 (max i3 (-1)) = y3 at rc hl3 hfull hwh hfl
 have hm3 : Mid y3 := hl3.mono (by omega) (by omega)
 refine ⟨⟨⟨y3, rc, hm3⟩, gs.1, (show LgOk (lgOf l18 0) from by rw [gs.2]; exact hN.ok (by omega) (by omega))⟩, fun l22 l23 i24 ht _ => ?_⟩
 obtain ⟨rt, _, et⟩ := ht y3 g2 rc hm3 gs
 have rt : RepL l23 (Wl.retire y3 g2).1 := rt
 have et : i24 = (Wl.retire y3 g2).2.2 := et
 obtain ⟨g4, r, o1, hsuf, hcode⟩ := hfull.retired (g := g2) hwh hfl z5 i2
 have hl4 := Wl.lim_wretire (g := g2) hl3
 rw [← et] at hcode
 have hl5 := lim_restart hl4 z5
 have hm5 : Mid (Dk.restart (Wl.retire y3 g2).1 z5) := hl5.mono (by omega) (by omega)
 refine ⟨⟨_, rt, hl4.small (by omega) (by omega)⟩, fun l25 hr => ?_⟩
 have rr : RepL l25 (Dk.restart (Wl.retire y3 g2).1 z5) := hr _ rt (hl4.small (by omega) (by omega))
 refine ⟨⟨⟨_, rr, hm5⟩, fun n26 l27 v28 l29 ho _ => ?_⟩, ⟨_, rr, hm5⟩, fun v26 l27 i28 ho _ _ => ?_⟩
 rotate_left
 ·obtain ⟨h1, _, h2⟩ := ho _ rr hm5
  have h2 : Wl.opened (Dk.restart (Wl.retire y3 g2).1 z5) i2 = (none, i28) := h2
  rw [o1] at h2; cases h2
 obtain ⟨g5, r5, o5, _, e29, _⟩ := ho _ rr hm5
 have o5 : Wl.opened (Dk.restart (Wl.retire y3 g2).1 z5) i2 = (some (g5, r5), 0) := o5
 rw [o1] at o5
 obtain ⟨rfl, rfl⟩ := Prod.mk.inj (Option.some.inj (Prod.mk.inj o5).1)
 have e29 : l29 = txD r := e29
 rw [hrec] at hsuf
 have hle := hsuf.length_le
 rw [fnd_len] at hle
 have h29 : l29.length = r.length := by rw [e29, txD_len]
 have w1 : IntKind.i64.wrap (((l14.length : Nat) : Int) - ((l29.length : Nat) : Int)) = ((l14.length - l29.length : Nat) : Int) := by rw [wrap64 (by omega) (by omega)]; omega
 refine ⟨fun h => ?_, fun _ => ?_⟩
 ·exfalso; omega
 rw [w1]
 refine ⟨by omega, fun _ => ⟨by omega, fun _ v30 => ⟨?_, fun i31 h31 _ => ?_⟩⟩⟩
 ·show (l14.drop ((l14.length - l29.length : Nat) : Int).toNat).length ≤ 1000000
  rw [List.length_drop]; omega
 have h31 : l29 = l14.drop ((l14.length - l29.length : Nat) : Int).toNat → i31 = 0 := h31
 have e31 : i31 = 0 := by
  refine h31 ?_
  have h2 : r = (fnd l14).drop ((fnd l14).length - r.length) := (List.suffix_iff_eq_drop.1 hsuf)
  rw [fnd_len] at h2
  rw [Int.toNat_natCast, h29]
  rw [e29]
  conv => lhs; rw [h2]
  conv => rhs; rw [← hx]
  unfold txD
  rw [List.map_drop, List.length_map, fnd_len]
 refine ⟨fun h => absurd e31 h, fun _ => ⟨trivial, fun b32 h32 => ⟨fun _ => ⟨fun h => ?_, fun h => ⟨fun _ => ?_, fun h0 => ?_⟩⟩, fun h => ?_⟩⟩⟩
 ·rcases hcode with ⟨h0, _⟩ | h9
  ·exact absurd h0 h
  ·rw [h9]; rfl
 ·rfl
 ·exfalso
  rcases hcode with ⟨_, h0'⟩ | h9
  ·rw [h0'] at h29; simp at h29; rw [h29] at h0; exact h0 rfl
  ·omega
 ·have h32 : b32 = true := h32
  rw [h32] at h; cases h

theorem LWalRetired.pure : LWalRetired.Pure := by
 intro v0 l1 i2 i3 v4 z5 r2 r3 k1 _ _
 refine ⟨trivial, fun n6 l7 r7 => ?_⟩
 have r7 : RepL l7 (Dk.new 100000) := r7
 have l0 : Lim 0 0 (Dk.new 100000) := lim_new 100000
 have m0 : Mid (Dk.new 100000) := mid_of l0
 refine ⟨⟨⟨_, r7, m0⟩, fun n8 l9 v10 l11 ho _ v12 => ⟨?_, ?_⟩⟩, ⟨_, r7, m0⟩, fun v8 l9 i10 ho _ _ => ?_⟩
 rotate_right
 ·obtain ⟨h1, _, h2⟩ := ho _ r7 m0
  have h2 : Wl.opened (Dk.new 100000) i2 = (none, i10) := h2
  rw [Wl.opened_new] at h2; cases h2
 ·obtain ⟨g, r, o1, gg, _, _⟩ := ho _ r7 m0
  have o1 : Wl.opened (Dk.new 100000) i2 = (some (g, r), 0) := o1
  rw [Wl.opened_new] at o1
  obtain ⟨rfl, rfl⟩ := Prod.mk.inj (Option.some.inj (Prod.mk.inj o1).1)
  exact ⟨Int.le_refl _, (by decide : (0 : Int) ≤ 12), rfl, _, _, [], 0, r7, gg, Wl.neat_new i2 r2.2, l0, well_new, Wl.hold_new 100000, Wl.tied_new 100000 i2, rfl, rfl⟩
 clear ho r7
 intro v13 l14 i15 l16 l17 r15 _ ⟨q1, q2, q4, y, g, Q, lo, ry, gg, gN, hl, w0, hH, hT, hrec, hx⟩
 have q1 : 0 ≤ i15 := q1
 have q2 : i15 ≤ 12 := q2
 have q4 : (l14.length : Int) = i15 := q4
 have ry : RepL l17 y := ry
 have gg : LgRep l16 g := gg
 have gN : Wl.Neat 0 (100 * i15) g := gN
 have hl : Lim (10 * i15.toNat) (100 * i15.toNat) y := hl
 have hrec : Wl.recsOf Q = fnd l14 := hrec
 have hx : txD (fnd l14) = l14 := hx
 have hm : Mid y := mid_of hl
 have gN' : Wl.Neat 0 10000 g := ⟨gN.found, gN.limit, ⟨gN.size.1, by have := gN.size.2; omega⟩, gN.next⟩
 refine ⟨fun h1 => ⟨fun h2 => ⟨q1, fun _ => ⟨(by decide : (0 : Int) ≤ 60), fun s18 h18 _ v19 => ?_⟩⟩, fun h2 => ?_⟩, fun h1 => ?_⟩
 rotate_left
 ·exact LWalRetired.tail n6 n8 v0 v4 v13 l1 l14 l16 l17 i2 i3 z5 r2.2 hx ry gg gN' hl w0 (by omega) (by omega) hH hT hrec (by omega)
 ·exact LWalRetired.tail n6 n8 v0 v4 v13 l1 l14 l16 l17 i2 i3 z5 r2.2 hx ry gg gN' hl w0 (by omega) (by omega) hH hT hrec (by omega)
 have h18 : s18 = (l1.getD i15.toNat default).toS.extract 0 60 := h18
 have hs : (tx s18).length ≤ 60 := by rw [h18]; exact cut_le _ 60
 have hx' := str_snoc hx s18
 have hxl : (l14 ++ [D.S s18]).length = l14.length + 1 := by rw [List.length_append]; rfl
 have hfx : fnd (l14 ++ [D.S s18]) = fnd l14 ++ [tx s18] := by simp [fnd, D.toS]
 have hget : ((l14 ++ [D.S s18]).getD i15.toNat default).toS = s18 := by
  rw [List.getD, List.getElem?_append_right (by omega), show i15.toNat - l14.length = 0 from by omega]; rfl
 refine ⟨by rw [hxl]; omega, fun _ v20 => ⟨by rw [hxl]; omega, fun _ => ?_⟩⟩
 rw [hget]
 refine ⟨⟨⟨y, ry, hm⟩, gg.1, (show LgOk (lgOf l16 0) from by rw [gg.2]; exact gN'.ok (by omega) (by omega)), (show s18.size ≤ 900000000 from by have : s18.size = (tx s18).length := rfl; omega)⟩, fun l21 l22 i23 ha _ => ?_⟩
 obtain ⟨ra, ga, ea⟩ := ha y g ry hm gg
 have ra : RepL l22 (Wl.append y g (tx s18)).1 := ra
 have ga : LgRep l21 (Wl.append y g (tx s18)).2.1 := ga
 have ea : i23 = (Wl.append y g (tx s18)).2.2 := ea
 have hlen : (Wl.recsOf Q).length = l14.length := by rw [hrec, fnd_len]
 obtain ⟨R, hR, hBk, hInv, hok⟩ := hH.wappend hT (r := tx s18) (by omega) (by omega)
 obtain ⟨w1, w2⟩ := hH.wappend_well hT w0 hl (r := tx s18) (by omega) (by omega)
 have hN2 := gN.append y (tx s18)
 have hl2 := lim_wappend (g := g) (r := tx s18) hl
 have hf0 := gN.found
 rw [Wl.frT_len] at hl2
 generalize Wl.append y g (tx s18) = w at ra ga ea hBk hInv hok hN2 hl2 w1 w2
 obtain ⟨y2, g2, e2⟩ := w
 dsimp only at ra ga ea hBk hInv hok hN2 hl2 w1 w2
 refine ⟨fun h => absurd (ea.trans w2) h, fun _ => ?_⟩
 obtain ⟨hR2, Q', _, hrec', hH', hT'⟩ := hok w2
 have hrec2 : Wl.recsOf Q' = fnd (l14 ++ [D.S s18]) := by rw [hrec', hR2, hrec, hfx]
 have hN3 : Wl.Neat 0 (100 * (i15 + 1)) g2 := ⟨hN2.found, hN2.limit, ⟨hN2.size.1, by have := hN2.size.2; omega⟩, hN2.next⟩
 have w15 : IntKind.i64.wrap (i15 + 1) = i15 + 1 := wrap64 (by omega) (by omega)
 rw [w15]
 refine ⟨⟨(by omega : 0 ≤ i15 + 1), (by omega : i15 + 1 ≤ 12), (by show ((l14 ++ [D.S s18]).length : Int) = i15 + 1; rw [hxl]; omega), y2, g2, Q', lo, ra, ga, hN3, ?_, w1, hH', hT', hrec2, hx'⟩, (by omega : (12 - (i15 + 1)).toNat < (12 - i15).toNat)⟩
 show Lim (10 * (i15 + 1).toNat) (100 * (i15 + 1).toNat) y2
 exact hl2.mono (by omega) (by omega)
end Go.Vc
