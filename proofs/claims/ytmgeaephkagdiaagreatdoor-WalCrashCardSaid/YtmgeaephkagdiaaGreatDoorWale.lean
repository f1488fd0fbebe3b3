/-
 The log behind a restart: what it bears, and what goes on behind it.
 The log behind a restart: more goes on behind what came back; and what Retire leaves.
 The log's laws with crashes: contracts.
 Printed by wip/vct.py: the conditions of functions, by their contracts.
 The log's laws with crashes: fits.
 The log's laws with crashes: WalCrash.
 The log's laws with crashes: WalRetired.
-/
import Derived.Test.YtmgeaephkagdiaaGreatDoorWald
import Derived.Test.YtmgeaephkagdiaaGreatDoorWalc
import Derived.KernelRfl
set_option linter.unusedVariables false
set_option linter.unusedSimpArgs false
namespace Go.Vc
open Dk (Ds Fi fileAt)
theorem create_room (x : Ds) (nm : Tx) : (Dk.create x nm).1.room = x.room := by
 rcases create_sh x nm with c | ⟨y, c, _, _, e⟩
 ·exact c.room
 ·rw [e]; exact c.room
theorem append_room (x : Ds) (nm s : Tx) : (Dk.append x nm s).1.room = x.room := by
 rcases append_sh x nm s with c | ⟨y, i, c, _, e⟩
 ·exact c.room
 ·rw [e]; exact c.room
theorem sync_room (x : Ds) (nm : Tx) : (Dk.sync x nm).1.room = x.room := by
 rcases sync_sh x nm with c | ⟨y, i, c, _, e⟩
 ·exact c.room
 ·rw [e]; exact c.room
theorem syncNames_room (x : Ds) : (Dk.syncNames x).1.room = x.room := by
 rcases syncNames_sh x with c | ⟨y, c, e⟩
 ·exact c.room
 ·rw [e]; exact c.room
theorem remove_room (x : Ds) (nm : Tx) : (Dk.remove x nm).1.room = x.room := by
 rcases remove_sh x nm with c | ⟨y, i, c, _, e⟩
 ·exact c.room
 ·rw [e]; exact c.room
namespace Wl
theorem syncFound_room : ∀ (l : List Tx) (x : Ds), (syncFound x l).1.room = x.room
 | [], x => rfl
 | n :: l, x => by
  rw [syncFound]
  split
  ·exact sync_room x n
  ·rw [syncFound_room l]; exact sync_room x n
theorem wsync_room (x : Ds) (g : Lg) : (Wl.sync x g).1.room = x.room := by
 unfold Wl.sync sync1
 split
 ·exact syncFound_room _ _
 ·unfold sync2
  split
  ·exact syncFound_room _ _
  ·split
   ·rw [sync_room]; exact syncFound_room _ _
   ·rw [sync_room]; exact syncFound_room _ _
theorem turn3_room (x : Ds) (g : Lg) : (turn3 x g).1.room = x.room := by
 unfold turn3
 split
 ·exact create_room _ _
 ·unfold turn4
  split
  ·rw [syncNames_room]; exact create_room _ _
  ·rw [syncNames_room]; exact create_room _ _
theorem wturn_room (x : Ds) (g : Lg) : (Wl.turn x g).1.room = x.room := by
 unfold Wl.turn turn1
 split
 ·exact wsync_room _ _
 ·split
  ·exact wsync_room _ _
  ·unfold turn2
   split
   ·split
    ·rw [remove_room]; exact wsync_room _ _
    ·rw [turn3_room, remove_room]; exact wsync_room _ _
   ·rw [turn3_room]; exact wsync_room _ _
theorem app2_room (s : Tx) (x : Ds) (g : Lg) : (app2 s x g).1.room = x.room := by
 unfold app2
 split
 ·exact append_room _ _ _
 ·exact append_room _ _ _
theorem wappend_room (x : Ds) (g : Lg) (r : Tx) : (Wl.append x g r).1.room = x.room := by
 unfold Wl.append
 split
 ·rfl
 ·split
  ·unfold app1
   split
   ·exact wturn_room _ _
   ·rw [app2_room]; exact wturn_room _ _
  ·exact app2_room _ _ _

theorem syncFound_less : ∀ (l : List Tx) (x : Ds), (syncFound x l).2.1.length ≤ l.length
 | [], x => Nat.le_refl _
 | n :: l, x => by
  rw [syncFound]
  split
  ·exact Nat.le_refl _
  ·exact Nat.le_succ_of_le (syncFound_less l _)
theorem wsync_less (x : Ds) (g : Lg) : (Wl.sync x g).2.1.found.length ≤ g.found.length := by
 unfold Wl.sync sync1
 split
 ·exact syncFound_less _ _
 ·unfold sync2
  split
  ·exact syncFound_less _ _
  ·split
   ·exact syncFound_less _ _
   ·exact syncFound_less _ _
theorem turn3_less (x : Ds) (g : Lg) : (turn3 x g).2.1.found = g.found := by
 unfold turn3
 split
 ·rfl
 ·unfold turn4
  split <;> rfl
theorem wturn_less (x : Ds) (g : Lg) : (Wl.turn x g).2.1.found.length ≤ g.found.length := by
 unfold Wl.turn turn1
 split
 ·exact wsync_less _ _
 ·split
  ·exact wsync_less _ _
  ·unfold turn2
   split
   ·split
    ·exact wsync_less _ _
    ·rw [turn3_less]; exact wsync_less _ _
   ·rw [turn3_less]; exact wsync_less _ _
theorem app2_lg (s : Tx) (x : Ds) (g : Lg) : (app2 s x g).2.1.found = g.found ∧ (app2 s x g).2.1.limit = g.limit ∧ ((app2 s x g).2.1.size = g.size ∨ (app2 s x g).2.1.size = g.size + s.length) := by
 unfold app2
 split
 ·exact ⟨rfl, rfl, .inl rfl⟩
 ·exact ⟨rfl, rfl, .inr rfl⟩
theorem app2_next (s : Tx) (x : Ds) (g : Lg) (h : g.next < 18446744073709551616) : (app2 s x g).2.1.next < 18446744073709551616 := by
 unfold app2
 split
 ·exact h
 ·exact Nat.mod_lt _ (by decide)
structure Neat (k : Nat) (z : Int) (g : Lg) : Prop where
 found : g.found.length ≤ k
 limit : 1 ≤ g.limit ∧ g.limit < 9223372036854775808
 size : 0 ≤ g.size ∧ g.size ≤ z
 next : g.next < 18446744073709551616
theorem Neat.ok {k : Nat} {z : Int} {g : Lg} (h : Neat k z g) (hk : k ≤ 50000) (hz : z ≤ 1000000000000) : LgOk g :=
 ⟨by have := h.found; omega, h.next, h.limit, h.size.1, by have := h.size.2; omega⟩
theorem Neat.sync {k : Nat} {z : Int} {g : Lg} (h : Neat k z g) (x : Ds) : Neat k z (Wl.sync x g).2.1 := by
 obtain ⟨a1, a2, a3, _⟩ := sync_lg x g
 exact ⟨Nat.le_trans (wsync_less x g) h.found, by rw [a2]; exact h.limit, by rw [a3]; exact h.size, by rw [a1]; exact h.next⟩
theorem Neat.turn {k : Nat} {z : Int} {g : Lg} (h : Neat k z g) (x : Ds) : Neat k z (Wl.turn x g).2.1 := by
 obtain ⟨a1, a2, a3⟩ := turn_lg x g
 refine ⟨Nat.le_trans (wturn_less x g) h.found, by rw [a2]; exact h.limit, ?_, by rw [a1]; exact h.next⟩
 rcases a3 with a3 | a3
 ·rw [a3]; exact h.size
 ·rw [a3]; have := h.size; omega
theorem Neat.app2 {k : Nat} {z : Int} {g : Lg} (h : Neat k z g) (s : Tx) (x : Ds) : Neat k (z + s.length) (Wl.app2 s x g).2.1 := by
 obtain ⟨a1, a2, a3⟩ := app2_lg s x g
 refine ⟨by rw [a1]; exact h.found, by rw [a2]; exact h.limit, ?_, app2_next s x g h.next⟩
 have := h.size
 rcases a3 with a3 | a3 <;> rw [a3] <;> omega
theorem Neat.append {k : Nat} {z : Int} {g : Lg} (h : Neat k z g) (x : Ds) (r : Tx) : Neat k (z + (18 + r.length)) (Wl.append x g r).2.1 := by
 have e : ∀ q, (frT q r).length = 18 + r.length := fun q => frT_len q r
 have keep : ∀ {g : Lg}, Neat k z g → Neat k (z + (18 + r.length)) g := fun h => ⟨h.found, h.limit, ⟨h.size.1, by have := h.size.2; omega⟩, h.next⟩
 unfold Wl.append
 split
 ·exact keep h
 ·split
  ·unfold app1
   split
   ·exact keep (h.turn x)
   ·have := (h.turn x).app2 (frT g.next r) (Wl.turn x g).1
    rw [e] at this
    exact this
  ·have := h.app2 (frT g.next r) x
   rw [e] at this
   exact this
end Wl
end Go.Vc
namespace Go.Vc
open Dk (Ds Fi fileAt)
namespace Wl
theorem Backs.back {y : Ds} {lo n b : Nat} {R : List Tx} (h : Backs y 1 R lo) (hl : Lim n b y) (hroom : y.room = 100000) (hR : R.length ≤ 1000) (hn : n ≤ 10000) (hb : b ≤ 90000) (ch : List Int) (limit : Int) (hlim : limit < 9223372036854775808) (more : Tx) (hmo : more.length ≤ 100) :
  ∃ g m, Wl.opened (Dk.restart y ch) limit = (some (g, R.take m), 0) ∧ lo ≤ m ∧ m ≤ R.length ∧ g.next = m + 1 ∧ LgOk g ∧ Mid (Dk.restart y ch) ∧
   (Wl.append (Dk.restart y ch) g more).2.2 = 0 ∧ LgOk (Wl.append (Dk.restart y ch) g more).2.1 ∧ Mid (Wl.append (Dk.restart y ch) g more).1 ∧
   (Wl.sync (Wl.append (Dk.restart y ch) g more).1 (Wl.append (Dk.restart y ch) g more).2.1).2.2 = 0 ∧
   Mid (Wl.sync (Wl.append (Dk.restart y ch) g more).1 (Wl.append (Dk.restart y ch) g more).2.1).1 ∧
   Mid (Dk.restart (Wl.sync (Wl.append (Dk.restart y ch) g more).1 (Wl.append (Dk.restart y ch) g more).2.1).1 ch) ∧
   ∃ g2, Wl.opened (Dk.restart (Wl.sync (Wl.append (Dk.restart y ch) g more).1 (Wl.append (Dk.restart y ch) g more).2.1).1 ch) limit = (some (g2, R.take m ++ [more]), 0) := by
 obtain ⟨Q, m, hH, m1, m2, m3⟩ := h.restart hl.inv ch
 have hl1 := lim_restart hl ch
 have hlen : (recsOf Q).length = m := by rw [m3, List.length_take]; omega
 have hop := hH.half.log.opened hH.inv rfl limit
 have t := hH.tied (fun _ => rfl) (max limit 1)
 have hQn : Q.length ≤ n := by
  have h1 := hl1.hist.names hl1.inv
  rw [hH.half.names, List.length_map] at h1
  exact Nat.le_trans h1 hl1.files
 have hnx : (if Q = [] then 1 else 1 + (recsOf Q).length) = m + 1 := by
  split
  ·rename_i e
   subst e
   rw [← hlen]; rfl
  ·omega
 have hneat : Neat n 0 ⟨max limit 1, if Q = [] then 1 else 1 + (recsOf Q).length, [], 0, false, Q.map fun f => name f.q⟩ :=
  ⟨by show (Q.map _).length ≤ n; rw [List.length_map]; exact hQn, ⟨by show (1 : Int) ≤ max limit 1; omega, by show max limit 1 < 9223372036854775808; omega⟩, ⟨Int.le_refl _, Int.le_refl _⟩, by show (if Q = [] then 1 else 1 + (recsOf Q).length) < _; rw [hnx]; omega⟩
 have w0 : Well (Dk.restart y ch) := well_restart hroom ch
 have hf0 : (Q.map fun f => name f.q).length ≤ n := by rw [List.length_map]; exact hQn
 refine ⟨_, m, by rw [← m3]; exact hop, m1, m2, hnx, hneat.ok (by omega) (by omega), hl1.mono (by omega) (by omega), ?_⟩
 have hfl : (⟨max limit 1, if Q = [] then 1 else 1 + (recsOf Q).length, [], 0, false, Q.map fun f => name f.q⟩ : Lg).found.length ≤ n := hf0
 generalize (⟨max limit 1, if Q = [] then 1 else 1 + (recsOf Q).length, [], 0, false, Q.map fun f => name f.q⟩ : Lg) = g at t hneat hfl ⊢
 have hr : more.length ≤ 4194304 := by omega
 obtain ⟨w1, w2⟩ := hH.wappend_well t w0 hl1 hr (by omega)
 obtain ⟨R', _, _, _, hok⟩ := hH.wappend t hr (by omega)
 obtain ⟨e1, Q', _, e2, hH', t'⟩ := hok w2
 have hl2 := lim_wappend (g := g) (r := more) hl1
 have hneat2 := hneat.append (Dk.restart y ch) more
 rw [frT_len] at hl2
 generalize Wl.append (Dk.restart y ch) g more = z at w1 w2 hH' t' hl2 hneat2 ⊢
 obtain ⟨y1, g1, e⟩ := z
 dsimp only at w1 w2 hH' t' hl2 hneat2 ⊢
 refine ⟨w2, hneat2.ok (by omega) (by omega), hl2.mono (by omega) (by omega), ?_⟩
 obtain ⟨v1, v2⟩ := hH'.wsync_well t' w1
 obtain ⟨hH2, t2, hw⟩ := hH'.wsync t'
 have hl3 := lim_wsync (g := g1) hl2
 have hf1 := hneat2.found
 generalize Wl.sync y1 g1 = z at v1 v2 hH2 t2 hw hl3 ⊢
 obtain ⟨y2, g2, e3⟩ := z
 dsimp only at v1 v2 hH2 t2 hw hl3 ⊢
 have hfull : Hold y2 1 Q' (recsOf Q').length := ⟨hH2.half.full (hw v2), hH2.pend, hH2.safe, hH2.inv⟩
 obtain ⟨Q2, k, hK, k1, k2, k3⟩ := hfull.backs.restart hfull.inv ch
 have hop2 := hK.half.log.opened hK.inv rfl limit
 have e4 : recsOf Q2 = R.take m ++ [more] := by
  rw [k3, List.take_of_length_le (by omega), e2, e1, m3]
 rw [e4] at hop2
 have hl4 := lim_restart hl3 ch
 exact ⟨v2, hl3.mono (by omega) (by omega), hl4.mono (by omega) (by omega), _, hop2⟩

def Ends (x : Ds) (R : List Tx) : Prop := ∀ k, k ≤ x.pend.length → ∃ s Q, Half x ((x.pend.take k).foldl Dk.apply x.safe) s Q (recsOf Q).length ∧ (recsOf Q) <:+ R
theorem Ends.core {x y : Ds} {R : List Tx} (h : Ends x R) (c : Core x y) : Ends y R := by
 intro k hk
 rw [c.pend] at hk
 obtain ⟨s, Q, h1, h2⟩ := h k hk
 exact ⟨s, Q, by rw [c.pend, c.safe]; exact h1.core c, h2⟩
theorem Ends.restart {x : Ds} {R : List Tx} (h : Ends x R) (hi : Dk.Inv x) (ch : List Int) : ∃ s Q, Hold (Dk.restart x ch) s Q (recsOf Q).length ∧ (recsOf Q) <:+ R := by
 obtain ⟨s, Q0, h1, h2⟩ := h (Dk.pick ch 0 (x.pend.length + 1)) (by have := Dk.pick_lt ch 0 (x.pend.length + 1) (by omega); omega)
 have h1 : Half x (Dk.restart x ch).names s Q0 (recsOf Q0).length := h1
 obtain ⟨Q, m, h3, h4, h5, h6⟩ := h1.restart hi
 rw [List.take_of_length_le h4] at h6
 exact ⟨s, Q, ⟨h3, rfl, rfl, Dk.inv_restart hi ch⟩, by rw [h6]; exact h2⟩
theorem Half.behind {x : Ds} {nm : List (Tx × Nat)} {s lo : Nat} {f : Fl} {B : List Fl} (h : Half x nm s (f :: B) lo) (hw : ∀ g ∈ f :: B, Whole x g.ix) : Half x (B.map fun f => (name f.q, f.ix)) (s + f.rs.length) B (recsOf B).length := by
 have htop := h.top
 have hr : recsOf (f :: B) = f.rs ++ recsOf B := by simp [recsOf]
 rw [hr, List.length_append] at htop
 have hn := h.nodup
 rw [List.map_cons, List.nodup_cons] at hn
 refine ⟨rfl, fun g hg => h.data g (by simp [hg]), fun g hg => h.torn g (by simp [hg]), fun g hg => h.fits g (by simp [hg]), h.chain.2, by omega, hn.2, fun e => by rw [e]; rfl, fun P g e a ha => hw a (by rw [e]; simp [ha]), fun P g e => ⟨g.rs.length, Nat.le_refl _, ?_, ?_⟩⟩
 ·have h1 := hw g (by rw [e]; simp)
  unfold Whole at h1
  rw [h1, h.data g (by rw [e]; simp), List.take_length]
  show _ ≤ (frs g.q g.rs ++ g.tl).length
  rw [List.length_append]; omega
 ·rw [e, recs_app, List.length_append]; simp [recsOf]
theorem Ends.syncNames {x : Ds} {R : List Tx} (h : Ends x R) (hi : Dk.Inv x) : Ends (Dk.syncNames x).1 R ∧ ((Dk.syncNames x).2 = 0 → (Dk.syncNames x).1.pend = [] ∧ (Dk.syncNames x).1.safe = x.names) := by
 unfold Dk.syncNames
 have hc := core_begin x
 generalize Dk.begin x = z at hc ⊢
 obtain ⟨y, st, e⟩ := z
 dsimp only at hc ⊢
 by_cases he : e ≠ 0
 ·rw [if_pos he]
  exact ⟨h.core hc, fun h0 => absurd h0 he⟩
 ·rw [if_neg he]
  refine ⟨fun k hk => ?_, fun _ => ⟨rfl, hc.names⟩⟩
  obtain ⟨s, Q, q1, q2⟩ := h x.pend.length (Nat.le_refl _)
  rw [List.take_length, ← hi.names] at q1
  refine ⟨s, Q, ?_, q2⟩
  have e1 : (([] : List Dk.Cg).take k).foldl Dk.apply y.names = x.names := by rw [List.take_nil]; exact hc.names
  show Half _ ((([] : List Dk.Cg).take k).foldl Dk.apply y.names) s Q _
  rw [e1]
  exact q1.files fun g _ => hc.at g.ix
end Wl
end Go.Vc
namespace Go.Vc
open Dk (Ds)
def fits7.sig : Sig := sigF [.l [.str], .l [.str], .i .i64] [.i .i64] (fun l => (arg l 1).toL.length ≤ 1000000 ∧ 0 ≤ (arg l 4).toI) fun l =>
 (arg l 4).toI ≤ (arg l 1).toL.length → (∃ m, (arg l 1).toL = (arg l 3).toL.take m) → (arg l 5).toI = 0
def LWalCrash.sig : Sig := sigF [.l [.str], .i .i64, .i .i64, .i .i64, .z .i64] [.b] (fun _ => True) yes
def LWalCrash.I0 : List D → Prop := fun l => 0 ≤ (arg l 9).toI ∧ (arg l 9).toI ≤ 20 ∧ 0 ≤ (arg l 8).toI ∧ ((arg l 7).toL.length : Int) = (arg l 9).toI ∧
 ∃ y g Q lo, RepL (arg l 10).toL y ∧ LgRep (arg l 11).toL g ∧ Wl.Neat 0 (100 * (arg l 9).toI) g ∧ Lim (10 * (arg l 9).toI.toNat) (100 * (arg l 9).toI.toNat) y ∧ y.room = 100000 ∧ Wl.Hold y 1 Q lo ∧ Wl.Tied y g 1 Q ∧ Wl.recsOf Q = fnd (arg l 7).toL ∧ txD (fnd (arg l 7).toL) = (arg l 7).toL ∧ (arg l 8).toI ≤ lo
def LWalCrash.I0M : List D → Nat := fun l => (20 - (arg l 9).toI).toNat
end Go.Vc
namespace Go.Vc
set_option linter.unusedVariables false
set_option maxRecDepth 100000
def fits7.Pure : Prop :=
 ∀ (v0 : Value),
 ∀ (l1 : List D),
 ∀ (v2 : Value),
 ∀ (l3 : List D),
 ∀ (i4 : Int),
 (-9223372036854775808 ≤ i4 ∧ i4 < 9223372036854775808) →
 (EK.ok [.str] (D.L l1)) →
 (EK.ok [.str] (D.L l3)) →
 fits7.sig.pre [.V v0, .L l1, .V v2, .L l3, .I i4] →
 ((
 (((l1.length : Nat) : Int) < i4) →
  fits7.sig.post [.V v0, .L l1, .V v2, .L l3, .I i4, (D.I (-1 : Int))]) ∧ (
 (i4 ≤ ((l1.length : Nat) : Int)) →
 ((
 (((l3.length : Nat) : Int) < ((l1.length : Nat) : Int)) →
   fits7.sig.post [.V v0, .L l1, .V v2, .L l3, .I i4, (D.I (-1 : Int))]) ∧ (
 (((l1.length : Nat) : Int) ≤ ((l3.length : Nat) : Int)) →
 (((l1.length : Nat) : Int) ≤ ((l3.length : Nat) : Int)) ∧ ((((l1.length : Nat) : Int) ≤ ((l3.length : Nat) : Int)) →
 ∀ (v5 : Value),
  SameL.sig.pre [.V v0, .L l1, .V v5, (D.L (l3.take ((l1.length : Nat) : Int).toNat))] ∧ (
 ∀ (i6 : Int),
  SameL.sig.post [.V v0, .L l1, .V v5, (D.L (l3.take ((l1.length : Nat) : Int).toNat)), .I i6] →
 (-9223372036854775808 ≤ i6 ∧ i6 < 9223372036854775808) →
  fits7.sig.post [.V v0, .L l1, .V v2, .L l3, .I i4, .I i6]))))))
def LWalCrash.Pure : Prop :=
 ∀ (v0 : Value),
 ∀ (l1 : List D),
 ∀ (i2 : Int),
 ∀ (i3 : Int),
 ∀ (i4 : Int),
 ∀ (v5 : Value),
 ∀ (z6 : List Int),
 (-9223372036854775808 ≤ i2 ∧ i2 < 9223372036854775808) →
 (-9223372036854775808 ≤ i3 ∧ i3 < 9223372036854775808) →
 (-9223372036854775808 ≤ i4 ∧ i4 < 9223372036854775808) →
 (EK.ok [.str] (D.L l1)) →
 (∀ x ∈ z6, IntKind.has .i64 x) →
 LWalCrash.sig.pre [.V v0, .L l1, .I i2, .I i3, .I i4, .V v5, .Z z6] →
 qNew.sig.pre [(D.I (100000 : Int))] ∧ (
 ∀ (n7 : Nat),
 ∀ (l8 : List D),
 qNew.sig.post [(D.I (100000 : Int)), .N n7, .L l8] →
 ((
  pOpen.sig.pre [.N n7, .L l8, .I i2] ∧ (
 ∀ (n9 : Nat),
 ∀ (l10 : List D),
 ∀ (v11 : Value),
 ∀ (l12 : List D),
  pOpen.sig.post [.N n7, .L l8, .I i2, .N n9, .L l10, .V v11, .L l12] →
 (EK.ok [.str] (D.L l12)) →
  qCrash.sig.pre [.N n7, .L l8, .I i4] ∧ (
 ∀ (l13 : List D),
  qCrash.sig.post [.N n7, .L l8, .I i4, .L l13] →
 ∀ (v14 : Value),
  LWalCrash.I0 [.V v0, .L l1, .I i2, .I i3, .I i4, .V v5, .Z z6, (D.L ([] : List D)), (D.I (0 : Int)), (D.I (0 : Int)), .L l13, .L l10] ∧ (
 ∀ (v15 : Value),
 ∀ (l16 : List D),
 ∀ (i17 : Int),
 ∀ (i18 : Int),
 ∀ (l19 : List D),
 ∀ (l20 : List D),
 (-9223372036854775808 ≤ i17 ∧ i17 < 9223372036854775808) →
 (-9223372036854775808 ≤ i18 ∧ i18 < 9223372036854775808) →
 (EK.ok [.str] (D.L l16)) →
  LWalCrash.I0 [.V v0, .L l1, .I i2, .I i3, .I i4, .V v5, .Z z6, .L l16, .I i17, .I i18, .L l19, .L l20] →
 ((
 (i18 < ((l1.length : Nat) : Int)) →
 ((
 (i18 < (20 : Int)) →
 ((0 : Int) ≤ i18) ∧ (((0 : Int) ≤ i18) →
  dCut.sig.pre [(D.S ((l1.getD i18.toNat default)).toS), (D.I (60 : Int))] ∧ (
 ∀ (s21 : ByteArray),
    dCut.sig.post [(D.S ((l1.getD i18.toNat default)).toS), (D.I (60 : Int)), .S s21] →
 ((s21.size : Int) ≤ 9223372036854775807) →
 ∀ (v22 : Value),
 ((((l16 ++ ((D.S s21) :: ([] : List D))).length : Nat) : Int) ≤ (8796093022208 : Int)) ∧ (((((l16 ++ ((D.S s21) :: ([] : List D))).length : Nat) : Int) ≤ (8796093022208 : Int)) →
 ∀ (v23 : Value),
 (i18 < (((l16 ++ ((D.S s21) :: ([] : List D))).length : Nat) : Int)) ∧ ((i18 < (((l16 ++ ((D.S s21) :: ([] : List D))).length : Nat) : Int)) →
  pAppend.sig.pre [.N n9, .N n7, .L l20, .L l19, (D.S (((l16 ++ ((D.S s21) :: ([] : List D))).getD i18.toNat default)).toS)] ∧ (
 ∀ (l24 : List D),
 ∀ (l25 : List D),
 ∀ (i26 : Int),
    pAppend.sig.post [.N n9, .N n7, .L l20, .L l19, (D.S (((l16 ++ ((D.S s21) :: ([] : List D))).getD i18.toNat default)).toS), .L l24, .L l25, .I i26] →
 (-9223372036854775808 ≤ i26 ∧ i26 < 9223372036854775808) →
 ((
 (i26 ≠ (0 : Int)) →
   qRestart.sig.pre [.N n7, .L l25, .V v5, .Z z6] ∧ (
 ∀ (l27 : List D),
   qRestart.sig.post [.N n7, .L l25, .V v5, .Z z6, .L l27] →
 ((
   pOpen.sig.pre [.N n7, .L l27, .I i2] ∧ (
 ∀ (n28 : Nat),
 ∀ (l29 : List D),
 ∀ (v30 : Value),
 ∀ (l31 : List D),
   pOpen.sig.post [.N n7, .L l27, .I i2, .N n28, .L l29, .V v30, .L l31] →
 (EK.ok [.str] (D.L l31)) →
   fits7.sig.pre [.V v30, .L l31, .V v23, (D.L (l16 ++ ((D.S s21) :: ([] : List D)))), .I i17] ∧ (
 ∀ (i32 : Int),
   fits7.sig.post [.V v30, .L l31, .V v23, (D.L (l16 ++ ((D.S s21) :: ([] : List D)))), .I i17, .I i32] →
 (-9223372036854775808 ≤ i32 ∧ i32 < 9223372036854775808) →
 ((
 (i32 ≠ (0 : Int)) →
    LWalCrash.sig.post [.V v0, .L l1, .I i2, .I i3, .I i4, .V v5, .Z z6, .B false]) ∧ (
 (i32 = (0 : Int)) →
    pNext.sig.pre [.N n28, .N n7, .L l29] ∧ (
    pNext.sig.post [.N n28, .N n7, .L l29] →
 ((
 (((l29.getD (1 : Int).toNat default)).toI ≠ (IntKind.wrap .u64 (IntKind.wrap .i64 (((l31.length : Nat) : Int) + (1 : Int))))) →
    LWalCrash.sig.post [.V v0, .L l1, .I i2, .I i3, .I i4, .V v5, .Z z6, .B false]) ∧ (
 (((l29.getD (1 : Int).toNat default)).toI = (IntKind.wrap .u64 (IntKind.wrap .i64 (((l31.length : Nat) : Int) + (1 : Int))))) →
    pAppend.sig.pre [.N n28, .N n7, .L l29, .L l27, (D.S (⟨#[109, 111, 114, 101]⟩ : ByteArray))] ∧ (
 ∀ (l33 : List D),
 ∀ (l34 : List D),
 ∀ (i35 : Int),
    pAppend.sig.post [.N n28, .N n7, .L l29, .L l27, (D.S (⟨#[109, 111, 114, 101]⟩ : ByteArray)), .L l33, .L l34, .I i35] →
 (-9223372036854775808 ≤ i35 ∧ i35 < 9223372036854775808) →
 ((
 (i35 ≠ (0 : Int)) →
         LWalCrash.sig.post [.V v0, .L l1, .I i2, .I i3, .I i4, .V v5, .Z z6, .B false]) ∧ (
 (i35 = (0 : Int)) →
         pSync.sig.pre [.N n28, .N n7, .L l33, .L l34] ∧ (
 ∀ (l36 : List D),
 ∀ (l37 : List D),
 ∀ (i38 : Int),
     pSync.sig.post [.N n28, .N n7, .L l33, .L l34, .L l36, .L l37, .I i38] →
 (-9223372036854775808 ≤ i38 ∧ i38 < 9223372036854775808) →
 ((
 (i38 ≠ (0 : Int)) →
     LWalCrash.sig.post [.V v0, .L l1, .I i2, .I i3, .I i4, .V v5, .Z z6, .B false]) ∧ (
 (i38 = (0 : Int)) →
     qRestart.sig.pre [.N n7, .L l37, .V v5, .Z z6] ∧ (
 ∀ (l39 : List D),
     qRestart.sig.post [.N n7, .L l37, .V v5, .Z z6, .L l39] →
 ((
      pOpen.sig.pre [.N n7, .L l39, .I i2] ∧ (
 ∀ (n40 : Nat),
 ∀ (l41 : List D),
 ∀ (v42 : Value),
 ∀ (l43 : List D),
      pOpen.sig.post [.N n7, .L l39, .I i2, .N n40, .L l41, .V v42, .L l43] →
 (EK.ok [.str] (D.L l43)) →
      aw7.sig.pre [] ∧ (
 ∀ (b44 : Bool),
      aw7.sig.post [.B b44] →
 ((
 (b44 = true) →
 ((
 (((l43.length : Nat) : Int) = (IntKind.wrap .i64 (((l31.length : Nat) : Int) + (1 : Int)))) →
 (((l31.length : Nat) : Int) < ((l43.length : Nat) : Int)) ∧ ((((l31.length : Nat) : Int) < ((l43.length : Nat) : Int)) →
 ((
 (((l43.getD ((l31.length : Nat) : Int).toNat default)).toS = (⟨#[109, 111, 114, 101]⟩ : ByteArray)) →
 (((l31.length : Nat) : Int) ≤ ((l43.length : Nat) : Int)) ∧ ((((l31.length : Nat) : Int) ≤ ((l43.length : Nat) : Int)) →
 ∀ (v45 : Value),
       SameL.sig.pre [.V v45, (D.L (l43.take ((l31.length : Nat) : Int).toNat)), .V v30, .L l31] ∧ (
 ∀ (i46 : Int),
       SameL.sig.post [.V v45, (D.L (l43.take ((l31.length : Nat) : Int).toNat)), .V v30, .L l31, .I i46] →
 (-9223372036854775808 ≤ i46 ∧ i46 < 9223372036854775808) →
       LWalCrash.sig.post [.V v0, .L l1, .I i2, .I i3, .I i4, .V v5, .Z z6, (D.B (i46 == (0 : Int)))]))) ∧ (
 (((l43.getD ((l31.length : Nat) : Int).toNat default)).toS ≠ (⟨#[109, 111, 114, 101]⟩ : ByteArray)) →
              LWalCrash.sig.post [.V v0, .L l1, .I i2, .I i3, .I i4, .V v5, .Z z6, .B false])))) ∧ (
 (((l43.length : Nat) : Int) ≠ (IntKind.wrap .i64 (((l31.length : Nat) : Int) + (1 : Int)))) →
       LWalCrash.sig.post [.V v0, .L l1, .I i2, .I i3, .I i4, .V v5, .Z z6, .B false]))) ∧ (
 (b44 = false) →
      LWalCrash.sig.post [.V v0, .L l1, .I i2, .I i3, .I i4, .V v5, .Z z6, .B false]))))) ∧ (
      pOpen.sig.pre [.N n7, .L l39, .I i2] ∧ (
 ∀ (v40 : Value),
 ∀ (l41 : List D),
 ∀ (i42 : Int),
      pOpen.sig.post2 [.N n7, .L l39, .I i2, .V v40, .L l41, .I i42] →
 (-9223372036854775808 ≤ i42 ∧ i42 < 9223372036854775808) →
 (EK.ok [.str] (D.L l41)) →
      aw7.sig.pre [] ∧ (
 ∀ (b43 : Bool),
      aw7.sig.post [.B b43] →
 ((
 (b43 = true) →
 ((
 (i42 = (0 : Int)) →
 ((
 (((l41.length : Nat) : Int) = (IntKind.wrap .i64 (((l31.length : Nat) : Int) + (1 : Int)))) →
 (((l31.length : Nat) : Int) < ((l41.length : Nat) : Int)) ∧ ((((l31.length : Nat) : Int) < ((l41.length : Nat) : Int)) →
 ((
 (((l41.getD ((l31.length : Nat) : Int).toNat default)).toS = (⟨#[109, 111, 114, 101]⟩ : ByteArray)) →
 (((l31.length : Nat) : Int) ≤ ((l41.length : Nat) : Int)) ∧ ((((l31.length : Nat) : Int) ≤ ((l41.length : Nat) : Int)) →
 ∀ (v44 : Value),
        SameL.sig.pre [.V v44, (D.L (l41.take ((l31.length : Nat) : Int).toNat)), .V v30, .L l31] ∧ (
 ∀ (i45 : Int),
        SameL.sig.post [.V v44, (D.L (l41.take ((l31.length : Nat) : Int).toNat)), .V v30, .L l31, .I i45] →
 (-9223372036854775808 ≤ i45 ∧ i45 < 9223372036854775808) →
        LWalCrash.sig.post [.V v0, .L l1, .I i2, .I i3, .I i4, .V v5, .Z z6, (D.B (i45 == (0 : Int)))]))) ∧ (
 (((l41.getD ((l31.length : Nat) : Int).toNat default)).toS ≠ (⟨#[109, 111, 114, 101]⟩ : ByteArray)) →
               LWalCrash.sig.post [.V v0, .L l1, .I i2, .I i3, .I i4, .V v5, .Z z6, .B false])))) ∧ (
 (((l41.length : Nat) : Int) ≠ (IntKind.wrap .i64 (((l31.length : Nat) : Int) + (1 : Int)))) →
       LWalCrash.sig.post [.V v0, .L l1, .I i2, .I i3, .I i4, .V v5, .Z z6, .B false]))) ∧ (
 (i42 ≠ (0 : Int)) →
       LWalCrash.sig.post [.V v0, .L l1, .I i2, .I i3, .I i4, .V v5, .Z z6, .B false]))) ∧ (
 (b43 = false) →
      LWalCrash.sig.post [.V v0, .L l1, .I i2, .I i3, .I i4, .V v5, .Z z6, .B false]))))))))))))))))))))) ∧ (
   pOpen.sig.pre [.N n7, .L l27, .I i2] ∧ (
 ∀ (v28 : Value),
 ∀ (l29 : List D),
 ∀ (i30 : Int),
   pOpen.sig.post2 [.N n7, .L l27, .I i2, .V v28, .L l29, .I i30] →
 (-9223372036854775808 ≤ i30 ∧ i30 < 9223372036854775808) →
 (EK.ok [.str] (D.L l29)) →
 ((
 (i30 ≠ (0 : Int)) →
    LWalCrash.sig.post [.V v0, .L l1, .I i2, .I i3, .I i4, .V v5, .Z z6, .B false]) ∧ (
 (i30 = (0 : Int)) →
    LWalCrash.sig.post [.V v0, .L l1, .I i2, .I i3, .I i4, .V v5, .Z z6, .B false]))))))) ∧ (
 (i26 = (0 : Int)) →
 ((
 ((0 : Int) < i3) →
 (i3 ≠ (0 : Int)) ∧ ((i3 ≠ (0 : Int)) →
 ((
 ((Int.tmod i18 i3) = (0 : Int)) →
    pSync.sig.pre [.N n9, .N n7, .L l24, .L l25] ∧ (
 ∀ (l27 : List D),
 ∀ (l28 : List D),
 ∀ (i29 : Int),
    pSync.sig.post [.N n9, .N n7, .L l24, .L l25, .L l27, .L l28, .I i29] →
 (-9223372036854775808 ≤ i29 ∧ i29 < 9223372036854775808) →
 ((
 (i29 ≠ (0 : Int)) →
    qRestart.sig.pre [.N n7, .L l28, .V v5, .Z z6] ∧ (
 ∀ (l30 : List D),
    qRestart.sig.post [.N n7, .L l28, .V v5, .Z z6, .L l30] →
 ((
     pOpen.sig.pre [.N n7, .L l30, .I i2] ∧ (
 ∀ (n31 : Nat),
 ∀ (l32 : List D),
 ∀ (v33 : Value),
 ∀ (l34 : List D),
     pOpen.sig.post [.N n7, .L l30, .I i2, .N n31, .L l32, .V v33, .L l34] →
 (EK.ok [.str] (D.L l34)) →
     fits7.sig.pre [.V v33, .L l34, .V v23, (D.L (l16 ++ ((D.S s21) :: ([] : List D)))), .I i17] ∧ (
 ∀ (i35 : Int),
     fits7.sig.post [.V v33, .L l34, .V v23, (D.L (l16 ++ ((D.S s21) :: ([] : List D)))), .I i17, .I i35] →
 (-9223372036854775808 ≤ i35 ∧ i35 < 9223372036854775808) →
 ((
 (i35 ≠ (0 : Int)) →
     LWalCrash.sig.post [.V v0, .L l1, .I i2, .I i3, .I i4, .V v5, .Z z6, .B false]) ∧ (
 (i35 = (0 : Int)) →
     pNext.sig.pre [.N n31, .N n7, .L l32] ∧ (
     pNext.sig.post [.N n31, .N n7, .L l32] →
 ((
 (((l32.getD (1 : Int).toNat default)).toI ≠ (IntKind.wrap .u64 (IntKind.wrap .i64 (((l34.length : Nat) : Int) + (1 : Int))))) →
      LWalCrash.sig.post [.V v0, .L l1, .I i2, .I i3, .I i4, .V v5, .Z z6, .B false]) ∧ (
 (((l32.getD (1 : Int).toNat default)).toI = (IntKind.wrap .u64 (IntKind.wrap .i64 (((l34.length : Nat) : Int) + (1 : Int))))) →
      pAppend.sig.pre [.N n31, .N n7, .L l32, .L l30, (D.S (⟨#[109, 111, 114, 101]⟩ : ByteArray))] ∧ (
 ∀ (l36 : List D),
 ∀ (l37 : List D),
 ∀ (i38 : Int),
      pAppend.sig.post [.N n31, .N n7, .L l32, .L l30, (D.S (⟨#[109, 111, 114, 101]⟩ : ByteArray)), .L l36, .L l37, .I i38] →
 (-9223372036854775808 ≤ i38 ∧ i38 < 9223372036854775808) →
 ((
 (i38 ≠ (0 : Int)) →
      LWalCrash.sig.post [.V v0, .L l1, .I i2, .I i3, .I i4, .V v5, .Z z6, .B false]) ∧ (
 (i38 = (0 : Int)) →
      pSync.sig.pre [.N n31, .N n7, .L l36, .L l37] ∧ (
 ∀ (l39 : List D),
 ∀ (l40 : List D),
 ∀ (i41 : Int),
      pSync.sig.post [.N n31, .N n7, .L l36, .L l37, .L l39, .L l40, .I i41] →
 (-9223372036854775808 ≤ i41 ∧ i41 < 9223372036854775808) →
 ((
 (i41 ≠ (0 : Int)) →
       LWalCrash.sig.post [.V v0, .L l1, .I i2, .I i3, .I i4, .V v5, .Z z6, .B false]) ∧ (
 (i41 = (0 : Int)) →
       qRestart.sig.pre [.N n7, .L l40, .V v5, .Z z6] ∧ (
 ∀ (l42 : List D),
       qRestart.sig.post [.N n7, .L l40, .V v5, .Z z6, .L l42] →
 ((
       pOpen.sig.pre [.N n7, .L l42, .I i2] ∧ (
 ∀ (n43 : Nat),
 ∀ (l44 : List D),
 ∀ (v45 : Value),
 ∀ (l46 : List D),
       pOpen.sig.post [.N n7, .L l42, .I i2, .N n43, .L l44, .V v45, .L l46] →
 (EK.ok [.str] (D.L l46)) →
       aw7.sig.pre [] ∧ (
 ∀ (b47 : Bool),
       aw7.sig.post [.B b47] →
 ((
 (b47 = true) →
 ((
 (((l46.length : Nat) : Int) = (IntKind.wrap .i64 (((l34.length : Nat) : Int) + (1 : Int)))) →
 (((l34.length : Nat) : Int) < ((l46.length : Nat) : Int)) ∧ ((((l34.length : Nat) : Int) < ((l46.length : Nat) : Int)) →
 ((
 (((l46.getD ((l34.length : Nat) : Int).toNat default)).toS = (⟨#[109, 111, 114, 101]⟩ : ByteArray)) →
 (((l34.length : Nat) : Int) ≤ ((l46.length : Nat) : Int)) ∧ ((((l34.length : Nat) : Int) ≤ ((l46.length : Nat) : Int)) →
 ∀ (v48 : Value),
         SameL.sig.pre [.V v48, (D.L (l46.take ((l34.length : Nat) : Int).toNat)), .V v33, .L l34] ∧ (
 ∀ (i49 : Int),
         SameL.sig.post [.V v48, (D.L (l46.take ((l34.length : Nat) : Int).toNat)), .V v33, .L l34, .I i49] →
 (-9223372036854775808 ≤ i49 ∧ i49 < 9223372036854775808) →
         LWalCrash.sig.post [.V v0, .L l1, .I i2, .I i3, .I i4, .V v5, .Z z6, (D.B (i49 == (0 : Int)))]))) ∧ (
 (((l46.getD ((l34.length : Nat) : Int).toNat default)).toS ≠ (⟨#[109, 111, 114, 101]⟩ : ByteArray)) →
         LWalCrash.sig.post [.V v0, .L l1, .I i2, .I i3, .I i4, .V v5, .Z z6, .B false])))) ∧ (
 (((l46.length : Nat) : Int) ≠ (IntKind.wrap .i64 (((l34.length : Nat) : Int) + (1 : Int)))) →
        LWalCrash.sig.post [.V v0, .L l1, .I i2, .I i3, .I i4, .V v5, .Z z6, .B false]))) ∧ (
 (b47 = false) →
        LWalCrash.sig.post [.V v0, .L l1, .I i2, .I i3, .I i4, .V v5, .Z z6, .B false]))))) ∧ (
       pOpen.sig.pre [.N n7, .L l42, .I i2] ∧ (
 ∀ (v43 : Value),
 ∀ (l44 : List D),
 ∀ (i45 : Int),
       pOpen.sig.post2 [.N n7, .L l42, .I i2, .V v43, .L l44, .I i45] →
 (-9223372036854775808 ≤ i45 ∧ i45 < 9223372036854775808) →
 (EK.ok [.str] (D.L l44)) →
       aw7.sig.pre [] ∧ (
 ∀ (b46 : Bool),
       aw7.sig.post [.B b46] →
 ((
 (b46 = true) →
 ((
 (i45 = (0 : Int)) →
 ((
 (((l44.length : Nat) : Int) = (IntKind.wrap .i64 (((l34.length : Nat) : Int) + (1 : Int)))) →
 (((l34.length : Nat) : Int) < ((l44.length : Nat) : Int)) ∧ ((((l34.length : Nat) : Int) < ((l44.length : Nat) : Int)) →
 ((
 (((l44.getD ((l34.length : Nat) : Int).toNat default)).toS = (⟨#[109, 111, 114, 101]⟩ : ByteArray)) →
 (((l34.length : Nat) : Int) ≤ ((l44.length : Nat) : Int)) ∧ ((((l34.length : Nat) : Int) ≤ ((l44.length : Nat) : Int)) →
 ∀ (v47 : Value),
         SameL.sig.pre [.V v47, (D.L (l44.take ((l34.length : Nat) : Int).toNat)), .V v33, .L l34] ∧ (
 ∀ (i48 : Int),
         SameL.sig.post [.V v47, (D.L (l44.take ((l34.length : Nat) : Int).toNat)), .V v33, .L l34, .I i48] →
 (-9223372036854775808 ≤ i48 ∧ i48 < 9223372036854775808) →
         LWalCrash.sig.post [.V v0, .L l1, .I i2, .I i3, .I i4, .V v5, .Z z6, (D.B (i48 == (0 : Int)))]))) ∧ (
 (((l44.getD ((l34.length : Nat) : Int).toNat default)).toS ≠ (⟨#[109, 111, 114, 101]⟩ : ByteArray)) →
         LWalCrash.sig.post [.V v0, .L l1, .I i2, .I i3, .I i4, .V v5, .Z z6, .B false])))) ∧ (
 (((l44.length : Nat) : Int) ≠ (IntKind.wrap .i64 (((l34.length : Nat) : Int) + (1 : Int)))) →
         LWalCrash.sig.post [.V v0, .L l1, .I i2, .I i3, .I i4, .V v5, .Z z6, .B false]))) ∧ (
 (i45 ≠ (0 : Int)) →
        LWalCrash.sig.post [.V v0, .L l1, .I i2, .I i3, .I i4, .V v5, .Z z6, .B false]))) ∧ (
 (b46 = false) →
        LWalCrash.sig.post [.V v0, .L l1, .I i2, .I i3, .I i4, .V v5, .Z z6, .B false]))))))))))))))))))))) ∧ (
     pOpen.sig.pre [.N n7, .L l30, .I i2] ∧ (
 ∀ (v31 : Value),
 ∀ (l32 : List D),
 ∀ (i33 : Int),
     pOpen.sig.post2 [.N n7, .L l30, .I i2, .V v31, .L l32, .I i33] →
 (-9223372036854775808 ≤ i33 ∧ i33 < 9223372036854775808) →
 (EK.ok [.str] (D.L l32)) →
 ((
 (i33 ≠ (0 : Int)) →
     LWalCrash.sig.post [.V v0, .L l1, .I i2, .I i3, .I i4, .V v5, .Z z6, .B false]) ∧ (
 (i33 = (0 : Int)) →
     LWalCrash.sig.post [.V v0, .L l1, .I i2, .I i3, .I i4, .V v5, .Z z6, .B false]))))))) ∧ (
 (i29 = (0 : Int)) →
    LWalCrash.I0 [.V v0, .L l1, .I i2, .I i3, .I i4, .V v5, .Z z6, (D.L (l16 ++ ((D.S s21) :: ([] : List D)))), (D.I (((l16 ++ ((D.S s21) :: ([] : List D))).length : Nat) : Int)), (D.I (IntKind.wrap .i64 (i18 + (1 : Int)))), .L l28, .L l27] ∧ LWalCrash.I0M [.V v0, .L l1, .I i2, .I i3, .I i4, .V v5, .Z z6, (D.L (l16 ++ ((D.S s21) :: ([] : List D)))), (D.I (((l16 ++ ((D.S s21) :: ([] : List D))).length : Nat) : Int)), (D.I (IntKind.wrap .i64 (i18 + (1 : Int)))), .L l28, .L l27] < LWalCrash.I0M [.V v0, .L l1, .I i2, .I i3, .I i4, .V v5, .Z z6, .L l16, .I i17, .I i18, .L l19, .L l20])))) ∧ (
 ((Int.tmod i18 i3) ≠ (0 : Int)) →
    LWalCrash.I0 [.V v0, .L l1, .I i2, .I i3, .I i4, .V v5, .Z z6, (D.L (l16 ++ ((D.S s21) :: ([] : List D)))), .I i17, (D.I (IntKind.wrap .i64 (i18 + (1 : Int)))), .L l25, .L l24] ∧ LWalCrash.I0M [.V v0, .L l1, .I i2, .I i3, .I i4, .V v5, .Z z6, (D.L (l16 ++ ((D.S s21) :: ([] : List D)))), .I i17, (D.I (IntKind.wrap .i64 (i18 + (1 : Int)))), .L l25, .L l24] < LWalCrash.I0M [.V v0, .L l1, .I i2, .I i3, .I i4, .V v5, .Z z6, .L l16, .I i17, .I i18, .L l19, .L l20])))) ∧ (
 (i3 ≤ (0 : Int)) →
   LWalCrash.I0 [.V v0, .L l1, .I i2, .I i3, .I i4, .V v5, .Z z6, (D.L (l16 ++ ((D.S s21) :: ([] : List D)))), .I i17, (D.I (IntKind.wrap .i64 (i18 + (1 : Int)))), .L l25, .L l24] ∧ LWalCrash.I0M [.V v0, .L l1, .I i2, .I i3, .I i4, .V v5, .Z z6, (D.L (l16 ++ ((D.S s21) :: ([] : List D)))), .I i17, (D.I (IntKind.wrap .i64 (i18 + (1 : Int)))), .L l25, .L l24] < LWalCrash.I0M [.V v0, .L l1, .I i2, .I i3, .I i4, .V v5, .Z z6, .L l16, .I i17, .I i18, .L l19, .L l20])))))))))) ∧ (
 ((20 : Int) ≤ i18) →
  qRestart.sig.pre [.N n7, .L l19, .V v5, .Z z6] ∧ (
 ∀ (l21 : List D),
    qRestart.sig.post [.N n7, .L l19, .V v5, .Z z6, .L l21] →
 ((
   pOpen.sig.pre [.N n7, .L l21, .I i2] ∧ (
 ∀ (n22 : Nat),
 ∀ (l23 : List D),
 ∀ (v24 : Value),
 ∀ (l25 : List D),
   pOpen.sig.post [.N n7, .L l21, .I i2, .N n22, .L l23, .V v24, .L l25] →
 (EK.ok [.str] (D.L l25)) →
   fits7.sig.pre [.V v24, .L l25, .V v15, .L l16, .I i17] ∧ (
 ∀ (i26 : Int),
   fits7.sig.post [.V v24, .L l25, .V v15, .L l16, .I i17, .I i26] →
 (-9223372036854775808 ≤ i26 ∧ i26 < 9223372036854775808) →
 ((
 (i26 ≠ (0 : Int)) →
   LWalCrash.sig.post [.V v0, .L l1, .I i2, .I i3, .I i4, .V v5, .Z z6, .B false]) ∧ (
 (i26 = (0 : Int)) →
   pNext.sig.pre [.N n22, .N n7, .L l23] ∧ (
   pNext.sig.post [.N n22, .N n7, .L l23] →
 ((
 (((l23.getD (1 : Int).toNat default)).toI ≠ (IntKind.wrap .u64 (IntKind.wrap .i64 (((l25.length : Nat) : Int) + (1 : Int))))) →
    LWalCrash.sig.post [.V v0, .L l1, .I i2, .I i3, .I i4, .V v5, .Z z6, .B false]) ∧ (
 (((l23.getD (1 : Int).toNat default)).toI = (IntKind.wrap .u64 (IntKind.wrap .i64 (((l25.length : Nat) : Int) + (1 : Int))))) →
    pAppend.sig.pre [.N n22, .N n7, .L l23, .L l21, (D.S (⟨#[109, 111, 114, 101]⟩ : ByteArray))] ∧ (
 ∀ (l27 : List D),
 ∀ (l28 : List D),
 ∀ (i29 : Int),
    pAppend.sig.post [.N n22, .N n7, .L l23, .L l21, (D.S (⟨#[109, 111, 114, 101]⟩ : ByteArray)), .L l27, .L l28, .I i29] →
 (-9223372036854775808 ≤ i29 ∧ i29 < 9223372036854775808) →
 ((
 (i29 ≠ (0 : Int)) →
    LWalCrash.sig.post [.V v0, .L l1, .I i2, .I i3, .I i4, .V v5, .Z z6, .B false]) ∧ (
 (i29 = (0 : Int)) →
    pSync.sig.pre [.N n22, .N n7, .L l27, .L l28] ∧ (
 ∀ (l30 : List D),
 ∀ (l31 : List D),
 ∀ (i32 : Int),
    pSync.sig.post [.N n22, .N n7, .L l27, .L l28, .L l30, .L l31, .I i32] →
 (-9223372036854775808 ≤ i32 ∧ i32 < 9223372036854775808) →
 ((
 (i32 ≠ (0 : Int)) →
         LWalCrash.sig.post [.V v0, .L l1, .I i2, .I i3, .I i4, .V v5, .Z z6, .B false]) ∧ (
 (i32 = (0 : Int)) →
         qRestart.sig.pre [.N n7, .L l31, .V v5, .Z z6] ∧ (
 ∀ (l33 : List D),
     qRestart.sig.post [.N n7, .L l31, .V v5, .Z z6, .L l33] →
 ((
     pOpen.sig.pre [.N n7, .L l33, .I i2] ∧ (
 ∀ (n34 : Nat),
 ∀ (l35 : List D),
 ∀ (v36 : Value),
 ∀ (l37 : List D),
     pOpen.sig.post [.N n7, .L l33, .I i2, .N n34, .L l35, .V v36, .L l37] →
 (EK.ok [.str] (D.L l37)) →
     aw7.sig.pre [] ∧ (
 ∀ (b38 : Bool),
     aw7.sig.post [.B b38] →
 ((
 (b38 = true) →
 ((
 (((l37.length : Nat) : Int) = (IntKind.wrap .i64 (((l25.length : Nat) : Int) + (1 : Int)))) →
 (((l25.length : Nat) : Int) < ((l37.length : Nat) : Int)) ∧ ((((l25.length : Nat) : Int) < ((l37.length : Nat) : Int)) →
 ((
 (((l37.getD ((l25.length : Nat) : Int).toNat default)).toS = (⟨#[109, 111, 114, 101]⟩ : ByteArray)) →
 (((l25.length : Nat) : Int) ≤ ((l37.length : Nat) : Int)) ∧ ((((l25.length : Nat) : Int) ≤ ((l37.length : Nat) : Int)) →
 ∀ (v39 : Value),
       SameL.sig.pre [.V v39, (D.L (l37.take ((l25.length : Nat) : Int).toNat)), .V v24, .L l25] ∧ (
 ∀ (i40 : Int),
       SameL.sig.post [.V v39, (D.L (l37.take ((l25.length : Nat) : Int).toNat)), .V v24, .L l25, .I i40] →
 (-9223372036854775808 ≤ i40 ∧ i40 < 9223372036854775808) →
       LWalCrash.sig.post [.V v0, .L l1, .I i2, .I i3, .I i4, .V v5, .Z z6, (D.B (i40 == (0 : Int)))]))) ∧ (
 (((l37.getD ((l25.length : Nat) : Int).toNat default)).toS ≠ (⟨#[109, 111, 114, 101]⟩ : ByteArray)) →
       LWalCrash.sig.post [.V v0, .L l1, .I i2, .I i3, .I i4, .V v5, .Z z6, .B false])))) ∧ (
 (((l37.length : Nat) : Int) ≠ (IntKind.wrap .i64 (((l25.length : Nat) : Int) + (1 : Int)))) →
      LWalCrash.sig.post [.V v0, .L l1, .I i2, .I i3, .I i4, .V v5, .Z z6, .B false]))) ∧ (
 (b38 = false) →
      LWalCrash.sig.post [.V v0, .L l1, .I i2, .I i3, .I i4, .V v5, .Z z6, .B false]))))) ∧ (
     pOpen.sig.pre [.N n7, .L l33, .I i2] ∧ (
 ∀ (v34 : Value),
 ∀ (l35 : List D),
 ∀ (i36 : Int),
     pOpen.sig.post2 [.N n7, .L l33, .I i2, .V v34, .L l35, .I i36] →
 (-9223372036854775808 ≤ i36 ∧ i36 < 9223372036854775808) →
 (EK.ok [.str] (D.L l35)) →
     aw7.sig.pre [] ∧ (
 ∀ (b37 : Bool),
     aw7.sig.post [.B b37] →
 ((
 (b37 = true) →
 ((
 (i36 = (0 : Int)) →
 ((
 (((l35.length : Nat) : Int) = (IntKind.wrap .i64 (((l25.length : Nat) : Int) + (1 : Int)))) →
 (((l25.length : Nat) : Int) < ((l35.length : Nat) : Int)) ∧ ((((l25.length : Nat) : Int) < ((l35.length : Nat) : Int)) →
 ((
 (((l35.getD ((l25.length : Nat) : Int).toNat default)).toS = (⟨#[109, 111, 114, 101]⟩ : ByteArray)) →
 (((l25.length : Nat) : Int) ≤ ((l35.length : Nat) : Int)) ∧ ((((l25.length : Nat) : Int) ≤ ((l35.length : Nat) : Int)) →
 ∀ (v38 : Value),
       SameL.sig.pre [.V v38, (D.L (l35.take ((l25.length : Nat) : Int).toNat)), .V v24, .L l25] ∧ (
 ∀ (i39 : Int),
       SameL.sig.post [.V v38, (D.L (l35.take ((l25.length : Nat) : Int).toNat)), .V v24, .L l25, .I i39] →
 (-9223372036854775808 ≤ i39 ∧ i39 < 9223372036854775808) →
       LWalCrash.sig.post [.V v0, .L l1, .I i2, .I i3, .I i4, .V v5, .Z z6, (D.B (i39 == (0 : Int)))]))) ∧ (
 (((l35.getD ((l25.length : Nat) : Int).toNat default)).toS ≠ (⟨#[109, 111, 114, 101]⟩ : ByteArray)) →
              LWalCrash.sig.post [.V v0, .L l1, .I i2, .I i3, .I i4, .V v5, .Z z6, .B false])))) ∧ (
 (((l35.length : Nat) : Int) ≠ (IntKind.wrap .i64 (((l25.length : Nat) : Int) + (1 : Int)))) →
       LWalCrash.sig.post [.V v0, .L l1, .I i2, .I i3, .I i4, .V v5, .Z z6, .B false]))) ∧ (
 (i36 ≠ (0 : Int)) →
      LWalCrash.sig.post [.V v0, .L l1, .I i2, .I i3, .I i4, .V v5, .Z z6, .B false]))) ∧ (
 (b37 = false) →
      LWalCrash.sig.post [.V v0, .L l1, .I i2, .I i3, .I i4, .V v5, .Z z6, .B false]))))))))))))))))))))) ∧ (
   pOpen.sig.pre [.N n7, .L l21, .I i2] ∧ (
 ∀ (v22 : Value),
 ∀ (l23 : List D),
 ∀ (i24 : Int),
   pOpen.sig.post2 [.N n7, .L l21, .I i2, .V v22, .L l23, .I i24] →
 (-9223372036854775808 ≤ i24 ∧ i24 < 9223372036854775808) →
 (EK.ok [.str] (D.L l23)) →
 ((
 (i24 ≠ (0 : Int)) →
   LWalCrash.sig.post [.V v0, .L l1, .I i2, .I i3, .I i4, .V v5, .Z z6, .B false]) ∧ (
 (i24 = (0 : Int)) →
   LWalCrash.sig.post [.V v0, .L l1, .I i2, .I i3, .I i4, .V v5, .Z z6, .B false]))))))))) ∧ (
 (((l1.length : Nat) : Int) ≤ i18) →
   qRestart.sig.pre [.N n7, .L l19, .V v5, .Z z6] ∧ (
 ∀ (l21 : List D),
  qRestart.sig.post [.N n7, .L l19, .V v5, .Z z6, .L l21] →
 ((
  pOpen.sig.pre [.N n7, .L l21, .I i2] ∧ (
 ∀ (n22 : Nat),
 ∀ (l23 : List D),
 ∀ (v24 : Value),
 ∀ (l25 : List D),
    pOpen.sig.post [.N n7, .L l21, .I i2, .N n22, .L l23, .V v24, .L l25] →
 (EK.ok [.str] (D.L l25)) →
  fits7.sig.pre [.V v24, .L l25, .V v15, .L l16, .I i17] ∧ (
 ∀ (i26 : Int),
    fits7.sig.post [.V v24, .L l25, .V v15, .L l16, .I i17, .I i26] →
 (-9223372036854775808 ≤ i26 ∧ i26 < 9223372036854775808) →
 ((
 (i26 ≠ (0 : Int)) →
   LWalCrash.sig.post [.V v0, .L l1, .I i2, .I i3, .I i4, .V v5, .Z z6, .B false]) ∧ (
 (i26 = (0 : Int)) →
   pNext.sig.pre [.N n22, .N n7, .L l23] ∧ (
   pNext.sig.post [.N n22, .N n7, .L l23] →
 ((
 (((l23.getD (1 : Int).toNat default)).toI ≠ (IntKind.wrap .u64 (IntKind.wrap .i64 (((l25.length : Nat) : Int) + (1 : Int))))) →
   LWalCrash.sig.post [.V v0, .L l1, .I i2, .I i3, .I i4, .V v5, .Z z6, .B false]) ∧ (
 (((l23.getD (1 : Int).toNat default)).toI = (IntKind.wrap .u64 (IntKind.wrap .i64 (((l25.length : Nat) : Int) + (1 : Int))))) →
   pAppend.sig.pre [.N n22, .N n7, .L l23, .L l21, (D.S (⟨#[109, 111, 114, 101]⟩ : ByteArray))] ∧ (
 ∀ (l27 : List D),
 ∀ (l28 : List D),
 ∀ (i29 : Int),
   pAppend.sig.post [.N n22, .N n7, .L l23, .L l21, (D.S (⟨#[109, 111, 114, 101]⟩ : ByteArray)), .L l27, .L l28, .I i29] →
 (-9223372036854775808 ≤ i29 ∧ i29 < 9223372036854775808) →
 ((
 (i29 ≠ (0 : Int)) →
    LWalCrash.sig.post [.V v0, .L l1, .I i2, .I i3, .I i4, .V v5, .Z z6, .B false]) ∧ (
 (i29 = (0 : Int)) →
    pSync.sig.pre [.N n22, .N n7, .L l27, .L l28] ∧ (
 ∀ (l30 : List D),
 ∀ (l31 : List D),
 ∀ (i32 : Int),
    pSync.sig.post [.N n22, .N n7, .L l27, .L l28, .L l30, .L l31, .I i32] →
 (-9223372036854775808 ≤ i32 ∧ i32 < 9223372036854775808) →
 ((
 (i32 ≠ (0 : Int)) →
    LWalCrash.sig.post [.V v0, .L l1, .I i2, .I i3, .I i4, .V v5, .Z z6, .B false]) ∧ (
 (i32 = (0 : Int)) →
    qRestart.sig.pre [.N n7, .L l31, .V v5, .Z z6] ∧ (
 ∀ (l33 : List D),
    qRestart.sig.post [.N n7, .L l31, .V v5, .Z z6, .L l33] →
 ((
     pOpen.sig.pre [.N n7, .L l33, .I i2] ∧ (
 ∀ (n34 : Nat),
 ∀ (l35 : List D),
 ∀ (v36 : Value),
 ∀ (l37 : List D),
     pOpen.sig.post [.N n7, .L l33, .I i2, .N n34, .L l35, .V v36, .L l37] →
 (EK.ok [.str] (D.L l37)) →
     aw7.sig.pre [] ∧ (
 ∀ (b38 : Bool),
     aw7.sig.post [.B b38] →
 ((
 (b38 = true) →
 ((
 (((l37.length : Nat) : Int) = (IntKind.wrap .i64 (((l25.length : Nat) : Int) + (1 : Int)))) →
 (((l25.length : Nat) : Int) < ((l37.length : Nat) : Int)) ∧ ((((l25.length : Nat) : Int) < ((l37.length : Nat) : Int)) →
 ((
 (((l37.getD ((l25.length : Nat) : Int).toNat default)).toS = (⟨#[109, 111, 114, 101]⟩ : ByteArray)) →
 (((l25.length : Nat) : Int) ≤ ((l37.length : Nat) : Int)) ∧ ((((l25.length : Nat) : Int) ≤ ((l37.length : Nat) : Int)) →
 ∀ (v39 : Value),
      SameL.sig.pre [.V v39, (D.L (l37.take ((l25.length : Nat) : Int).toNat)), .V v24, .L l25] ∧ (
 ∀ (i40 : Int),
      SameL.sig.post [.V v39, (D.L (l37.take ((l25.length : Nat) : Int).toNat)), .V v24, .L l25, .I i40] →
 (-9223372036854775808 ≤ i40 ∧ i40 < 9223372036854775808) →
      LWalCrash.sig.post [.V v0, .L l1, .I i2, .I i3, .I i4, .V v5, .Z z6, (D.B (i40 == (0 : Int)))]))) ∧ (
 (((l37.getD ((l25.length : Nat) : Int).toNat default)).toS ≠ (⟨#[109, 111, 114, 101]⟩ : ByteArray)) →
      LWalCrash.sig.post [.V v0, .L l1, .I i2, .I i3, .I i4, .V v5, .Z z6, .B false])))) ∧ (
 (((l37.length : Nat) : Int) ≠ (IntKind.wrap .i64 (((l25.length : Nat) : Int) + (1 : Int)))) →
      LWalCrash.sig.post [.V v0, .L l1, .I i2, .I i3, .I i4, .V v5, .Z z6, .B false]))) ∧ (
 (b38 = false) →
     LWalCrash.sig.post [.V v0, .L l1, .I i2, .I i3, .I i4, .V v5, .Z z6, .B false]))))) ∧ (
     pOpen.sig.pre [.N n7, .L l33, .I i2] ∧ (
 ∀ (v34 : Value),
 ∀ (l35 : List D),
 ∀ (i36 : Int),
     pOpen.sig.post2 [.N n7, .L l33, .I i2, .V v34, .L l35, .I i36] →
 (-9223372036854775808 ≤ i36 ∧ i36 < 9223372036854775808) →
 (EK.ok [.str] (D.L l35)) →
     aw7.sig.pre [] ∧ (
 ∀ (b37 : Bool),
     aw7.sig.post [.B b37] →
 ((
 (b37 = true) →
 ((
 (i36 = (0 : Int)) →
 ((
 (((l35.length : Nat) : Int) = (IntKind.wrap .i64 (((l25.length : Nat) : Int) + (1 : Int)))) →
 (((l25.length : Nat) : Int) < ((l35.length : Nat) : Int)) ∧ ((((l25.length : Nat) : Int) < ((l35.length : Nat) : Int)) →
 ((
 (((l35.getD ((l25.length : Nat) : Int).toNat default)).toS = (⟨#[109, 111, 114, 101]⟩ : ByteArray)) →
 (((l25.length : Nat) : Int) ≤ ((l35.length : Nat) : Int)) ∧ ((((l25.length : Nat) : Int) ≤ ((l35.length : Nat) : Int)) →
 ∀ (v38 : Value),
       SameL.sig.pre [.V v38, (D.L (l35.take ((l25.length : Nat) : Int).toNat)), .V v24, .L l25] ∧ (
 ∀ (i39 : Int),
       SameL.sig.post [.V v38, (D.L (l35.take ((l25.length : Nat) : Int).toNat)), .V v24, .L l25, .I i39] →
 (-9223372036854775808 ≤ i39 ∧ i39 < 9223372036854775808) →
       LWalCrash.sig.post [.V v0, .L l1, .I i2, .I i3, .I i4, .V v5, .Z z6, (D.B (i39 == (0 : Int)))]))) ∧ (
 (((l35.getD ((l25.length : Nat) : Int).toNat default)).toS ≠ (⟨#[109, 111, 114, 101]⟩ : ByteArray)) →
       LWalCrash.sig.post [.V v0, .L l1, .I i2, .I i3, .I i4, .V v5, .Z z6, .B false])))) ∧ (
 (((l35.length : Nat) : Int) ≠ (IntKind.wrap .i64 (((l25.length : Nat) : Int) + (1 : Int)))) →
      LWalCrash.sig.post [.V v0, .L l1, .I i2, .I i3, .I i4, .V v5, .Z z6, .B false]))) ∧ (
 (i36 ≠ (0 : Int)) →
      LWalCrash.sig.post [.V v0, .L l1, .I i2, .I i3, .I i4, .V v5, .Z z6, .B false]))) ∧ (
 (b37 = false) →
     LWalCrash.sig.post [.V v0, .L l1, .I i2, .I i3, .I i4, .V v5, .Z z6, .B false]))))))))))))))))))))) ∧ (
  pOpen.sig.pre [.N n7, .L l21, .I i2] ∧ (
 ∀ (v22 : Value),
 ∀ (l23 : List D),
 ∀ (i24 : Int),
    pOpen.sig.post2 [.N n7, .L l21, .I i2, .V v22, .L l23, .I i24] →
 (-9223372036854775808 ≤ i24 ∧ i24 < 9223372036854775808) →
 (EK.ok [.str] (D.L l23)) →
 ((
 (i24 ≠ (0 : Int)) →
   LWalCrash.sig.post [.V v0, .L l1, .I i2, .I i3, .I i4, .V v5, .Z z6, .B false]) ∧ (
 (i24 = (0 : Int)) →
   LWalCrash.sig.post [.V v0, .L l1, .I i2, .I i3, .I i4, .V v5, .Z z6, .B false])))))))))))) ∧ (
  pOpen.sig.pre [.N n7, .L l8, .I i2] ∧ (
 ∀ (v9 : Value),
 ∀ (l10 : List D),
 ∀ (i11 : Int),
  pOpen.sig.post2 [.N n7, .L l8, .I i2, .V v9, .L l10, .I i11] →
 (-9223372036854775808 ≤ i11 ∧ i11 < 9223372036854775808) →
 (EK.ok [.str] (D.L l10)) →
 ((
 (i11 ≠ (0 : Int)) →
  LWalCrash.sig.post [.V v0, .L l1, .I i2, .I i3, .I i4, .V v5, .Z z6, .B false]) ∧ (
 (i11 = (0 : Int)) →
  LWalCrash.sig.post [.V v0, .L l1, .I i2, .I i3, .I i4, .V v5, .Z z6, .B false]))))))
end Go.Vc
namespace Go.Vc
theorem fits7.pure : fits7.Pure := by
 intro v0 l1 v2 l3 i4 _ _ _ ⟨p1, p2⟩
 have p1 : l1.length ≤ 1000000 := p1
 refine ⟨fun h => ?_, fun h => ⟨fun h2 => ?_, fun h2 => ⟨h2, fun _ v5 => ⟨?_, fun i6 h6 _ => ?_⟩⟩⟩⟩
 ·intro (h3 : i4 ≤ l1.length) _
  omega
 ·rintro _ ⟨m, (e : l1 = l3.take m)⟩
  have := congrArg List.length e
  rw [List.length_take] at this
  omega
 ·show (l3.take ((l1.length : Nat) : Int).toNat).length ≤ 1000000
  rw [List.length_take]; omega
 ·rintro _ ⟨m, (e : l1 = l3.take m)⟩
  have h6 : l1 = l3.take ((l1.length : Nat) : Int).toNat → i6 = 0 := h6
  refine h6 ?_
  rw [Int.toNat_natCast]
  have hl := congrArg List.length e
  rw [List.length_take] at hl
  by_cases hm : m ≤ l3.length
  ·rw [show l1.length = m from by omega]; exact e
  ·rw [show l1.length = l3.length from by omega, List.take_length, e, List.take_of_length_le (by omega)]
end Go.Vc
namespace Go.Vc
open Dk (Ds)
namespace Wl
theorem Tied.core {x y : Ds} {g : Lg} {s : Nat} {Q : List Fl} (h : Tied x g s Q) (c : Core x y) : Tied y g s Q :=
 ⟨h.next, h.found, h.cur, h.bound, fun P f e => by
  rcases h.last P f e with h1 | h1 | h1
  ·exact .inl h1
  ·refine .inr (.inl ?_)
   unfold Whole at h1 ⊢
   rw [c.at]; exact h1
  ·exact .inr (.inr h1)⟩
theorem hold_new (r : Int) : Hold (Dk.new r) 1 [] 0 :=
 ⟨⟨rfl, fun f hf => absurd hf (by simp), fun f hf => absurd hf (by simp), fun f hf => absurd hf (by simp), trivial, by show (1 + 0 : Nat) < _; omega, List.nodup_nil, fun _ => rfl, fun P f e => absurd e (by simp), fun P f e => absurd e (by simp)⟩, rfl, rfl, Dk.inv_new r⟩
theorem opened_new (r limit : Int) : Wl.opened (Dk.new r) limit = (some (⟨max limit 1, 1, [], 0, false, []⟩, []), 0) := rfl
theorem tied_new (r limit : Int) : Tied (Dk.new r) ⟨max limit 1, 1, [], 0, false, []⟩ 1 [] := (hold_new r).tied (fun _ => rfl) (max limit 1)
theorem neat_new (limit : Int) (h : limit < 9223372036854775808) : Neat 0 0 ⟨max limit 1, 1, [], 0, false, []⟩ :=
 ⟨Nat.le_refl _, ⟨by show (1 : Int) ≤ max limit 1; omega, by show max limit 1 < 9223372036854775808; omega⟩, ⟨Int.le_refl _, Int.le_refl _⟩, by show (1 : Nat) < _; omega⟩
end Wl
def crashed (x : Ds) (k : Int) : Ds := { x with crash := k }
theorem core_crashed (x : Ds) (k : Int) : Core x (crashed x k) := ⟨rfl, rfl, rfl, rfl, rfl⟩
theorem txD_app (a b : List Tx) : txD (a ++ b) = txD a ++ txD b := by simp [txD]
theorem txD_take (a : List Tx) (n : Nat) : (txD a).take n = txD (a.take n) := by simp [txD]
theorem txD_len (a : List Tx) : (txD a).length = a.length := by simp [txD]
theorem fnd_len (a : List D) : (fnd a).length = a.length := by simp [fnd]
theorem str_snoc {l : List D} (h : txD (fnd l) = l) (s : ByteArray) : txD (fnd (l ++ [.S s])) = l ++ [.S s] := by
 have e : fnd (l ++ [.S s]) = fnd l ++ [tx s] := by simp [fnd, D.toS]
 rw [e, txD_app, h]
 show l ++ [D.S (bx (tx s))] = _
 rw [bx_tx]
theorem lim_crashed {n b : Nat} {x : Ds} (h : Lim n b x) (c : Int) : Lim n b (crashed x c) := ⟨h.inv.same rfl rfl rfl rfl, h.files, h.hist, h.pend, h.calls0, h.calls, h.room, h.bytes⟩

theorem LWalCrash.tail (n7 : Nat) (v0 v5 v15 : Value) (l1 l16 l19 : List D) (i2 i3 i4 i17 : Int) (z6 : List Int) (r2 : i2 < 9223372036854775808) (hx : txD (fnd l16) = l16) (h17 : 0 ≤ i17) {y : Ds} {lo n b : Nat} {R : List Tx} (ry : RepL l19 y) (hB : Wl.Backs y 1 R lo) (hl : Lim n b y) (hroom : y.room = 100000) (hn : n ≤ 10000) (hb : b ≤ 90000) (h16 : l16.length ≤ 20) (hR : R <+: fnd l16) (hlo : i17 ≤ lo) :
  (qRestart.sig.pre [(D.N n7), (D.L l19), (D.V v5), (D.Z z6)] ∧ (
  ∀ (l21 : List D),
  qRestart.sig.post [(D.N n7), (D.L l19), (D.V v5), (D.Z z6), (D.L l21)] →
  ((
   pOpen.sig.pre [(D.N n7), (D.L l21), (D.I i2)] ∧ (
   ∀ (n22 : Nat),
   ∀ (l23 : List D),
   ∀ (v24 : Value),
   ∀ (l25 : List D),
   pOpen.sig.post [(D.N n7), (D.L l21), (D.I i2), (D.N n22), (D.L l23), (D.V v24), (D.L l25)] →
   (EK.ok [.str] (D.L l25)) →
   fits7.sig.pre [(D.V v24), (D.L l25), (D.V v15), (D.L l16), (D.I i17)] ∧ (
   ∀ (i26 : Int),
   fits7.sig.post [(D.V v24), (D.L l25), (D.V v15), (D.L l16), (D.I i17), (D.I i26)] →
   (-9223372036854775808 ≤ i26 ∧ i26 < 9223372036854775808) →
   ((
    (i26 ≠ (0 : Int)) →
    LWalCrash.sig.post [(D.V v0), (D.L l1), (D.I i2), (D.I i3), (D.I i4), (D.V v5), (D.Z z6), (D.B false)]) ∧ (
    (i26 = (0 : Int)) →
    pNext.sig.pre [(D.N n22), (D.N n7), (D.L l23)] ∧ (
    pNext.sig.post [(D.N n22), (D.N n7), (D.L l23)] →
    ((
     (((l23.getD (1 : Int).toNat default)).toI ≠ (IntKind.wrap .u64 (IntKind.wrap .i64 (((l25.length : Nat) : Int) + (1 : Int))))) →
     LWalCrash.sig.post [(D.V v0), (D.L l1), (D.I i2), (D.I i3), (D.I i4), (D.V v5), (D.Z z6), (D.B false)]) ∧ (
     (((l23.getD (1 : Int).toNat default)).toI = (IntKind.wrap .u64 (IntKind.wrap .i64 (((l25.length : Nat) : Int) + (1 : Int))))) →
     pAppend.sig.pre [(D.N n22), (D.N n7), (D.L l23), (D.L l21), (D.S (⟨#[109, 111, 114, 101]⟩ : ByteArray))] ∧ (
     ∀ (l27 : List D),
     ∀ (l28 : List D),
     ∀ (i29 : Int),
     pAppend.sig.post [(D.N n22), (D.N n7), (D.L l23), (D.L l21), (D.S (⟨#[109, 111, 114, 101]⟩ : ByteArray)), (D.L l27), (D.L l28), (D.I i29)] →
     (-9223372036854775808 ≤ i29 ∧ i29 < 9223372036854775808) →
     ((
      (i29 ≠ (0 : Int)) →
      LWalCrash.sig.post [(D.V v0), (D.L l1), (D.I i2), (D.I i3), (D.I i4), (D.V v5), (D.Z z6), (D.B false)]) ∧ (
      (i29 = (0 : Int)) →
      pSync.sig.pre [(D.N n22), (D.N n7), (D.L l27), (D.L l28)] ∧ (
      ∀ (l30 : List D),
      ∀ (l31 : List D),
      ∀ (i32 : Int),
      pSync.sig.post [(D.N n22), (D.N n7), (D.L l27), (D.L l28), (D.L l30), (D.L l31), (D.I i32)] →
      (-9223372036854775808 ≤ i32 ∧ i32 < 9223372036854775808) →
      ((
       (i32 ≠ (0 : Int)) →
       LWalCrash.sig.post [(D.V v0), (D.L l1), (D.I i2), (D.I i3), (D.I i4), (D.V v5), (D.Z z6), (D.B false)]) ∧ (
       (i32 = (0 : Int)) →
       qRestart.sig.pre [(D.N n7), (D.L l31), (D.V v5), (D.Z z6)] ∧ (
       ∀ (l33 : List D),
       qRestart.sig.post [(D.N n7), (D.L l31), (D.V v5), (D.Z z6), (D.L l33)] →
       ((
        pOpen.sig.pre [(D.N n7), (D.L l33), (D.I i2)] ∧ (
        ∀ (n34 : Nat),
        ∀ (l35 : List D),
        ∀ (v36 : Value),
        ∀ (l37 : List D),
        pOpen.sig.post [(D.N n7), (D.L l33), (D.I i2), (D.N n34), (D.L l35), (D.V v36), (D.L l37)] →
        (EK.ok [.str] (D.L l37)) →
        aw7.sig.pre [] ∧ (
        ∀ (b38 : Bool),
        aw7.sig.post [(D.B b38)] →
        ((
         (b38 = true) →
         ((
          (((l37.length : Nat) : Int) = (IntKind.wrap .i64 (((l25.length : Nat) : Int) + (1 : Int)))) →
          (((l25.length : Nat) : Int) < ((l37.length : Nat) : Int)) ∧ ((((l25.length : Nat) : Int) < ((l37.length : Nat) : Int)) →
          ((
           (((l37.getD ((l25.length : Nat) : Int).toNat default)).toS = (⟨#[109, 111, 114, 101]⟩ : ByteArray)) →
           (((l25.length : Nat) : Int) ≤ ((l37.length : Nat) : Int)) ∧ ((((l25.length : Nat) : Int) ≤ ((l37.length : Nat) : Int)) →
           ∀ (v39 : Value),
           SameL.sig.pre [(D.V v39), (D.L (l37.take ((l25.length : Nat) : Int).toNat)), (D.V v24), (D.L l25)] ∧ (
           ∀ (i40 : Int),
           SameL.sig.post [(D.V v39), (D.L (l37.take ((l25.length : Nat) : Int).toNat)), (D.V v24), (D.L l25), (D.I i40)] →
           (-9223372036854775808 ≤ i40 ∧ i40 < 9223372036854775808) →
           LWalCrash.sig.post [(D.V v0), (D.L l1), (D.I i2), (D.I i3), (D.I i4), (D.V v5), (D.Z z6), (D.B (i40 == (0 : Int)))]))) ∧ (
           (((l37.getD ((l25.length : Nat) : Int).toNat default)).toS ≠ (⟨#[109, 111, 114, 101]⟩ : ByteArray)) →
           LWalCrash.sig.post [(D.V v0), (D.L l1), (D.I i2), (D.I i3), (D.I i4), (D.V v5), (D.Z z6), (D.B false)])))) ∧ (
          (((l37.length : Nat) : Int) ≠ (IntKind.wrap .i64 (((l25.length : Nat) : Int) + (1 : Int)))) →
          LWalCrash.sig.post [(D.V v0), (D.L l1), (D.I i2), (D.I i3), (D.I i4), (D.V v5), (D.Z z6), (D.B false)]))) ∧ (
         (b38 = false) →
         LWalCrash.sig.post [(D.V v0), (D.L l1), (D.I i2), (D.I i3), (D.I i4), (D.V v5), (D.Z z6), (D.B false)]))))) ∧ (
        pOpen.sig.pre [(D.N n7), (D.L l33), (D.I i2)] ∧ (
        ∀ (v34 : Value),
        ∀ (l35 : List D),
        ∀ (i36 : Int),
        pOpen.sig.post2 [(D.N n7), (D.L l33), (D.I i2), (D.V v34), (D.L l35), (D.I i36)] →
        (-9223372036854775808 ≤ i36 ∧ i36 < 9223372036854775808) →
        (EK.ok [.str] (D.L l35)) →
        aw7.sig.pre [] ∧ (
        ∀ (b37 : Bool),
        aw7.sig.post [(D.B b37)] →
        ((
         (b37 = true) →
         ((
          (i36 = (0 : Int)) →
          ((
           (((l35.length : Nat) : Int) = (IntKind.wrap .i64 (((l25.length : Nat) : Int) + (1 : Int)))) →
           (((l25.length : Nat) : Int) < ((l35.length : Nat) : Int)) ∧ ((((l25.length : Nat) : Int) < ((l35.length : Nat) : Int)) →
           ((
            (((l35.getD ((l25.length : Nat) : Int).toNat default)).toS = (⟨#[109, 111, 114, 101]⟩ : ByteArray)) →
            (((l25.length : Nat) : Int) ≤ ((l35.length : Nat) : Int)) ∧ ((((l25.length : Nat) : Int) ≤ ((l35.length : Nat) : Int)) →
            ∀ (v38 : Value),
            SameL.sig.pre [(D.V v38), (D.L (l35.take ((l25.length : Nat) : Int).toNat)), (D.V v24), (D.L l25)] ∧ (
            ∀ (i39 : Int),
            SameL.sig.post [(D.V v38), (D.L (l35.take ((l25.length : Nat) : Int).toNat)), (D.V v24), (D.L l25), (D.I i39)] →
            (-9223372036854775808 ≤ i39 ∧ i39 < 9223372036854775808) →
            LWalCrash.sig.post [(D.V v0), (D.L l1), (D.I i2), (D.I i3), (D.I i4), (D.V v5), (D.Z z6), (D.B (i39 == (0 : Int)))]))) ∧ (
            (((l35.getD ((l25.length : Nat) : Int).toNat default)).toS ≠ (⟨#[109, 111, 114, 101]⟩ : ByteArray)) →
            LWalCrash.sig.post [(D.V v0), (D.L l1), (D.I i2), (D.I i3), (D.I i4), (D.V v5), (D.Z z6), (D.B false)])))) ∧ (
           (((l35.length : Nat) : Int) ≠ (IntKind.wrap .i64 (((l25.length : Nat) : Int) + (1 : Int)))) →
           LWalCrash.sig.post [(D.V v0), (D.L l1), (D.I i2), (D.I i3), (D.I i4), (D.V v5), (D.Z z6), (D.B false)]))) ∧ (
          (i36 ≠ (0 : Int)) →
          LWalCrash.sig.post [(D.V v0), (D.L l1), (D.I i2), (D.I i3), (D.I i4), (D.V v5), (D.Z z6), (D.B false)]))) ∧ (
         (b37 = false) →
         LWalCrash.sig.post [(D.V v0), (D.L l1), (D.I i2), (D.I i3), (D.I i4), (D.V v5), (D.Z z6), (D.B false)]))))))))))))))))))))) ∧ (
   pOpen.sig.pre [(D.N n7), (D.L l21), (D.I i2)] ∧ (
   ∀ (v22 : Value),
   ∀ (l23 : List D),
   ∀ (i24 : Int),
   pOpen.sig.post2 [(D.N n7), (D.L l21), (D.I i2), (D.V v22), (D.L l23), (D.I i24)] →
   (-9223372036854775808 ≤ i24 ∧ i24 < 9223372036854775808) →
   (EK.ok [.str] (D.L l23)) →
   ((
    (i24 ≠ (0 : Int)) →
    LWalCrash.sig.post [(D.V v0), (D.L l1), (D.I i2), (D.I i3), (D.I i4), (D.V v5), (D.Z z6), (D.B false)]) ∧ (
    (i24 = (0 : Int)) →
    LWalCrash.sig.post [(D.V v0), (D.L l1), (D.I i2), (D.I i3), (D.I i4), (D.V v5), (D.Z z6), (D.B false)]))))))) := by
 have hRl : R.length ≤ l16.length := by
  have := hR.length_le
  rw [fnd_len] at this; exact this
 obtain ⟨g, m, o1, m1, m2, gn, gok, mid1, a1, aok, mid2, s1, mid3, mid4, g2, o2⟩ := hB.back hl hroom (by omega) hn hb z6 i2 r2 [109, 111, 114, 101] (by decide)
 have sy : Small y := hl.small (by omega) (by omega)
 refine ⟨⟨y, ry, sy⟩, fun l21 hr => ?_⟩
 have rr : RepL l21 (Dk.restart y z6) := hr y ry sy
 refine ⟨⟨⟨_, rr, mid1⟩, fun n22 l23 v24 l25 ho k25 => ?_⟩, ⟨_, rr, mid1⟩, fun v22 l23 i24 ho _ _ => ?_⟩
 rotate_left
 ·obtain ⟨h1, _, h2⟩ := ho _ rr mid1
  have h2 : Wl.opened (Dk.restart y z6) i2 = (none, i24) := h2
  rw [o1] at h2; cases h2
 obtain ⟨g', r', o1', gg, e25, gp⟩ := ho _ rr mid1
 have o1' : Wl.opened (Dk.restart y z6) i2 = (some (g', r'), 0) := o1'
 rw [o1] at o1'
 obtain ⟨rfl, rfl⟩ := Prod.mk.inj (Option.some.inj (Prod.mk.inj o1').1)
 have gg : LgRep l23 g := gg
 have e25 : l25 = txD (R.take m) := e25
 have gp : 0 ≤ (l23.getD 1 default).toI := gp
 have hnx : (l23.getD 1 default).toI = m + 1 := by
  have h1 : (arg l23 1).toI.toNat = g.next := congrArg Wl.Lg.next gg.2
  have h1 : (l23.getD 1 default).toI.toNat = g.next := h1
  omega
 have h25 : l25.length = m := by rw [e25, txD_len, List.length_take]; omega
 have hpre : l25 = l16.take m := by
  obtain ⟨T, hT⟩ := hR
  rw [e25, ← hx, ← hT, txD_take, List.take_append_of_le_length (by omega)]
 refine ⟨⟨by show l25.length ≤ 1000000; omega, h17⟩, fun i26 hf _ => ?_⟩
 have e26 : i26 = 0 := hf (by show i17 ≤ l25.length; omega) ⟨m, hpre⟩
 refine ⟨fun h => absurd e26 h, fun _ => ⟨gg.1, fun _ => ⟨fun h => ?_, fun _ => ?_⟩⟩⟩
 ·exfalso
  have w1 : IntKind.i64.wrap ((l25.length : Int) + 1) = (l25.length : Int) + 1 := wrap64 (by omega) (by omega)
  have w2 : IntKind.u64.wrap ((l25.length : Int) + 1) = (l25.length : Int) + 1 := wrap_u64_eq (by omega) (by omega)
  have h : (l23.getD 1 default).toI ≠ IntKind.u64.wrap (IntKind.i64.wrap ((l25.length : Int) + 1)) := h
  rw [w1, w2] at h
  exact h (by omega)
 refine ⟨⟨⟨_, rr, mid1⟩, gg.1, (show LgOk (lgOf l23 0) from by rw [gg.2]; exact gok), (by decide : (ByteArray.size ⟨#[109, 111, 114, 101]⟩) ≤ 900000000)⟩, fun l27 l28 i29 ha _ => ?_⟩
 obtain ⟨ra, ga, ea⟩ := ha _ g rr mid1 gg
 have ra : RepL l28 (Wl.append (Dk.restart y z6) g [109, 111, 114, 101]).1 := ra
 have ga : LgRep l27 (Wl.append (Dk.restart y z6) g [109, 111, 114, 101]).2.1 := ga
 have ea : i29 = (Wl.append (Dk.restart y z6) g [109, 111, 114, 101]).2.2 := ea
 rw [a1] at ea
 refine ⟨fun h => absurd ea h, fun _ => ⟨⟨⟨_, ra, mid2⟩, ga.1, (show LgOk (lgOf l27 0) from by rw [ga.2]; exact aok)⟩, fun l30 l31 i32 hs _ => ?_⟩⟩
 obtain ⟨rs, _, es⟩ := hs _ _ ra mid2 ga
 have rs : RepL l31 (Wl.sync (Wl.append (Dk.restart y z6) g [109, 111, 114, 101]).1 (Wl.append (Dk.restart y z6) g [109, 111, 114, 101]).2.1).1 := rs
 have es : i32 = (Wl.sync (Wl.append (Dk.restart y z6) g [109, 111, 114, 101]).1 (Wl.append (Dk.restart y z6) g [109, 111, 114, 101]).2.1).2.2 := es
 rw [s1] at es
 refine ⟨fun h => absurd es h, fun _ => ⟨⟨_, rs, mid3.small⟩, fun l33 hr2 => ?_⟩⟩
 have rr2 : RepL l33 (Dk.restart (Wl.sync (Wl.append (Dk.restart y z6) g [109, 111, 114, 101]).1 (Wl.append (Dk.restart y z6) g [109, 111, 114, 101]).2.1).1 z6) := hr2 _ rs mid3.small
 refine ⟨⟨⟨_, rr2, mid4⟩, fun n34 l35 v36 l37 ho2 _ => ?_⟩, ⟨_, rr2, mid4⟩, fun v34 l35 i36 ho2 _ _ => ?_⟩
 rotate_left
 ·obtain ⟨h1, _, h2⟩ := ho2 _ rr2 mid4
  have h2 : Wl.opened (Dk.restart (Wl.sync (Wl.append (Dk.restart y z6) g [109, 111, 114, 101]).1 (Wl.append (Dk.restart y z6) g [109, 111, 114, 101]).2.1).1 z6) i2 = (none, i36) := h2
  rw [o2] at h2; cases h2
 obtain ⟨g3, r3, o3, _, e37, _⟩ := ho2 _ rr2 mid4
 have o3 : Wl.opened (Dk.restart (Wl.sync (Wl.append (Dk.restart y z6) g [109, 111, 114, 101]).1 (Wl.append (Dk.restart y z6) g [109, 111, 114, 101]).2.1).1 z6) i2 = (some (g3, r3), 0) := o3
 rw [o2] at o3
 obtain ⟨rfl, rfl⟩ := Prod.mk.inj (Option.some.inj (Prod.mk.inj o3).1)
 have e37 : l37 = txD (R.take m ++ [[109, 111, 114, 101]]) := e37
 rw [txD_app, ← e25] at e37
 have w1 : IntKind.i64.wrap ((l25.length : Int) + 1) = (l25.length : Int) + 1 := wrap64 (by omega) (by omega)
 have h37 : l37.length = l25.length + 1 := by rw [e37, List.length_append]; rfl
 refine ⟨trivial, fun b38 h38 => ⟨fun _ => ⟨fun _ => ⟨by omega, fun _ => ⟨fun _ => ⟨by omega, fun _ v39 => ⟨?_, fun i40 h40 _ => ?_⟩⟩, fun h => absurd ?_ h⟩⟩, fun h => absurd ?_ h⟩, fun h => ?_⟩⟩
 ·show l25.length ≤ 1000000
  omega
 ·have h40 : l37.take ((l25.length : Nat) : Int).toNat = l25 → i40 = 0 := h40
  have : i40 = 0 := h40 (by rw [Int.toNat_natCast, e37, List.take_left])
  rw [this]; rfl
 ·show (l37.getD ((l25.length : Nat) : Int).toNat default).toS = _
  rw [Int.toNat_natCast, e37, List.getD, List.getElem?_append_right (Nat.le_refl _), Nat.sub_self]
  rfl
 ·show ((l37.length : Nat) : Int) = IntKind.i64.wrap ((l25.length : Int) + 1)
  rw [w1]; omega
 ·have h38 : b38 = true := h38
  rw [h38] at h; cases h

theorem LWalCrash.pure : LWalCrash.Pure := by
 intro v0 l1 i2 i3 i4 v5 z6 r2 r3 r4 k1 _ _
 refine ⟨trivial, fun n7 l8 r8 => ?_⟩
 have r8 : RepL l8 (Dk.new 100000) := r8
 have l0 : Lim 0 0 (Dk.new 100000) := lim_new 100000
 have m0 : Mid (Dk.new 100000) := mid_of l0
 refine ⟨⟨⟨_, r8, m0⟩, fun n9 l10 v11 l12 ho _ => ⟨⟨_, r8, m0.small⟩, fun l13 hc v14 => ⟨?_, ?_⟩⟩⟩, ⟨_, r8, m0⟩, fun v9 l10 i11 ho _ _ => ?_⟩
 rotate_right
 ·obtain ⟨h1, _, h2⟩ := ho _ r8 m0
  have h2 : Wl.opened (Dk.new 100000) i2 = (none, i11) := h2
  rw [Wl.opened_new] at h2; cases h2
 ·obtain ⟨g, r, o1, gg, _, _⟩ := ho _ r8 m0
  have o1 : Wl.opened (Dk.new 100000) i2 = (some (g, r), 0) := o1
  rw [Wl.opened_new] at o1
  obtain ⟨rfl, rfl⟩ := Prod.mk.inj (Option.some.inj (Prod.mk.inj o1).1)
  have rc : RepL l13 (crashed (Dk.new 100000) (max i4 (-1))) := hc _ r8 m0.small
  exact ⟨Int.le_refl _, (by decide : (0 : Int) ≤ 20), Int.le_refl _, rfl, _, _, [], 0, rc, gg, Wl.neat_new i2 r2.2, lim_crashed l0 _, rfl, (Wl.hold_new 100000).core (core_crashed _ _) ((Dk.inv_new 100000).same rfl rfl rfl rfl), (Wl.tied_new 100000 i2).core (core_crashed _ _), rfl, rfl, Int.le_refl _⟩
 clear ho hc r8
 intro v15 l16 i17 i18 l19 l20 r17 r18 _ ⟨q1, q2, q3, q4, y, g, Q, lo, ry, gg, gN, hl, hroom, hH, hT, hrec, k16, hlo⟩
 have q1 : 0 ≤ i18 := q1
 have q2 : i18 ≤ 20 := q2
 have q3 : 0 ≤ i17 := q3
 have q4 : (l16.length : Int) = i18 := q4
 have ry : RepL l19 y := ry
 have gg : LgRep l20 g := gg
 have gN : Wl.Neat 0 (100 * i18) g := gN
 have hl : Lim (10 * i18.toNat) (100 * i18.toNat) y := hl
 have hrec : Wl.recsOf Q = fnd l16 := hrec
 have hlo : i17 ≤ lo := hlo
 have k16 : txD (fnd l16) = l16 := k16
 have hm : Mid y := mid_of hl
 have gok := gN.ok (by omega) (by omega)
 refine ⟨fun h1 => ⟨fun h2 => ⟨q1, fun _ => ⟨(by decide : (0 : Int) ≤ 60), fun s21 h21 _ v22 => ?_⟩⟩, fun h2 => ?_⟩, fun h1 => ?_⟩
 rotate_left
 ·exact LWalCrash.tail n7 v0 v5 v15 l1 l16 l19 i2 i3 i4 i17 z6 r2.2 k16 q3 ry hH.backs hl hroom (by omega) (by omega) (by omega) (by rw [hrec]; exact List.prefix_refl _) hlo
 ·exact LWalCrash.tail n7 v0 v5 v15 l1 l16 l19 i2 i3 i4 i17 z6 r2.2 k16 q3 ry hH.backs hl hroom (by omega) (by omega) (by omega) (by rw [hrec]; exact List.prefix_refl _) hlo
 have h21 : s21 = (l1.getD i18.toNat default).toS.extract 0 60 := h21
 have hs : (tx s21).length ≤ 60 := by rw [h21]; exact cut_le _ 60
 have hx := str_snoc k16 s21
 have hxl : (l16 ++ [D.S s21]).length = l16.length + 1 := by rw [List.length_append]; rfl
 have hfx : fnd (l16 ++ [D.S s21]) = fnd l16 ++ [tx s21] := by simp [fnd, D.toS]
 have hget : ((l16 ++ [D.S s21]).getD i18.toNat default).toS = s21 := by
  rw [List.getD, List.getElem?_append_right (by omega), show i18.toNat - l16.length = 0 from by omega]; rfl
 refine ⟨by rw [hxl]; omega, fun _ v23 => ⟨by rw [hxl]; omega, fun _ => ?_⟩⟩
 rw [hget]
 refine ⟨⟨⟨y, ry, hm⟩, gg.1, (show LgOk (lgOf l20 0) from by rw [gg.2]; exact gok), (show s21.size ≤ 900000000 from by have : s21.size = (tx s21).length := rfl; omega)⟩, fun l24 l25 i26 ha _ => ?_⟩
 obtain ⟨ra, ga, ea⟩ := ha y g ry hm gg
 have ra : RepL l25 (Wl.append y g (tx s21)).1 := ra
 have ga : LgRep l24 (Wl.append y g (tx s21)).2.1 := ga
 have ea : i26 = (Wl.append y g (tx s21)).2.2 := ea
 have hlen : (Wl.recsOf Q).length = l16.length := by rw [hrec, fnd_len]
 obtain ⟨R, hR, hBk, hInv, hok⟩ := hH.wappend hT (r := tx s21) (by omega) (by omega)
 have hN2 := gN.append y (tx s21)
 have hl2 := lim_wappend (g := g) (r := tx s21) hl
 have hroom2 := Wl.wappend_room y g (tx s21)
 have hf0 := gN.found
 rw [Wl.frT_len] at hl2
 rw [hroom] at hroom2
 generalize Wl.append y g (tx s21) = w at ra ga ea hBk hInv hok hN2 hl2 hroom2
 obtain ⟨y2, g2, e2⟩ := w
 dsimp only at ra ga ea hBk hInv hok hN2 hl2 hroom2
 have hl2 : Lim (10 * i18.toNat + 5) (100 * i18.toNat + 78) y2 := hl2.mono (by omega) (by omega)
 have hRx : R <+: fnd (l16 ++ [D.S s21]) := by
  rw [hfx]
  rcases hR with rfl | rfl
  ·rw [hrec]; exact List.prefix_append _ _
  ·rw [hrec]; exact List.prefix_refl _
 have w18 : IntKind.i64.wrap (i18 + 1) = i18 + 1 := wrap64 (by omega) (by omega)
 have mm : (20 - (i18 + 1)).toNat < (20 - i18).toNat := by omega
 have next : ∀ (j17 : Int) (la lb : List D) (y' : Ds) (g' : Wl.Lg) (Q' : List Wl.Fl) (lo' : Nat), RepL la y' → LgRep lb g' → Wl.Neat 0 (100 * (i18 + 1)) g' → Lim (10 * (i18 + 1).toNat) (100 * (i18 + 1).toNat) y' → y'.room = 100000 → Wl.Hold y' 1 Q' lo' → Wl.Tied y' g' 1 Q' → Wl.recsOf Q' = fnd (l16 ++ [D.S s21]) → 0 ≤ j17 → j17 ≤ lo' → i18 < 20 →
   LWalCrash.I0 [(D.V v0), (D.L l1), (D.I i2), (D.I i3), (D.I i4), (D.V v5), (D.Z z6), (D.L (l16 ++ [D.S s21])), (D.I j17), (D.I (i18 + 1)), (D.L la), (D.L lb)] := by
  intro j17 la lb y' g' Q' lo' e1 e2 e3 e4 e5 e6 e7 e8 e9 e10 e11
  exact ⟨(by omega : 0 ≤ i18 + 1), (by omega : i18 + 1 ≤ 20), e9, (by show ((l16 ++ [D.S s21]).length : Int) = i18 + 1; rw [hxl]; omega), y', g', Q', lo', e1, e2, e3, e4, e5, e6, e7, e8, hx, e10⟩
 refine ⟨fun he => ?_, fun he => ?_⟩
 ·exact LWalCrash.tail n7 v0 v5 v23 l1 _ l25 i2 i3 i4 i17 z6 r2.2 hx q3 ra hBk hl2 hroom2 (by omega) (by omega) (by rw [hxl]; omega) hRx hlo
 obtain ⟨hR2, Q', _, hrec', hH', hT'⟩ := hok (by rw [← ea]; exact he)
 have hrec2 : Wl.recsOf Q' = fnd (l16 ++ [D.S s21]) := by rw [hrec', hR2, hrec, hfx]
 have hN3 : Wl.Neat 0 (100 * (i18 + 1)) g2 := ⟨hN2.found, hN2.limit, ⟨hN2.size.1, by have := hN2.size.2; omega⟩, hN2.next⟩
 have plain : LWalCrash.I0 [(D.V v0), (D.L l1), (D.I i2), (D.I i3), (D.I i4), (D.V v5), (D.Z z6), (D.L (l16 ++ [D.S s21])), (D.I i17), (D.I (i18 + 1)), (D.L l25), (D.L l24)] :=
  next i17 l25 l24 y2 g2 Q' lo ra ga hN3 (hl2.mono (by omega) (by omega)) hroom2 hH' hT' hrec2 q3 hlo h2
 rw [w18]
 refine ⟨fun h3 => ⟨by omega, fun _ => ⟨fun h4 => ?_, fun h4 => ⟨plain, mm⟩⟩⟩, fun h3 => ⟨plain, mm⟩⟩
 have hm2 : Mid y2 := mid_of hl2
 refine ⟨⟨⟨y2, ra, hm2⟩, ga.1, (show LgOk (lgOf l24 0) from by rw [ga.2]; exact hN3.ok (by omega) (by omega))⟩, fun l27 l28 i29 hs2 _ => ?_⟩
 obtain ⟨rs, gs, es⟩ := hs2 y2 g2 ra hm2 ga
 have rs : RepL l28 (Wl.sync y2 g2).1 := rs
 have gs : LgRep l27 (Wl.sync y2 g2).2.1 := gs
 have es : i29 = (Wl.sync y2 g2).2.2 := es
 obtain ⟨hH3, hT3, hw3⟩ := hH'.wsync hT'
 have hN4 := hN3.sync y2
 have hl4 := lim_wsync (g := g2) hl2
 have hroom4 := Wl.wsync_room y2 g2
 have hf2 := hN3.found
 rw [hroom2] at hroom4
 generalize Wl.sync y2 g2 = w at rs gs es hH3 hT3 hw3 hN4 hl4 hroom4
 obtain ⟨y4, g4, e4⟩ := w
 dsimp only at rs gs es hH3 hT3 hw3 hN4 hl4 hroom4
 refine ⟨fun he4 => ?_, fun he4 => ⟨?_, mm⟩⟩
 ·exact LWalCrash.tail n7 v0 v5 v23 l1 _ l28 i2 i3 i4 i17 z6 r2.2 hx q3 rs hH3.backs hl4 hroom4 (by omega) (by omega) (by rw [hxl]; omega) (by rw [hrec2]; exact List.prefix_refl _) hlo
 ·have hfull : Wl.Hold y4 1 Q' (Wl.recsOf Q').length := ⟨hH3.half.full (hw3 (by rw [← es]; exact he4)), hH3.pend, hH3.safe, hH3.inv⟩
  have hln : (Wl.recsOf Q').length = (l16 ++ [D.S s21]).length := by rw [hrec2, fnd_len]
  exact next _ l28 l27 y4 g4 Q' _ rs gs hN4 (hl4.mono (by omega) (by omega)) hroom4 hfull hT3 hrec2 (by omega) (by omega) h2
end Go.Vc
namespace Go.Vc
open Dk (Ds)
namespace Wl
end Wl
end Go.Vc
