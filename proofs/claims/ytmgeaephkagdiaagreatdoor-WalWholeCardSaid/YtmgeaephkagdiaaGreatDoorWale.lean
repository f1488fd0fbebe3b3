/-
 The log behind a restart: what it bears, and what goes on behind it.
 The log behind a restart: more goes on behind what came back; and what Retire leaves.
 The log's laws with crashes: contracts.
 Printed by wip/vct.py: the conditions of functions, by their contracts.
 The log's laws with crashes: fits.
 The log's laws with crashes: WalCrash.
 The log's law without crashes: contracts.
 Printed by wip/vct.py: the conditions of functions, by their contracts.
 The log's law without crashes: WalWhole.
-/
import Derived.Test.YtmgeaephkagdiaaGreatDoorWald
import Derived.Test.YtmgeaephkagdiaaGreatDoorWalc
import Derived.KernelRfl
set_option linter.unusedVariables false
set_option linter.unusedSimpArgs false
namespace Go.Vc
open Dk (Ds Fi fileAt)
namespace Wl
theorem syncFound_less : ∀ (l : List Tx) (x : Ds), (syncFound x l).2.1.length ≤ l.length
 | [], x => Nat.le_refl _
 | n :: l, x => by
  rw [syncFound]
  split
  ·exact Nat.le_refl _
  ·exact Nat.le_succ_of_le (syncFound_less l _)
theorem wsync_less (x : Ds) (g : Lg) : (Wl.sync x g).2.1.found.length ≤ g.found.length := by
 unfold Wl.sync sync1
 split
 ·exact syncFound_less _ _
 ·unfold sync2
  split
  ·exact syncFound_less _ _
  ·split
   ·exact syncFound_less _ _
   ·exact syncFound_less _ _
theorem turn3_less (x : Ds) (g : Lg) : (turn3 x g).2.1.found = g.found := by
 unfold turn3
 split
 ·rfl
 ·unfold turn4
  split <;> rfl
theorem wturn_less (x : Ds) (g : Lg) : (Wl.turn x g).2.1.found.length ≤ g.found.length := by
 unfold Wl.turn turn1
 split
 ·exact wsync_less _ _
 ·split
  ·exact wsync_less _ _
  ·unfold turn2
   split
   ·split
    ·exact wsync_less _ _
    ·rw [turn3_less]; exact wsync_less _ _
   ·rw [turn3_less]; exact wsync_less _ _
theorem app2_lg (s : Tx) (x : Ds) (g : Lg) : (app2 s x g).2.1.found = g.found ∧ (app2 s x g).2.1.limit = g.limit ∧ ((app2 s x g).2.1.size = g.size ∨ (app2 s x g).2.1.size = g.size + s.length) := by
 unfold app2
 split
 ·exact ⟨rfl, rfl, .inl rfl⟩
 ·exact ⟨rfl, rfl, .inr rfl⟩
theorem app2_next (s : Tx) (x : Ds) (g : Lg) (h : g.next < 18446744073709551616) : (app2 s x g).2.1.next < 18446744073709551616 := by
 unfold app2
 split
 ·exact h
 ·exact Nat.mod_lt _ (by decide)
structure Neat (k : Nat) (z : Int) (g : Lg) : Prop where
 found : g.found.length ≤ k
 limit : 1 ≤ g.limit ∧ g.limit < 9223372036854775808
 size : 0 ≤ g.size ∧ g.size ≤ z
 next : g.next < 18446744073709551616
theorem Neat.ok {k : Nat} {z : Int} {g : Lg} (h : Neat k z g) (hk : k ≤ 50000) (hz : z ≤ 1000000000000) : LgOk g :=
 ⟨by have := h.found; omega, h.next, h.limit, h.size.1, by have := h.size.2; omega⟩
theorem Neat.sync {k : Nat} {z : Int} {g : Lg} (h : Neat k z g) (x : Ds) : Neat k z (Wl.sync x g).2.1 := by
 obtain ⟨a1, a2, a3, _⟩ := sync_lg x g
 exact ⟨Nat.le_trans (wsync_less x g) h.found, by rw [a2]; exact h.limit, by rw [a3]; exact h.size, by rw [a1]; exact h.next⟩
theorem Neat.turn {k : Nat} {z : Int} {g : Lg} (h : Neat k z g) (x : Ds) : Neat k z (Wl.turn x g).2.1 := by
 obtain ⟨a1, a2, a3⟩ := turn_lg x g
 refine ⟨Nat.le_trans (wturn_less x g) h.found, by rw [a2]; exact h.limit, ?_, by rw [a1]; exact h.next⟩
 rcases a3 with a3 | a3
 ·rw [a3]; exact h.size
 ·rw [a3]; have := h.size; omega
theorem Neat.app2 {k : Nat} {z : Int} {g : Lg} (h : Neat k z g) (s : Tx) (x : Ds) : Neat k (z + s.length) (Wl.app2 s x g).2.1 := by
 obtain ⟨a1, a2, a3⟩ := app2_lg s x g
 refine ⟨by rw [a1]; exact h.found, by rw [a2]; exact h.limit, ?_, app2_next s x g h.next⟩
 have := h.size
 rcases a3 with a3 | a3 <;> rw [a3] <;> omega
theorem Neat.append {k : Nat} {z : Int} {g : Lg} (h : Neat k z g) (x : Ds) (r : Tx) : Neat k (z + (18 + r.length)) (Wl.append x g r).2.1 := by
 have e : ∀ q, (frT q r).length = 18 + r.length := fun q => frT_len q r
 have keep : ∀ {g : Lg}, Neat k z g → Neat k (z + (18 + r.length)) g := fun h => ⟨h.found, h.limit, ⟨h.size.1, by have := h.size.2; omega⟩, h.next⟩
 unfold Wl.append
 split
 ·exact keep h
 ·split
  ·unfold app1
   split
   ·exact keep (h.turn x)
   ·have := (h.turn x).app2 (frT g.next r) (Wl.turn x g).1
    rw [e] at this
    exact this
  ·have := h.app2 (frT g.next r) x
   rw [e] at this
   exact this
end Wl
end Go.Vc
namespace Go.Vc
open Dk (Ds Fi fileAt)
namespace Wl
theorem Backs.back {y : Ds} {lo n b : Nat} {R : List Tx} (h : Backs y 1 R lo) (hl : Lim n b y) (hroom : y.room = 100000) (hR : R.length ≤ 1000) (hn : n ≤ 10000) (hb : b ≤ 90000) (ch : List Int) (limit : Int) (hlim : limit < 9223372036854775808) (more : Tx) (hmo : more.length ≤ 100) :
  ∃ g m, Wl.opened (Dk.restart y ch) limit = (some (g, R.take m), 0) ∧ lo ≤ m ∧ m ≤ R.length ∧ g.next = m + 1 ∧ LgOk g ∧ Mid (Dk.restart y ch) ∧
   (Wl.append (Dk.restart y ch) g more).2.2 = 0 ∧ LgOk (Wl.append (Dk.restart y ch) g more).2.1 ∧ Mid (Wl.append (Dk.restart y ch) g more).1 ∧
   (Wl.sync (Wl.append (Dk.restart y ch) g more).1 (Wl.append (Dk.restart y ch) g more).2.1).2.2 = 0 ∧
   Mid (Wl.sync (Wl.append (Dk.restart y ch) g more).1 (Wl.append (Dk.restart y ch) g more).2.1).1 ∧
   Mid (Dk.restart (Wl.sync (Wl.append (Dk.restart y ch) g more).1 (Wl.append (Dk.restart y ch) g more).2.1).1 ch) ∧
   ∃ g2, Wl.opened (Dk.restart (Wl.sync (Wl.append (Dk.restart y ch) g more).1 (Wl.append (Dk.restart y ch) g more).2.1).1 ch) limit = (some (g2, R.take m ++ [more]), 0) := by
 obtain ⟨Q, m, hH, m1, m2, m3⟩ := h.restart hl.inv ch
 have hl1 := lim_restart hl ch
 have hlen : (recsOf Q).length = m := by rw [m3, List.length_take]; omega
 have hop := hH.half.log.opened hH.inv rfl limit
 have t := hH.tied (fun _ => rfl) (max limit 1)
 have hQn : Q.length ≤ n := by
  have h1 := hl1.hist.names hl1.inv
  rw [hH.half.names, List.length_map] at h1
  exact Nat.le_trans h1 hl1.files
 have hnx : (if Q = [] then 1 else 1 + (recsOf Q).length) = m + 1 := by
  split
  ·rename_i e
   subst e
   rw [← hlen]; rfl
  ·omega
 have hneat : Neat n 0 ⟨max limit 1, if Q = [] then 1 else 1 + (recsOf Q).length, [], 0, false, Q.map fun f => name f.q⟩ :=
  ⟨by show (Q.map _).length ≤ n; rw [List.length_map]; exact hQn, ⟨by show (1 : Int) ≤ max limit 1; omega, by show max limit 1 < 9223372036854775808; omega⟩, ⟨Int.le_refl _, Int.le_refl _⟩, by show (if Q = [] then 1 else 1 + (recsOf Q).length) < _; rw [hnx]; omega⟩
 have w0 : Well (Dk.restart y ch) := well_restart hroom ch
 have hf0 : (Q.map fun f => name f.q).length ≤ n := by rw [List.length_map]; exact hQn
 refine ⟨_, m, by rw [← m3]; exact hop, m1, m2, hnx, hneat.ok (by omega) (by omega), hl1.mono (by omega) (by omega), ?_⟩
 have hfl : (⟨max limit 1, if Q = [] then 1 else 1 + (recsOf Q).length, [], 0, false, Q.map fun f => name f.q⟩ : Lg).found.length ≤ n := hf0
 generalize (⟨max limit 1, if Q = [] then 1 else 1 + (recsOf Q).length, [], 0, false, Q.map fun f => name f.q⟩ : Lg) = g at t hneat hfl ⊢
 have hr : more.length ≤ 4194304 := by omega
 obtain ⟨w1, w2⟩ := hH.wappend_well t w0 hl1 hr (by omega)
 obtain ⟨R', _, _, _, hok⟩ := hH.wappend t hr (by omega)
 obtain ⟨e1, Q', _, e2, hH', t'⟩ := hok w2
 have hl2 := lim_wappend (g := g) (r := more) hl1
 have hneat2 := hneat.append (Dk.restart y ch) more
 rw [frT_len] at hl2
 generalize Wl.append (Dk.restart y ch) g more = z at w1 w2 hH' t' hl2 hneat2 ⊢
 obtain ⟨y1, g1, e⟩ := z
 dsimp only at w1 w2 hH' t' hl2 hneat2 ⊢
 refine ⟨w2, hneat2.ok (by omega) (by omega), hl2.mono (by omega) (by omega), ?_⟩
 obtain ⟨v1, v2⟩ := hH'.wsync_well t' w1
 obtain ⟨hH2, t2, hw⟩ := hH'.wsync t'
 have hl3 := lim_wsync (g := g1) hl2
 have hf1 := hneat2.found
 generalize Wl.sync y1 g1 = z at v1 v2 hH2 t2 hw hl3 ⊢
 obtain ⟨y2, g2, e3⟩ := z
 dsimp only at v1 v2 hH2 t2 hw hl3 ⊢
 have hfull : Hold y2 1 Q' (recsOf Q').length := ⟨hH2.half.full (hw v2), hH2.pend, hH2.safe, hH2.inv⟩
 obtain ⟨Q2, k, hK, k1, k2, k3⟩ := hfull.backs.restart hfull.inv ch
 have hop2 := hK.half.log.opened hK.inv rfl limit
 have e4 : recsOf Q2 = R.take m ++ [more] := by
  rw [k3, List.take_of_length_le (by omega), e2, e1, m3]
 rw [e4] at hop2
 have hl4 := lim_restart hl3 ch
 exact ⟨v2, hl3.mono (by omega) (by omega), hl4.mono (by omega) (by omega), _, hop2⟩

def Ends (x : Ds) (R : List Tx) : Prop := ∀ k, k ≤ x.pend.length → ∃ s Q, Half x ((x.pend.take k).foldl Dk.apply x.safe) s Q (recsOf Q).length ∧ (recsOf Q) <:+ R
theorem Ends.core {x y : Ds} {R : List Tx} (h : Ends x R) (c : Core x y) : Ends y R := by
 intro k hk
 rw [c.pend] at hk
 obtain ⟨s, Q, h1, h2⟩ := h k hk
 exact ⟨s, Q, by rw [c.pend, c.safe]; exact h1.core c, h2⟩
theorem Ends.restart {x : Ds} {R : List Tx} (h : Ends x R) (hi : Dk.Inv x) (ch : List Int) : ∃ s Q, Hold (Dk.restart x ch) s Q (recsOf Q).length ∧ (recsOf Q) <:+ R := by
 obtain ⟨s, Q0, h1, h2⟩ := h (Dk.pick ch 0 (x.pend.length + 1)) (by have := Dk.pick_lt ch 0 (x.pend.length + 1) (by omega); omega)
 have h1 : Half x (Dk.restart x ch).names s Q0 (recsOf Q0).length := h1
 obtain ⟨Q, m, h3, h4, h5, h6⟩ := h1.restart hi
 rw [List.take_of_length_le h4] at h6
 exact ⟨s, Q, ⟨h3, rfl, rfl, Dk.inv_restart hi ch⟩, by rw [h6]; exact h2⟩
theorem Half.behind {x : Ds} {nm : List (Tx × Nat)} {s lo : Nat} {f : Fl} {B : List Fl} (h : Half x nm s (f :: B) lo) (hw : ∀ g ∈ f :: B, Whole x g.ix) : Half x (B.map fun f => (name f.q, f.ix)) (s + f.rs.length) B (recsOf B).length := by
 have htop := h.top
 have hr : recsOf (f :: B) = f.rs ++ recsOf B := by simp [recsOf]
 rw [hr, List.length_append] at htop
 have hn := h.nodup
 rw [List.map_cons, List.nodup_cons] at hn
 refine ⟨rfl, fun g hg => h.data g (by simp [hg]), fun g hg => h.torn g (by simp [hg]), fun g hg => h.fits g (by simp [hg]), h.chain.2, by omega, hn.2, fun e => by rw [e]; rfl, fun P g e a ha => hw a (by rw [e]; simp [ha]), fun P g e => ⟨g.rs.length, Nat.le_refl _, ?_, ?_⟩⟩
 ·have h1 := hw g (by rw [e]; simp)
  unfold Whole at h1
  rw [h1, h.data g (by rw [e]; simp), List.take_length]
  show _ ≤ (frs g.q g.rs ++ g.tl).length
  rw [List.length_append]; omega
 ·rw [e, recs_app, List.length_append]; simp [recsOf]
theorem Ends.syncNames {x : Ds} {R : List Tx} (h : Ends x R) (hi : Dk.Inv x) : Ends (Dk.syncNames x).1 R ∧ ((Dk.syncNames x).2 = 0 → (Dk.syncNames x).1.pend = [] ∧ (Dk.syncNames x).1.safe = x.names) := by
 unfold Dk.syncNames
 have hc := core_begin x
 generalize Dk.begin x = z at hc ⊢
 obtain ⟨y, st, e⟩ := z
 dsimp only at hc ⊢
 by_cases he : e ≠ 0
 ·rw [if_pos he]
  exact ⟨h.core hc, fun h0 => absurd h0 he⟩
 ·rw [if_neg he]
  refine ⟨fun k hk => ?_, fun _ => ⟨rfl, hc.names⟩⟩
  obtain ⟨s, Q, q1, q2⟩ := h x.pend.length (Nat.le_refl _)
  rw [List.take_length, ← hi.names] at q1
  refine ⟨s, Q, ?_, q2⟩
  have e1 : (([] : List Dk.Cg).take k).foldl Dk.apply y.names = x.names := by rw [List.take_nil]; exact hc.names
  show Half _ ((([] : List Dk.Cg).take k).foldl Dk.apply y.names) s Q _
  rw [e1]
  exact q1.files fun g _ => hc.at g.ix
end Wl
end Go.Vc
namespace Go.Vc
open Dk (Ds)
end Go.Vc
namespace Go.Vc
set_option linter.unusedVariables false
set_option maxRecDepth 100000
end Go.Vc
namespace Go.Vc
end Go.Vc
namespace Go.Vc
open Dk (Ds)
namespace Wl
theorem Tied.core {x y : Ds} {g : Lg} {s : Nat} {Q : List Fl} (h : Tied x g s Q) (c : Core x y) : Tied y g s Q :=
 ⟨h.next, h.found, h.cur, h.bound, fun P f e => by
  rcases h.last P f e with h1 | h1 | h1
  ·exact .inl h1
  ·refine .inr (.inl ?_)
   unfold Whole at h1 ⊢
   rw [c.at]; exact h1
  ·exact .inr (.inr h1)⟩
theorem hold_new (r : Int) : Hold (Dk.new r) 1 [] 0 :=
 ⟨⟨rfl, fun f hf => absurd hf (by simp), fun f hf => absurd hf (by simp), fun f hf => absurd hf (by simp), trivial, by show (1 + 0 : Nat) < _; omega, List.nodup_nil, fun _ => rfl, fun P f e => absurd e (by simp), fun P f e => absurd e (by simp)⟩, rfl, rfl, Dk.inv_new r⟩
theorem opened_new (r limit : Int) : Wl.opened (Dk.new r) limit = (some (⟨max limit 1, 1, [], 0, false, []⟩, []), 0) := rfl
theorem tied_new (r limit : Int) : Tied (Dk.new r) ⟨max limit 1, 1, [], 0, false, []⟩ 1 [] := (hold_new r).tied (fun _ => rfl) (max limit 1)
theorem neat_new (limit : Int) (h : limit < 9223372036854775808) : Neat 0 0 ⟨max limit 1, 1, [], 0, false, []⟩ :=
 ⟨Nat.le_refl _, ⟨by show (1 : Int) ≤ max limit 1; omega, by show max limit 1 < 9223372036854775808; omega⟩, ⟨Int.le_refl _, Int.le_refl _⟩, by show (1 : Nat) < _; omega⟩
end Wl
theorem txD_app (a b : List Tx) : txD (a ++ b) = txD a ++ txD b := by simp [txD]
theorem fnd_len (a : List D) : (fnd a).length = a.length := by simp [fnd]
theorem str_snoc {l : List D} (h : txD (fnd l) = l) (s : ByteArray) : txD (fnd (l ++ [.S s])) = l ++ [.S s] := by
 have e : fnd (l ++ [.S s]) = fnd l ++ [tx s] := by simp [fnd, D.toS]
 rw [e, txD_app, h]
 show l ++ [D.S (bx (tx s))] = _
 rw [bx_tx]
end Go.Vc
namespace Go.Vc
open Dk (Ds)
theorem len_core {x y : Ds} (c : Core x y) : y.files.length = x.files.length := by rw [c.files]
theorem create_files (x : Ds) (nm : Tx) : (Dk.create x nm).1.files.length ≤ x.files.length + 1 := by
 rcases create_sh x nm with c | ⟨y, c, _, _, e⟩
 ·rw [len_core c]; omega
 ·rw [e]
  show (y.files ++ [_]).length ≤ _
  rw [List.length_append, c.files]; exact Nat.le_refl _
theorem append_files (x : Ds) (nm s : Tx) : (Dk.append x nm s).1.files.length = x.files.length := by
 rcases append_sh x nm s with c | ⟨y, i, c, _, e⟩
 ·exact len_core c
 ·rw [e]
  show (y.files.set i _).length = _
  rw [List.length_set, c.files]
theorem sync_files (x : Ds) (nm : Tx) : (Dk.sync x nm).1.files.length = x.files.length := by
 rcases sync_sh x nm with c | ⟨y, i, c, _, e⟩
 ·exact len_core c
 ·rw [e]
  show (y.files.set i _).length = _
  rw [List.length_set, c.files]
theorem syncNames_files (x : Ds) : (Dk.syncNames x).1.files.length = x.files.length := by
 rcases syncNames_sh x with c | ⟨y, c, e⟩
 ·exact len_core c
 ·rw [e]
  show y.files.length = _
  rw [c.files]
theorem remove_files (x : Ds) (nm : Tx) : (Dk.remove x nm).1.files.length = x.files.length := by
 rcases remove_sh x nm with c | ⟨y, i, c, _, e⟩
 ·exact len_core c
 ·rw [e]
  show y.files.length = _
  rw [c.files]
namespace Wl
theorem syncFound_files : ∀ (l : List Tx) (x : Ds), (syncFound x l).1.files.length = x.files.length
 | [], x => rfl
 | n :: l, x => by
  rw [syncFound]
  split
  ·exact sync_files x n
  ·rw [syncFound_files l]; exact sync_files x n
theorem wsync_files (x : Ds) (g : Lg) : (Wl.sync x g).1.files.length = x.files.length := by
 unfold Wl.sync sync1
 split
 ·exact syncFound_files _ _
 ·unfold sync2
  split
  ·exact syncFound_files _ _
  ·split
   ·rw [sync_files]; exact syncFound_files _ _
   ·rw [sync_files]; exact syncFound_files _ _
theorem turn3_files (x : Ds) (g : Lg) : (turn3 x g).1.files.length ≤ x.files.length + 1 := by
 unfold turn3
 split
 ·exact create_files _ _
 ·unfold turn4
  split
  ·rw [syncNames_files]; exact create_files _ _
  ·rw [syncNames_files]; exact create_files _ _
theorem wturn_files (x : Ds) (g : Lg) : (Wl.turn x g).1.files.length ≤ x.files.length + 1 := by
 have h := wsync_files x g
 unfold Wl.turn turn1
 split
 ·rw [h]; omega
 ·split
  ·rw [h]; omega
  ·unfold turn2
   split
   ·split
    ·rw [remove_files, h]; omega
    ·refine Nat.le_trans (turn3_files _ _) ?_
     rw [remove_files, h]; omega
   ·refine Nat.le_trans (turn3_files _ _) ?_
    rw [h]; omega
theorem app2_files (s : Tx) (x : Ds) (g : Lg) : (app2 s x g).1.files.length = x.files.length := by
 unfold app2
 split <;> exact append_files _ _ _
theorem wappend_files (x : Ds) (g : Lg) (r : Tx) : (Wl.append x g r).1.files.length ≤ x.files.length + 1 := by
 unfold Wl.append
 split
 ·show x.files.length ≤ _
  omega
 ·split
  ·unfold app1
   split
   ·exact wturn_files _ _
   ·rw [app2_files]; exact wturn_files _ _
  ·rw [app2_files]; omega
end Wl
def LWalWhole.sig : Sig := sigF [.l [.str], .i .i64, .i .i64] [.b] (fun _ => True) yes
def WholeAt (i : Int) (l : List D) (dw lw : List D) : Prop := 0 ≤ i ∧ i ≤ 20 ∧ (l.length : Int) = i ∧ txD (fnd l) = l ∧
 ∃ y g Q lo, RepL dw y ∧ LgRep lw g ∧ Wl.Neat 20 (100 * i) g ∧ Lim (30 * i.toNat) (100 * i.toNat) y ∧ y.files.length ≤ i.toNat ∧ Well y ∧ Wl.Hold y 1 Q lo ∧ Wl.Tied y g 1 Q ∧ Wl.recsOf Q = fnd l
def LWalWhole.I0 : List D → Prop := fun l => WholeAt (arg l 5).toI (arg l 4).toL (arg l 7).toL (arg l 6).toL
def LWalWhole.I0M : List D → Nat := fun l => (20 - (arg l 5).toI).toNat
end Go.Vc
namespace Go.Vc
set_option linter.unusedVariables false
set_option maxRecDepth 100000
def LWalWhole.Pure : Prop :=
 ∀ (v0 : Value),
 ∀ (l1 : List D),
 ∀ (i2 : Int),
 ∀ (i3 : Int),
 (-9223372036854775808 ≤ i2 ∧ i2 < 9223372036854775808) →
 (-9223372036854775808 ≤ i3 ∧ i3 < 9223372036854775808) →
 (EK.ok [.str] (D.L l1)) →
 LWalWhole.sig.pre [.V v0, .L l1, .I i2, .I i3] →
 qNew.sig.pre [(D.I (100000 : Int))] ∧ (
 ∀ (n4 : Nat),
 ∀ (l5 : List D),
 qNew.sig.post [(D.I (100000 : Int)), .N n4, .L l5] →
 ((
  pOpen.sig.pre [.N n4, .L l5, .I i2] ∧ (
 ∀ (n6 : Nat),
 ∀ (l7 : List D),
 ∀ (v8 : Value),
 ∀ (l9 : List D),
  pOpen.sig.post [.N n4, .L l5, .I i2, .N n6, .L l7, .V v8, .L l9] →
 (EK.ok [.str] (D.L l9)) →
 ∀ (v10 : Value),
  LWalWhole.I0 [.V v0, .L l1, .I i2, .I i3, (D.L ([] : List D)), (D.I (0 : Int)), .L l7, .L l5] ∧ (
 ∀ (v11 : Value),
 ∀ (l12 : List D),
 ∀ (i13 : Int),
 ∀ (n14 : Nat),
 ∀ (l15 : List D),
 ∀ (l16 : List D),
 (-9223372036854775808 ≤ i13 ∧ i13 < 9223372036854775808) →
 (EK.ok [.str] (D.L l12)) →
  LWalWhole.I0 [.V v0, .L l1, .I i2, .I i3, .L l12, .I i13, .L l15, .L l16] →
 ((
 (i13 < ((l1.length : Nat) : Int)) →
 ((
 (i13 < (20 : Int)) →
 ((0 : Int) ≤ i13) ∧ (((0 : Int) ≤ i13) →
  dCut.sig.pre [(D.S ((l1.getD i13.toNat default)).toS), (D.I (60 : Int))] ∧ (
 ∀ (s17 : ByteArray),
    dCut.sig.post [(D.S ((l1.getD i13.toNat default)).toS), (D.I (60 : Int)), .S s17] →
 ((s17.size : Int) ≤ 9223372036854775807) →
  pNext.sig.pre [.N n14, .N n4, .L l15] ∧ (
  pNext.sig.post [.N n14, .N n4, .L l15] →
 ((
 (((l15.getD (1 : Int).toNat default)).toI ≠ (IntKind.wrap .u64 (IntKind.wrap .i64 (i13 + (1 : Int))))) →
   LWalWhole.sig.post [.V v0, .L l1, .I i2, .I i3, .B false]) ∧ (
 (((l15.getD (1 : Int).toNat default)).toI = (IntKind.wrap .u64 (IntKind.wrap .i64 (i13 + (1 : Int))))) →
   pAppend.sig.pre [.N n14, .N n4, .L l15, .L l16, .S s17] ∧ (
 ∀ (l18 : List D),
 ∀ (l19 : List D),
 ∀ (i20 : Int),
   pAppend.sig.post [.N n14, .N n4, .L l15, .L l16, .S s17, .L l18, .L l19, .I i20] →
 (-9223372036854775808 ≤ i20 ∧ i20 < 9223372036854775808) →
 ((
 (i20 ≠ (0 : Int)) →
   LWalWhole.sig.post [.V v0, .L l1, .I i2, .I i3, .B false]) ∧ (
 (i20 = (0 : Int)) →
 ∀ (v21 : Value),
 ((((l12 ++ ((D.S s17) :: ([] : List D))).length : Nat) : Int) ≤ (8796093022208 : Int)) ∧ (((((l12 ++ ((D.S s17) :: ([] : List D))).length : Nat) : Int) ≤ (8796093022208 : Int)) →
 ∀ (v22 : Value),
 ((
 ((0 : Int) < i3) →
 (i3 ≠ (0 : Int)) ∧ ((i3 ≠ (0 : Int)) →
 ((
 ((Int.tmod i13 i3) = (0 : Int)) →
 ((
     pOpen.sig.pre [.N n4, .L l19, .I i2] ∧ (
 ∀ (n23 : Nat),
 ∀ (l24 : List D),
 ∀ (v25 : Value),
 ∀ (l26 : List D),
     pOpen.sig.post [.N n4, .L l19, .I i2, .N n23, .L l24, .V v25, .L l26] →
 (EK.ok [.str] (D.L l26)) →
     SameL.sig.pre [.V v25, .L l26, .V v22, (D.L (l12 ++ ((D.S s17) :: ([] : List D))))] ∧ (
 ∀ (i27 : Int),
     SameL.sig.post [.V v25, .L l26, .V v22, (D.L (l12 ++ ((D.S s17) :: ([] : List D)))), .I i27] →
 (-9223372036854775808 ≤ i27 ∧ i27 < 9223372036854775808) →
 ((
 (i27 ≠ (0 : Int)) →
     LWalWhole.sig.post [.V v0, .L l1, .I i2, .I i3, .B false]) ∧ (
 (i27 = (0 : Int)) →
     LWalWhole.I0 [.V v0, .L l1, .I i2, .I i3, (D.L (l12 ++ ((D.S s17) :: ([] : List D)))), (D.I (IntKind.wrap .i64 (i13 + (1 : Int)))), .L l24, .L l19] ∧ LWalWhole.I0M [.V v0, .L l1, .I i2, .I i3, (D.L (l12 ++ ((D.S s17) :: ([] : List D)))), (D.I (IntKind.wrap .i64 (i13 + (1 : Int)))), .L l24, .L l19] < LWalWhole.I0M [.V v0, .L l1, .I i2, .I i3, .L l12, .I i13, .L l15, .L l16]))))) ∧ (
     pOpen.sig.pre [.N n4, .L l19, .I i2] ∧ (
 ∀ (v23 : Value),
 ∀ (l24 : List D),
 ∀ (i25 : Int),
     pOpen.sig.post2 [.N n4, .L l19, .I i2, .V v23, .L l24, .I i25] →
 (-9223372036854775808 ≤ i25 ∧ i25 < 9223372036854775808) →
 (EK.ok [.str] (D.L l24)) →
 ((
 (i25 ≠ (0 : Int)) →
     LWalWhole.sig.post [.V v0, .L l1, .I i2, .I i3, .B false]) ∧ (
 (i25 = (0 : Int)) →
     LWalWhole.sig.post [.V v0, .L l1, .I i2, .I i3, .B false])))))) ∧ (
 ((Int.tmod i13 i3) ≠ (0 : Int)) →
    LWalWhole.I0 [.V v0, .L l1, .I i2, .I i3, (D.L (l12 ++ ((D.S s17) :: ([] : List D)))), (D.I (IntKind.wrap .i64 (i13 + (1 : Int)))), .L l18, .L l19] ∧ LWalWhole.I0M [.V v0, .L l1, .I i2, .I i3, (D.L (l12 ++ ((D.S s17) :: ([] : List D)))), (D.I (IntKind.wrap .i64 (i13 + (1 : Int)))), .L l18, .L l19] < LWalWhole.I0M [.V v0, .L l1, .I i2, .I i3, .L l12, .I i13, .L l15, .L l16])))) ∧ (
 (i3 ≤ (0 : Int)) →
    LWalWhole.I0 [.V v0, .L l1, .I i2, .I i3, (D.L (l12 ++ ((D.S s17) :: ([] : List D)))), (D.I (IntKind.wrap .i64 (i13 + (1 : Int)))), .L l18, .L l19] ∧ LWalWhole.I0M [.V v0, .L l1, .I i2, .I i3, (D.L (l12 ++ ((D.S s17) :: ([] : List D)))), (D.I (IntKind.wrap .i64 (i13 + (1 : Int)))), .L l18, .L l19] < LWalWhole.I0M [.V v0, .L l1, .I i2, .I i3, .L l12, .I i13, .L l15, .L l16])))))))))))) ∧ (
 ((20 : Int) ≤ i13) →
 ((
   pOpen.sig.pre [.N n4, .L l16, .I i2] ∧ (
 ∀ (n17 : Nat),
 ∀ (l18 : List D),
 ∀ (v19 : Value),
 ∀ (l20 : List D),
   pOpen.sig.post [.N n4, .L l16, .I i2, .N n17, .L l18, .V v19, .L l20] →
 (EK.ok [.str] (D.L l20)) →
   aw7.sig.pre [] ∧ (
 ∀ (b21 : Bool),
   aw7.sig.post [.B b21] →
 ((
 (b21 = true) →
   SameL.sig.pre [.V v19, .L l20, .V v11, .L l12] ∧ (
 ∀ (i22 : Int),
   SameL.sig.post [.V v19, .L l20, .V v11, .L l12, .I i22] →
 (-9223372036854775808 ≤ i22 ∧ i22 < 9223372036854775808) →
   LWalWhole.sig.post [.V v0, .L l1, .I i2, .I i3, (D.B (i22 == (0 : Int)))])) ∧ (
 (b21 = false) →
   LWalWhole.sig.post [.V v0, .L l1, .I i2, .I i3, .B false]))))) ∧ (
   pOpen.sig.pre [.N n4, .L l16, .I i2] ∧ (
 ∀ (v17 : Value),
 ∀ (l18 : List D),
 ∀ (i19 : Int),
   pOpen.sig.post2 [.N n4, .L l16, .I i2, .V v17, .L l18, .I i19] →
 (-9223372036854775808 ≤ i19 ∧ i19 < 9223372036854775808) →
 (EK.ok [.str] (D.L l18)) →
   aw7.sig.pre [] ∧ (
 ∀ (b20 : Bool),
   aw7.sig.post [.B b20] →
 ((
 (b20 = true) →
 ((
 (i19 = (0 : Int)) →
    SameL.sig.pre [.V v17, .L l18, .V v11, .L l12] ∧ (
 ∀ (i21 : Int),
    SameL.sig.post [.V v17, .L l18, .V v11, .L l12, .I i21] →
 (-9223372036854775808 ≤ i21 ∧ i21 < 9223372036854775808) →
    LWalWhole.sig.post [.V v0, .L l1, .I i2, .I i3, (D.B (i21 == (0 : Int)))])) ∧ (
 (i19 ≠ (0 : Int)) →
    LWalWhole.sig.post [.V v0, .L l1, .I i2, .I i3, .B false]))) ∧ (
 (b20 = false) →
   LWalWhole.sig.post [.V v0, .L l1, .I i2, .I i3, .B false]))))))))) ∧ (
 (((l1.length : Nat) : Int) ≤ i13) →
 ((
  pOpen.sig.pre [.N n4, .L l16, .I i2] ∧ (
 ∀ (n17 : Nat),
 ∀ (l18 : List D),
 ∀ (v19 : Value),
 ∀ (l20 : List D),
    pOpen.sig.post [.N n4, .L l16, .I i2, .N n17, .L l18, .V v19, .L l20] →
 (EK.ok [.str] (D.L l20)) →
  aw7.sig.pre [] ∧ (
 ∀ (b21 : Bool),
    aw7.sig.post [.B b21] →
 ((
 (b21 = true) →
   SameL.sig.pre [.V v19, .L l20, .V v11, .L l12] ∧ (
 ∀ (i22 : Int),
   SameL.sig.post [.V v19, .L l20, .V v11, .L l12, .I i22] →
 (-9223372036854775808 ≤ i22 ∧ i22 < 9223372036854775808) →
   LWalWhole.sig.post [.V v0, .L l1, .I i2, .I i3, (D.B (i22 == (0 : Int)))])) ∧ (
 (b21 = false) →
   LWalWhole.sig.post [.V v0, .L l1, .I i2, .I i3, .B false]))))) ∧ (
  pOpen.sig.pre [.N n4, .L l16, .I i2] ∧ (
 ∀ (v17 : Value),
 ∀ (l18 : List D),
 ∀ (i19 : Int),
    pOpen.sig.post2 [.N n4, .L l16, .I i2, .V v17, .L l18, .I i19] →
 (-9223372036854775808 ≤ i19 ∧ i19 < 9223372036854775808) →
 (EK.ok [.str] (D.L l18)) →
  aw7.sig.pre [] ∧ (
 ∀ (b20 : Bool),
    aw7.sig.post [.B b20] →
 ((
 (b20 = true) →
 ((
 (i19 = (0 : Int)) →
   SameL.sig.pre [.V v17, .L l18, .V v11, .L l12] ∧ (
 ∀ (i21 : Int),
   SameL.sig.post [.V v17, .L l18, .V v11, .L l12, .I i21] →
 (-9223372036854775808 ≤ i21 ∧ i21 < 9223372036854775808) →
   LWalWhole.sig.post [.V v0, .L l1, .I i2, .I i3, (D.B (i21 == (0 : Int)))])) ∧ (
 (i19 ≠ (0 : Int)) →
   LWalWhole.sig.post [.V v0, .L l1, .I i2, .I i3, .B false]))) ∧ (
 (b20 = false) →
   LWalWhole.sig.post [.V v0, .L l1, .I i2, .I i3, .B false]))))))))))) ∧ (
  pOpen.sig.pre [.N n4, .L l5, .I i2] ∧ (
 ∀ (v6 : Value),
 ∀ (l7 : List D),
 ∀ (i8 : Int),
  pOpen.sig.post2 [.N n4, .L l5, .I i2, .V v6, .L l7, .I i8] →
 (-9223372036854775808 ≤ i8 ∧ i8 < 9223372036854775808) →
 (EK.ok [.str] (D.L l7)) →
 ((
 (i8 ≠ (0 : Int)) →
  LWalWhole.sig.post [.V v0, .L l1, .I i2, .I i3, .B false]) ∧ (
 (i8 = (0 : Int)) →
  LWalWhole.sig.post [.V v0, .L l1, .I i2, .I i3, .B false]))))))
end Go.Vc
namespace Go.Vc
open Dk (Ds)
theorem Wl.Hold.reopen {y : Ds} {lo : Nat} {Q : List Wl.Fl} (h : Wl.Hold y 1 Q lo) (hd : y.dead = false) (limit : Int) (hl : limit < 9223372036854775808) {n : Nat} (hn : y.files.length ≤ n) (hQ : (Wl.recsOf Q).length ≤ 1000) {b m : Nat} (hL : Lim m b y) :
  ∃ g, Wl.opened y limit = (some (g, Wl.recsOf Q), 0) ∧ Wl.Tied y g 1 Q ∧ Wl.Neat n 0 g := by
 refine ⟨_, h.half.log.opened h.inv hd limit, h.tied (fun _ => rfl) (max limit 1), ?_, ⟨by show (1 : Int) ≤ max limit 1; omega, by show max limit 1 < 9223372036854775808; omega⟩, ⟨Int.le_refl _, Int.le_refl _⟩, ?_⟩
 ·show (Q.map fun f => Wl.name f.q).length ≤ n
  have h1 := hL.hist.names h.inv
  rw [h.half.names, List.length_map] at h1
  rw [List.length_map]; omega
 ·show (if Q = [] then 1 else 1 + (Wl.recsOf Q).length) < 18446744073709551616
  split <;> omega

theorem LWalWhole.tail (n4 : Nat) (v0 v11 : Value) (l1 l12 l16 : List D) (i2 i3 : Int) (r2 : i2 < 9223372036854775808) {y : Ds} {Q : List Wl.Fl} {lo b m : Nat} (ry : RepL l16 y) (hL : Lim m b y) (hm : m ≤ 10000) (hb : b ≤ 90000) (w0 : Well y) (hH : Wl.Hold y 1 Q lo) (hrec : Wl.recsOf Q = fnd l12) (hx : txD (fnd l12) = l12) (h12 : l12.length ≤ 20) :
  (((
   pOpen.sig.pre [(D.N n4), (D.L l16), (D.I i2)] ∧ (
   ∀ (n17 : Nat),
   ∀ (l18 : List D),
   ∀ (v19 : Value),
   ∀ (l20 : List D),
   pOpen.sig.post [(D.N n4), (D.L l16), (D.I i2), (D.N n17), (D.L l18), (D.V v19), (D.L l20)] →
   (EK.ok [.str] (D.L l20)) →
   aw7.sig.pre [] ∧ (
   ∀ (b21 : Bool),
   aw7.sig.post [(D.B b21)] →
   ((
    (b21 = true) →
    SameL.sig.pre [(D.V v19), (D.L l20), (D.V v11), (D.L l12)] ∧ (
    ∀ (i22 : Int),
    SameL.sig.post [(D.V v19), (D.L l20), (D.V v11), (D.L l12), (D.I i22)] →
    (-9223372036854775808 ≤ i22 ∧ i22 < 9223372036854775808) →
    LWalWhole.sig.post [(D.V v0), (D.L l1), (D.I i2), (D.I i3), (D.B (i22 == (0 : Int)))])) ∧ (
    (b21 = false) →
    LWalWhole.sig.post [(D.V v0), (D.L l1), (D.I i2), (D.I i3), (D.B false)]))))) ∧ (
   pOpen.sig.pre [(D.N n4), (D.L l16), (D.I i2)] ∧ (
   ∀ (v17 : Value),
   ∀ (l18 : List D),
   ∀ (i19 : Int),
   pOpen.sig.post2 [(D.N n4), (D.L l16), (D.I i2), (D.V v17), (D.L l18), (D.I i19)] →
   (-9223372036854775808 ≤ i19 ∧ i19 < 9223372036854775808) →
   (EK.ok [.str] (D.L l18)) →
   aw7.sig.pre [] ∧ (
   ∀ (b20 : Bool),
   aw7.sig.post [(D.B b20)] →
   ((
    (b20 = true) →
    ((
     (i19 = (0 : Int)) →
     SameL.sig.pre [(D.V v17), (D.L l18), (D.V v11), (D.L l12)] ∧ (
     ∀ (i21 : Int),
     SameL.sig.post [(D.V v17), (D.L l18), (D.V v11), (D.L l12), (D.I i21)] →
     (-9223372036854775808 ≤ i21 ∧ i21 < 9223372036854775808) →
     LWalWhole.sig.post [(D.V v0), (D.L l1), (D.I i2), (D.I i3), (D.B (i21 == (0 : Int)))])) ∧ (
     (i19 ≠ (0 : Int)) →
     LWalWhole.sig.post [(D.V v0), (D.L l1), (D.I i2), (D.I i3), (D.B false)]))) ∧ (
    (b20 = false) →
    LWalWhole.sig.post [(D.V v0), (D.L l1), (D.I i2), (D.I i3), (D.B false)]))))))) := by
 have hmid : Mid y := hL.mono (by omega) (by omega)
 obtain ⟨g, o1, _, _⟩ := hH.reopen w0.dead i2 r2 (Nat.le_refl _) (by rw [hrec, fnd_len]; omega) hL
 refine ⟨⟨⟨y, ry, hmid⟩, fun n17 l18 v19 l20 ho _ => ⟨trivial, fun b21 h21 => ⟨fun _ => ⟨?_, fun i22 h22 _ => ?_⟩, fun h => ?_⟩⟩⟩, ⟨y, ry, hmid⟩, fun v17 l18 i19 ho _ _ => ?_⟩
 rotate_right
 ·obtain ⟨h1, _, h2⟩ := ho _ ry hmid
  have h2 : Wl.opened y i2 = (none, i19) := h2
  rw [o1] at h2; cases h2
 ·show l12.length ≤ 1000000
  omega
 ·obtain ⟨g', r', o2, _, e20, _⟩ := ho _ ry hmid
  have o2 : Wl.opened y i2 = (some (g', r'), 0) := o2
  rw [o1] at o2
  obtain ⟨rfl, rfl⟩ := Prod.mk.inj (Option.some.inj (Prod.mk.inj o2).1)
  have e20 : l20 = txD (Wl.recsOf Q) := e20
  have h22 : l20 = l12 → i22 = 0 := h22
  rw [h22 (by rw [e20, hrec, hx])]; rfl
 ·have h21 : b21 = true := h21
  rw [h21] at h; cases h

theorem LWalWhole.pure : LWalWhole.Pure := by
 intro v0 l1 i2 i3 r2 r3 k1 _
 refine ⟨trivial, fun n4 l5 r5 => ?_⟩
 have r5 : RepL l5 (Dk.new 100000) := r5
 have l0 : Lim 0 0 (Dk.new 100000) := lim_new 100000
 have m0 : Mid (Dk.new 100000) := mid_of l0
 refine ⟨⟨⟨_, r5, m0⟩, fun n6 l7 v8 l9 ho _ v10 => ⟨?_, ?_⟩⟩, ⟨_, r5, m0⟩, fun v6 l7 i8 ho _ _ => ?_⟩
 rotate_right
 ·obtain ⟨h1, _, h2⟩ := ho _ r5 m0
  have h2 : Wl.opened (Dk.new 100000) i2 = (none, i8) := h2
  rw [Wl.opened_new] at h2; cases h2
 ·obtain ⟨g, r, o1, gg, _, _⟩ := ho _ r5 m0
  have o1 : Wl.opened (Dk.new 100000) i2 = (some (g, r), 0) := o1
  rw [Wl.opened_new] at o1
  obtain ⟨rfl, rfl⟩ := Prod.mk.inj (Option.some.inj (Prod.mk.inj o1).1)
  have hN := Wl.neat_new i2 r2.2
  exact ⟨Int.le_refl _, (by decide : (0 : Int) ≤ 20), rfl, rfl, _, _, [], 0, r5, gg, ⟨by have := hN.found; omega, hN.limit, hN.size, hN.next⟩, l0, Nat.le_refl _, well_new, Wl.hold_new 100000, Wl.tied_new 100000 i2, rfl⟩
 clear ho r5
 intro v11 l12 i13 n14 l15 l16 r13 _ ⟨q1, q2, q4, hx, y, g, Q, lo, ry, gg, gN, hl, hfl, w0, hH, hT, hrec⟩
 have q1 : 0 ≤ i13 := q1
 have q2 : i13 ≤ 20 := q2
 have q4 : (l12.length : Int) = i13 := q4
 have hx : txD (fnd l12) = l12 := hx
 have ry : RepL l16 y := ry
 have gg : LgRep l15 g := gg
 have gN : Wl.Neat 20 (100 * i13) g := gN
 have hl : Lim (30 * i13.toNat) (100 * i13.toNat) y := hl
 have hfl : y.files.length ≤ i13.toNat := hfl
 have hrec : Wl.recsOf Q = fnd l12 := hrec
 have hm : Mid y := mid_of hl
 refine ⟨fun h1 => ⟨fun h2 => ⟨q1, fun _ => ⟨(by decide : (0 : Int) ≤ 60), fun s17 h17 _ => ?_⟩⟩, fun h2 => ?_⟩, fun h1 => ?_⟩
 rotate_left
 ·exact LWalWhole.tail n4 v0 v11 l1 l12 l16 i2 i3 r2.2 ry hl (by omega) (by omega) w0 hH hrec hx (by omega)
 ·exact LWalWhole.tail n4 v0 v11 l1 l12 l16 i2 i3 r2.2 ry hl (by omega) (by omega) w0 hH hrec hx (by omega)
 have h17 : s17 = (l1.getD i13.toNat default).toS.extract 0 60 := h17
 have hs : (tx s17).length ≤ 60 := by rw [h17]; exact cut_le _ 60
 have hx' := str_snoc hx s17
 have hxl : (l12 ++ [D.S s17]).length = l12.length + 1 := by rw [List.length_append]; rfl
 have hfx : fnd (l12 ++ [D.S s17]) = fnd l12 ++ [tx s17] := by simp [fnd, D.toS]
 have hlen : (Wl.recsOf Q).length = l12.length := by rw [hrec, fnd_len]
 have w13 : IntKind.i64.wrap (i13 + 1) = i13 + 1 := wrap64 (by omega) (by omega)
 have w13u : IntKind.u64.wrap (i13 + 1) = i13 + 1 := wrap_u64_eq (by omega) (by omega)
 rw [w13, w13u]
 refine ⟨gg.1, fun _ => ⟨fun h => ?_, fun _ => ⟨⟨⟨y, ry, hm⟩, gg.1, (show LgOk (lgOf l15 0) from by rw [gg.2]; exact gN.ok (by omega) (by omega)), (show s17.size ≤ 900000000 from by have : s17.size = (tx s17).length := rfl; omega)⟩, fun l18 l19 i20 ha _ => ?_⟩⟩⟩
 ·exfalso
  have h1 : (arg l15 1).toI.toNat = g.next := congrArg Wl.Lg.next gg.2
  have h1 : (l15.getD 1 default).toI.toNat = g.next := h1
  have h : (l15.getD 1 default).toI ≠ i13 + 1 := h
  have := hT.next
  omega
 obtain ⟨ra, ga, ea⟩ := ha y g ry hm gg
 have ra : RepL l19 (Wl.append y g (tx s17)).1 := ra
 have ga : LgRep l18 (Wl.append y g (tx s17)).2.1 := ga
 have ea : i20 = (Wl.append y g (tx s17)).2.2 := ea
 obtain ⟨R, hR, hBk, hInv, hok⟩ := hH.wappend hT (r := tx s17) (by omega) (by omega)
 obtain ⟨w1, w2⟩ := hH.wappend_well hT w0 hl (r := tx s17) (by omega) (by omega)
 have hN2 := gN.append y (tx s17)
 have hl2 := lim_wappend (g := g) (r := tx s17) hl
 have hf2 := Wl.wappend_files y g (tx s17)
 have hf0 := gN.found
 rw [Wl.frT_len] at hl2
 generalize Wl.append y g (tx s17) = w at ra ga ea hBk hInv hok hN2 hl2 w1 w2 hf2
 obtain ⟨y2, g2, e2⟩ := w
 dsimp only at ra ga ea hBk hInv hok hN2 hl2 w1 w2 hf2
 refine ⟨fun h => absurd (ea.trans w2) h, fun _ v21 => ⟨by rw [hxl]; omega, fun _ v22 => ?_⟩⟩
 obtain ⟨hR2, Q', _, hrec', hH', hT'⟩ := hok w2
 have hrec2 : Wl.recsOf Q' = fnd (l12 ++ [D.S s17]) := by rw [hrec', hR2, hrec, hfx]
 have hN3 : Wl.Neat 20 (100 * (i13 + 1)) g2 := ⟨hN2.found, hN2.limit, ⟨hN2.size.1, by have := hN2.size.2; omega⟩, hN2.next⟩
 have hl3 : Lim (30 * (i13 + 1).toNat) (100 * (i13 + 1).toNat) y2 := hl2.mono (by omega) (by omega)
 have mm : (20 - (i13 + 1)).toNat < (20 - i13).toNat := by omega
 have next : ∀ (lw : List D) (g' : Wl.Lg), LgRep lw g' → Wl.Neat 20 (100 * (i13 + 1)) g' → Wl.Tied y2 g' 1 Q' → LWalWhole.I0 [(D.V v0), (D.L l1), (D.I i2), (D.I i3), (D.L (l12 ++ [D.S s17])), (D.I (i13 + 1)), (D.L lw), (D.L l19)] := by
  intro lw g' e1 e2 e3
  exact ⟨(by omega : 0 ≤ i13 + 1), (by omega : i13 + 1 ≤ 20), (by show ((l12 ++ [D.S s17]).length : Int) = i13 + 1; rw [hxl]; omega), hx', y2, g', Q', lo, ra, e1, e2, hl3, (by show y2.files.length ≤ (i13 + 1).toNat; omega), w1, hH', e3, hrec2⟩
 have plain := next l18 g2 ga hN3 hT'
 refine ⟨fun h3 => ⟨by omega, fun _ => ⟨fun h4 => ?_, fun h4 => ⟨plain, mm⟩⟩⟩, fun h3 => ⟨plain, mm⟩⟩
 have hm2 : Mid y2 := mid_of hl3
 obtain ⟨g3, o3, t3, n3⟩ := hH'.reopen w1.dead i2 r2.2 (show y2.files.length ≤ 20 by omega) (by rw [hrec2, fnd_len, hxl]; omega) hl3
 refine ⟨⟨⟨y2, ra, hm2⟩, fun n23 l24 v25 l26 ho _ => ⟨?_, fun i27 h27 _ => ?_⟩⟩, ⟨y2, ra, hm2⟩, fun v23 l24 i25 ho _ _ => ?_⟩
 ·show (l12 ++ [D.S s17]).length ≤ 1000000
  rw [hxl]; omega
 ·obtain ⟨g', r', o2, gg', e26, _⟩ := ho _ ra hm2
  have o2 : Wl.opened y2 i2 = (some (g', r'), 0) := o2
  rw [o3] at o2
  obtain ⟨rfl, rfl⟩ := Prod.mk.inj (Option.some.inj (Prod.mk.inj o2).1)
  have e26 : l26 = txD (Wl.recsOf Q') := e26
  have h27 : l26 = l12 ++ [D.S s17] → i27 = 0 := h27
  have e27 := h27 (by rw [e26, hrec2, hx'])
  exact ⟨fun h => absurd e27 h, fun _ => ⟨next l24 g3 gg' ⟨n3.found, n3.limit, ⟨n3.size.1, by have := n3.size.2; omega⟩, n3.next⟩ t3, mm⟩⟩
 ·obtain ⟨h1, _, h2⟩ := ho _ ra hm2
  have h2 : Wl.opened y2 i2 = (none, i25) := h2
  rw [o3] at h2; cases h2
end Go.Vc
