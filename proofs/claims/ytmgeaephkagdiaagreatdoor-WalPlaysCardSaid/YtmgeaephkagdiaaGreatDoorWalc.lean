/-
 The log's laws: the document's answer, and contracts.
 Printed by wip/vct.py: the conditions of functions, by their contracts.
 The log's laws: the document's answer, plainly.
 The log's laws: Say, and what Open finds.
 The log's laws: WalOpens.
-/
import Derived.Test.YtmgeaephkagdiaaGreatDoorWalb
import Derived.Test.YtmgeaephkagdiaaGreatDoorFramed
import Derived.Test.YtmgeaephkagdiaaGreatDoorDskf
import Derived.KernelRfl
set_option linter.unusedVariables false
set_option linter.unusedSimpArgs false
namespace Go.Vc
open Dk (Ds)
namespace Wl
def sayGo : List (Tx × Tx) → Nat → Bool → List Tx → List Tx × Nat
 | [], next, _, out => (out, next)
 | (n, t) :: r, next, began, out => match first n with
  | none => sayGo r next began out
  | some q => if q ≠ (if began then next else q) then (out, next) else sayGo r ((q + (scanT t q).length) % 18446744073709551616) true (out ++ scanT t q)
def say (l : List (Tx × Tx)) : List Tx × Nat := sayGo l 1 false []
end Wl
def aw7.sig : Sig := sigF [] [.b] (fun _ => True) fun l => (arg l 0).toB = true
structure Calm (n : Nat) (x : Ds) : Prop where
 lim : Lim (2 * n) (200 * n) x
 dead : x.dead = false
 crash : x.crash = -1
 fail : x.fail = -1
 room : x.room = 100000
end Go.Vc
namespace Go.Vc
set_option linter.unusedVariables false
set_option maxRecDepth 100000
def aw7.Pure : Prop :=
 aw7.sig.pre [] →
 qNew.sig.pre [.I 1000] ∧ (
 ∀ n0 : Nat,
 ∀ l1 : List D,
 qNew.sig.post [.I 1000, .N n0, .L l1] →
 ((
  pOpen.sig.pre [.N n0, .L l1, .I 100] ∧ (
 ∀ n2 : Nat,
 ∀ l3 : List D,
 ∀ v4 : Value,
 ∀ l5 : List D,
  pOpen.sig.post [.N n0, .L l1, .I 100, .N n2, .L l3, .V v4, .L l5] →
 (EK.ok [.str] (D.L l5)) →
 ((
 (0 < ((l5.length : Nat) : Int)) →
  aw7.sig.post [.B false]) ∧ (
 (((l5.length : Nat) : Int) ≤ (0 : Int)) →
   pAppend.sig.pre [.N n2, .N n0, .L l3, .L l1, .S (⟨#[97]⟩ : ByteArray)] ∧ (
 ∀ l6 l7 : List D,
 ∀ i8 : Int,
  pAppend.sig.post [.N n2, .N n0, .L l3, .L l1, .S (⟨#[97]⟩ : ByteArray), .L l6, .L l7, .I i8] →
 R64 i8 →
 ((
 (i8 ≠ 0) →
  aw7.sig.post [.B false]) ∧ (
 (i8 = 0) →
  pAppend.sig.pre [.N n2, .N n0, .L l6, .L l7, .S (⟨#[98]⟩ : ByteArray)] ∧ (
 ∀ l9 l10 : List D,
 ∀ i11 : Int,
  pAppend.sig.post [.N n2, .N n0, .L l6, .L l7, .S (⟨#[98]⟩ : ByteArray), .L l9, .L l10, .I i11] →
 R64 i11 →
 ((
 (i11 ≠ 0) →
   aw7.sig.post [.B false]) ∧ (
 (i11 = 0) →
   pSync.sig.pre [.N n2, .N n0, .L l9, .L l10] ∧ (
 ∀ l12 l13 : List D,
 ∀ i14 : Int,
   pSync.sig.post [.N n2, .N n0, .L l9, .L l10, .L l12, .L l13, .I i14] →
 R64 i14 →
 ((
 (i14 ≠ 0) →
   aw7.sig.post [.B false]) ∧ (
 (i14 = 0) →
 ∀ v15 : Value,
   qRestart.sig.pre [.N n0, .L l13, .V v15, .Z ([] : List Int)] ∧ (
 ∀ l16 : List D,
   qRestart.sig.post [.N n0, .L l13, .V v15, .Z ([] : List Int), .L l16] →
 ((
    pOpen.sig.pre [.N n0, .L l16, .I 100] ∧ (
 ∀ n17 : Nat,
 ∀ l18 : List D,
 ∀ v19 : Value,
 ∀ l20 : List D,
    pOpen.sig.post [.N n0, .L l16, .I 100, .N n17, .L l18, .V v19, .L l20] →
 (EK.ok [.str] (D.L l20)) →
 ((
 (((l20.length : Nat) : Int) = (2 : Int)) →
 (0 < ((l20.length : Nat) : Int)) ∧ ((0 < ((l20.length : Nat) : Int)) →
 ((
 (((l20.getD (0 : Int).toNat default)).toS = (⟨#[97]⟩ : ByteArray)) →
 (1 < ((l20.length : Nat) : Int)) ∧ ((1 < ((l20.length : Nat) : Int)) →
 ((
 (((l20.getD (1 : Int).toNat default)).toS = (⟨#[98]⟩ : ByteArray)) →
     pNext.sig.pre [.N n17, .N n0, .L l18] ∧ (
     pNext.sig.post [.N n17, .N n0, .L l18] →
 ((
 (((l18.getD (1 : Int).toNat default)).toI = 3) →
      wName.sig.pre [.I 3] ∧ (
 ∀ s21 : ByteArray,
      wName.sig.post [.I 3, .S s21] →
 ((s21.size : Int) ≤ 9223372036854775807) →
      aw7.sig.post [.B (s21.toList == (⟨#[119, 97, 108, 45, 48, 48, 48, 48, 48, 48, 48, 48, 48, 48, 48, 48, 48, 48, 48, 51]⟩ : ByteArray).toList)])) ∧ (
 (((l18.getD (1 : Int).toNat default)).toI ≠ 3) →
      aw7.sig.post [.B false])))) ∧ (
 (((l20.getD (1 : Int).toNat default)).toS ≠ (⟨#[98]⟩ : ByteArray)) →
     aw7.sig.post [.B false])))) ∧ (
 (((l20.getD (0 : Int).toNat default)).toS ≠ (⟨#[97]⟩ : ByteArray)) →
     aw7.sig.post [.B false])))) ∧ (
 (((l20.length : Nat) : Int) ≠ (2 : Int)) →
    aw7.sig.post [.B false])))) ∧ (
    pOpen.sig.pre [.N n0, .L l16, .I 100] ∧ (
 ∀ v17 : Value,
 ∀ l18 : List D,
 ∀ i19 : Int,
    pOpen.sig.post2 [.N n0, .L l16, .I 100, .V v17, .L l18, .I i19] →
 R64 i19 →
 (EK.ok [.str] (D.L l18)) →
 ((
 (i19 = 0) →
    aw7.sig.post [.B false]) ∧ (
 (i19 ≠ 0) →
    aw7.sig.post [.B false]))))))))))))))))))) ∧ (
  pOpen.sig.pre [.N n0, .L l1, .I 100] ∧ (
 ∀ v2 : Value,
 ∀ l3 : List D,
 ∀ i4 : Int,
  pOpen.sig.post2 [.N n0, .L l1, .I 100, .V v2, .L l3, .I i4] →
 R64 i4 →
 (EK.ok [.str] (D.L l3)) →
  aw7.sig.post [.B false]))))
end Go.Vc
namespace Go.Vc
open Dk (Ds)
end Go.Vc
namespace Go.Vc
open Dk (Ds)
end Go.Vc
namespace Go.Vc
open Dk (Ds)
theorem lim_app2 {n b : Nat} {x : Ds} {g : Wl.Lg} {s : Tx} (h : Lim n b x) : Lim (n + 1) (b + s.length) (Wl.app2 s x g).1 := by
 unfold Wl.app2
 split <;> exact lim_append h _ _
theorem lim_wappend {n b : Nat} {x : Ds} {g : Wl.Lg} {r : Tx} (h : Lim n b x) : Lim (n + g.found.length + 5) (b + (Wl.frT g.next r).length) (Wl.append x g r).1 := by
 unfold Wl.append
 split
 ·exact h.mono (by omega) (by omega)
 ·split
  ·have ht := lim_wturn (g := g) h
   unfold Wl.app1
   split
   ·exact ht.mono (by omega) (by omega)
   ·exact lim_app2 ht
  ·exact (lim_app2 h).mono (by omega) (Nat.le_refl _)
def wq0 : Ds := Dk.new 1000
def wqg : Wl.Lg := ⟨100, 1, [], 0, false, []⟩
def wqA := Wl.append wq0 wqg [97]
def wqB := Wl.append wqA.1 wqA.2.1 [98]
def wqS := Wl.sync wqB.1 wqB.2.1
def wqR := Dk.restart wqS.1 []
theorem wq_e0 : Wl.opened wq0 100 = (some (wqg, []), 0) := by rfl
theorem wq_e1 : wqA.2.2 = 0 ∧ wqB.2.2 = 0 ∧ wqS.2.2 = 0 := by decide +kernel
theorem wq_e2 : (Wl.opened wqR 100).2 = 0 := by decide +kernel
theorem wq_e3 : (Wl.opened wqR 100).1.map (fun p => (p.2, p.1.next)) = some ([[97], [98]], 3) := by decide +kernel
theorem wq_l0 : Lim 0 0 wq0 := lim_new 1000
theorem wq_lA : Lim 5 19 wqA.1 := (lim_wappend wq_l0).mono (by decide +kernel) (by decide +kernel)
theorem wq_lB : Lim 10 38 wqB.1 := (lim_wappend wq_lA).mono (by decide +kernel) (by decide +kernel)
theorem wq_lS : Lim 11 38 wqS.1 := (lim_wsync wq_lB).mono (by decide +kernel) (by decide +kernel)
theorem wq_lR : Lim 11 38 wqR := lim_restart wq_lS []
theorem wq_gA : LgOk wqA.2.1 := ⟨by decide +kernel, by decide +kernel, by decide +kernel, by decide +kernel⟩
theorem wq_gB : LgOk wqB.2.1 := ⟨by decide +kernel, by decide +kernel, by decide +kernel, by decide +kernel⟩
theorem wq_g0 : LgOk wqg := ⟨by decide, by decide, by decide, by decide⟩
theorem mid_of {n b : Nat} {x : Ds} (h : Lim n b x) (hn : n ≤ 50000 := by omega) (hb : b ≤ 100000000 := by omega) : Mid x := Lim.mono h hn hb
theorem aw7.pure : aw7.Pure := by
 intro _
 refine ⟨trivial, fun n0 l1 r1 => ?_⟩
 have r1 : RepL l1 wq0 := r1
 have m0 : Mid wq0 := mid_of wq_l0
 refine ⟨⟨⟨wq0, r1, m0⟩, fun n2 l3 v4 l5 ho _ => ?_⟩, ⟨wq0, r1, m0⟩, fun v2 l3 i4 ho _ _ => ?_⟩
 rotate_left
 ·obtain ⟨h1, _, h2⟩ := ho wq0 r1 m0
  have h2 : Wl.opened wq0 100 = (none, i4) := h2
  rw [wq_e0] at h2; cases h2
 obtain ⟨g, r, o1, g3, o2, _⟩ := ho wq0 r1 m0
 have o1 : Wl.opened wq0 100 = (some (g, r), 0) := o1
 rw [wq_e0] at o1
 cases o1
 obtain rfl : l5 = [] := o2
 have g3 : LgRep l3 wqg := g3
 refine ⟨fun h => absurd h (by decide), fun _ => ⟨⟨⟨wq0, r1, m0⟩, g3.1, (show LgOk (lgOf l3 0) from by rw [g3.2]; exact wq_g0), (by decide : (ByteArray.size ⟨#[97]⟩) ≤ 900000000)⟩, fun l6 l7 i8 ha _ => ?_⟩⟩
 obtain ⟨ra, ga, ea⟩ := ha wq0 wqg r1 m0 g3
 have ra : RepL l7 wqA.1 := ra
 have ga : LgRep l6 wqA.2.1 := ga
 have ea : i8 = wqA.2.2 := ea
 have mA : Mid wqA.1 := mid_of wq_lA
 rw [wq_e1.1] at ea
 refine ⟨fun h => absurd ea h, fun _ => ⟨⟨⟨_, ra, mA⟩, ga.1, (show LgOk (lgOf l6 0) from by rw [ga.2]; exact wq_gA), (by decide : (ByteArray.size ⟨#[98]⟩) ≤ 900000000)⟩, fun l9 l10 i11 hb _ => ?_⟩⟩
 obtain ⟨rb, gb, eb⟩ := hb _ _ ra mA ga
 have rb : RepL l10 wqB.1 := rb
 have gb : LgRep l9 wqB.2.1 := gb
 have eb : i11 = wqB.2.2 := eb
 have mB : Mid wqB.1 := mid_of wq_lB
 rw [wq_e1.2.1] at eb
 refine ⟨fun h => absurd eb h, fun _ => ⟨⟨⟨_, rb, mB⟩, gb.1, (show LgOk (lgOf l9 0) from by rw [gb.2]; exact wq_gB)⟩, fun l12 l13 i14 hs _ => ?_⟩⟩
 obtain ⟨rs, gs, es⟩ := hs _ _ rb mB gb
 have rs : RepL l13 wqS.1 := rs
 have es : i14 = wqS.2.2 := es
 rw [wq_e1.2.2] at es
 have mS : Mid wqS.1 := mid_of wq_lS
 refine ⟨fun h => absurd es h, fun _ v15 => ⟨⟨_, rs, mS.small⟩, fun l16 hr => ?_⟩⟩
 have rr : RepL l16 wqR := hr _ rs mS.small
 have mR : Mid wqR := mid_of wq_lR
 refine ⟨⟨⟨_, rr, mR⟩, fun n17 l18 v19 l20 ho _ => ?_⟩, ⟨_, rr, mR⟩, fun v17 l18 i19 ho _ _ => ?_⟩
 rotate_left
 ·obtain ⟨h1, _, h2⟩ := ho _ rr mR
  have h2 : Wl.opened wqR 100 = (none, i19) := h2
  have h3 := wq_e2
  rw [h2] at h3; exact absurd h3 h1
 obtain ⟨g, r, o1, gg, o2, _⟩ := ho _ rr mR
 have o1 : Wl.opened wqR 100 = (some (g, r), 0) := o1
 have h3 := wq_e3
 rw [o1] at h3
 have h3 : some (r, g.next) = some ([[97], [98]], 3) := h3
 obtain ⟨rfl, h4⟩ := Prod.mk.inj (Option.some.inj h3)
 have o2 : l20 = txD [[97], [98]] := o2
 subst o2
 have gg : LgRep l18 g := gg
 have hnx : (l18.getD 1 default).toI = 3 := by
  have h1 := congrArg Wl.Lg.next gg.2
  have h1 : (arg l18 1).toI.toNat = g.next := h1
  have : (l18.getD 1 default).toI.toNat = 3 := h1.trans h4
  omega
 refine ⟨fun _ => ⟨by decide, fun _ => ⟨fun _ => ⟨by decide, fun _ => ⟨fun _ => ⟨gg.1, fun _ => ⟨fun _ => ⟨trivial, fun s21 h21 _ => ?_⟩, fun h => absurd hnx h⟩⟩, fun h => absurd rfl h⟩⟩, fun h => absurd rfl h⟩⟩, fun h => absurd rfl h⟩
 have h21 : s21 = bx (Wl.name 3) := h21
 have e : bx (Wl.name 3) = (⟨#[119, 97, 108, 45, 48, 48, 48, 48, 48, 48, 48, 48, 48, 48, 48, 48, 48, 48, 48, 51]⟩ : ByteArray) := by decide +kernel
 show (s21.toList == _) = true
 rw [h21, e]
 exact beq_self_eq_true _
theorem begin_calm {x : Ds} (hd : x.dead = false) (hc : x.crash = -1) (hf : x.fail = -1) : Dk.begin x = ({ x with calls := x.calls + 1 }, false, 0) := by
 obtain ⟨a1, a2, a3, a4, a5, a6, a7, a8, a9⟩ := x
 have hd : a8 = false := hd
 have hc : a6 = -1 := hc
 have hf : a7 = -1 := hf
 subst hd hf hc
 rfl
structure Well (x : Ds) : Prop where
 dead : x.dead = false
 crash : x.crash = -1
 fail : x.fail = -1
 room : x.room = 100000
theorem well_create {x : Ds} (h : Well x) (nm : Tx) : Well (Dk.create x nm).1 ∧ ((Dk.create x nm).2 = 0 → ∃ i, (nm, i) ∈ (Dk.create x nm).1.names) := by
 unfold Dk.create
 rw [if_neg (by rw [h.dead]; simp)]
 split
 ·exact ⟨h, fun h => absurd (show (1 : Int) = 0 from h) (by decide)⟩
 ·rename_i hn
  split
  ·exact ⟨h, fun h => absurd (show (6 : Int) = 0 from h) (by decide)⟩
  ·rw [begin_calm h.dead h.crash h.fail]
   dsimp only
   rw [if_neg (by simp)]
   exact ⟨⟨h.dead, h.crash, h.fail, h.room⟩, fun _ => ⟨x.files.length, Dk.mem_apply.2 (.inl ⟨hn, rfl⟩)⟩⟩
theorem well_append {n b : Nat} {x : Ds} (h : Well x) (hl : Lim n b x) {nm s : Tx} {i : Nat} (hi : (nm, i) ∈ x.names) (hs : b + s.length ≤ 100000) : Well (Dk.append x nm s).1 ∧ (Dk.append x nm s).2 = 0 := by
 have hu := Nat.le_trans (used_tot x) hl.bytes
 have hfr : ¬ ((s.length : Int) > Dk.free x) := by
  unfold Dk.free
  rw [h.room]; omega
 unfold Dk.append
 rw [if_neg (by rw [h.dead]; simp), find_sorted hl.inv.sn hi]
 dsimp only
 rw [if_neg hfr, begin_calm h.dead h.crash h.fail]
 dsimp only
 rw [if_neg (by simp)]
 exact ⟨⟨h.dead, h.crash, h.fail, h.room⟩, rfl⟩
theorem Calm.mid {n : Nat} {x : Ds} (h : Calm n x) (hn : n ≤ 6) : Mid x := h.lim.mono (by omega) (by omega)
theorem fnd_txD (l : List Tx) : fnd (txD l) = l := by
 unfold fnd txD
 rw [List.map_map]
 exact (List.map_congr_left (g := id) fun t _ => tx_bx t).trans (List.map_id _)
theorem cut_le (s : ByteArray) (n : Nat) : (tx (s.extract 0 n)).length ≤ n := by rw [tx_extract, List.drop_zero, List.length_take]; omega
end Go.Vc