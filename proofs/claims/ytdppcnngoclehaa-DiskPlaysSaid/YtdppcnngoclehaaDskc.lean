/-
 The disk: what Restart cuts.
 The disk: contracts, fourth part: Restart, Safe.
 Printed by wip/vct.py: the conditions of functions, by their contracts.
 The disk: plain conditions, fourth part: pick, Restart.
 The disk: plain conditions, fourth part: Restart.
 The disk: plain conditions, fourth part: Safe.
-/
import Derived.Test.YtdppcnngoclehaaDskb
import Derived.KernelRfl
set_option linter.unusedVariables false
set_option linter.unusedSimpArgs false
open _root_.Go.IntKind (wrap)
namespace Go.Vc
open Dk (Fi Cg Ds held fileAt)
def oI (ch : LI) (k : Nat) (f : Fi) : Fi := if f.safe < f.data.length then ⟨f.data.take (f.safe + Dk.pick ch k (f.data.length - f.safe + 1)), f.safe + Dk.pick ch k (f.data.length - f.safe + 1)⟩ else f
def kX (k : Nat) (f : Fi) : Nat := if f.safe < f.data.length then k + 1 else k
def fO (ch : LI) (g : Nat → Fi) : Nat → List Nat → LD
 | _, [] => []
 | k, i :: is => bD i (oI ch k (g i)) :: fO ch g (kX k (g i)) is
def kOf (g : Nat → Fi) : Nat → List Nat → Nat
 | k, [] => k
 | k, i :: is => kOf g (kX k (g i)) is
theorem bG9 (g : Nat → Fi) : ∀ (k : Nat) (is bs : List Nat), kOf g k (is ++ bs) = kOf g (kOf g k is) bs
 | _, [], _ => rfl
 | k, a :: is, bs => by simp only [List.cons_append, kOf]; exact bG9 g _ is bs
theorem bB6 (ch : LI) (g : Nat → Fi) : ∀ (k : Nat) (is bs : List Nat), fO ch g k (is ++ bs) = fO ch g k is ++ fO ch g (kOf g k is) bs
 | _, [], _ => rfl
 | k, a :: is, bs => by simp only [List.cons_append, fO, kOf]; rw [bB6 ch g _ is bs]
theorem aM7 {ch : LI} {g g' : Nat → Fi} : ∀ {k : Nat} {is : List Nat}, (∀ i ∈ is, g i = g' i) → fO ch g k is = fO ch g' k is
 | _, [], _ => rfl
 | k, i :: is, h => by
  simp only [fO]
  rw [h i (by simp), aM7 fun j hj => h j (by simp [hj])]
theorem aB0 (d : Ds) (ch : LI) : ∀ (fs : List Fi) (i k : Nat), ((List.range fs.length).filter fun j => held d (i + j)).map (fun j => bD (i + j) ((Dk.cut d ch i k fs).getD j ⟨[], 0⟩)) =
  fO ch (fun j => fs.getD (j - i) ⟨[], 0⟩) k (((List.range fs.length).filter fun j => held d (i + j)).map fun j => i + j)
 | [], _, _ => rfl
 | f :: fs, i, k => by
  have e : ((List.range fs.length).map Nat.succ).filter (fun j => held d (i + j)) = ((List.range fs.length).filter fun j => held d (i + 1 + j)).map Nat.succ := by
   rw [List.filter_map]
   congr 1
   apply List.filter_congr
   intro j _
   show held d (i + (j + 1)) = _
   rw [show i + (j + 1) = i + 1 + j from by omega]
  have hshift : ∀ (js : List Nat), (js.map Nat.succ).map (fun j => i + j) = js.map fun j => i + 1 + j := fun js => by
   rw [List.map_map]
   apply List.map_congr_left
   intro j _
   show i + (j + 1) = i + 1 + j
   omega
  have hg : ∀ k' (js : List Nat), fO ch (fun j => (f :: fs).getD (j - i) ⟨[], 0⟩) k' (js.map fun j => i + 1 + j) = fO ch (fun j => fs.getD (j - (i + 1)) ⟨[], 0⟩) k' (js.map fun j => i + 1 + j) := fun k' js => by
   apply aM7
   intro j hj
   obtain ⟨j', _, rfl⟩ := List.mem_map.1 hj
   show (f :: fs).getD (i + 1 + j' - i) _ = fs.getD (i + 1 + j' - (i + 1)) _
   rw [show i + 1 + j' - i = j' + 1 from by omega, show i + 1 + j' - (i + 1) = j' from by omega]
   simp [List.getD]
  have hrest : ∀ (X : List Fi) (x : Fi) (js : List Nat), (js.map Nat.succ).map (fun j => bD (i + j) ((x :: X).getD j ⟨[], 0⟩)) = js.map fun j => bD (i + 1 + j) (X.getD j ⟨[], 0⟩) := fun X x js => by
   rw [List.map_map]
   apply List.map_congr_left
   intro j _
   show bD (i + (j + 1)) ((x :: X).getD (j + 1) _) = _
   rw [show i + (j + 1) = i + 1 + j from by omega]
   simp [List.getD]
  rw [List.length_cons, List.range_succ_eq_map, List.filter_cons, e]
  by_cases hh : held d (i + 0) = true
  ·have hh0 : held d i = true := hh
   rw [if_pos hh]
   have e0 : (f :: fs).getD (i + 0 - i) (⟨[], 0⟩ : Fi) = f := by simp
   by_cases hl : f.safe < f.data.length
   ·have ec : Dk.cut d ch i k (f :: fs) = oI ch k f :: Dk.cut d ch (i + 1) (k + 1) fs := by
     rw [Dk.cut, if_pos ⟨hh0, hl⟩]
     unfold oI
     rw [if_pos hl]
    rw [ec, List.map_cons, List.map_cons, hrest, hshift, fO, e0]
    have en : kX k f = k + 1 := by unfold kX; rw [if_pos hl]
    rw [en, hg, aB0 d ch fs (i + 1) (k + 1)]
    rfl
   ·have ec : Dk.cut d ch i k (f :: fs) = f :: Dk.cut d ch (i + 1) k fs := by
     rw [Dk.cut, if_neg (fun h => hl h.2)]
    rw [ec, List.map_cons, List.map_cons, hrest, hshift, fO, e0]
    have en : kX k f = k := by unfold kX; rw [if_neg hl]
    have e1 : oI ch k f = f := by unfold oI; rw [if_neg hl]
    rw [en, e1, hg, aB0 d ch fs (i + 1) k]
    rfl
  ·have hh0 : ¬ held d i = true := hh
   rw [if_neg hh]
   have ec : Dk.cut d ch i k (f :: fs) = f :: Dk.cut d ch (i + 1) k fs := by
    rw [Dk.cut, if_neg (fun h => hh0 h.1)]
   rw [ec, hrest, hshift, hg, aB0 d ch fs (i + 1) k]
def mid (x : Ds) (ch : LI) : Ds :=
 let safe := (x.pend.take (Dk.pick ch 0 (x.pend.length + 1))).foldl Dk.apply x.safe
 { x with safe := safe, names := safe, pend := [], dead := false, crash := -1, fail := -1 }
theorem cD3 (x : Ds) (ch : LI) : live (Dk.restart x ch) = fO ch (fileAt (mid x ch)) 1 (aK (mid x ch)) := by
 have h := aB0 (mid x ch) ch (mid x ch).files 0 1
 have hl : (Dk.restart x ch).files.length = (mid x ch).files.length := by
  show (Dk.cut _ ch 0 1 _).length = _
  rw [Dk.tN]; rfl
 have hix : aK (Dk.restart x ch) = aK (mid x ch) := by
  unfold aK
  rw [hl]
  rfl
 have e1 : ((List.range (mid x ch).files.length).filter fun j => held (mid x ch) (0 + j)) = aK (mid x ch) := List.filter_congr fun j _ => by rw [Nat.zero_add]
 rw [e1] at h
 have e2 : (aK (mid x ch)).map (fun j => 0 + j) = aK (mid x ch) := by
  conv => rhs; rw [← List.map_id (aK (mid x ch))]
  apply List.map_congr_left
  intro j _
  show 0 + j = j
  omega
 rw [e2] at h
 have e3 : live (Dk.restart x ch) = (aK (mid x ch)).map fun j => bD (0 + j) ((Dk.cut (mid x ch) ch 0 1 (mid x ch).files).getD j ⟨[], 0⟩) := by
  unfold live
  rw [hix]
  apply List.map_congr_left
  intro j _
  rw [Nat.zero_add]
  rfl
 rw [e3, h]
 apply aM7
 intro j _
 show (mid x ch).files.getD (j - 0) _ = (mid x ch).files.getD j _
 rw [Nat.sub_zero]
theorem cL9 {LF A B : LD} {q : D} (hn : (aN LF).Nodup) (hF : (LF.map strip).Perm (A ++ q :: B)) {r r' : D} (hr : r ∈ LF) (hs : strip r = q) : ((dA LF r.snd.toN r').map strip).Perm (A ++ strip r' :: B) := by
 obtain ⟨a, b, e1, e2⟩ := zX (r' := r') hn hr
 have m1 : (LF.map strip).Perm (strip r :: (a ++ b).map strip) := by
  rw [e1, List.map_append, List.map_cons, List.map_append]
  exact List.perm_middle
 have m2 : ((dA LF r.snd.toN r').map strip).Perm (strip r' :: (a ++ b).map strip) := by
  rw [e2, List.map_append, List.map_cons, List.map_append]
  exact List.perm_middle
 have m3 : (strip r :: (a ++ b).map strip).Perm (strip r :: (A ++ B)) := by
  refine m1.symm.trans (hF.trans ?_)
  rw [hs]
  exact List.perm_middle
 exact (m2.trans (m3.cons_inv.cons _)).trans List.perm_middle.symm
end Go.Vc
namespace Go.Vc
def jS.sig : Sig := qM [.z .i64, .i .i64, .i .i64] [.i .i64] (fun l => 0 ≤ (arg l 2).toI ∧ 0 < (arg l 3).toI ∧ (arg l 3).toI ≤ 1000000000000000) fun l => (arg l 4).toI = Dk.pick (arg l 1).aC (arg l 2).toI.toNat (arg l 3).toI.toNat
def bQ.sig : Sig :=
 { args := [iO 0, .one (.lf (.sl (.at 15)))], heap := dX 0 1 ++ [.rsl (.at 15) [.int .i64] (.at 16)], aA := .N :: bU ++ [.V, .Z], res := .tup [], heap' := dX 0 17, news := bU, pre := fun l => ∃ x, bH l 1 x ∧ Small x,
   post := fun l => ∀ x, bH l 1 x → Small x → bH l 17 (Dk.restart x (arg l 16).aC) }
def bQ.I0 : LD → Prop := fun l => 0 ≤ (arg l 17).toI ∧ (arg l 17).toI ≤ Dk.pick (arg l 16).aC 0 ((arg l 8).toL.length + 1) ∧
 ∀ x, bH l 1 x → Small x → (arg l 18).toL.Perm (((x.pend.take (arg l 17).toI.toNat).foldl Dk.apply x.safe).map dL)
def bQ.I0M : LD → Nat := fun l => ((arg l 8).toL.length - (arg l 17).toI).toNat
def bQ.I1 : LD → Prop := fun l => 0 ≤ (arg l 18).toI ∧ 0 ≤ (arg l 17).toI ∧ (arg l 17).toI ≤ (arg l 18).toI + 1 ∧
 ∀ x, bH l 1 x → Small x → (arg l 18).toI ≤ (aK (mid x (arg l 16).aC)).length ∧
  (arg l 17).toI = kOf (Dk.fileAt (mid x (arg l 16).aC)) 1 ((aK (mid x (arg l 16).aC)).take (arg l 18).toI.toNat) ∧
  ((arg l 19).toL.map strip).Perm (fO (arg l 16).aC (Dk.fileAt (mid x (arg l 16).aC)) 1 ((aK (mid x (arg l 16).aC)).take (arg l 18).toI.toNat) ++ ((aK (mid x (arg l 16).aC)).drop (arg l 18).toI.toNat).map fun i => bD i (Dk.fileAt (mid x (arg l 16).aC) i))
def bQ.I1M : LD → Nat := fun l => ((arg l 5).toL.length - (arg l 18).toI).toNat
def dM.sig : Sig :=
 { args := [iO 0], heap := dX 0 1, aA := .N :: bU, res := .tup [.lf (.sl (.at 15)), .lf (.sl (.at 17))], heap' := .osl (.at 15) [.str] (.at 16) :: .osl (.at 17) [.str] (.at 18) :: dX 0 1, news := [.V, .L, .V, .L], pre := fun l => ∃ x, bH l 1 x ∧ Small x,
   post := fun l => ∀ x, bH l 1 x → Small x → (arg l 16).toL = (x.safe.map fun p => .S (bx p.1)) ∧ (arg l 18).toL = x.safe.map fun p => .S (bx ((Dk.fileAt x p.2).data.take (Dk.fileAt x p.2).safe)) }
def wF (x : Dk.Ds) (p : Tx × Nat) : D := .S (bx ((Dk.fileAt x p.2).data.take (Dk.fileAt x p.2).safe))
def dM.I0 : LD → Prop := fun l => 0 ≤ (arg l 15).toI ∧ (arg l 15).toI ≤ (arg l 7).toL.length ∧ (arg l 16).toL.length = (arg l 7).toL.length ∧
 ∀ x, bH l 1 x → Small x → ∀ j : Nat, (j : Int) < (arg l 15).toI → (arg l 16).toL[j]? = (x.safe[j]?).map (wF x)
def dM.I0M : LD → Nat := fun l => ((arg l 7).toL.length - (arg l 15).toI).toNat
end Go.Vc
namespace Go.Vc
set_option linter.unusedVariables false
def jS.Pure : Prop :=
 ∀ v0 : Value,
 ∀ z1 : LI,
 ∀ i2 i3 : Int,
 R64 i2 →
 R64 i3 →
 (∀ x ∈ z1, IntKind.has .i64 x) →
 jS.sig.pre [.V v0, .Z z1, .I i2, .I i3] →
 ((
 ((z1.length : Int) ≤ i2) →
  jS.sig.post [.V v0, .Z z1, .I i2, .I i3, .I 0]) ∧ (
 (i2 < (z1.length : Int)) →
 Im (0 ≤ i2) (
 Im (i2 < (z1.length : Int)) (
 Im (i3 ≠ 0) (
  jS.sig.post [.V v0, .Z z1, .I i2, .I i3, .I (Int.tmod (wrap .i64 ((Int.tmod (z1.getD i2.toNat 0) i3) + i3)) i3)])))))
def bQ.Pure : Prop :=
 ∀ n0 n1 n2 n3 : Nat,
 ∀ v4 : Value,
 ∀ l5 l6 l7 l8 : LD,
 ∀ i9 i10 i11 i12 : Int,
 ∀ b13 : Bool,
 ∀ i14 : Int,
 ∀ v15 : Value,
 ∀ z16 : LI,
 R64 i9 →
 R64 i10 →
 R64 i11 →
 R64 i12 →
 R64 i14 →
 (bM (.int .i64) [.str, .int .i64] l5) →
 (mapOk (.str) (.int .i64) l6) →
 (mapOk (.str) (.int .i64) l7) →
 (EK.ok [.str, .str, .int .i64] (D.L l8)) →
 (∀ x ∈ z16, IntKind.has .i64 x) →
 bQ.sig.pre [.N n0, .N n1, .N n2, .N n3, .V v4, .L l5, .L l6, .L l7, .L l8, .I i9, .I i10, .I i11, .I i12, .B b13, .I i14, .V v15, .Z z16] →
 jS.sig.pre [.V v15, .Z z16, .I (0 : Int), .I (wrap .i64 ((l8.length : Int) + (1 : Int)))] ∧ (
 ∀ i17 : Int,
 jS.sig.post [.V v15, .Z z16, .I (0 : Int), .I (wrap .i64 ((l8.length : Int) + (1 : Int))), .I i17] →
 R64 i17 →
 Im (0 ≤ i17) (
 Im (i17 ≤ (l8.length : Int)) (
 ∀ v18 : Value,
 bQ.I0 [.N n0, .N n1, .N n2, .N n3, .V v4, .L l5, .L l6, .L l7, .L l8, .I i9, .I i10, .I i11, .I i12, .B b13, .I i14, .V v15, .Z z16, .I 0, .L l7] ∧ (
 ∀ i19 : Int,
 ∀ l20 : LD,
 R64 i19 →
 (mapOk (.str) (.int .i64) l20) →
 bQ.I0 [.N n0, .N n1, .N n2, .N n3, .V v4, .L l5, .L l6, .L l7, .L l8, .I i9, .I i10, .I i11, .I i12, .B b13, .I i14, .V v15, .Z z16, .I i19, .L l20] →
 ((
 (i19 < ((l8.take i17.toNat).length : Int)) →
 Im (0 ≤ i19) (
 ∀ n21 : Nat,
  iG.sig.pre [.N n3, .L l20, (D.S (((l8.take i17.toNat).getD i19.toNat default).toL.getD (0 : Int).toNat default).toS), (D.S (((l8.take i17.toNat).getD i19.toNat default).toL.getD (1 : Int).toNat default).toS), (D.I (((l8.take i17.toNat).getD i19.toNat default).toL.getD (2 : Int).toNat default).toI)] ∧ (
 ∀ l22 : LD,
  iG.sig.post [.N n3, .L l20, (D.S (((l8.take i17.toNat).getD i19.toNat default).toL.getD (0 : Int).toNat default).toS), (D.S (((l8.take i17.toNat).getD i19.toNat default).toL.getD (1 : Int).toNat default).toS), (D.I (((l8.take i17.toNat).getD i19.toNat default).toL.getD (2 : Int).toNat default).toI), .L l22] →
 (mapOk (.str) (.int .i64) l22) →
  Bk bQ.I0 bQ.I0M [.N n0, .N n1, .N n2, .N n3, .V v4, .L l5, .L l6, .L l7, .L l8, .I i9, .I i10, .I i11, .I i12, .B b13, .I i14, .V v15, .Z z16, .I (wrap .i64 (i19 + 1)), .L l22] [.N n0, .N n1, .N n2, .N n3, .V v4, .L l5, .L l6, .L l7, .L l8, .I i9, .I i10, .I i11, .I i12, .B b13, .I i14, .V v15, .Z z16, .I i19, .L l20]))) ∧ (
 (((l8.take i17.toNat).length : Int) ≤ i19) →
 ∀ v21 : Value,
  qW.sig.pre [.N n3, .L l20] ∧ (
 ∀ n22 : Nat,
  qW.sig.post [.N n3, .L l20, .N n22] →
 (mapOk (.str) (.int .i64) l20) →
  bT.sig.pre [.N n0, .N n1, .N n22, .N n3, .V v21, .L l5, .L l20, .L l20, .L ([] : LD), .I i9, .I i10, .I i11, .I i12, .B b13, .I i14] ∧ (
 ∀ l23 : LD,
  bT.sig.post [.N n0, .N n1, .N n22, .N n3, .V v21, .L l5, .L l20, .L l20, .L ([] : LD), .I i9, .I i10, .I i11, .I i12, .B b13, .I i14, .L l23] →
 (bM (.int .i64) [.str, .int .i64] l23) →
 (lN.sig 0).pre [.N n1] ∧ (
 ∀ n24 : Nat,
 (lN.sig 0).post [.N n1, .N n24] →
 (aB2.sig 0).pre [.N n24, .N n1, .L l23] ∧ (
 ∀ v25 : Value,
 ∀ z26 : LI,
 (aB2.sig 0).post [.N n24, .N n1, .L l23, .V v25, .Z z26] →
 (∀ x ∈ z26, IntKind.has .i64 x) →
  bQ.I1 [.N n0, .N n1, .N n2, .N n3, .V v4, .L l5, .L l6, .L l7, .L l8, .I i9, .I i10, .I i11, .I i12, .B b13, .I i14, .V v15, .Z z16, .I 1, .I 0, .L l23] ∧ (
 ∀ i27 i28 : Int,
 ∀ l29 : LD,
 R64 i27 →
 R64 i28 →
 (bM (.int .i64) [.str, .int .i64] l29) →
  bQ.I1 [.N n0, .N n1, .N n2, .N n3, .V v4, .L l5, .L l6, .L l7, .L l8, .I i9, .I i10, .I i11, .I i12, .B b13, .I i14, .V v15, .Z z16, .I i27, .I i28, .L l29] →
 ((
 (i28 < (z26.length : Int)) →
 Im (0 ≤ i28) (
 Im ((aI l29 (D.I (z26.getD i28.toNat 0))) = true) (
 Im ((dG l29 ((aB l29 (D.I (z26.getD i28.toNat 0))).toL.getD (1 : Int).toNat default).toN) = true) (
 ((
 (0 < (wrap .i64 ((((aF l29 ((aB l29 (D.I (z26.getD i28.toNat 0))).toL.getD (1 : Int).toNat default).toN).toL.getD (2 : Int).toNat default).toS.size : Int) - ((aF l29 ((aB l29 (D.I (z26.getD i28.toNat 0))).toL.getD (1 : Int).toNat default).toN).toL.getD (3 : Int).toNat default).toI))) →
  jS.sig.pre [.V v15, .Z z16, .I i27, .I (wrap .i64 ((wrap .i64 ((((aF l29 ((aB l29 (D.I (z26.getD i28.toNat 0))).toL.getD (1 : Int).toNat default).toN).toL.getD (2 : Int).toNat default).toS.size : Int) - ((aF l29 ((aB l29 (D.I (z26.getD i28.toNat 0))).toL.getD (1 : Int).toNat default).toN).toL.getD (3 : Int).toNat default).toI)) + 1))] ∧ (
 ∀ i30 : Int,
  jS.sig.post [.V v15, .Z z16, .I i27, .I (wrap .i64 ((wrap .i64 ((((aF l29 ((aB l29 (D.I (z26.getD i28.toNat 0))).toL.getD (1 : Int).toNat default).toN).toL.getD (2 : Int).toNat default).toS.size : Int) - ((aF l29 ((aB l29 (D.I (z26.getD i28.toNat 0))).toL.getD (1 : Int).toNat default).toN).toL.getD (3 : Int).toNat default).toI)) + 1)), .I i30] →
 R64 i30 →
 Im (0 ≤ (wrap .i64 (((aF l29 ((aB l29 (D.I (z26.getD i28.toNat 0))).toL.getD (1 : Int).toNat default).toN).toL.getD (3 : Int).toNat default).toI + i30))) (
 Im ((wrap .i64 (((aF l29 ((aB l29 (D.I (z26.getD i28.toNat 0))).toL.getD (1 : Int).toNat default).toN).toL.getD (3 : Int).toNat default).toI + i30)) ≤ (((aF l29 ((aB l29 (D.I (z26.getD i28.toNat 0))).toL.getD (1 : Int).toNat default).toN).toL.getD (2 : Int).toNat default).toS.size : Int)) (
 Im ((dG (dA l29 ((aB l29 (D.I (z26.getD i28.toNat 0))).toL.getD (1 : Int).toNat default).toN (D.L (((aF l29 ((aB l29 (D.I (z26.getD i28.toNat 0))).toL.getD (1 : Int).toNat default).toN).toL.getD (0 : Int).toNat default) :: ((D.N ((aF l29 ((aB l29 (D.I (z26.getD i28.toNat 0))).toL.getD (1 : Int).toNat default).toN).toL.getD (1 : Int).toNat default).toN) :: ((D.S (((aF l29 ((aB l29 (D.I (z26.getD i28.toNat 0))).toL.getD (1 : Int).toNat default).toN).toL.getD (2 : Int).toNat default).toS.extract (0 : Int).toNat (wrap .i64 (((aF l29 ((aB l29 (D.I (z26.getD i28.toNat 0))).toL.getD (1 : Int).toNat default).toN).toL.getD (3 : Int).toNat default).toI + i30)).toNat)) :: ((D.I ((aF l29 ((aB l29 (D.I (z26.getD i28.toNat 0))).toL.getD (1 : Int).toNat default).toN).toL.getD (3 : Int).toNat default).toI) :: ([] : LD))))))) ((aB l29 (D.I (z26.getD i28.toNat 0))).toL.getD (1 : Int).toNat default).toN) = true) (
  Bk bQ.I1 bQ.I1M [.N n0, .N n1, .N n2, .N n3, .V v4, .L l5, .L l6, .L l7, .L l8, .I i9, .I i10, .I i11, .I i12, .B b13, .I i14, .V v15, .Z z16, .I (wrap .i64 (i27 + 1)), .I (wrap .i64 (i28 + 1)), .L (dA (dA l29 ((aB l29 (D.I (z26.getD i28.toNat 0))).toL.getD (1 : Int).toNat default).toN (D.L (((aF l29 ((aB l29 (D.I (z26.getD i28.toNat 0))).toL.getD (1 : Int).toNat default).toN).toL.getD (0 : Int).toNat default) :: ((D.N ((aF l29 ((aB l29 (D.I (z26.getD i28.toNat 0))).toL.getD (1 : Int).toNat default).toN).toL.getD (1 : Int).toNat default).toN) :: ((D.S (((aF l29 ((aB l29 (D.I (z26.getD i28.toNat 0))).toL.getD (1 : Int).toNat default).toN).toL.getD (2 : Int).toNat default).toS.extract (0 : Int).toNat (wrap .i64 (((aF l29 ((aB l29 (D.I (z26.getD i28.toNat 0))).toL.getD (1 : Int).toNat default).toN).toL.getD (3 : Int).toNat default).toI + i30)).toNat)) :: ((D.I ((aF l29 ((aB l29 (D.I (z26.getD i28.toNat 0))).toL.getD (1 : Int).toNat default).toN).toL.getD (3 : Int).toNat default).toI) :: ([] : LD))))))) ((aB l29 (D.I (z26.getD i28.toNat 0))).toL.getD (1 : Int).toNat default).toN (D.L (((aF (dA l29 ((aB l29 (D.I (z26.getD i28.toNat 0))).toL.getD (1 : Int).toNat default).toN (D.L (((aF l29 ((aB l29 (D.I (z26.getD i28.toNat 0))).toL.getD (1 : Int).toNat default).toN).toL.getD (0 : Int).toNat default) :: ((D.N ((aF l29 ((aB l29 (D.I (z26.getD i28.toNat 0))).toL.getD (1 : Int).toNat default).toN).toL.getD (1 : Int).toNat default).toN) :: ((D.S (((aF l29 ((aB l29 (D.I (z26.getD i28.toNat 0))).toL.getD (1 : Int).toNat default).toN).toL.getD (2 : Int).toNat default).toS.extract (0 : Int).toNat (wrap .i64 (((aF l29 ((aB l29 (D.I (z26.getD i28.toNat 0))).toL.getD (1 : Int).toNat default).toN).toL.getD (3 : Int).toNat default).toI + i30)).toNat)) :: ((D.I ((aF l29 ((aB l29 (D.I (z26.getD i28.toNat 0))).toL.getD (1 : Int).toNat default).toN).toL.getD (3 : Int).toNat default).toI) :: ([] : LD))))))) ((aB l29 (D.I (z26.getD i28.toNat 0))).toL.getD (1 : Int).toNat default).toN).toL.getD (0 : Int).toNat default) :: ((D.N ((aF (dA l29 ((aB l29 (D.I (z26.getD i28.toNat 0))).toL.getD (1 : Int).toNat default).toN (D.L (((aF l29 ((aB l29 (D.I (z26.getD i28.toNat 0))).toL.getD (1 : Int).toNat default).toN).toL.getD (0 : Int).toNat default) :: ((D.N ((aF l29 ((aB l29 (D.I (z26.getD i28.toNat 0))).toL.getD (1 : Int).toNat default).toN).toL.getD (1 : Int).toNat default).toN) :: ((D.S (((aF l29 ((aB l29 (D.I (z26.getD i28.toNat 0))).toL.getD (1 : Int).toNat default).toN).toL.getD (2 : Int).toNat default).toS.extract (0 : Int).toNat (wrap .i64 (((aF l29 ((aB l29 (D.I (z26.getD i28.toNat 0))).toL.getD (1 : Int).toNat default).toN).toL.getD (3 : Int).toNat default).toI + i30)).toNat)) :: ((D.I ((aF l29 ((aB l29 (D.I (z26.getD i28.toNat 0))).toL.getD (1 : Int).toNat default).toN).toL.getD (3 : Int).toNat default).toI) :: ([] : LD))))))) ((aB l29 (D.I (z26.getD i28.toNat 0))).toL.getD (1 : Int).toNat default).toN).toL.getD (1 : Int).toNat default).toN) :: ((D.S ((aF (dA l29 ((aB l29 (D.I (z26.getD i28.toNat 0))).toL.getD (1 : Int).toNat default).toN (D.L (((aF l29 ((aB l29 (D.I (z26.getD i28.toNat 0))).toL.getD (1 : Int).toNat default).toN).toL.getD (0 : Int).toNat default) :: ((D.N ((aF l29 ((aB l29 (D.I (z26.getD i28.toNat 0))).toL.getD (1 : Int).toNat default).toN).toL.getD (1 : Int).toNat default).toN) :: ((D.S (((aF l29 ((aB l29 (D.I (z26.getD i28.toNat 0))).toL.getD (1 : Int).toNat default).toN).toL.getD (2 : Int).toNat default).toS.extract (0 : Int).toNat (wrap .i64 (((aF l29 ((aB l29 (D.I (z26.getD i28.toNat 0))).toL.getD (1 : Int).toNat default).toN).toL.getD (3 : Int).toNat default).toI + i30)).toNat)) :: ((D.I ((aF l29 ((aB l29 (D.I (z26.getD i28.toNat 0))).toL.getD (1 : Int).toNat default).toN).toL.getD (3 : Int).toNat default).toI) :: ([] : LD))))))) ((aB l29 (D.I (z26.getD i28.toNat 0))).toL.getD (1 : Int).toNat default).toN).toL.getD (2 : Int).toNat default).toS) :: ((D.I (((aF (dA l29 ((aB l29 (D.I (z26.getD i28.toNat 0))).toL.getD (1 : Int).toNat default).toN (D.L (((aF l29 ((aB l29 (D.I (z26.getD i28.toNat 0))).toL.getD (1 : Int).toNat default).toN).toL.getD (0 : Int).toNat default) :: ((D.N ((aF l29 ((aB l29 (D.I (z26.getD i28.toNat 0))).toL.getD (1 : Int).toNat default).toN).toL.getD (1 : Int).toNat default).toN) :: ((D.S (((aF l29 ((aB l29 (D.I (z26.getD i28.toNat 0))).toL.getD (1 : Int).toNat default).toN).toL.getD (2 : Int).toNat default).toS.extract (0 : Int).toNat (wrap .i64 (((aF l29 ((aB l29 (D.I (z26.getD i28.toNat 0))).toL.getD (1 : Int).toNat default).toN).toL.getD (3 : Int).toNat default).toI + i30)).toNat)) :: ((D.I ((aF l29 ((aB l29 (D.I (z26.getD i28.toNat 0))).toL.getD (1 : Int).toNat default).toN).toL.getD (3 : Int).toNat default).toI) :: ([] : LD))))))) ((aB l29 (D.I (z26.getD i28.toNat 0))).toL.getD (1 : Int).toNat default).toN).toL.getD (2 : Int).toNat default).toS.size : Int)) :: ([] : LD)))))))] [.N n0, .N n1, .N n2, .N n3, .V v4, .L l5, .L l6, .L l7, .L l8, .I i9, .I i10, .I i11, .I i12, .B b13, .I i14, .V v15, .Z z16, .I i27, .I i28, .L l29]))))) ∧ (
 ((wrap .i64 ((((aF l29 ((aB l29 (D.I (z26.getD i28.toNat 0))).toL.getD (1 : Int).toNat default).toN).toL.getD (2 : Int).toNat default).toS.size : Int) - ((aF l29 ((aB l29 (D.I (z26.getD i28.toNat 0))).toL.getD (1 : Int).toNat default).toN).toL.getD (3 : Int).toNat default).toI)) ≤ 0) →
  Bk bQ.I1 bQ.I1M [.N n0, .N n1, .N n2, .N n3, .V v4, .L l5, .L l6, .L l7, .L l8, .I i9, .I i10, .I i11, .I i12, .B b13, .I i14, .V v15, .Z z16, .I i27, .I (wrap .i64 (i28 + 1)), .L l29] [.N n0, .N n1, .N n2, .N n3, .V v4, .L l5, .L l6, .L l7, .L l8, .I i9, .I i10, .I i11, .I i12, .B b13, .I i14, .V v15, .Z z16, .I i27, .I i28, .L l29])))))) ∧ (
 ((z26.length : Int) ≤ i28) →
   bQ.sig.post [.N n0, .N n1, .N n2, .N n3, .V v4, .L l5, .L l6, .L l7, .L l8, .I i9, .I i10, .I i11, .I i12, .B b13, .I i14, .V v15, .Z z16, .N n1, .N n22, .N n3, .V v21, .L l29, .L l20, .L l20, .L ([] : LD), .I i9, .I i10, .I (-1 : Int), .I (-1 : Int), .B false, .I i14])))))))))))))
def dM.Pure : Prop :=
 ∀ n0 n1 n2 n3 : Nat,
 ∀ v4 : Value,
 ∀ l5 l6 l7 l8 : LD,
 ∀ i9 i10 i11 i12 : Int,
 ∀ b13 : Bool,
 ∀ i14 : Int,
 R64 i9 →
 R64 i10 →
 R64 i11 →
 R64 i12 →
 R64 i14 →
 (bM (.int .i64) [.str, .int .i64] l5) →
 (mapOk (.str) (.int .i64) l6) →
 (mapOk (.str) (.int .i64) l7) →
 (EK.ok [.str, .str, .int .i64] (D.L l8)) →
 dM.sig.pre [.N n0, .N n1, .N n2, .N n3, .V v4, .L l5, .L l6, .L l7, .L l8, .I i9, .I i10, .I i11, .I i12, .B b13, .I i14] →
 ∀ v15 v16 : Value,
 (kE.sig 0).pre [.N n3] ∧ (
 ∀ n17 : Nat,
 (kE.sig 0).post [.N n3, .N n17] →
 (qX.sig 0).pre [.N n17, .N n3, .L l7] ∧ (
 ∀ v18 : Value,
 ∀ l19 : LD,
 (qX.sig 0).post [.N n17, .N n3, .L l7, .V v18, .L l19] →
 (EK.ok [.str] (D.L l19)) →
 Im ((l19.length : Int) ≤ (8796093022208 : Int)) (
 ∀ v20 : Value,
 dM.I0 [.N n0, .N n1, .N n2, .N n3, .V v4, .L l5, .L l6, .L l7, .L l8, .I i9, .I i10, .I i11, .I i12, .B b13, .I i14, .I 0, .L (List.replicate (l19.length : Int).toNat (D.S (⟨#[]⟩ : BA)))] ∧ (
 ∀ i21 : Int,
 ∀ l22 : LD,
 R64 i21 →
 (EK.ok [.str] (D.L l22)) →
 dM.I0 [.N n0, .N n1, .N n2, .N n3, .V v4, .L l5, .L l6, .L l7, .L l8, .I i9, .I i10, .I i11, .I i12, .B b13, .I i14, .I i21, .L l22] →
 ((
 (i21 < (l19.length : Int)) →
 Im (0 ≤ i21) (
 ((
 ((
 ((aI l7 (D.S (l19.getD i21.toNat default).toS)) = true) →
 Im ((aI l5 (D.I ((aB l7 (D.S (l19.getD i21.toNat default).toS)).toL.getD (1 : Int).toNat default).toI)) = true) (
 Im ((dG l5 ((aB l5 (D.I ((aB l7 (D.S (l19.getD i21.toNat default).toS)).toL.getD (1 : Int).toNat default).toI)).toL.getD (1 : Int).toNat default).toN) = true) (
 Im (0 ≤ ((aF l5 ((aB l5 (D.I ((aB l7 (D.S (l19.getD i21.toNat default).toS)).toL.getD (1 : Int).toNat default).toI)).toL.getD (1 : Int).toNat default).toN).toL.getD (3 : Int).toNat default).toI) (
 Im (((aF l5 ((aB l5 (D.I ((aB l7 (D.S (l19.getD i21.toNat default).toS)).toL.getD (1 : Int).toNat default).toI)).toL.getD (1 : Int).toNat default).toN).toL.getD (3 : Int).toNat default).toI ≤ (((aF l5 ((aB l5 (D.I ((aB l7 (D.S (l19.getD i21.toNat default).toS)).toL.getD (1 : Int).toNat default).toI)).toL.getD (1 : Int).toNat default).toN).toL.getD (2 : Int).toNat default).toS.size : Int)) (
 Im (i21 < (l22.length : Int)) (
  Bk dM.I0 dM.I0M [.N n0, .N n1, .N n2, .N n3, .V v4, .L l5, .L l6, .L l7, .L l8, .I i9, .I i10, .I i11, .I i12, .B b13, .I i14, .I (wrap .i64 (i21 + 1)), .L (l22.set i21.toNat (D.S (((aF l5 ((aB l5 (D.I ((aB l7 (D.S (l19.getD i21.toNat default).toS)).toL.getD (1 : Int).toNat default).toI)).toL.getD (1 : Int).toNat default).toN).toL.getD (2 : Int).toNat default).toS.extract (0 : Int).toNat ((aF l5 ((aB l5 (D.I ((aB l7 (D.S (l19.getD i21.toNat default).toS)).toL.getD (1 : Int).toNat default).toI)).toL.getD (1 : Int).toNat default).toN).toL.getD (3 : Int).toNat default).toI.toNat)))] [.N n0, .N n1, .N n2, .N n3, .V v4, .L l5, .L l6, .L l7, .L l8, .I i9, .I i10, .I i11, .I i12, .B b13, .I i14, .I i21, .L l22])))))) ∧ (
 ((aI l7 (D.S (l19.getD i21.toNat default).toS)) = false) →
 Im ((aI l5 (D.I 0)) = true) (
 Im ((dG l5 ((aB l5 (D.I 0)).toL.getD (1 : Int).toNat default).toN) = true) (
 Im (0 ≤ ((aF l5 ((aB l5 (D.I 0)).toL.getD (1 : Int).toNat default).toN).toL.getD (3 : Int).toNat default).toI) (
 Im (((aF l5 ((aB l5 (D.I 0)).toL.getD (1 : Int).toNat default).toN).toL.getD (3 : Int).toNat default).toI ≤ (((aF l5 ((aB l5 (D.I 0)).toL.getD (1 : Int).toNat default).toN).toL.getD (2 : Int).toNat default).toS.size : Int)) (
 Im (i21 < (l22.length : Int)) (
  Bk dM.I0 dM.I0M [.N n0, .N n1, .N n2, .N n3, .V v4, .L l5, .L l6, .L l7, .L l8, .I i9, .I i10, .I i11, .I i12, .B b13, .I i14, .I (wrap .i64 (i21 + 1)), .L (l22.set i21.toNat (D.S (((aF l5 ((aB l5 (D.I 0)).toL.getD (1 : Int).toNat default).toN).toL.getD (2 : Int).toNat default).toS.extract (0 : Int).toNat ((aF l5 ((aB l5 (D.I 0)).toL.getD (1 : Int).toNat default).toN).toL.getD (3 : Int).toNat default).toI.toNat)))] [.N n0, .N n1, .N n2, .N n3, .V v4, .L l5, .L l6, .L l7, .L l8, .I i9, .I i10, .I i11, .I i12, .B b13, .I i14, .I i21, .L l22])))))))) ∧ (
 ((
 ((
 ((aI l7 (D.S (l19.getD i21.toNat default).toS)) = true) →
 Im ((aI l5 (D.I ((aB l7 (D.S (l19.getD i21.toNat default).toS)).toL.getD (1 : Int).toNat default).toI)) = true) (
 Im ((dG l5 ((aB l5 (D.I ((aB l7 (D.S (l19.getD i21.toNat default).toS)).toL.getD (1 : Int).toNat default).toI)).toL.getD (1 : Int).toNat default).toN) = true) (
 Im (0 ≤ ((aF l5 ((aB l5 (D.I ((aB l7 (D.S (l19.getD i21.toNat default).toS)).toL.getD (1 : Int).toNat default).toI)).toL.getD (1 : Int).toNat default).toN).toL.getD (3 : Int).toNat default).toI) (
 Im (((aF l5 ((aB l5 (D.I ((aB l7 (D.S (l19.getD i21.toNat default).toS)).toL.getD (1 : Int).toNat default).toI)).toL.getD (1 : Int).toNat default).toN).toL.getD (3 : Int).toNat default).toI ≤ (((aF l5 ((aB l5 (D.I ((aB l7 (D.S (l19.getD i21.toNat default).toS)).toL.getD (1 : Int).toNat default).toI)).toL.getD (1 : Int).toNat default).toN).toL.getD (2 : Int).toNat default).toS.size : Int)) (
 Im (i21 < (l22.length : Int)) (
     Bk dM.I0 dM.I0M [.N n0, .N n1, .N n2, .N n3, .V v4, .L l5, .L l6, .L l7, .L l8, .I i9, .I i10, .I i11, .I i12, .B b13, .I i14, .I (wrap .i64 (i21 + 1)), .L (l22.set i21.toNat (D.S (((aF l5 ((aB l5 (D.I ((aB l7 (D.S (l19.getD i21.toNat default).toS)).toL.getD (1 : Int).toNat default).toI)).toL.getD (1 : Int).toNat default).toN).toL.getD (2 : Int).toNat default).toS.extract (0 : Int).toNat ((aF l5 ((aB l5 (D.I ((aB l7 (D.S (l19.getD i21.toNat default).toS)).toL.getD (1 : Int).toNat default).toI)).toL.getD (1 : Int).toNat default).toN).toL.getD (3 : Int).toNat default).toI.toNat)))] [.N n0, .N n1, .N n2, .N n3, .V v4, .L l5, .L l6, .L l7, .L l8, .I i9, .I i10, .I i11, .I i12, .B b13, .I i14, .I i21, .L l22])))))) ∧ (
 ((aI l7 (D.S (l19.getD i21.toNat default).toS)) = false) →
 Im ((aI l5 (D.I 0)) = true) (
 Im ((dG l5 ((aB l5 (D.I 0)).toL.getD (1 : Int).toNat default).toN) = true) (
 Im (0 ≤ ((aF l5 ((aB l5 (D.I 0)).toL.getD (1 : Int).toNat default).toN).toL.getD (3 : Int).toNat default).toI) (
 Im (((aF l5 ((aB l5 (D.I 0)).toL.getD (1 : Int).toNat default).toN).toL.getD (3 : Int).toNat default).toI ≤ (((aF l5 ((aB l5 (D.I 0)).toL.getD (1 : Int).toNat default).toN).toL.getD (2 : Int).toNat default).toS.size : Int)) (
 Im (i21 < (l22.length : Int)) (
     Bk dM.I0 dM.I0M [.N n0, .N n1, .N n2, .N n3, .V v4, .L l5, .L l6, .L l7, .L l8, .I i9, .I i10, .I i11, .I i12, .B b13, .I i14, .I (wrap .i64 (i21 + 1)), .L (l22.set i21.toNat (D.S (((aF l5 ((aB l5 (D.I 0)).toL.getD (1 : Int).toNat default).toN).toL.getD (2 : Int).toNat default).toS.extract (0 : Int).toNat ((aF l5 ((aB l5 (D.I 0)).toL.getD (1 : Int).toNat default).toN).toL.getD (3 : Int).toNat default).toI.toNat)))] [.N n0, .N n1, .N n2, .N n3, .V v4, .L l5, .L l6, .L l7, .L l8, .I i9, .I i10, .I i11, .I i12, .B b13, .I i14, .I i21, .L l22])))))))) ∧ (
 ((
 ((aI l7 (D.S (l19.getD i21.toNat default).toS)) = true) →
 Im ((aI l5 (D.I ((aB l7 (D.S (l19.getD i21.toNat default).toS)).toL.getD (1 : Int).toNat default).toI)) = true) (
 Im ((dG l5 ((aB l5 (D.I ((aB l7 (D.S (l19.getD i21.toNat default).toS)).toL.getD (1 : Int).toNat default).toI)).toL.getD (1 : Int).toNat default).toN) = true) (
 Im (0 ≤ ((aF l5 ((aB l5 (D.I ((aB l7 (D.S (l19.getD i21.toNat default).toS)).toL.getD (1 : Int).toNat default).toI)).toL.getD (1 : Int).toNat default).toN).toL.getD (3 : Int).toNat default).toI) (
 Im (((aF l5 ((aB l5 (D.I ((aB l7 (D.S (l19.getD i21.toNat default).toS)).toL.getD (1 : Int).toNat default).toI)).toL.getD (1 : Int).toNat default).toN).toL.getD (3 : Int).toNat default).toI ≤ (((aF l5 ((aB l5 (D.I ((aB l7 (D.S (l19.getD i21.toNat default).toS)).toL.getD (1 : Int).toNat default).toI)).toL.getD (1 : Int).toNat default).toN).toL.getD (2 : Int).toNat default).toS.size : Int)) (
 Im (i21 < (l22.length : Int)) (
     Bk dM.I0 dM.I0M [.N n0, .N n1, .N n2, .N n3, .V v4, .L l5, .L l6, .L l7, .L l8, .I i9, .I i10, .I i11, .I i12, .B b13, .I i14, .I (wrap .i64 (i21 + 1)), .L (l22.set i21.toNat (D.S (((aF l5 ((aB l5 (D.I ((aB l7 (D.S (l19.getD i21.toNat default).toS)).toL.getD (1 : Int).toNat default).toI)).toL.getD (1 : Int).toNat default).toN).toL.getD (2 : Int).toNat default).toS.extract (0 : Int).toNat ((aF l5 ((aB l5 (D.I ((aB l7 (D.S (l19.getD i21.toNat default).toS)).toL.getD (1 : Int).toNat default).toI)).toL.getD (1 : Int).toNat default).toN).toL.getD (3 : Int).toNat default).toI.toNat)))] [.N n0, .N n1, .N n2, .N n3, .V v4, .L l5, .L l6, .L l7, .L l8, .I i9, .I i10, .I i11, .I i12, .B b13, .I i14, .I i21, .L l22])))))) ∧ (
 ((aI l7 (D.S (l19.getD i21.toNat default).toS)) = false) →
 Im ((aI l5 (D.I 0)) = true) (
 Im ((dG l5 ((aB l5 (D.I 0)).toL.getD (1 : Int).toNat default).toN) = true) (
 Im (0 ≤ ((aF l5 ((aB l5 (D.I 0)).toL.getD (1 : Int).toNat default).toN).toL.getD (3 : Int).toNat default).toI) (
 Im (((aF l5 ((aB l5 (D.I 0)).toL.getD (1 : Int).toNat default).toN).toL.getD (3 : Int).toNat default).toI ≤ (((aF l5 ((aB l5 (D.I 0)).toL.getD (1 : Int).toNat default).toN).toL.getD (2 : Int).toNat default).toS.size : Int)) (
 Im (i21 < (l22.length : Int)) (
     Bk dM.I0 dM.I0M [.N n0, .N n1, .N n2, .N n3, .V v4, .L l5, .L l6, .L l7, .L l8, .I i9, .I i10, .I i11, .I i12, .B b13, .I i14, .I (wrap .i64 (i21 + 1)), .L (l22.set i21.toNat (D.S (((aF l5 ((aB l5 (D.I 0)).toL.getD (1 : Int).toNat default).toN).toL.getD (2 : Int).toNat default).toS.extract (0 : Int).toNat ((aF l5 ((aB l5 (D.I 0)).toL.getD (1 : Int).toNat default).toN).toL.getD (3 : Int).toNat default).toI.toNat)))] [.N n0, .N n1, .N n2, .N n3, .V v4, .L l5, .L l6, .L l7, .L l8, .I i9, .I i10, .I i11, .I i12, .B b13, .I i14, .I i21, .L l22]))))))))))))) ∧ (
 ((l19.length : Int) ≤ i21) →
  dM.sig.post [.N n0, .N n1, .N n2, .N n3, .V v4, .L l5, .L l6, .L l7, .L l8, .I i9, .I i10, .I i11, .I i12, .B b13, .I i14, .V v18, .L l19, .V v20, .L l22]))))))
end Go.Vc
namespace Go.Vc
open Dk (Fi Cg Ds held fileAt)
theorem jS.pure : jS.Pure := by
 intro v0 z1 i2 i3 h2 h3 hz hp
 obtain ⟨p1, p2, p3⟩ : 0 ≤ i2 ∧ 0 < i3 ∧ i3 ≤ 1000000000000000 := hp
 refine ⟨fun h => ?_, fun h => ⟨p1, fun _ => ⟨h, fun _ => ⟨by omega, fun _ => ?_⟩⟩⟩⟩
 ·show (0 : Int) = (Dk.pick z1 i2.toNat i3.toNat : Nat)
  unfold Dk.pick
  rw [if_neg (by omega)]; rfl
 ·show Int.tmod (wrap .i64 (Int.tmod (z1.getD i2.toNat 0) i3 + i3)) i3 = (Dk.pick z1 i2.toNat i3.toNat : Nat)
  unfold Dk.pick
  rw [if_pos (by omega)]
  obtain ⟨a, ha⟩ : ∃ a, a = z1.getD i2.toNat 0 := ⟨_, rfl⟩
  rw [← ha]
  have e3 : ((i3.toNat : Nat) : Int) = i3 := by omega
  rw [e3]
  have b1 : Int.tmod a i3 < i3 := Int.tmod_lt_of_pos a p2
  have b2 : -i3 < Int.tmod a i3 := by
   have := Int.tmod_lt_of_pos (-a) p2
   rw [Int.neg_tmod] at this
   omega
  rw [wrap64 (by omega) (by omega)]
  have h5 : Int.tmod (Int.tmod a i3 + i3) i3 = (Int.tmod a i3 + i3) % i3 := Int.tmod_eq_emod_of_nonneg (by omega)
  rw [h5, Int.add_emod_right]
  have h6 : Int.tmod a i3 % i3 = a % i3 := by
   have := Int.mul_tdiv_add_tmod a i3
   conv => rhs; rw [← this]
   rw [Int.mul_add_emod_self_left]
  rw [h6]
  have := Int.emod_nonneg a (b := i3) (by omega)
  omega
theorem zI {n0 n1 n2 n3 : Nat} {v4 : Value} {l5 l6 l7 l8 : LD} {i9 i10 i11 i12 i14 : Int} {b13 : Bool} {tl : LD} {x : Ds} (h : Rp l5 l6 l7 l8 i9 i10 i11 i12 b13 i14 x) :
  bH (.N n0 :: .N n1 :: .N n2 :: .N n3 :: .V v4 :: .L l5 :: .L l6 :: .L l7 :: .L l8 :: .I i9 :: .I i10 :: .I i11 :: .I i12 :: .B b13 :: .I i14 :: tl) 1 x := ⟨h.1, h.2, h.3, h.4, h.5, h.6, h.7, h.8, h.9, h.10⟩
theorem bT0 {n : Nat} {r : D} : ∀ {L : LD}, dG L n = true → r.snd.toN = n → dG (dA L n r) n = true := by
 intro L h hr
 rw [zW, aJ6 hr]
 exact zW.1 h
theorem aY3 {n : Nat} {r : D} : ∀ {L : LD}, dG L n = true → r.snd.toN = n → aF (dA L n r) n = r
 | [], h, _ => by cases h
 | x :: L, h, hr => by
  unfold dA
  by_cases hx : (x.snd.toN == n) = true
  ·rw [if_pos hx]; simp [aF, hr]
  ·rw [if_neg hx]
   have hx' : (x.snd.toN == n) = false := by simpa using hx
   have h' : dG L n = true := by simpa [dG, hx'] using h
   have := aY3 h' hr
   unfold aF at this ⊢
   rw [List.find?_cons, hx']
   exact this
theorem aY4 {n : Nat} {r r2 : D} (hr : r.snd.toN = n) : ∀ L : LD, dA (dA L n r) n r2 = dA L n r2
 | [] => rfl
 | x :: L => by
  by_cases hx : (x.snd.toN == n) = true
  ·simp [dA, hx, hr]
  ·have hx' : (x.snd.toN == n) = false := by simpa using hx
   simp [dA, hx', aY4 hr L]
theorem bJ0 {x : Ds} (h : Dk.Inv x) (ch : LI) : Dk.Inv (mid x ch) := by
 have hsub : ∀ c ∈ x.pend.take (Dk.pick ch 0 (x.pend.length + 1)), c ∈ x.pend := fun c hc => List.mem_of_mem_take hc
 have h1 : Dk.Sorted ((x.pend.take (Dk.pick ch 0 (x.pend.length + 1))).foldl Dk.apply x.safe) := Dk.aC4 h.ss
 exact ⟨h1, h1, Dk.foldl_apply (P := fun p => p.1 ≠ []) h.ne fun c _ hc => hc, Dk.foldl_apply (P := fun p => p.2 < x.files.length) h.ins fun c hc => h.inp c (hsub c hc), by simp [mid], rfl, h.fs⟩
theorem cE1 {x : Ds} (h : Dk.Inv x) (ch : LI) {i : Nat} (hi : held (mid x ch) i = true) : held x i = true := by
 rw [uP (bJ0 h ch)] at hi
 have hi : (((x.pend.take (Dk.pick ch 0 (x.pend.length + 1))).foldl Dk.apply x.safe).any (fun p => p.2 == i) || ([] : List Cg).any _) = true := hi
 rw [List.any_nil, Bool.or_false] at hi
 obtain ⟨p, hp, he⟩ := List.any_eq_true.1 hi
 have he : p.2 = i := by simpa using he
 rw [← he]
 refine Dk.foldl_apply (P := fun p => held x p.2 = true) (fun q hq => ?_) (fun c hc hn => ?_) p hp
 ·rw [uP h, Bool.or_eq_true]
  exact .inl (List.any_eq_true.2 ⟨q, hq, by simp⟩)
 ·rw [uP h, Bool.or_eq_true]
  exact .inr (List.any_eq_true.2 ⟨c, List.mem_of_mem_take hc, by simp [hn]⟩)
theorem cB5 {L : LD} {y : Ds} (h : (L.map strip).Perm (live y)) {z : LI} (hz : D.Z z = pU L) : z = (aK y).map fun i : Nat => (i : Int) + 1 := by
 have hz : z = (L.map fun r => r.key.toI).mergeSort leI := by injection hz
 have hp : (L.map fun r => r.key.toI).Perm ((aK y).map fun i : Nat => (i : Int) + 1) := by
  have h1 : L.map (fun r => r.key.toI) = (L.map strip).map fun q => q.key.toI := by rw [List.map_map]; rfl
  rw [h1]
  refine (h.map _).trans (List.Perm.of_eq ?_)
  rw [live, List.map_map]
  rfl
 rw [hz, mergeSort_of_perm_i hp, List.mergeSort_of_pairwise]
 rw [List.pairwise_map]
 have hs : (aK y).Pairwise (· < ·) := List.Pairwise.filter _ List.pairwise_lt_range
 exact hs.imp fun {a b} hab => by
  show decide ((a : Int) + 1 ≤ (b : Int) + 1) = true
  rw [decide_eq_true_eq]; omega
theorem cE9 {L : LD} {y : Ds} {ch : LI} {t : Nat} {z : LI} (hk : bM (.int .i64) fiK L) (hp : (L.map strip).Perm (fO ch (fileAt y) 1 ((aK y).take t) ++ ((aK y).drop t).map fun i => bD i (fileAt y i)))
  (hz : z = (aK y).map fun i : Nat => (i : Int) + 1) (ht : t < (aK y).length) : ∃ i, i ∈ aK y ∧ z.getD t 0 = (i : Int) + 1 ∧ aI L (.I (z.getD t 0)) = true ∧ aB L (.I (z.getD t 0)) ∈ L ∧ strip (aB L (.I (z.getD t 0))) = bD i (fileAt y i) ∧
   (aK y).take (t + 1) = (aK y).take t ++ [i] ∧ (aK y).drop t = i :: (aK y).drop (t + 1) := by
 have hd : (aK y).drop t = (aK y)[t] :: (aK y).drop (t + 1) := List.drop_eq_getElem_cons ht
 have hzt : z.getD t 0 = (((aK y)[t] : Nat) : Int) + 1 := by rw [hz]; simp [List.getD, ht]
 have hm : bD (aK y)[t] (fileAt y (aK y)[t]) ∈ L.map strip := hp.mem_iff.2 (List.mem_append.2 (.inr (by rw [hd, List.map_cons]; exact List.mem_cons_self ..)))
 obtain ⟨r, hr, he⟩ := List.mem_map.1 hm
 obtain ⟨g1, g2⟩ := aG9 (c := .int .i64) hk.1 hr (uF he) fun q hq => (hk.2.2 q hq).1.2
 rw [hzt]
 exact ⟨_, List.getElem_mem ht, rfl, g1, by rw [g2]; exact hr, by rw [g2]; exact he, by rw [List.take_succ_eq_append_getElem ht], hd⟩
end Go.Vc
namespace Go.Vc
open Dk (Fi Cg Ds held fileAt)
theorem cE5 {l : List (Tx × Nat)} {L L' : LD} {c : Cg} (h : L.Perm (l.map dL)) (hs : Dk.Sorted l) (hne : ∀ p ∈ l, p.1 ≠ []) (hL : L' = gY L (bx c.name) (bx c.gone) (if c.name = [] then 0 else (c.file : Int) + 1)) : L'.Perm ((Dk.apply l c).map dL) := by
 rw [hL]
 exact aK2 h hs hne c fun hn => by rw [if_neg hn]
theorem bQ.pure : bQ.Pure := by
 intro n0 n1 n2 n3 v4 l5 l6 l7 l8 i9 i10 i11 i12 b13 i14 v15 z16 _ _ _ _ _ hk _ _ _ _ hp
 obtain ⟨x0, hx0r, sx0⟩ := hp
 have hx0 := eF hx0r
 have hl := hx0.lens sx0
 have hw8 : IntKind.i64.wrap ((l8.length : Int) + 1) = (l8.length : Int) + 1 := wrap64 (by omega) (by omega)
 refine ⟨?_, fun i17 hpk _ => ?_⟩
 ·show 0 ≤ (0 : Int) ∧ 0 < IntKind.i64.wrap ((l8.length : Int) + 1) ∧ IntKind.i64.wrap ((l8.length : Int) + 1) ≤ 1000000000000000
  rw [hw8]; omega
 have hpk : i17 = (Dk.pick z16 0 (l8.length + 1) : Nat) := by
  have h : i17 = (Dk.pick z16 (0 : Int).toNat (IntKind.i64.wrap ((l8.length : Int) + 1)).toNat : Nat) := hpk
  rw [hw8, show ((l8.length : Int) + 1).toNat = l8.length + 1 from by omega] at h
  exact h
 have hkeep := Dk.yI z16 0 (l8.length + 1) (by omega)
 refine ⟨by omega, fun _ => ⟨by omega, fun _ v18 => ?_⟩⟩
 have hpl : ∀ x, Rp l5 l6 l7 l8 i9 i10 i11 i12 b13 i14 x → l8.length = x.pend.length := fun x hx => by rw [hx.pend, List.length_map]
 have htk : (l8.take i17.toNat).length = i17.toNat := by rw [List.length_take]; omega
 refine ⟨⟨Int.le_refl _, Int.natCast_nonneg _, fun x hx sx => ?_⟩, fun i19 l20 _ hm20 hI0 => ?_⟩
 ·have hx := eF hx
  exact hx.safe
 obtain ⟨q0, q1, q2⟩ : 0 ≤ i19 ∧ i19 ≤ (Dk.pick z16 0 (l8.length + 1) : Nat) ∧ ∀ x, bH (.N n0 :: .N n1 :: .N n2 :: .N n3 :: .V v4 :: .L l5 :: .L l6 :: .L l7 :: .L l8 :: .I i9 :: .I i10 :: .I i11 :: .I i12 :: .B b13 :: .I i14 :: [.V v15, .Z z16, .I i19, .L l20]) 1 x → Small x → l20.Perm (((x.pend.take i19.toNat).foldl Dk.apply x.safe).map dL) := hI0
 have q2 : ∀ x, Rp l5 l6 l7 l8 i9 i10 i11 i12 b13 i14 x → Small x → l20.Perm (((x.pend.take i19.toNat).foldl Dk.apply x.safe).map dL) := fun x hx sx => q2 x (zI hx) sx
 have len20 : l20.length ≤ 100000000 := by
  have h1 := (q2 x0 hx0 sx0).length_eq
  have h2 := Dk.xM (x0.pend.take i19.toNat) x0.safe
  have h3 := sx0.names
  rw [List.length_map] at h1
  rw [List.length_take] at h2
  omega
 refine ⟨fun hlt => ⟨q0, fun _ n21 => ⟨len20, fun l22 hap _ => ?_⟩⟩, fun hge => ?_⟩
 ·-- a change more
  have hlt : i19 < ((l8.take i17.toNat).length : Int) := hlt
  rw [htk] at hlt
  have hi : i19.toNat < l8.length := by omega
  have hw : IntKind.i64.wrap (i19 + 1) = i19 + 1 := wrap64 (by omega) (by omega)
  have hnat : (i19 + 1).toNat = i19.toNat + 1 := by omega
  refine ⟨⟨?_, ?_, fun x hx sx => ?_⟩, ?_⟩
  ·show 0 ≤ IntKind.i64.wrap (i19 + 1)
   rw [hw]; omega
  ·show IntKind.i64.wrap (i19 + 1) ≤ (Dk.pick z16 0 (l8.length + 1) : Nat)
   rw [hw]; omega
  ·have hx := eF hx
   have hlx := hpl x hx
   have hip : i19.toNat < x.pend.length := by omega
   show l22.Perm (((x.pend.take (IntKind.i64.wrap (i19 + 1)).toNat).foldl Dk.apply x.safe).map dL)
   rw [hw, hnat, List.take_succ_eq_append_getElem hip, List.foldl_append]
   have hrow : (l8.take i17.toNat).getD i19.toNat default = cgD x.pend[i19.toNat] := by
    have : i19.toNat < i17.toNat := by omega
    rw [hx.pend, List.getD, List.getElem?_take_of_lt this, List.getElem?_map, List.getElem?_eq_getElem hip]
    rfl
   have hap : l22 = gY l20 (((l8.take i17.toNat).getD i19.toNat default).toL.getD 0 default).toS (((l8.take i17.toNat).getD i19.toNat default).toL.getD 1 default).toS (((l8.take i17.toNat).getD i19.toNat default).toL.getD 2 default).toI := hap
   rw [hrow] at hap
   exact cE5 (q2 x hx sx) (Dk.aC4 sx.inv.ss) (Dk.foldl_apply (P := fun p => p.1 ≠ []) sx.inv.ne fun c _ hc => hc) hap
  ·show (l8.length - IntKind.i64.wrap (i19 + 1)).toNat < (l8.length - i19).toNat
   rw [hw]; omega
 ·have hge : ((l8.take i17.toNat).length : Int) ≤ i19 := hge
  rw [htk] at hge
  have hi19 : i19.toNat = Dk.pick z16 0 (l8.length + 1) := by omega
  have hsafe : ∀ x, Rp l5 l6 l7 l8 i9 i10 i11 i12 b13 i14 x → Small x → l20.Perm ((mid x z16).safe.map dL) := fun x hx sx => by
   have h := q2 x hx sx
   rw [hi19, hpl x hx] at h
   exact h
  intro v21
  refine ⟨trivial, fun n22 _ _ => ⟨(⟨len20, len20, by simp⟩ : l20.length ≤ 100000000 ∧ l20.length ≤ 100000000 ∧ ([] : LD).length ≤ 100000000), fun l23 hsw hk23 => ⟨trivial, fun n24 _ => ?_⟩⟩⟩
  have hsw : l23.Perm (l5.filter fun r => pK l20 l20 [] r.key.toI) := hsw
  have hF23 : ∀ x, Rp l5 l6 l7 l8 i9 i10 i11 i12 b13 i14 x → Small x → (l23.map strip).Perm (live (mid x z16)) := fun x hx sx => by
   refine bD4 hx.files (pK l20 l20 []) hsw rfl (fun i _ _ => ?_) fun i _ hi => cE1 sx.inv z16 hi
   unfold pK
   rw [bE9 (hsafe x hx sx)]
   rfl
  have len23 : l23.length ≤ l5.length := by rw [hsw.length_eq]; exact List.length_filter_le _ _
  refine ⟨(show l23.length ≤ 1000000000 by omega), fun v25 z26 hso _ => ?_⟩
  have hso : D.Z z26 = pU l23 := hso
  have hz26 : ∀ x, Rp l5 l6 l7 l8 i9 i10 i11 i12 b13 i14 x → Small x → z26 = (aK (mid x z16)).map fun i : Nat => (i : Int) + 1 := fun x hx sx => cB5 (hF23 x hx sx) hso
  have hzl : ∀ x, Rp l5 l6 l7 l8 i9 i10 i11 i12 b13 i14 x → Small x → z26.length = (aK (mid x z16)).length := fun x hx sx => by rw [hz26 x hx sx, List.length_map]
  have hz5 : z26.length ≤ l5.length := by
   have h1 := (hF23 x0 hx0 sx0).length_eq
   rw [List.length_map, live, List.length_map, ← hzl x0 hx0 sx0] at h1
   omega
  refine ⟨⟨Int.le_refl _, (show (0 : Int) ≤ 1 by omega), (show (1 : Int) ≤ 0 + 1 by omega), fun x hx sx => ?_⟩, fun i27 i28 l29 _ _ hk29 hI1 => ?_⟩
  ·have hx := eF hx
   exact ⟨Int.natCast_nonneg _, rfl, hF23 x hx sx⟩
  obtain ⟨p0, p1, p2, p3⟩ : 0 ≤ i28 ∧ 0 ≤ i27 ∧ i27 ≤ i28 + 1 ∧ ∀ x, bH (.N n0 :: .N n1 :: .N n2 :: .N n3 :: .V v4 :: .L l5 :: .L l6 :: .L l7 :: .L l8 :: .I i9 :: .I i10 :: .I i11 :: .I i12 :: .B b13 :: .I i14 :: [.V v15, .Z z16, .I i27, .I i28, .L l29]) 1 x → Small x →
   i28 ≤ (aK (mid x z16)).length ∧ i27 = kOf (fileAt (mid x z16)) 1 ((aK (mid x z16)).take i28.toNat) ∧
   (l29.map strip).Perm (fO z16 (fileAt (mid x z16)) 1 ((aK (mid x z16)).take i28.toNat) ++ ((aK (mid x z16)).drop i28.toNat).map fun i => bD i (fileAt (mid x z16) i)) := hI1
  have p3 : ∀ x, Rp l5 l6 l7 l8 i9 i10 i11 i12 b13 i14 x → Small x →
   i28 ≤ (aK (mid x z16)).length ∧ i27 = kOf (fileAt (mid x z16)) 1 ((aK (mid x z16)).take i28.toNat) ∧
   (l29.map strip).Perm (fO z16 (fileAt (mid x z16)) 1 ((aK (mid x z16)).take i28.toNat) ++ ((aK (mid x z16)).drop i28.toNat).map fun i => bD i (fileAt (mid x z16) i)) := fun x hx sx => p3 x (zI hx) sx
  refine ⟨fun hlt => ⟨p0, fun _ => ?_⟩, fun hge2 x hx sx => ?_⟩
  ·-- a file more
   have hlt : i28 < (z26.length : Int) := hlt
   have hw28 : IntKind.i64.wrap (i28 + 1) = i28 + 1 := wrap64 (by omega) (by omega)
   have hn28 : (i28 + 1).toNat = i28.toNat + 1 := by omega
   have nx : ∀ x, Rp l5 l6 l7 l8 i9 i10 i11 i12 b13 i14 x → Small x → _ := fun x hx sx => cE9 hk29 (p3 x hx sx).2.2 (hz26 x hx sx) (t := i28.toNat) (by have := hzl x hx sx; omega)
   obtain ⟨i0, a1, a2, a3, a4, a5, a6, a7⟩ := nx x0 hx0 sx0
   refine ⟨a3, fun _ => ?_⟩
   obtain ⟨r, hr⟩ : ∃ r, r = aB l29 (D.I (z26.getD i28.toNat 0)) := ⟨_, rfl⟩
   simp only [← hr] at a4 a5 nx ⊢
   obtain ⟨d1, d2⟩ := zY hk29.2.1 a4
   have hadr : aF l29 ((r.toL.getD (1 : Int).toNat default).toN) = r := d2
   have hhas : dG l29 ((r.toL.getD (1 : Int).toNat default).toN) = true := d1
   refine ⟨hhas, fun _ => ?_⟩
   obtain ⟨f0, hf0⟩ : ∃ f0, f0 = fileAt (mid x0 z16) i0 := ⟨_, rfl⟩
   rw [← hf0] at a5
   have h2 : r.toL.getD (2 : Int).toNat default = D.S (bx f0.data) := (iK a5).1
   have h3 : r.toL.getD (3 : Int).toNat default = D.I (f0.safe : Int) := (iK a5).2
   have hfs : f0.safe ≤ f0.data.length := by
    rw [hf0]
    exact (bJ0 sx0.inv z16).fs _ (Dk.uD (vF.1 a1).1)
   have hf0l : f0.data.length ≤ 100000000000 := by
    have h8 : ∀ (fs : List Fi) (f : Fi), f ∈ fs → f.data.length ≤ (fs.map fun f => f.data.length).sum := by
     intro fs f hf
     induction fs with
     | nil => cases hf
     | cons g fs ih =>
      rw [List.map_cons, List.sum_cons]
      rcases List.mem_cons.1 hf with rfl | hf
      ·omega
      ·have := ih hf; omega
    have h9 := h8 (mid x0 z16).files f0 (by rw [hf0]; exact Dk.uD (vF.1 a1).1)
    have h10 := sx0.bytes
    have h11 : ((mid x0 z16).files.map fun f => f.data.length).sum = tot x0 := rfl
    omega
   have hsz : (bx f0.data).size = f0.data.length := rfl
   have hwl : IntKind.i64.wrap (((bx f0.data).size : Int) - (f0.safe : Int)) = (f0.data.length : Int) - f0.safe := by
    rw [hsz]; exact wrap64 (by omega) (by omega)
   have hwl2 : IntKind.i64.wrap ((f0.data.length : Int) - f0.safe + 1) = (f0.data.length : Int) - f0.safe + 1 := wrap64 (by omega) (by omega)
   simp only [hadr, h2, h3, D.toS_S, D.toI_I, hwl, hwl2]
   -- the file of any such disk
   have same : ∀ x, Rp l5 l6 l7 l8 i9 i10 i11 i12 b13 i14 x → Small x → ∃ i, strip r = bD i f0 ∧ fileAt (mid x z16) i = f0 ∧ (aK (mid x z16)).take (i28.toNat + 1) = (aK (mid x z16)).take i28.toNat ++ [i] ∧ (aK (mid x z16)).drop i28.toNat = i :: (aK (mid x z16)).drop (i28.toNat + 1) := by
    intro x hx sx
    obtain ⟨i, _, _, _, _, b5, b6, b7⟩ := nx x hx sx
    have e1 := (iK b5).1
    have e2 := (iK b5).2
    have e3 := (iK a5).1
    have e4 := (iK a5).2
    rw [e1] at e3
    rw [e2] at e4
    have e3 : bx (fileAt (mid x z16) i).data = bx f0.data := by injection e3
    have e4 : ((fileAt (mid x z16) i).safe : Int) = f0.safe := by injection e4
    have e5 : fileAt (mid x z16) i = f0 := by
     generalize fileAt (mid x z16) i = f at e3 e4 ⊢
     obtain ⟨fd, fsf⟩ := f
     obtain ⟨gd, gs⟩ := f0
     have h1 : fd = gd := jQ e3
     have h2 : fsf = gs := by simp only at e4; omega
     rw [h1, h2]
    exact ⟨i, by rw [← e5]; exact b5, e5, b6, b7⟩
   -- the loop's word behind a file
   have step : ∀ (k' : Int) (L' : LD) (r' : D), k' = (kX i27.toNat f0 : Nat) → (∀ i, strip r = bD i f0 → strip r' = bD i (oI z16 i27.toNat f0)) → L' = dA l29 r.snd.toN r' →
     bQ.I1 [.N n0, .N n1, .N n2, .N n3, .V v4, .L l5, .L l6, .L l7, .L l8, .I i9, .I i10, .I i11, .I i12, .B b13, .I i14, .V v15, .Z z16, .I k', .I (IntKind.i64.wrap (i28 + 1)), .L L'] := by
    intro k' L' r' hk' hr' hL'
    have hn1 : i27.toNat ≤ kX i27.toNat f0 ∧ kX i27.toNat f0 ≤ i27.toNat + 1 := by unfold kX; split <;> omega
    refine ⟨?_, ?_, ?_, fun x hx sx => ?_⟩
    ·show 0 ≤ IntKind.i64.wrap (i28 + 1)
     rw [hw28]; omega
    ·show 0 ≤ k'
     omega
    ·show k' ≤ IntKind.i64.wrap (i28 + 1) + 1
     rw [hw28]; omega
    ·have hx := eF hx
     obtain ⟨i, c1, c2, c3, c4⟩ := same x hx sx
     obtain ⟨m1, m2, m3⟩ := p3 x hx sx
     have hzx := hzl x hx sx
     show IntKind.i64.wrap (i28 + 1) ≤ ((aK (mid x z16)).length : Int) ∧ k' = kOf (fileAt (mid x z16)) 1 ((aK (mid x z16)).take (IntKind.i64.wrap (i28 + 1)).toNat) ∧ (L'.map strip).Perm (fO z16 (fileAt (mid x z16)) 1 ((aK (mid x z16)).take (IntKind.i64.wrap (i28 + 1)).toNat) ++ ((aK (mid x z16)).drop (IntKind.i64.wrap (i28 + 1)).toNat).map fun i => bD i (fileAt (mid x z16) i))
     rw [hw28, hn28, c3, bG9, bB6]
     have m2' : i27.toNat = kOf (fileAt (mid x z16)) 1 ((aK (mid x z16)).take i28.toNat) := by omega
     rw [← m2']
     simp only [kOf, fO, c2]
     refine ⟨by omega, hk', ?_⟩
     rw [c4] at m3
     rw [List.map_cons, c2] at m3
     rw [hL', List.append_assoc]
     have := cL9 hk29.2.1 m3 a4 c1 (r' := r')
     rw [hr' i c1] at this
     exact this
   have meas : bQ.I1M [.N n0, .N n1, .N n2, .N n3, .V v4, .L l5, .L l6, .L l7, .L l8, .I i9, .I i10, .I i11, .I i12, .B b13, .I i14, .V v15, .Z z16, .I 0, .I (IntKind.i64.wrap (i28 + 1)), .L []] < (l5.length - i28).toNat := by
    show (l5.length - IntKind.i64.wrap (i28 + 1)).toNat < (l5.length - i28).toNat
    rw [hw28]; omega
   refine ⟨fun hpos => ⟨?_, fun i30 hpk2 _ => ?_⟩, fun hneg => ⟨?_, meas⟩⟩
   ·exact (⟨p1, by omega, by omega⟩ : 0 ≤ i27 ∧ 0 < (f0.data.length : Int) - f0.safe + 1 ∧ (f0.data.length : Int) - f0.safe + 1 ≤ 1000000000000000)
   ·have hloose : f0.safe < f0.data.length := by omega
    have hpk2 : i30 = (Dk.pick z16 i27.toNat (f0.data.length - f0.safe + 1) : Nat) := by
     have h : i30 = (Dk.pick z16 i27.toNat ((f0.data.length : Int) - f0.safe + 1).toNat : Nat) := hpk2
     rw [show ((f0.data.length : Int) - f0.safe + 1).toNat = f0.data.length - f0.safe + 1 from by omega] at h
     exact h
    have hlt30 := Dk.yI z16 i27.toNat (f0.data.length - f0.safe + 1) (by omega)
    have hw30 : IntKind.i64.wrap ((f0.safe : Int) + i30) = (f0.safe : Int) + i30 := wrap64 (by omega) (by omega)
    have hw27 : IntKind.i64.wrap (i27 + 1) = i27 + 1 := wrap64 (by omega) (by omega)
    simp only [hw30, hw27]
    refine ⟨by omega, fun _ => ⟨by rw [hsz]; omega, fun _ => ?_⟩⟩
    have hsnd : ∀ a b, (D.L [r.toL.getD (0 : Int).toNat default, .N (r.toL.getD (1 : Int).toNat default).toN, a, b]).snd.toN = (r.toL.getD (1 : Int).toNat default).toN := fun _ _ => rfl
    refine ⟨bT0 hhas (hsnd _ _), fun _ => ⟨?_, meas⟩⟩
    rw [aY3 hhas (hsnd _ _), aY4 (hsnd _ _)]
    refine step _ _ _ ?_ (fun i hi => ?_) rfl
    ·unfold kX; rw [if_pos hloose]; omega
    ·have hcut : oI z16 i27.toNat f0 = ⟨f0.data.take (f0.safe + Dk.pick z16 i27.toNat (f0.data.length - f0.safe + 1)), f0.safe + Dk.pick z16 i27.toNat (f0.data.length - f0.safe + 1)⟩ := by unfold oI; rw [if_pos hloose]
     rw [hcut]
     have hnat : ((f0.safe : Int) + i30).toNat = f0.safe + Dk.pick z16 i27.toNat (f0.data.length - f0.safe + 1) := by omega
     have hex : (bx f0.data).extract (0 : Int).toNat ((f0.safe : Int) + i30).toNat = bx (f0.data.take (f0.safe + Dk.pick z16 i27.toNat (f0.data.length - f0.safe + 1))) := by
      apply gG
      rw [aI8, hnat, tx_bx, tx_bx]
      rfl
     have hsize : ((bx f0.data).extract (0 : Int).toNat ((f0.safe : Int) + i30).toNat).size = f0.safe + Dk.pick z16 i27.toNat (f0.data.length - f0.safe + 1) := by
      rw [hex]
      show (f0.data.take _).length = _
      rw [List.length_take]; omega
     have hkey := uF hi
     show D.L [r.key, .S ((bx f0.data).extract (0 : Int).toNat ((f0.safe : Int) + i30).toNat), .I ((((bx f0.data).extract (0 : Int).toNat ((f0.safe : Int) + i30).toNat).size : Nat) : Int)] = _
     rw [hsize, hex, hkey]
     rfl
   ·have hloose : ¬ f0.safe < f0.data.length := by omega
    refine step _ _ r ?_ (fun i hi => ?_) ?_
    ·unfold kX; rw [if_neg hloose]; omega
    ·unfold oI; rw [if_neg hloose]; exact hi
    ·obtain ⟨a, b, e1, e2⟩ := zX (r' := r) hk29.2.1 a4
     rw [e2]; exact e1
  ·-- all files
   have hx := eF hx
   obtain ⟨m1, m2, m3⟩ := p3 x hx sx
   have hzx := hzl x hx sx
   have hge2 : (z26.length : Int) ≤ i28 := hge2
   have hfull : i28.toNat = (aK (mid x z16)).length := by omega
   rw [hfull, List.take_length, List.drop_length, List.map_nil, List.append_nil, ← cD3] at m3
   have hnl : ((Dk.restart x z16).files.length : Int) = x.files.length := by
    show ((Dk.cut _ z16 0 1 _).length : Int) = _
    rw [Dk.tN]
   refine ⟨hsafe x hx sx, hsafe x hx sx, rfl, m3, ?_, hx.room, rfl, rfl, rfl, hx.calls⟩
   show i9 = ((Dk.restart x z16).files.length : Int) + 1
   rw [hnl]; exact hx.next
end Go.Vc
namespace Go.Vc
open Dk (Fi Cg Ds held fileAt)
theorem cB6 {L : LD} {l : List (Tx × Nat)} (h : L.Perm (l.map dL)) (hs : Dk.Sorted l) {k : LD} (hk : D.L k = nO L) : k = l.map fun p => .S (bx p.1) := by
 have hk : k = ((L.map fun r => r.key.toS.data.toList).mergeSort leB).map fun x => D.S ⟨x.toArray⟩ := by injection hk
 have hp : (L.map fun r => r.key.toS.data.toList).Perm (l.map (·.1)) := by
  refine (h.map _).trans (List.Perm.of_eq ?_)
  rw [List.map_map]
  rfl
 rw [hk, mergeSort_of_perm hp, List.mergeSort_of_pairwise]
 ·rw [List.map_map]; rfl
 ·rw [List.pairwise_map]
  exact hs.imp fun {a b} hab => by
   show decide (a.1 ≤ b.1) = true
   rw [decide_eq_true_eq]
   exact List.le_of_lt hab
theorem bZ9 {x : Ds} (h : Dk.Inv x) {p : Tx × Nat} (hp : p ∈ x.safe) : held x p.2 = true := by
 rw [uP h, Bool.or_eq_true]
 exact .inl (List.any_eq_true.2 ⟨p, hp, by simp⟩)
theorem dM.pure : dM.Pure := by
 intro n0 n1 n2 n3 v4 l5 l6 l7 l8 i9 i10 i11 i12 b13 i14 _ _ _ _ _ hk _ _ _ hp v15 v16
 obtain ⟨x0, hx0r, sx0⟩ := hp
 have hx0 := eF hx0r
 have hl := hx0.lens sx0
 refine ⟨trivial, fun n17 _ => ⟨(show l7.length ≤ 1000000000 by omega), fun v18 l19 hso _ => ?_⟩⟩
 have hso : D.L l19 = nO l7 := hso
 have h19 : ∀ x, Rp l5 l6 l7 l8 i9 i10 i11 i12 b13 i14 x → Small x → l19 = x.safe.map fun p => .S (bx p.1) := fun x hx sx => cB6 hx.safe sx.inv.ss hso
 have len19 : l19.length = l7.length := by
  rw [h19 x0 hx0 sx0, List.length_map]
  have := hx0.safe.length_eq
  rw [List.length_map] at this
  omega
 have uU : ∀ x, Rp l5 l6 l7 l8 i9 i10 i11 i12 b13 i14 x → Small x → x.safe.length = l7.length := fun x hx _ => by
  have := hx.safe.length_eq
  rw [List.length_map] at this
  omega
 refine ⟨by omega, fun _ v20 => ⟨⟨Int.le_refl _, Int.natCast_nonneg _, ?_, fun x _ _ j hj => ?_⟩, fun i21 l22 _ _ hI0 => ⟨fun hlt => ?_, fun hge x hx sx => ?_⟩⟩⟩
 ·show (List.replicate ((l19.length : Nat) : Int).toNat _).length = l7.length
  rw [List.length_replicate]; omega
 ·have hj : (j : Int) < 0 := hj
  omega
 ·obtain ⟨p0, p1, p2, p3⟩ : 0 ≤ i21 ∧ i21 ≤ l7.length ∧ l22.length = l7.length ∧ ∀ x, bH (.N n0 :: .N n1 :: .N n2 :: .N n3 :: .V v4 :: .L l5 :: .L l6 :: .L l7 :: .L l8 :: .I i9 :: .I i10 :: .I i11 :: .I i12 :: .B b13 :: .I i14 :: [.I i21, .L l22]) 1 x → Small x → ∀ j : Nat, (j : Int) < i21 → l22[j]? = (x.safe[j]?).map (wF x) := hI0
  have hw : IntKind.i64.wrap (i21 + 1) = i21 + 1 := wrap64 (by omega) (by omega)
  have row : ∀ x, Rp l5 l6 l7 l8 i9 i10 i11 i12 b13 i14 x → Small x → ∃ p, x.safe[i21.toNat]? = some p ∧ aI l7 (.S (l19.getD i21.toNat default).toS) = true ∧ ((aB l7 (.S (l19.getD i21.toNat default).toS)).toL.getD (1 : Int).toNat default).toI = (p.2 : Int) + 1 ∧
    aI l5 (.I ((p.2 : Int) + 1)) = true ∧ aB l5 (.I ((p.2 : Int) + 1)) ∈ l5 ∧ strip (aB l5 (.I ((p.2 : Int) + 1))) = bD p.2 (fileAt x p.2) ∧ (fileAt x p.2).safe ≤ (fileAt x p.2).data.length := by
   intro x hx sx
   have hls := uU x hx sx
   have hi : i21.toNat < x.safe.length := by omega
   have hm : x.safe[i21.toNat] ∈ x.safe := List.getElem_mem hi
   have e1 : (l19.getD i21.toNat default).toS = bx (x.safe[i21.toNat]).1 := by
    rw [h19 x hx sx]
    simp [List.getD, hi]
   have hmr : dL x.safe[i21.toNat] ∈ l7 := (kK hx.safe).2 ⟨_, hm, rfl⟩
   obtain ⟨g1, g2⟩ := aG9 (c := .str) (aT9 hx.safe sx.inv.ss) hmr (k := .S (bx (x.safe[i21.toNat]).1)) rfl (aV3 hx.safe)
   have hin := sx.inv.ins _ hm
   obtain ⟨g3, g4, g5⟩ := aO5 hk hx.files hin (bZ9 sx.inv hm)
   rw [e1]
   exact ⟨_, List.getElem?_eq_getElem hi, g1, by rw [g2]; rfl, g3, g4, g5, sx.inv.fs _ (Dk.uD hin)⟩
  obtain ⟨p, a1, a2, a3, a4, a5, a6, a7⟩ := row x0 hx0 sx0
  obtain ⟨nm, hnm⟩ : ∃ nm, nm = (l19.getD i21.toNat default).toS := ⟨_, rfl⟩
  obtain ⟨r, hr⟩ : ∃ r, r = aB l5 (.I ((p.2 : Int) + 1)) := ⟨_, rfl⟩
  obtain ⟨f0, hf0⟩ : ∃ f0, f0 = fileAt x0 p.2 := ⟨_, rfl⟩
  rw [← hr] at a5 a6
  rw [← hf0] at a6 a7
  obtain ⟨d1, d2⟩ := zY hk.2.1 a5
  have hadr : aF l5 ((r.toL.getD (1 : Int).toNat default).toN) = r := d2
  have hhas : dG l5 ((r.toL.getD (1 : Int).toNat default).toN) = true := d1
  have h2 : r.toL.getD (2 : Int).toNat default = D.S (bx f0.data) := (iK a6).1
  have h3 : r.toL.getD (3 : Int).toNat default = D.I (f0.safe : Int) := (iK a6).2
  have hsz : (bx f0.data).size = f0.data.length := rfl
  refine ⟨p0, fun _ => ?_⟩
  have hlt : i21 < (l19.length : Int) := hlt
  have hno : ∀ {q : Prop}, aI l7 (D.S (l19.getD i21.toNat default).toS) = false → q := fun h => by rw [a2] at h; cases h
  simp only [a3, ← hr, hadr, h2, h3, D.toS_S, D.toI_I]
  have fin : dM.I0 [.N n0, .N n1, .N n2, .N n3, .V v4, .L l5, .L l6, .L l7, .L l8, .I i9, .I i10, .I i11, .I i12, .B b13, .I i14, .I (IntKind.i64.wrap (i21 + 1)), .L (l22.set i21.toNat (D.S ((bx f0.data).extract (0 : Int).toNat ((f0.safe : Nat) : Int).toNat)))] := by
   refine ⟨?_, ?_, ?_, fun x hx sx j hj => ?_⟩
   ·show 0 ≤ IntKind.i64.wrap (i21 + 1)
    rw [hw]; omega
   ·show IntKind.i64.wrap (i21 + 1) ≤ (l7.length : Int)
    rw [hw]; omega
   ·show (l22.set i21.toNat _).length = l7.length
    rw [List.length_set]; exact p2
   ·have hx := eF hx
    have hj : (j : Int) < IntKind.i64.wrap (i21 + 1) := hj
    rw [hw] at hj
    show (l22.set i21.toNat (D.S ((bx f0.data).extract (0 : Int).toNat ((f0.safe : Nat) : Int).toNat)))[j]? = _
    by_cases hji : j = i21.toNat
    ·obtain ⟨p', b1, b2, b3, b4, b5, b6, b7⟩ := row x hx sx
     rw [hji, List.getElem?_set_self (by omega), b1]
     have hpp : p'.2 = p.2 := by
      rw [a3] at b3
      omega
     rw [hpp] at b6
     rw [← hr] at b6
     have e1 := (iK b6).1
     have e2 := (iK b6).2
     have e3 := (iK a6).1
     have e4 := (iK a6).2
     rw [e1] at e3
     rw [e2] at e4
     have e3 : (fileAt x p.2).data = f0.data := by injection e3 with e3; exact jQ e3
     have e4 : (fileAt x p.2).safe = f0.safe := by injection e4 with e4; omega
     show some _ = some (wF x p')
     unfold wF
     rw [hpp, e3, e4]
     congr 2
     apply gG
     rw [aI8, tx_bx, tx_bx]
     rfl
    ·rw [List.getElem?_set_ne (Ne.symm hji)]
     exact p3 x (zI hx) sx j (by omega)
  have meas : dM.I0M [.N n0, .N n1, .N n2, .N n3, .V v4, .L l5, .L l6, .L l7, .L l8, .I i9, .I i10, .I i11, .I i12, .B b13, .I i14, .I (IntKind.i64.wrap (i21 + 1)), .L []] < (l7.length - i21).toNat := by
   show (l7.length - IntKind.i64.wrap (i21 + 1)).toNat < (l7.length - i21).toNat
   rw [hw]; omega
  have leaf : ∀ {A : Prop}, A → True → A := fun a _ => a
  refine ⟨⟨fun _ => ⟨a4, fun _ => ⟨hhas, fun _ => ⟨by omega, fun _ => ⟨by rw [hsz]; omega, fun _ => ⟨by omega, fun _ => ⟨fin, meas⟩⟩⟩⟩⟩⟩, fun h => hno h⟩, ⟨fun _ => ⟨a4, fun _ => ⟨hhas, fun _ => ⟨by omega, fun _ => ⟨by rw [hsz]; omega, fun _ => ⟨by omega, fun _ => ⟨fin, meas⟩⟩⟩⟩⟩⟩, fun h => hno h⟩, ⟨fun _ => ⟨a4, fun _ => ⟨hhas, fun _ => ⟨by omega, fun _ => ⟨by rw [hsz]; omega, fun _ => ⟨by omega, fun _ => ⟨fin, meas⟩⟩⟩⟩⟩⟩, fun h => hno h⟩⟩
 ·obtain ⟨p0, p1, p2, p3⟩ : 0 ≤ i21 ∧ i21 ≤ l7.length ∧ l22.length = l7.length ∧ ∀ x, bH (.N n0 :: .N n1 :: .N n2 :: .N n3 :: .V v4 :: .L l5 :: .L l6 :: .L l7 :: .L l8 :: .I i9 :: .I i10 :: .I i11 :: .I i12 :: .B b13 :: .I i14 :: [.I i21, .L l22]) 1 x → Small x → ∀ j : Nat, (j : Int) < i21 → l22[j]? = (x.safe[j]?).map (wF x) := hI0
  have hx := eF hx
  have hge : (l19.length : Int) ≤ i21 := hge
  refine ⟨h19 x hx sx, ?_⟩
  show l22 = x.safe.map (wF x)
  apply List.ext_getElem?
  intro j
  have hls := uU x hx sx
  by_cases hj : (j : Int) < i21
  ·rw [p3 x (zI hx) sx j hj, List.getElem?_map]
  ·rw [List.getElem?_eq_none (by omega), List.getElem?_eq_none (by rw [List.length_map]; omega)]
end Go.Vc