/-
 The disk's laws: contracts of their functions.
 Printed by wip/vct.py: the conditions of functions, by their contracts.
 The disk's laws: plain conditions.
 DiskTorn: plain.
-/
import Derived.Test.YtdppcnngoclehaaDskc
import Derived.KernelRfl
set_option linter.unusedVariables false
set_option linter.unusedSimpArgs false
open _root_.Go.IntKind (wrap)
namespace Go.Vc
def jE.sig : Sig := qM [.s, .i .i64] [.s] (fun l => 0 ≤ (arg l 1).toI) fun l => (arg l 2).toS = (arg l 0).toS.extract 0 (arg l 1).toI.toNat
def iU.sig : Sig := qM [] [.b] (fun _ => True) fun l => (arg l 0).toB = true
end Go.Vc
namespace Go.Vc
set_option linter.unusedVariables false
set_option maxRecDepth 100000
def jE.Pure : Prop :=
 ∀ s0 : BA,
 ∀ i1 : Int,
 ((s0.size : Int) ≤ 9223372036854775807) →
 R64 i1 →
 jE.sig.pre [.S s0, .I i1] →
 ((
 (i1 < (s0.size : Int)) →
 Im (0 ≤ i1) (
 Im (i1 ≤ (s0.size : Int)) (
  jE.sig.post [.S s0, .I i1, .S (s0.extract (0 : Int).toNat i1.toNat)]))) ∧ (
 ((s0.size : Int) ≤ i1) →
  jE.sig.post [.S s0, .I i1, .S s0]))
def iU.Pure : Prop :=
 iU.sig.pre [] →
 dNew.sig.pre [.I 100] ∧ (
 ∀ n0 n1 n2 n3 : Nat,
 ∀ v4 : Value,
 ∀ l5 l6 l7 l8 : LD,
 ∀ i9 i10 i11 i12 : Int,
 ∀ b13 : Bool,
 ∀ i14 : Int,
 dNew.sig.post [.I 100, .N n0, .N n1, .N n2, .N n3, .V v4, .L l5, .L l6, .L l7, .L l8, .I i9, .I i10, .I i11, .I i12, .B b13, .I i14] →
 R64 i9 →
 R64 i10 →
 R64 i11 →
 R64 i12 →
 R64 i14 →
 (bM (.int .i64) [.str, .int .i64] l5) →
 (mapOk (.str) (.int .i64) l6) →
 (mapOk (.str) (.int .i64) l7) →
 (EK.ok [.str, .str, .int .i64] (D.L l8)) →
 eP.sig.pre [.N n0, .N n1, .N n2, .N n3, .V v4, .L l5, .L l6, .L l7, .L l8, .I i9, .I i10, .I i11, .I i12, .B b13, .I i14, .S (⟨#[97]⟩ : BA)] ∧ (
 ∀ n15 n16 n17 : Nat,
 ∀ v18 : Value,
 ∀ l19 l20 l21 l22 : LD,
 ∀ i23 i24 i25 i26 : Int,
 ∀ b27 : Bool,
 ∀ i28 i29 : Int,
 eP.sig.post [.N n0, .N n1, .N n2, .N n3, .V v4, .L l5, .L l6, .L l7, .L l8, .I i9, .I i10, .I i11, .I i12, .B b13, .I i14, .S (⟨#[97]⟩ : BA), .N n15, .N n16, .N n17, .V v18, .L l19, .L l20, .L l21, .L l22, .I i23, .I i24, .I i25, .I i26, .B b27, .I i28, .I i29] →
 R64 i29 →
 R64 i23 →
 R64 i24 →
 R64 i25 →
 R64 i26 →
 R64 i28 →
 (bM (.int .i64) [.str, .int .i64] l19) →
 (mapOk (.str) (.int .i64) l20) →
 (mapOk (.str) (.int .i64) l21) →
 (EK.ok [.str, .str, .int .i64] (D.L l22)) →
 ((
 (i29 ≠ 0) →
  iU.sig.post [.B false]) ∧ (
 (i29 = 0) →
  fD.sig.pre [.N n0, .N n15, .N n16, .N n17, .V v18, .L l19, .L l20, .L l21, .L l22, .I i23, .I i24, .I i25, .I i26, .B b27, .I i28, .S (⟨#[97]⟩ : BA), .S (⟨#[120, 121]⟩ : BA)] ∧ (
 ∀ n30 n31 n32 : Nat,
 ∀ v33 : Value,
 ∀ l34 l35 l36 l37 : LD,
 ∀ i38 i39 i40 i41 : Int,
 ∀ b42 : Bool,
 ∀ i43 i44 : Int,
  fD.sig.post [.N n0, .N n15, .N n16, .N n17, .V v18, .L l19, .L l20, .L l21, .L l22, .I i23, .I i24, .I i25, .I i26, .B b27, .I i28, .S (⟨#[97]⟩ : BA), .S (⟨#[120, 121]⟩ : BA), .N n30, .N n31, .N n32, .V v33, .L l34, .L l35, .L l36, .L l37, .I i38, .I i39, .I i40, .I i41, .B b42, .I i43, .I i44] →
 R64 i44 →
 R64 i38 →
 R64 i39 →
 R64 i40 →
 R64 i41 →
 R64 i43 →
 (bM (.int .i64) [.str, .int .i64] l34) →
 (mapOk (.str) (.int .i64) l35) →
 (mapOk (.str) (.int .i64) l36) →
 (EK.ok [.str, .str, .int .i64] (D.L l37)) →
 ((
 (i44 ≠ 0) →
  iU.sig.post [.B false]) ∧ (
 (i44 = 0) →
  iH.sig.pre [.N n0, .N n30, .N n31, .N n32, .V v33, .L l34, .L l35, .L l36, .L l37, .I i38, .I i39, .I i40, .I i41, .B b42, .I i43] ∧ (
 ∀ n45 n46 n47 : Nat,
 ∀ v48 : Value,
 ∀ l49 l50 l51 l52 : LD,
 ∀ i53 i54 i55 i56 : Int,
 ∀ b57 : Bool,
 ∀ i58 i59 : Int,
  iH.sig.post [.N n0, .N n30, .N n31, .N n32, .V v33, .L l34, .L l35, .L l36, .L l37, .I i38, .I i39, .I i40, .I i41, .B b42, .I i43, .N n45, .N n46, .N n47, .V v48, .L l49, .L l50, .L l51, .L l52, .I i53, .I i54, .I i55, .I i56, .B b57, .I i58, .I i59] →
 R64 i59 →
 R64 i53 →
 R64 i54 →
 R64 i55 →
 R64 i56 →
 R64 i58 →
 (bM (.int .i64) [.str, .int .i64] l49) →
 (mapOk (.str) (.int .i64) l50) →
 (mapOk (.str) (.int .i64) l51) →
 (EK.ok [.str, .str, .int .i64] (D.L l52)) →
 ((
 (i59 ≠ 0) →
  iU.sig.post [.B false]) ∧ (
 (i59 = 0) →
 ∀ v60 : Value,
  bQ.sig.pre [.N n0, .N n45, .N n46, .N n47, .V v48, .L l49, .L l50, .L l51, .L l52, .I i53, .I i54, .I i55, .I i56, .B b57, .I i58, .V v60, .Z (0 :: (1 :: ([] : LI)))] ∧ (
 ∀ n61 n62 n63 : Nat,
 ∀ v64 : Value,
 ∀ l65 l66 l67 l68 : LD,
 ∀ i69 i70 i71 i72 : Int,
 ∀ b73 : Bool,
 ∀ i74 : Int,
  bQ.sig.post [.N n0, .N n45, .N n46, .N n47, .V v48, .L l49, .L l50, .L l51, .L l52, .I i53, .I i54, .I i55, .I i56, .B b57, .I i58, .V v60, .Z (0 :: (1 :: ([] : LI))), .N n61, .N n62, .N n63, .V v64, .L l65, .L l66, .L l67, .L l68, .I i69, .I i70, .I i71, .I i72, .B b73, .I i74] →
 R64 i69 →
 R64 i70 →
 R64 i71 →
 R64 i72 →
 R64 i74 →
 (bM (.int .i64) [.str, .int .i64] l65) →
 (mapOk (.str) (.int .i64) l66) →
 (mapOk (.str) (.int .i64) l67) →
 (EK.ok [.str, .str, .int .i64] (D.L l68)) →
  gJ.sig.pre [.N n0, .N n61, .N n62, .N n63, .V v64, .L l65, .L l66, .L l67, .L l68, .I i69, .I i70, .I i71, .I i72, .B b73, .I i74, .S (⟨#[97]⟩ : BA)] ∧ (
 ∀ s75 : BA,
 ∀ i76 : Int,
  gJ.sig.post [.N n0, .N n61, .N n62, .N n63, .V v64, .L l65, .L l66, .L l67, .L l68, .I i69, .I i70, .I i71, .I i72, .B b73, .I i74, .S (⟨#[97]⟩ : BA), .S s75, .I i76] →
 ((s75.size : Int) ≤ 9223372036854775807) →
 R64 i76 →
  eP.sig.pre [.N n0, .N n61, .N n62, .N n63, .V v64, .L l65, .L l66, .L l67, .L l68, .I i69, .I i70, .I i71, .I i72, .B b73, .I i74, .S (⟨#[98]⟩ : BA)] ∧ (
 ∀ n77 n78 n79 : Nat,
 ∀ v80 : Value,
 ∀ l81 l82 l83 l84 : LD,
 ∀ i85 i86 i87 i88 : Int,
 ∀ b89 : Bool,
 ∀ i90 i91 : Int,
  eP.sig.post [.N n0, .N n61, .N n62, .N n63, .V v64, .L l65, .L l66, .L l67, .L l68, .I i69, .I i70, .I i71, .I i72, .B b73, .I i74, .S (⟨#[98]⟩ : BA), .N n77, .N n78, .N n79, .V v80, .L l81, .L l82, .L l83, .L l84, .I i85, .I i86, .I i87, .I i88, .B b89, .I i90, .I i91] →
 R64 i91 →
 R64 i85 →
 R64 i86 →
 R64 i87 →
 R64 i88 →
 R64 i90 →
 (bM (.int .i64) [.str, .int .i64] l81) →
 (mapOk (.str) (.int .i64) l82) →
 (mapOk (.str) (.int .i64) l83) →
 (EK.ok [.str, .str, .int .i64] (D.L l84)) →
 ∀ v92 : Value,
  bQ.sig.pre [.N n0, .N n77, .N n78, .N n79, .V v80, .L l81, .L l82, .L l83, .L l84, .I i85, .I i86, .I i87, .I i88, .B b89, .I i90, .V v92, .Z ([] : LI)] ∧ (
 ∀ n93 n94 n95 : Nat,
 ∀ v96 : Value,
 ∀ l97 l98 l99 l100 : LD,
 ∀ i101 i102 i103 i104 : Int,
 ∀ b105 : Bool,
 ∀ i106 : Int,
  bQ.sig.post [.N n0, .N n77, .N n78, .N n79, .V v80, .L l81, .L l82, .L l83, .L l84, .I i85, .I i86, .I i87, .I i88, .B b89, .I i90, .V v92, .Z ([] : LI), .N n93, .N n94, .N n95, .V v96, .L l97, .L l98, .L l99, .L l100, .I i101, .I i102, .I i103, .I i104, .B b105, .I i106] →
 R64 i101 →
 R64 i102 →
 R64 i103 →
 R64 i104 →
 R64 i106 →
 (bM (.int .i64) [.str, .int .i64] l97) →
 (mapOk (.str) (.int .i64) l98) →
 (mapOk (.str) (.int .i64) l99) →
 (EK.ok [.str, .str, .int .i64] (D.L l100)) →
  gJ.sig.pre [.N n0, .N n93, .N n94, .N n95, .V v96, .L l97, .L l98, .L l99, .L l100, .I i101, .I i102, .I i103, .I i104, .B b105, .I i106, .S (⟨#[98]⟩ : BA)] ∧ (
 ∀ s107 : BA,
 ∀ i108 : Int,
  gJ.sig.post [.N n0, .N n93, .N n94, .N n95, .V v96, .L l97, .L l98, .L l99, .L l100, .I i101, .I i102, .I i103, .I i104, .B b105, .I i106, .S (⟨#[98]⟩ : BA), .S s107, .I i108] →
 ((s107.size : Int) ≤ 9223372036854775807) →
 R64 i108 →
 ((
 (i76 = 0) →
 ((
 (s75 = (⟨#[120]⟩ : BA)) →
 ((
 (i91 = 0) →
    iU.sig.post [.B (i108 == 5)]) ∧ (
 (i91 ≠ 0) →
    iU.sig.post [.B false]))) ∧ (
 (s75 ≠ (⟨#[120]⟩ : BA)) →
   iU.sig.post [.B false]))) ∧ (
 (i76 ≠ 0) →
   iU.sig.post [.B false])))))))))))))))))
end Go.Vc
namespace Go.Vc
open Dk (Fi Cg Ds held fileAt)
theorem jE.pure : jE.Pure := by
 intro s0 i1 h0 h1 hp
 have hp : 0 ≤ i1 := hp
 refine ⟨fun h => ⟨by omega, fun _ => ⟨by omega, fun _ => ?_⟩⟩, fun h => ?_⟩
 ·show s0.extract (0 : Int).toNat i1.toNat = s0.extract 0 i1.toNat
  rfl
 ·show s0 = s0.extract 0 i1.toNat
  apply gG
  rw [aI8, List.drop_zero, List.take_of_length_le]
  rw [wL]; omega
theorem cJ3 {l5 l6 l7 l8 : LD} {i9 i10 i11 i12 i14 : Int} {b13 : Bool} {room : Int} (h : l5 = [] ∧ l6 = [] ∧ l7 = [] ∧ l8 = [] ∧ i9 = 1 ∧ i10 = max room 0 ∧ i11 = -1 ∧ i12 = -1 ∧ b13 = false ∧ i14 = 0) : Rp l5 l6 l7 l8 i9 i10 i11 i12 b13 i14 (Dk.new room) := by
 obtain ⟨rfl, rfl, rfl, rfl, rfl, rfl, rfl, rfl, rfl, rfl⟩ := h
 exact ⟨.refl _, .refl _, rfl, .refl _, rfl, rfl, rfl, rfl, rfl, rfl⟩
theorem bO6 {room : Int} : Small (Dk.new room) := ⟨Dk.aR1 room, by simp [Dk.new], by simp [Dk.new], by simp [Dk.new], by simp only [Dk.new]; omega, by simp [Dk.new, tot]⟩
theorem kZ {n0 n1 n2 n3 : Nat} {v4 : Value} {l5 l6 l7 l8 : LD} {i9 i10 i11 i12 i14 : Int} {b13 : Bool} {tl : LD} {x : Ds} (h : Rp l5 l6 l7 l8 i9 i10 i11 i12 b13 i14 x) :
  bH (.N n0 :: .N n1 :: .N n2 :: .N n3 :: .V v4 :: .L l5 :: .L l6 :: .L l7 :: .L l8 :: .I i9 :: .I i10 :: .I i11 :: .I i12 :: .B b13 :: .I i14 :: tl) 1 x := zI h
theorem aU0 {n0 n1 n2 n3 : Nat} {v4 : Value} {l5 l6 l7 l8 : LD} {i9 i10 i11 i12 i14 : Int} {b13 : Bool} {mid : LD} {m1 m2 m3 : Nat} {u4 : Value} {k5 k6 k7 k8 : LD} {j9 j10 j11 j12 j14 e : Int} {c13 : Bool} {op : Ds → Ds × Int} {k : Nat} {x : Ds}
  (hm : ∀ i, i < 16 → arg (.N n0 :: .N n1 :: .N n2 :: .N n3 :: .V v4 :: .L l5 :: .L l6 :: .L l7 :: .L l8 :: .I i9 :: .I i10 :: .I i11 :: .I i12 :: .B b13 :: .I i14 :: (mid ++ [.N m1, .N m2, .N m3, .V u4, .L k5, .L k6, .L k7, .L k8, .I j9, .I j10, .I j11, .I j12, .B c13, .I j14, .I e])) (k + i) = arg [.N m1, .N m2, .N m3, .V u4, .L k5, .L k6, .L k7, .L k8, .I j9, .I j10, .I j11, .I j12, .B c13, .I j14, .I e] i)
  (h : oL (.N n0 :: .N n1 :: .N n2 :: .N n3 :: .V v4 :: .L l5 :: .L l6 :: .L l7 :: .L l8 :: .I i9 :: .I i10 :: .I i11 :: .I i12 :: .B b13 :: .I i14 :: (mid ++ [.N m1, .N m2, .N m3, .V u4, .L k5, .L k6, .L k7, .L k8, .I j9, .I j10, .I j11, .I j12, .B c13, .I j14, .I e])) k op)
  (hx : Rp l5 l6 l7 l8 i9 i10 i11 i12 b13 i14 x) (sx : Small x) : Rp k5 k6 k7 k8 j9 j10 j11 j12 c13 j14 (op x).1 ∧ e = (op x).2 := by
 obtain ⟨h1, h2⟩ := h x (kZ hx) sx
 refine ⟨⟨?_, ?_, ?_, ?_, ?_, ?_, ?_, ?_, ?_, ?_⟩, ?_⟩
 ·have := h1.1; rw [hm 5 (by omega)] at this; exact this
 ·have := h1.2; rw [hm 6 (by omega)] at this; exact this
 ·have := h1.3; rw [hm 7 (by omega)] at this; exact this
 ·have := h1.4; rw [hm 4 (by omega)] at this; exact this
 ·have := h1.5; rw [hm 8 (by omega)] at this; exact this
 ·have := h1.6; rw [hm 9 (by omega)] at this; exact this
 ·have := h1.7; rw [hm 10 (by omega)] at this; exact this
 ·have := h1.8; rw [hm 11 (by omega)] at this; exact this
 ·have := h1.9; rw [hm 12 (by omega)] at this; exact this
 ·have := h1.10; rw [hm 13 (by omega)] at this; exact this
 ·rw [hm 14 (by omega)] at h2; exact h2
theorem hm0 {n0 n1 n2 n3 : Nat} {v4 : Value} {l5 l6 l7 l8 : LD} {i9 i10 i11 i12 i14 : Int} {b13 : Bool} {r : LD} : ∀ i, i < 16 → arg (.N n0 :: .N n1 :: .N n2 :: .N n3 :: .V v4 :: .L l5 :: .L l6 :: .L l7 :: .L l8 :: .I i9 :: .I i10 :: .I i11 :: .I i12 :: .B b13 :: .I i14 :: ([] ++ r)) (15 + i) = arg r i :=
 fun i _ => by rw [show 15 + i = i + 15 from by omega]; rfl
theorem hm1 {n0 n1 n2 n3 : Nat} {v4 : Value} {l5 l6 l7 l8 : LD} {i9 i10 i11 i12 i14 : Int} {b13 : Bool} {r : LD} {a : D} : ∀ i, i < 16 → arg (.N n0 :: .N n1 :: .N n2 :: .N n3 :: .V v4 :: .L l5 :: .L l6 :: .L l7 :: .L l8 :: .I i9 :: .I i10 :: .I i11 :: .I i12 :: .B b13 :: .I i14 :: ([a] ++ r)) (16 + i) = arg r i :=
 fun i _ => by rw [show 16 + i = i + 16 from by omega]; rfl
theorem hm2 {n0 n1 n2 n3 : Nat} {v4 : Value} {l5 l6 l7 l8 : LD} {i9 i10 i11 i12 i14 : Int} {b13 : Bool} {r : LD} {a b : D} : ∀ i, i < 16 → arg (.N n0 :: .N n1 :: .N n2 :: .N n3 :: .V v4 :: .L l5 :: .L l6 :: .L l7 :: .L l8 :: .I i9 :: .I i10 :: .I i11 :: .I i12 :: .B b13 :: .I i14 :: ([a, b] ++ r)) (17 + i) = arg r i :=
 fun i _ => by rw [show 17 + i = i + 17 from by omega]; rfl
theorem bB5 {n0 n1 n2 n3 : Nat} {v4 : Value} {l5 l6 l7 l8 : LD} {i9 i10 i11 i12 i14 : Int} {b13 : Bool} {a : BA} {m1 m2 m3 : Nat} {u4 : Value} {k5 k6 k7 k8 : LD} {j9 j10 j11 j12 j14 e : Int} {c13 : Bool} {x : Ds} (h : eP.sig.post [.N n0, .N n1, .N n2, .N n3, .V v4, .L l5, .L l6, .L l7, .L l8, .I i9, .I i10, .I i11, .I i12, .B b13, .I i14, .S a, .N m1, .N m2, .N m3, .V u4, .L k5, .L k6, .L k7, .L k8, .I j9, .I j10, .I j11, .I j12, .B c13, .I j14, .I e])
  (hx : Rp l5 l6 l7 l8 i9 i10 i11 i12 b13 i14 x) (sx : Small x) : Rp k5 k6 k7 k8 j9 j10 j11 j12 c13 j14 (Dk.create x (tx a)).1 ∧ e = (Dk.create x (tx a)).2 := aU0 (op := fun x => Dk.create x (tx a)) (mid := [.S a]) hm1 h hx sx
theorem bT8 {n0 n1 n2 n3 : Nat} {v4 : Value} {l5 l6 l7 l8 : LD} {i9 i10 i11 i12 i14 : Int} {b13 : Bool} {a : BA} {b : BA} {m1 m2 m3 : Nat} {u4 : Value} {k5 k6 k7 k8 : LD} {j9 j10 j11 j12 j14 e : Int} {c13 : Bool} {x : Ds} (h : fD.sig.post [.N n0, .N n1, .N n2, .N n3, .V v4, .L l5, .L l6, .L l7, .L l8, .I i9, .I i10, .I i11, .I i12, .B b13, .I i14, .S a, .S b, .N m1, .N m2, .N m3, .V u4, .L k5, .L k6, .L k7, .L k8, .I j9, .I j10, .I j11, .I j12, .B c13, .I j14, .I e])
  (hx : Rp l5 l6 l7 l8 i9 i10 i11 i12 b13 i14 x) (sx : Small x) : Rp k5 k6 k7 k8 j9 j10 j11 j12 c13 j14 (Dk.append x (tx a) (tx b)).1 ∧ e = (Dk.append x (tx a) (tx b)).2 := aU0 (op := fun x => Dk.append x (tx a) (tx b)) (mid := [.S a, .S b]) hm2 h hx sx
theorem cM1 {n0 n1 n2 n3 : Nat} {v4 : Value} {l5 l6 l7 l8 : LD} {i9 i10 i11 i12 i14 : Int} {b13 : Bool} {m1 m2 m3 : Nat} {u4 : Value} {k5 k6 k7 k8 : LD} {j9 j10 j11 j12 j14 e : Int} {c13 : Bool} {x : Ds} (h : iH.sig.post [.N n0, .N n1, .N n2, .N n3, .V v4, .L l5, .L l6, .L l7, .L l8, .I i9, .I i10, .I i11, .I i12, .B b13, .I i14, .N m1, .N m2, .N m3, .V u4, .L k5, .L k6, .L k7, .L k8, .I j9, .I j10, .I j11, .I j12, .B c13, .I j14, .I e])
  (hx : Rp l5 l6 l7 l8 i9 i10 i11 i12 b13 i14 x) (sx : Small x) : Rp k5 k6 k7 k8 j9 j10 j11 j12 c13 j14 (Dk.fM x).1 ∧ e = (Dk.fM x).2 := aU0 (op := fun x => Dk.fM x) (mid := []) hm0 h hx sx
theorem bM0 {n0 n1 n2 n3 : Nat} {v4 : Value} {l5 l6 l7 l8 : LD} {i9 i10 i11 i12 i14 : Int} {b13 : Bool} {v15 : Value} {z16 : LI} {m1 m2 m3 : Nat} {u4 : Value} {k5 k6 k7 k8 : LD} {j9 j10 j11 j12 j14 : Int} {c13 : Bool} {x : Ds}
  (h : bQ.sig.post [.N n0, .N n1, .N n2, .N n3, .V v4, .L l5, .L l6, .L l7, .L l8, .I i9, .I i10, .I i11, .I i12, .B b13, .I i14, .V v15, .Z z16, .N m1, .N m2, .N m3, .V u4, .L k5, .L k6, .L k7, .L k8, .I j9, .I j10, .I j11, .I j12, .B c13, .I j14])
  (hx : Rp l5 l6 l7 l8 i9 i10 i11 i12 b13 i14 x) (sx : Small x) : Rp k5 k6 k7 k8 j9 j10 j11 j12 c13 j14 (Dk.restart x z16) := by
 have h1 := h x (kZ hx) sx
 exact ⟨h1.1, h1.2, h1.3, h1.4, h1.5, h1.6, h1.7, h1.8, h1.9, h1.10⟩
theorem bL8 {n0 n1 n2 n3 : Nat} {v4 : Value} {l5 l6 l7 l8 : LD} {i9 i10 i11 i12 i14 : Int} {b13 : Bool} {nm s : BA} {e : Int} {x : Ds}
  (h : gJ.sig.post [.N n0, .N n1, .N n2, .N n3, .V v4, .L l5, .L l6, .L l7, .L l8, .I i9, .I i10, .I i11, .I i12, .B b13, .I i14, .S nm, .S s, .I e])
  (hx : Rp l5 l6 l7 l8 i9 i10 i11 i12 b13 i14 x) (sx : Small x) : (tx s, e) = Dk.read x (tx nm) := h x (kZ hx) sx
theorem bJ4 {n0 n1 n2 n3 : Nat} {v4 : Value} {l5 l6 l7 l8 : LD} {i9 i10 i11 i12 i14 room : Int} {b13 : Bool}
  (h : dNew.sig.post [.I room, .N n0, .N n1, .N n2, .N n3, .V v4, .L l5, .L l6, .L l7, .L l8, .I i9, .I i10, .I i11, .I i12, .B b13, .I i14]) : Rp l5 l6 l7 l8 i9 i10 i11 i12 b13 i14 (Dk.new room) := cJ3 h
def awA : Ds := ⟨[⟨[], 0⟩], [([97], 0)], [], [⟨[], [97], 0⟩], 100, -1, -1, false, 1⟩
def awB : Ds := ⟨[⟨[120, 121], 0⟩], [([97], 0)], [], [⟨[], [97], 0⟩], 100, -1, -1, false, 2⟩
def awC : Ds := ⟨[⟨[120, 121], 0⟩], [([97], 0)], [([97], 0)], [], 100, -1, -1, false, 3⟩
def awD : Ds := ⟨[⟨[120], 1⟩], [([97], 0)], [([97], 0)], [], 100, -1, -1, false, 3⟩
def awE : Ds := ⟨[⟨[120], 1⟩, ⟨[], 0⟩], [([97], 0), ([98], 1)], [([97], 0)], [⟨[], [98], 1⟩], 100, -1, -1, false, 4⟩
def awF : Ds := ⟨[⟨[120], 1⟩, ⟨[], 0⟩], [([97], 0)], [([97], 0)], [], 100, -1, -1, false, 4⟩
theorem aZ0 : Dk.create (Dk.new 100) [97] = (awA, 0) := by decide
theorem aZ1 : Dk.append awA [97] [120, 121] = (awB, 0) := by decide
theorem aZ2 : Dk.fM awB = (awC, 0) := by decide
theorem aZ3 : Dk.restart awC [0, 1] = awD := by decide
theorem aZ4 : Dk.create awD [98] = (awE, 0) := by decide
theorem aZ5 : Dk.restart awE [] = awF := by decide
theorem aK7 : Small awA := ⟨by have := Dk.aR0 (Dk.aR1 100) [97]; rw [aZ0] at this; exact this, by decide, by decide, by decide, by decide, by decide⟩
theorem aK8 : Small awB := ⟨by have := Dk.bG1 aK7.inv [97] [120, 121]; rw [aZ1] at this; exact this, by decide, by decide, by decide, by decide, by decide⟩
theorem aK9 : Small awC := ⟨by have := Dk.bG2 aK8.inv; rw [aZ2] at this; exact this, by decide, by decide, by decide, by decide, by decide⟩
theorem wR : Small awD := ⟨by have := Dk.aR2 aK9.inv [0, 1]; rw [aZ3] at this; exact this, by decide, by decide, by decide, by decide, by decide⟩
theorem aL0 : Small awE := ⟨by have := Dk.aR0 wR.inv [98]; rw [aZ4] at this; exact this, by decide, by decide, by decide, by decide, by decide⟩
theorem aZ6 : Small awF := ⟨by have := Dk.aR2 aL0.inv []; rw [aZ5] at this; exact this, by decide, by decide, by decide, by decide, by decide⟩
theorem iU.pure : iU.Pure := by
 intro _
 refine ⟨trivial, ?_⟩
 intros
 have r1 := bJ4 ‹dNew.sig.post _›
 refine ⟨⟨_, kZ r1, bO6⟩, ?_⟩
 intros
 have r2 := bB5 ‹eP.sig.post _› r1 bO6
 rw [show tx ⟨#[97]⟩ = [97] from rfl, aZ0] at r2
 obtain ⟨r2, e2⟩ := r2
 refine ⟨fun h => absurd e2 h, fun _ => ⟨⟨_, kZ r2, aK7⟩, ?_⟩⟩
 intros
 have r3 := bT8 ‹fD.sig.post _› r2 aK7
 rw [show tx ⟨#[97]⟩ = [97] from rfl, show tx ⟨#[120, 121]⟩ = [120, 121] from rfl, aZ1] at r3
 obtain ⟨r3, e3⟩ := r3
 refine ⟨fun h => absurd e3 h, fun _ => ⟨⟨_, kZ r3, aK8⟩, ?_⟩⟩
 intros
 have r4 := cM1 ‹iH.sig.post _› r3 aK8
 rw [aZ2] at r4
 obtain ⟨r4, e4⟩ := r4
 refine ⟨fun h => absurd e4 h, fun _ v60 => ⟨⟨_, kZ r4, aK9⟩, ?_⟩⟩
 intros
 have r5 := bM0 ‹bQ.sig.post _› r4 aK9
 rw [aZ3] at r5
 refine ⟨⟨_, kZ r5, wR⟩, ?_⟩
 intros
 have r6 := bL8 ‹gJ.sig.post _› r5 wR
 refine ⟨⟨_, kZ r5, wR⟩, ?_⟩
 intros
 have r7 := bB5 ‹eP.sig.post _› r5 wR
 rw [show tx ⟨#[98]⟩ = [98] from rfl, aZ4] at r7
 obtain ⟨r7, e7⟩ := r7
 refine ⟨⟨_, kZ r7, aL0⟩, ?_⟩
 intros
 have r8 := bM0 ‹bQ.sig.post _› r7 aL0
 rw [aZ5] at r8
 refine ⟨⟨_, kZ r8, aZ6⟩, ?_⟩
 intros
 have r9 := bL8 ‹gJ.sig.post _› r8 aZ6
 have q6 : Dk.read awD (tx ⟨#[97]⟩) = ([120], 0) := by decide
 have q9 : Dk.read awF (tx ⟨#[98]⟩) = ([], 5) := by decide
 rw [q6] at r6
 rw [q9] at r9
 simp only [Prod.mk.injEq] at r6 r9
 refine ⟨fun _ => ⟨fun _ => ⟨fun _ => ?_, fun h => absurd e7 h⟩, fun h => absurd (gG (b := ⟨#[120]⟩) r6.1) h⟩, fun h => absurd r6.2 h⟩
 show (_ == (5 : Int)) = true
 rw [r9.2]; rfl
end Go.Vc
namespace Go.Vc
open Dk (Fi Cg Ds held fileAt)
end Go.Vc