/-
 The disk: contracts in which all of its words are one.
 Printed by wip/vct.py: the conditions of functions, by their contracts.
 The disk: contracts in which all of its words are one: what they say.
-/
import Derived.Test.YtdppcnngoclehaaDskd
import Derived.Test.YtdppcnngoclehaaVcd
import Derived.KernelRfl
set_option linter.unusedVariables false
set_option linter.unusedSimpArgs false
open _root_.Go.IntKind (wrap)
namespace Go.Vc
open Dk (Ds)
def nH.sig : Sig := oN [gI 15] [.I] (.tup []) [] fun l => ∀ x, bH l 1 x → Small x → bH l 16 { x with room := max (arg l 15).toI 0 }
def nC.sig : Sig := oN [gI 15] [.I] (.tup []) [] fun l => ∀ x, bH l 1 x → Small x → bH l 16 { x with crash := max (arg l 15).toI (-1) }
def nG.sig : Sig := oN [gI 15] [.I] (.tup []) [] fun l => ∀ x, bH l 1 x → Small x → bH l 16 { x with fail := max (arg l 15).toI (-1) }
def nD.sig : Sig := { args := [iO 0], heap := dX 0 1, aA := .N :: bU, res := .one (.lf (.bool (.at 15))), heap' := dX 0 1, news := [.B], pre := fun _ => True, post := fun l => ∀ x, bH l 1 x → Small x → (arg l 15).toB = x.dead }
def mZ.sig : Sig := { args := [iO 0], heap := dX 0 1, aA := .N :: bU, res := gI 15, heap' := dX 0 1, news := [.I], pre := fun _ => True, post := fun l => ∀ x, bH l 1 x → Small x → (arg l 15).toI = x.calls }
def asO : Srt → O1
 | .I => .asI | .B => .asB | .S => .asS | .Z => .asZ | .L => .asL | .N => .asN | .V => .asV
def vM (h : Nat) : Nat → List Srt → List Tm
 | _, [] => []
 | i, s :: ss => .o1 (asO s) (.o2 .lget (.at h) (.int (i : Int))) :: vM h (i + 1) ss
def oO (ss : List Srt) (h : Nat) : List Tm := vM h 0 ss
def kR (n m : Nat) : List Tm := (List.range m).map fun i => .at (n + i)
theorem bU2 {s : Srt} {d : D} (h : s.ok d) : (asO s).den d = d := by
 cases s <;> (obtain ⟨x, rfl⟩ := h; rfl)
theorem bL0 {ρ : LD} {h : Nat} {L : LD} (hL : ρ.getD h default = .L L) : ∀ {ss : List Srt} {i : Nat} {l : LD}, aP ss l → (∀ j, j < l.length → L[i + j]? = l[j]?) → (vM h i ss).map (Tm.den ρ) = l
 | [], _, [], _, _ => rfl
 | [], _, _ :: _, h, _ => h.elim
 | _ :: _, _, [], h, _ => h.elim
 | s :: ss, i, d :: l, hs, hj => by
  rw [vM, List.map_cons, bL0 hL hs.2 (fun j hjl => by
   have := hj (j + 1) (by simp; omega)
   rw [show i + 1 + j = i + (j + 1) from by omega, this]; rfl)]
  congr 1
  show (asO s).den (((ρ.getD h default).toL).getD ((i : Int)).toNat default) = d
  rw [hL]
  have h0 := hj 0 (by simp)
  simp only [Nat.add_zero, List.getElem?_cons_zero] at h0
  show (asO s).den (L.getD ((i : Int)).toNat default) = d
  rw [show ((i : Int)).toNat = i from by omega, List.getD, h0]
  exact bU2 hs.1
theorem aU5 {ρ : LD} {h : Nat} {ss : List Srt} {l : LD} (hL : ρ.getD h default = .L l) (hs : aP ss l) : (oO ss h).map (Tm.den ρ) = l :=
 bL0 hL hs fun j _ => by rw [Nat.zero_add]
theorem aK5 {ρ a b c : LD} (h : ρ = a ++ b ++ c) : (kR a.length b.length).map (Tm.den ρ) = b := by
 apply List.ext_getElem?
 intro i
 by_cases hi : i < b.length
 ·simp only [kR, List.map_map, List.getElem?_map, List.getElem?_range hi, Option.map_some, Function.comp_apply, Tm.den]
  rw [h, List.getD, List.append_assoc, List.getElem?_append_right (by omega), List.getElem?_append_left (by omega), show a.length + i - a.length = i from by omega, List.getElem?_eq_getElem hi]
  rfl
 ·rw [List.getElem?_eq_none (by simp [kR]; omega), List.getElem?_eq_none (by omega)]
def bC (l : LD) (x : Ds) : Prop := aP bU l ∧ bH l 0 x
def tX (d h : Nat) : List Ch := (dX 0 1).map (Ch.subst 0 (.at d :: oO bU h))
def qT (n : Nat) : List Tm := .at 0 :: oO bU 1 ++ kR 2 n
def qA (s : Sig) (asr rs : List Srt) (post : LD → Prop) : Sig :=
 { args := s.args.map (SV.subst 0 (qT asr.length)), heap := s.heap.map (Ch.subst 0 (qT asr.length)), aA := .N :: .L :: asr, res := s.res.subst 0 (qT asr.length ++ (oO bU (2 + asr.length) ++ kR (3 + asr.length) rs.length)),
   heap' := s.heap'.map (Ch.subst 0 (qT asr.length ++ (oO bU (2 + asr.length) ++ kR (3 + asr.length) rs.length))), news := .L :: rs, pre := fun l => ∃ x, bC (arg l 1).toL x ∧ Small x, post := post }
def qB (s : Sig) (asr rs : List Srt) (post : LD → Prop) : Sig :=
 { args := s.args.map (SV.subst 0 (qT asr.length)), heap := s.heap.map (Ch.subst 0 (qT asr.length)), aA := .N :: .L :: asr, res := s.res.subst 0 (qT asr.length ++ kR (2 + asr.length) rs.length),
   heap' := s.heap'.map (Ch.subst 0 (qT asr.length ++ kR (2 + asr.length) rs.length)), news := rs, pre := fun l => ∃ x, bC (arg l 1).toL x ∧ Small x, post := post }
theorem cL4 {xs bs : List Srt} : ∀ {l : LD}, aP (xs ++ bs) l → ∃ a b, l = a ++ b ∧ aP xs a ∧ aP bs b := by
 induction xs with
 | nil => intro l h; exact ⟨[], l, rfl, trivial, h⟩
 | cons s xs ih =>
  intro l h
  match l, h with
  | d :: l, h =>
   obtain ⟨a, b, rfl, h1, h2⟩ := ih h.2
   exact ⟨d :: a, b, rfl, ⟨h.1, h1⟩, h2⟩
theorem bP0 {xs bs : List Srt} : ∀ {a b : LD}, aP xs a → aP bs b → aP (xs ++ bs) (a ++ b) := by
 induction xs with
 | nil => intro a b h1 h2; cases a with | nil => exact h2 | cons => exact h1.elim
 | cons s xs ih =>
  intro a b h1 h2
  match a, h1 with
  | d :: a, h1 => exact ⟨h1.1, ih h1.2 h2⟩
theorem bL1 (h m : Nat) (hm : h < m) : ∀ (ss : List Srt) (i : Nat), (vM h i ss).all (Tm.under m) = true
 | [], _ => rfl
 | s :: ss, i => by
  rw [vM, List.all_cons, bL1 h m hm ss, Bool.and_true]
  show (decide (h < m) && true) = true
  simp [hm]
theorem bU3 (n k m : Nat) (h : n + k ≤ m) : (kR n k).all (Tm.under m) = true := by
 rw [List.all_eq_true]
 intro t ht
 obtain ⟨i, hi, rfl⟩ := List.mem_map.1 ht
 have := List.mem_range.1 hi
 show decide (n + i < m) = true
 simp; omega
theorem bL7 (n : Nat) : (qT n).all (Tm.under (n + 2)) = true := by
 unfold qT
 rw [List.all_append, List.all_cons, oO, bL1 1 (n + 2) (by omega), bU3 2 n (n + 2) (by omega)]
 simp [Tm.under]
theorem aG3 {d : D} {l : LD} {xs σ : LD} (hl : aP bU l) : (qT xs.length).map (Tm.den (d :: .L l :: xs ++ σ)) = d :: l ++ xs := by
 unfold qT
 rw [List.map_append, List.map_cons, aU5 (l := l) rfl hl]
 have := aK5 (ρ := d :: .L l :: xs ++ σ) (a := [d, .L l]) (b := xs) (c := σ) (by simp)
 rw [show [d, D.L l].length = 2 from rfl] at this
 rw [this]; rfl
theorem nN {P : Program} {G : List Glob} {f : FuncId} {s : Sig} (asr rs : List Srt) {post : LD → Prop} (hk : Kept P G f s) (ha : s.alt = none) (hsr : s.aA = .N :: bU ++ asr) (hnew : s.news = bU ++ rs)
  (hpre : ∀ d l xs x, aP asr xs → bC l x → Small x → s.pre (d :: l ++ xs))
  (hpost : ∀ d l xs l' r x0, aP asr xs → aP rs r → aP bU l → aP bU l' → bC l x0 → Small x0 → s.post (d :: l ++ xs ++ (l' ++ r)) → post (d :: .L l :: xs ++ .L l' :: r)) : Kept P G f (qA s asr rs post) := by
 refine aR6 hk (qT asr.length) (oO bU (2 + asr.length) ++ kR (3 + asr.length) rs.length) ha rfl rfl rfl rfl rfl (bL7 _) ?_ ?_
 ·intro ρ hs hp
  match ρ, hs with
  | d :: e :: xs, hs =>
   obtain ⟨hd, ⟨l, rfl⟩, has⟩ := hs
   obtain ⟨x, hx, hsm⟩ := hp
   have hx : bC l x := hx
   have h1 : (qT asr.length).map (Tm.den (d :: .L l :: xs)) = d :: l ++ xs := by
    have := aG3 (d := d) (xs := xs) (σ := []) hx.1
    rw [List.append_nil, aX has] at this; exact this
   rw [h1, hsr]
   exact ⟨⟨hd, bP0 hx.1 has⟩, hpre d l xs x has hx hsm⟩
 ·intro ρ σ hs hp hσ hpo
  match ρ, hs with
  | d :: e :: xs, hs =>
   obtain ⟨hd, ⟨l, rfl⟩, has⟩ := hs
   obtain ⟨x, hx, hsm⟩ := hp
   have hx : bC l x := hx
   rw [hnew] at hσ
   obtain ⟨l', r, rfl, hl', hr⟩ := cL4 hσ
   have h1 : (qT asr.length).map (Tm.den (d :: .L l :: xs)) = d :: l ++ xs := by
    have := aG3 (d := d) (xs := xs) (σ := []) hx.1
    rw [List.append_nil, aX has] at this; exact this
   rw [h1] at hpo
   refine ⟨.L l' :: r, ⟨⟨_, rfl⟩, hr⟩, ?_, hpost d l xs l' r x has hr hx.1 hl' hx hsm hpo⟩
   rw [List.map_append]
   have e1 : (oO bU (2 + asr.length)).map (Tm.den (d :: .L l :: xs ++ .L l' :: r)) = l' := by
    refine aU5 ?_ hl'
    rw [← aX has, show 2 + xs.length = (d :: D.L l :: xs).length from by simp; omega]
    simp [List.getD]
   have e2 : (kR (3 + asr.length) rs.length).map (Tm.den (d :: .L l :: xs ++ .L l' :: r)) = r := by
    have := aK5 (ρ := d :: .L l :: xs ++ .L l' :: r) (a := d :: .L l :: xs ++ [.L l']) (b := r) (c := []) (by simp)
    rw [show (d :: D.L l :: xs ++ [D.L l']).length = 3 + asr.length from by rw [← aX has]; simp; omega, aX hr] at this
    exact this
   rw [e1, e2]
theorem uS {P : Program} {G : List Glob} {f : FuncId} {s : Sig} (asr rs : List Srt) {post : LD → Prop} (hk : Kept P G f s) (ha : s.alt = none) (hsr : s.aA = .N :: bU ++ asr) (hnew : s.news = rs)
  (hpre : ∀ d l xs x, aP asr xs → bC l x → Small x → s.pre (d :: l ++ xs))
  (hpost : ∀ d l xs r x0, aP asr xs → aP rs r → aP bU l → bC l x0 → Small x0 → s.post (d :: l ++ xs ++ r) → post (d :: .L l :: xs ++ r)) : Kept P G f (qB s asr rs post) := by
 refine aR6 hk (qT asr.length) (kR (2 + asr.length) rs.length) ha rfl rfl rfl rfl rfl (bL7 _) ?_ ?_
 ·intro ρ hs hp
  match ρ, hs with
  | d :: e :: xs, hs =>
   obtain ⟨hd, ⟨l, rfl⟩, has⟩ := hs
   obtain ⟨x, hx, hsm⟩ := hp
   have hx : bC l x := hx
   have h1 : (qT asr.length).map (Tm.den (d :: .L l :: xs)) = d :: l ++ xs := by
    have := aG3 (d := d) (xs := xs) (σ := []) hx.1
    rw [List.append_nil, aX has] at this; exact this
   rw [h1, hsr]
   exact ⟨⟨hd, bP0 hx.1 has⟩, hpre d l xs x has hx hsm⟩
 ·intro ρ σ hs hp hσ hpo
  match ρ, hs with
  | d :: e :: xs, hs =>
   obtain ⟨hd, ⟨l, rfl⟩, has⟩ := hs
   obtain ⟨x, hx, hsm⟩ := hp
   have hx : bC l x := hx
   rw [hnew] at hσ
   have h1 : (qT asr.length).map (Tm.den (d :: .L l :: xs)) = d :: l ++ xs := by
    have := aG3 (d := d) (xs := xs) (σ := []) hx.1
    rw [List.append_nil, aX has] at this; exact this
   rw [h1] at hpo
   refine ⟨σ, hσ, ?_, hpost d l xs σ x has hσ hx.1 hx hsm hpo⟩
   have := aK5 (ρ := d :: .L l :: xs ++ σ) (a := d :: .L l :: xs) (b := σ) (c := []) (by simp)
   rw [show (d :: D.L l :: xs).length = 2 + asr.length from by rw [← aX has]; simp; omega, aX hσ] at this
   exact this
end Go.Vc
namespace Go.Vc
set_option linter.unusedVariables false
set_option maxRecDepth 100000
def nH.Pure : Prop :=
 ∀ n0 n1 n2 n3 : Nat,
 ∀ v4 : Value,
 ∀ l5 l6 l7 l8 : LD,
 ∀ i9 i10 i11 i12 : Int,
 ∀ b13 : Bool,
 ∀ i14 i15 : Int,
 R64 i15 →
 R64 i9 →
 R64 i10 →
 R64 i11 →
 R64 i12 →
 R64 i14 →
 (bM (.int .i64) [.str, .int .i64] l5) →
 (mapOk (.str) (.int .i64) l6) →
 (mapOk (.str) (.int .i64) l7) →
 (EK.ok [.str, .str, .int .i64] (D.L l8)) →
 nH.sig.pre [.N n0, .N n1, .N n2, .N n3, .V v4, .L l5, .L l6, .L l7, .L l8, .I i9, .I i10, .I i11, .I i12, .B b13, .I i14, .I i15] →
 nH.sig.post [.N n0, .N n1, .N n2, .N n3, .V v4, .L l5, .L l6, .L l7, .L l8, .I i9, .I i10, .I i11, .I i12, .B b13, .I i14, .I i15, .N n1, .N n2, .N n3, .V v4, .L l5, .L l6, .L l7, .L l8, .I i9, .I (eY i15 0), .I i11, .I i12, .B b13, .I i14]
def nC.Pure : Prop :=
 ∀ n0 n1 n2 n3 : Nat,
 ∀ v4 : Value,
 ∀ l5 l6 l7 l8 : LD,
 ∀ i9 i10 i11 i12 : Int,
 ∀ b13 : Bool,
 ∀ i14 i15 : Int,
 R64 i15 →
 R64 i9 →
 R64 i10 →
 R64 i11 →
 R64 i12 →
 R64 i14 →
 (bM (.int .i64) [.str, .int .i64] l5) →
 (mapOk (.str) (.int .i64) l6) →
 (mapOk (.str) (.int .i64) l7) →
 (EK.ok [.str, .str, .int .i64] (D.L l8)) →
 nC.sig.pre [.N n0, .N n1, .N n2, .N n3, .V v4, .L l5, .L l6, .L l7, .L l8, .I i9, .I i10, .I i11, .I i12, .B b13, .I i14, .I i15] →
 nC.sig.post [.N n0, .N n1, .N n2, .N n3, .V v4, .L l5, .L l6, .L l7, .L l8, .I i9, .I i10, .I i11, .I i12, .B b13, .I i14, .I i15, .N n1, .N n2, .N n3, .V v4, .L l5, .L l6, .L l7, .L l8, .I i9, .I i10, .I (eY i15 (-1 : Int)), .I i12, .B b13, .I i14]
def nG.Pure : Prop :=
 ∀ n0 n1 n2 n3 : Nat,
 ∀ v4 : Value,
 ∀ l5 l6 l7 l8 : LD,
 ∀ i9 i10 i11 i12 : Int,
 ∀ b13 : Bool,
 ∀ i14 i15 : Int,
 R64 i15 →
 R64 i9 →
 R64 i10 →
 R64 i11 →
 R64 i12 →
 R64 i14 →
 (bM (.int .i64) [.str, .int .i64] l5) →
 (mapOk (.str) (.int .i64) l6) →
 (mapOk (.str) (.int .i64) l7) →
 (EK.ok [.str, .str, .int .i64] (D.L l8)) →
 nG.sig.pre [.N n0, .N n1, .N n2, .N n3, .V v4, .L l5, .L l6, .L l7, .L l8, .I i9, .I i10, .I i11, .I i12, .B b13, .I i14, .I i15] →
 nG.sig.post [.N n0, .N n1, .N n2, .N n3, .V v4, .L l5, .L l6, .L l7, .L l8, .I i9, .I i10, .I i11, .I i12, .B b13, .I i14, .I i15, .N n1, .N n2, .N n3, .V v4, .L l5, .L l6, .L l7, .L l8, .I i9, .I i10, .I i11, .I (eY i15 (-1 : Int)), .B b13, .I i14]
def nD.Pure : Prop :=
 ∀ n0 n1 n2 n3 : Nat,
 ∀ v4 : Value,
 ∀ l5 l6 l7 l8 : LD,
 ∀ i9 i10 i11 i12 : Int,
 ∀ b13 : Bool,
 ∀ i14 : Int,
 R64 i9 →
 R64 i10 →
 R64 i11 →
 R64 i12 →
 R64 i14 →
 (bM (.int .i64) [.str, .int .i64] l5) →
 (mapOk (.str) (.int .i64) l6) →
 (mapOk (.str) (.int .i64) l7) →
 (EK.ok [.str, .str, .int .i64] (D.L l8)) →
 nD.sig.pre [.N n0, .N n1, .N n2, .N n3, .V v4, .L l5, .L l6, .L l7, .L l8, .I i9, .I i10, .I i11, .I i12, .B b13, .I i14] →
 nD.sig.post [.N n0, .N n1, .N n2, .N n3, .V v4, .L l5, .L l6, .L l7, .L l8, .I i9, .I i10, .I i11, .I i12, .B b13, .I i14, .B b13]
def mZ.Pure : Prop :=
 ∀ n0 n1 n2 n3 : Nat,
 ∀ v4 : Value,
 ∀ l5 l6 l7 l8 : LD,
 ∀ i9 i10 i11 i12 : Int,
 ∀ b13 : Bool,
 ∀ i14 : Int,
 R64 i9 →
 R64 i10 →
 R64 i11 →
 R64 i12 →
 R64 i14 →
 (bM (.int .i64) [.str, .int .i64] l5) →
 (mapOk (.str) (.int .i64) l6) →
 (mapOk (.str) (.int .i64) l7) →
 (EK.ok [.str, .str, .int .i64] (D.L l8)) →
 mZ.sig.pre [.N n0, .N n1, .N n2, .N n3, .V v4, .L l5, .L l6, .L l7, .L l8, .I i9, .I i10, .I i11, .I i12, .B b13, .I i14] →
 mZ.sig.post [.N n0, .N n1, .N n2, .N n3, .V v4, .L l5, .L l6, .L l7, .L l8, .I i9, .I i10, .I i11, .I i12, .B b13, .I i14, .I i14]
end Go.Vc
namespace Go.Vc
open Dk (Ds)
theorem pW (a b : Int) : (if b > a then b else a) = max a b := by split <;> omega
theorem nH.pure : nH.Pure := by
 unfold nH.Pure
 intros
 rename_i h
 exact fun x hx sx => ⟨hx.names, hx.safe, hx.pend, hx.files, hx.next, pW _ _, hx.crash, hx.fail, hx.dead, hx.calls⟩
theorem nC.pure : nC.Pure := by
 unfold nC.Pure
 intros
 exact fun x hx sx => ⟨hx.names, hx.safe, hx.pend, hx.files, hx.next, hx.room, pW _ _, hx.fail, hx.dead, hx.calls⟩
theorem nG.pure : nG.Pure := by
 unfold nG.Pure
 intros
 exact fun x hx sx => ⟨hx.names, hx.safe, hx.pend, hx.files, hx.next, hx.room, hx.crash, pW _ _, hx.dead, hx.calls⟩
theorem nD.pure : nD.Pure := by unfold nD.Pure; intros; exact fun x hx _ => hx.dead
theorem mZ.pure : mZ.Pure := by unfold mZ.Pure; intros; exact fun x hx _ => hx.calls
theorem iI {l : LD} (h : aP bU l) : ∃ n1 n2 n3 v4 l5 l6 l7 l8 i9 i10 i11 i12 b13 i14, l = [.N n1, .N n2, .N n3, .V v4, .L l5, .L l6, .L l7, .L l8, .I i9, .I i10, .I i11, .I i12, .B b13, .I i14] := by
 match l, h with
 | [_, _, _, _, _, _, _, _, _, _, _, _, _, _], h =>
  obtain ⟨⟨a, rfl⟩, ⟨b, rfl⟩, ⟨c, rfl⟩, ⟨d, rfl⟩, ⟨e, rfl⟩, ⟨f, rfl⟩, ⟨g, rfl⟩, ⟨i, rfl⟩, ⟨j, rfl⟩, ⟨k, rfl⟩, ⟨m, rfl⟩, ⟨n, rfl⟩, ⟨o, rfl⟩, ⟨p, rfl⟩, _⟩ := h
  exact ⟨_, _, _, _, _, _, _, _, _, _, _, _, _, _, rfl⟩
theorem aY9 {pre l r : LD} {k i : Nat} (hk : pre.length = k) (hi : i < l.length) : arg (pre ++ (l ++ r)) (k + i) = arg l (0 + i) := by
 unfold arg
 rw [List.getD, List.getElem?_append_right (by omega), List.getElem?_append_left (by omega), show k + i - pre.length = 0 + i from by omega]; rfl
theorem bH.move {L L' : LD} {k k' : Nat} {x : Ds} (h : ∀ i, i < 14 → arg L (k + i) = arg L' (k' + i)) (r : bH L k x) : bH L' k' x :=
 ⟨by rw [← h 5 (by omega)]; exact r.names, by rw [← h 6 (by omega)]; exact r.safe, by rw [← h 7 (by omega)]; exact r.pend, by rw [← h 4 (by omega)]; exact r.files, by rw [← h 8 (by omega)]; exact r.next, by rw [← h 9 (by omega)]; exact r.room,
  by rw [← h 10 (by omega)]; exact r.crash, by rw [← h 11 (by omega)]; exact r.fail, by rw [← h 12 (by omega)]; exact r.dead, by rw [← h 13 (by omega)]; exact r.calls⟩
theorem fJ {d : D} {l xs : LD} {x : Ds} (h : bC l x) : bH (d :: l ++ xs) 1 x := by
 have hl := aX h.1
 refine bH.move (fun i hi => ?_) h.2
 exact (aY9 (pre := [d]) (r := xs) rfl (by rw [hl]; exact hi)).symm
theorem aU9 {pre l r : LD} {k : Nat} {x : Ds} (hl : aP bU l) (hk : pre.length = k) (h : bH (pre ++ (l ++ r)) k x) : bC l x :=
 ⟨hl, bH.move (fun i hi => aY9 hk (by rw [aX hl]; exact hi)) h⟩
def isQ (l : LD) (k : Nat) (op : Ds → Ds × Int) : Prop := ∀ x, bC (arg l 1).toL x → Small x → bC (arg l k).toL (op x).1 ∧ (arg l (k + 1)).toI = (op x).2
theorem uQ {d : D} {l xs l' : LD} {e : Int} {k : Nat} {op : Ds → Ds × Int} (hl' : aP bU l') (hl : aP bU l) (hk : xs.length + 2 = k) (h : oL (d :: l ++ xs ++ (l' ++ [.I e])) (13 + k) op) : isQ (d :: .L l :: xs ++ .L l' :: [.I e]) k op := by
 intro x hx sx
 have hlen : (d :: l ++ xs).length = 13 + k := by
  have := aX hl
  simp only [List.length_append, List.length_cons, this]
  have : bU.length = 14 := rfl
  omega
 obtain ⟨h1, h2⟩ := h x (by rw [List.append_assoc]; exact fJ hx) sx
 have h3 := aU9 hl' hlen h1
 have a1 : arg (d :: .L l :: xs ++ .L l' :: [.I e]) k = .L l' := by
  unfold arg
  rw [List.getD, List.getElem?_append_right (by simp; omega), show k - (d :: D.L l :: xs).length = 0 from by simp; omega]; rfl
 have a2 : arg (d :: .L l :: xs ++ .L l' :: [.I e]) (k + 1) = .I e := by
  unfold arg
  rw [List.getD, List.getElem?_append_right (by simp; omega), show k + 1 - (d :: D.L l :: xs).length = 1 from by simp; omega]; rfl
 have a3 : arg (d :: l ++ xs ++ (l' ++ [.I e])) (13 + k + 14) = .I e := by
  unfold arg
  rw [List.getD, List.getElem?_append_right (by omega), List.getElem?_append_right (by rw [aX hl']; show 14 ≤ _; omega), show 13 + k + 14 - (d :: l ++ xs).length - l'.length = 0 from by rw [aX hl', hlen]; show _ - 14 = 0; omega]; rfl
 rw [a1, a2]
 rw [a3] at h2
 exact ⟨h3, h2⟩
theorem aF2 {l : LD} (h : aP [.S] l) : ∃ a, l = [.S a] := by match l, h with | [_], h => obtain ⟨⟨a, rfl⟩, _⟩ := h; exact ⟨a, rfl⟩
theorem bQ8 {l : LD} (h : aP [.S, .S] l) : ∃ a b, l = [.S a, .S b] := by match l, h with | [_, _], h => obtain ⟨⟨a, rfl⟩, ⟨b, rfl⟩, _⟩ := h; exact ⟨a, b, rfl⟩
theorem mF {l : LD} (h : aP [.I] l) : ∃ a, l = [.I a] := by match l, h with | [_], h => obtain ⟨⟨a, rfl⟩, _⟩ := h; exact ⟨a, rfl⟩
theorem mD {l : LD} (h : aP [] l) : l = [] := by match l, h with | [], _ => rfl
section
variable {P : Program} {G : List Glob} {f : FuncId}
def yU.sig : Sig := { args := [gI 0], heap := [], aA := [.I], res := iO 1, heap' := tX 1 2, news := [.N, .L], pre := fun _ => True, post := fun l => bC (arg l 2).toL (Dk.new (arg l 0).toI) }
theorem cH1 (hk : Kept P G f dNew.sig) : Kept P G f yU.sig := by
 refine aR6 hk [.at 0] (.at 1 :: oO bU 2) rfl rfl rfl rfl rfl rfl rfl ?_ ?_
 ·intro ρ hs _
  match ρ, hs with
  | [d], hs => exact ⟨hs, trivial⟩
 ·intro ρ σ hs _ hσ hpo
  match ρ, hs with
  | [d], hs =>
   obtain ⟨⟨i, rfl⟩, _⟩ := hs
   match σ, hσ with
   | e :: l, hσ =>
    have hl : aP bU l := hσ.2
    refine ⟨[e, .L l], ⟨hσ.1, ⟨_, rfl⟩, trivial⟩, ?_, hl, ?_⟩
    ·rw [List.map_cons, aU5 (l := l) rfl hl]; rfl
    ·obtain ⟨n1, n2, n3, v4, l5, l6, l7, l8, i9, i10, i11, i12, b13, i14, rfl⟩ := iI hl
     obtain ⟨⟨m, rfl⟩, _⟩ := hσ
     have := kZ (n0 := 0) (n1 := n1) (n2 := n2) (n3 := n3) (v4 := v4) (tl := []) (bJ4 hpo)
     exact bH.move (k := 1) (k' := 0) (fun i _ => by rw [Nat.add_comm 1 i, Nat.zero_add]; rfl) this
def yQ.sig : Sig := qA eP.sig [.S] [.I] fun l => isQ l 3 fun x => Dk.create x (tx (arg l 2).toS)
theorem cG6 (hk : Kept P G f eP.sig) : Kept P G f yQ.sig := nN [.S] [.I] hk rfl rfl rfl (fun _ _ _ x _ hx sx => ⟨x, fJ hx, sx⟩) (by
 intro d l xs l' r x0 hxs hr hl hl' _ _ h
 obtain ⟨a, rfl⟩ := aF2 hxs
 obtain ⟨e, rfl⟩ := mF hr
 refine uQ hl' hl rfl ?_
 obtain ⟨n1, n2, n3, v4, l5, l6, l7, l8, i9, i10, i11, i12, b13, i14, rfl⟩ := iI hl
 exact h)
def zB.sig : Sig := qA iV.sig [.S] [.I] fun l => isQ l 3 fun x => Dk.sync x (tx (arg l 2).toS)
theorem cH9 (hk : Kept P G f iV.sig) : Kept P G f zB.sig := nN [.S] [.I] hk rfl rfl rfl (fun _ _ _ x _ hx sx => ⟨x, fJ hx, sx⟩) (by
 intro d l xs l' r x0 hxs hr hl hl' _ _ h
 obtain ⟨a, rfl⟩ := aF2 hxs
 obtain ⟨e, rfl⟩ := mF hr
 refine uQ hl' hl rfl ?_
 obtain ⟨n1, n2, n3, v4, l5, l6, l7, l8, i9, i10, i11, i12, b13, i14, rfl⟩ := iI hl
 exact h)
def yV.sig : Sig := qA jG.sig [.S] [.I] fun l => isQ l 3 fun x => Dk.remove x (tx (arg l 2).toS)
theorem cH3 (hk : Kept P G f jG.sig) : Kept P G f yV.sig := nN [.S] [.I] hk rfl rfl rfl (fun _ _ _ x _ hx sx => ⟨x, fJ hx, sx⟩) (by
 intro d l xs l' r x0 hxs hr hl hl' _ _ h
 obtain ⟨a, rfl⟩ := aF2 hxs
 obtain ⟨e, rfl⟩ := mF hr
 refine uQ hl' hl rfl ?_
 obtain ⟨n1, n2, n3, v4, l5, l6, l7, l8, i9, i10, i11, i12, b13, i14, rfl⟩ := iI hl
 exact h)
def yN.sig : Sig := qA fD.sig [.S, .S] [.I] fun l => isQ l 4 fun x => Dk.append x (tx (arg l 2).toS) (tx (arg l 3).toS)
theorem cG3 (hk : Kept P G f fD.sig) : Kept P G f yN.sig := nN [.S, .S] [.I] hk rfl rfl rfl (fun _ _ _ x _ hx sx => ⟨x, fJ hx, sx⟩) (by
 intro d l xs l' r x0 hxs hr hl hl' _ _ h
 obtain ⟨a, b, rfl⟩ := bQ8 hxs
 obtain ⟨e, rfl⟩ := mF hr
 refine uQ hl' hl rfl ?_
 obtain ⟨n1, n2, n3, v4, l5, l6, l7, l8, i9, i10, i11, i12, b13, i14, rfl⟩ := iI hl
 exact h)
def yX.sig : Sig := qA fE.sig [.S, .S] [.I] fun l => isQ l 4 fun x => Dk.rename x (tx (arg l 2).toS) (tx (arg l 3).toS)
theorem cH4 (hk : Kept P G f fE.sig) : Kept P G f yX.sig := nN [.S, .S] [.I] hk rfl rfl rfl (fun _ _ _ x _ hx sx => ⟨x, fJ hx, sx⟩) (by
 intro d l xs l' r x0 hxs hr hl hl' _ _ h
 obtain ⟨a, b, rfl⟩ := bQ8 hxs
 obtain ⟨e, rfl⟩ := mF hr
 refine uQ hl' hl rfl ?_
 obtain ⟨n1, n2, n3, v4, l5, l6, l7, l8, i9, i10, i11, i12, b13, i14, rfl⟩ := iI hl
 exact h)
def zC.sig : Sig := qA iH.sig [] [.I] fun l => isQ l 2 fun x => Dk.fM x
theorem cH8 (hk : Kept P G f iH.sig) : Kept P G f zC.sig := nN [] [.I] hk rfl rfl rfl (fun _ _ _ x _ hx sx => ⟨x, fJ hx, sx⟩) (by
 intro d l xs l' r x0 hxs hr hl hl' _ _ h
 obtain rfl := mD hxs
 obtain ⟨e, rfl⟩ := mF hr
 refine uQ hl' hl rfl ?_
 exact h)
def yY.sig : Sig := qA bQ.sig [.V, .Z] [] fun l => ∀ x, bC (arg l 1).toL x → Small x → bC (arg l 4).toL (Dk.restart x (arg l 3).aC)
theorem cH5 (hk : Kept P G f bQ.sig) : Kept P G f yY.sig := nN [.V, .Z] [] hk rfl rfl rfl (fun _ _ _ x _ hx sx => ⟨x, fJ hx, sx⟩) (by
 intro d l xs l' r x0 hxs hr hl hl' _ _ h x hx sx
 match xs, hxs with
 | [_, _], hxs =>
  obtain ⟨⟨v, rfl⟩, ⟨z, rfl⟩, _⟩ := hxs
  obtain rfl := mD hr
  have hx : bC l x := hx
  have h1 := h x (by rw [List.append_assoc]; exact fJ hx) sx
  have hlen : (d :: l ++ [D.V v, .Z z]).length = 17 := by
   have := aX hl
   simp only [List.length_append, List.length_cons, this]; rfl
  have h2 := aU9 hl' hlen h1
  obtain ⟨n1, n2, n3, v4, l5, l6, l7, l8, i9, i10, i11, i12, b13, i14, rfl⟩ := iI hl
  exact h2)
def qH.sig : Sig := qB gJ.sig [.S] [.S, .I] fun l => ∀ x, bC (arg l 1).toL x → Small x → (tx (arg l 3).toS, (arg l 4).toI) = Dk.read x (tx (arg l 2).toS)
theorem cH2 (hk : Kept P G f gJ.sig) : Kept P G f qH.sig := uS [.S] [.S, .I] hk rfl rfl rfl (fun _ _ _ x _ hx sx => ⟨x, fJ hx, sx⟩) (by
 intro d l xs r x0 hxs hr hl _ _ h x hx sx
 obtain ⟨a, rfl⟩ := aF2 hxs
 match r, hr with
 | [_, _], hr =>
  obtain ⟨⟨s, rfl⟩, ⟨e, rfl⟩, _⟩ := hr
  have hx : bC l x := hx
  have h1 := h x (by rw [List.append_assoc]; exact fJ hx) sx
  obtain ⟨n1, n2, n3, v4, l5, l6, l7, l8, i9, i10, i11, i12, b13, i14, rfl⟩ := iI hl
  exact h1)
def yT.sig : Sig := qB mY.sig [] [.V, .L, .I] fun l => ∀ x, bC (arg l 1).toL x → Small x → (arg l 4).toI = (if x.dead then 9 else 0) ∧ (arg l 3).toL = if x.dead then [] else x.names.map fun p => .S (bx p.1)
theorem cH0 (hk : Kept P G f mY.sig) : Kept P G f yT.sig := uS [] [.V, .L, .I] hk rfl rfl rfl (fun _ _ _ x _ hx sx => ⟨x, fJ hx, sx⟩) (by
 intro d l xs r x0 hxs hr hl _ _ h x hx sx
 obtain rfl := mD hxs
 match r, hr with
 | [_, _, _], hr =>
  obtain ⟨⟨s, rfl⟩, ⟨e, rfl⟩, ⟨i, rfl⟩, _⟩ := hr
  have hx : bC l x := hx
  have h1 := h x (by rw [List.append_assoc]; exact fJ hx) sx
  obtain ⟨n1, n2, n3, v4, l5, l6, l7, l8, i9, i10, i11, i12, b13, i14, rfl⟩ := iI hl
  exact h1)
def zA.sig : Sig := qB dM.sig [] [.V, .L, .V, .L] fun l => ∀ x, bC (arg l 1).toL x → Small x → (arg l 3).toL = (x.safe.map fun p => .S (bx p.1)) ∧ (arg l 5).toL = x.safe.map fun p => .S (bx ((Dk.fileAt x p.2).data.take (Dk.fileAt x p.2).safe))
theorem cH7 (hk : Kept P G f dM.sig) : Kept P G f zA.sig := uS [] [.V, .L, .V, .L] hk rfl rfl rfl (fun _ _ _ x _ hx sx => ⟨x, fJ hx, sx⟩) (by
 intro d l xs r x0 hxs hr hl _ _ h x hx sx
 obtain rfl := mD hxs
 match r, hr with
 | [_, _, _, _], hr =>
  obtain ⟨⟨s, rfl⟩, ⟨e, rfl⟩, ⟨t, rfl⟩, ⟨i, rfl⟩, _⟩ := hr
  have hx : bC l x := hx
  have h1 := h x (by rw [List.append_assoc]; exact fJ hx) sx
  obtain ⟨n1, n2, n3, v4, l5, l6, l7, l8, i9, i10, i11, i12, b13, i14, rfl⟩ := iI hl
  exact h1)
def yS.sig : Sig := qB jF.sig [] [.I] fun l => ∀ x, bC (arg l 1).toL x → Small x → (arg l 2).toI = Dk.free x
theorem cG9 (hk : Kept P G f jF.sig) : Kept P G f yS.sig := uS [] [.I] hk rfl rfl rfl (fun d l xs x hxs hx sx => by
  obtain rfl := mD hxs
  have hl := hx.1
  obtain ⟨n1, n2, n3, v4, l5, l6, l7, l8, i9, i10, i11, i12, b13, i14, rfl⟩ := iI hl
  have hr : Rp l5 l6 l7 l8 i9 i10 i11 i12 b13 i14 x := ⟨hx.2.names, hx.2.safe, hx.2.pend, hx.2.files, hx.2.next, hx.2.room, hx.2.crash, hx.2.fail, hx.2.dead, hx.2.calls⟩
  exact ⟨hr.bR3 sx, by have := hr.room; have := sx.room; show 0 ≤ i10; omega⟩) (by
 intro d l xs r x0 hxs hr hl _ _ h x hx sx
 obtain rfl := mD hxs
 obtain ⟨e, rfl⟩ := mF hr
 have hx : bC l x := hx
 obtain ⟨n1, n2, n3, v4, l5, l6, l7, l8, i9, i10, i11, i12, b13, i14, rfl⟩ := iI hl
 have hr : Rp l5 l6 l7 l8 i9 i10 i11 i12 b13 i14 x := ⟨hx.2.names, hx.2.safe, hx.2.pend, hx.2.files, hx.2.next, hx.2.room, hx.2.crash, hx.2.fail, hx.2.dead, hx.2.calls⟩
 have h : e = max (i10 - dD l5) 0 := h
 show e = Dk.free x
 rw [h, hr.used, hr.room]; rfl)
def isN (l : LD) (op : Ds → Ds) : Prop := ∀ x, bC (arg l 1).toL x → Small x → bC (arg l 3).toL (op x)
theorem aR3 {d : D} {l l' : LD} {i : Int} {op : Ds → Ds} (hl' : aP bU l') (hl : aP bU l) (h : ∀ x, bH (d :: l ++ [.I i] ++ (l' ++ [])) 1 x → Small x → bH (d :: l ++ [.I i] ++ (l' ++ [])) 16 (op x)) : isN (d :: .L l :: [.I i] ++ .L l' :: []) op := by
 intro x hx sx
 have h1 := h x (by rw [List.append_assoc]; exact fJ hx) sx
 have hlen : (d :: l ++ [D.I i]).length = 16 := by
  have := aX hl
  simp only [List.length_append, List.length_cons, this]; rfl
 exact aU9 hl' hlen h1
def yZ.sig : Sig := qA nH.sig [.I] [] fun l => isN l fun x => { x with room := max (arg l 2).toI 0 }
theorem cH6 (hk : Kept P G f nH.sig) : Kept P G f yZ.sig := nN [.I] [] hk rfl rfl rfl (fun _ _ _ x _ hx sx => ⟨x, fJ hx, sx⟩) (by
 intro d l xs l' r x0 hxs hr hl hl' _ _ h
 obtain ⟨i, rfl⟩ := mF hxs
 obtain rfl := mD hr
 refine aR3 hl' hl ?_
 obtain ⟨n1, n2, n3, v4, l5, l6, l7, l8, i9, i10, i11, i12, b13, i14, rfl⟩ := iI hl
 exact h)
def yP.sig : Sig := qA nC.sig [.I] [] fun l => isN l fun x => { x with crash := max (arg l 2).toI (-1) }
theorem cG5 (hk : Kept P G f nC.sig) : Kept P G f yP.sig := nN [.I] [] hk rfl rfl rfl (fun _ _ _ x _ hx sx => ⟨x, fJ hx, sx⟩) (by
 intro d l xs l' r x0 hxs hr hl hl' _ _ h
 obtain ⟨i, rfl⟩ := mF hxs
 obtain rfl := mD hr
 refine aR3 hl' hl ?_
 obtain ⟨n1, n2, n3, v4, l5, l6, l7, l8, i9, i10, i11, i12, b13, i14, rfl⟩ := iI hl
 exact h)
def yR.sig : Sig := qA nG.sig [.I] [] fun l => isN l fun x => { x with fail := max (arg l 2).toI (-1) }
theorem cG8 (hk : Kept P G f nG.sig) : Kept P G f yR.sig := nN [.I] [] hk rfl rfl rfl (fun _ _ _ x _ hx sx => ⟨x, fJ hx, sx⟩) (by
 intro d l xs l' r x0 hxs hr hl hl' _ _ h
 obtain ⟨i, rfl⟩ := mF hxs
 obtain rfl := mD hr
 refine aR3 hl' hl ?_
 obtain ⟨n1, n2, n3, v4, l5, l6, l7, l8, i9, i10, i11, i12, b13, i14, rfl⟩ := iI hl
 exact h)
def sK.sig : Sig := qB nD.sig [] [.B] fun l => ∀ x, bC (arg l 1).toL x → Small x → (arg l 2).toB = x.dead
theorem cG7 (hk : Kept P G f nD.sig) : Kept P G f sK.sig := uS [] [.B] hk rfl rfl rfl (fun _ _ _ _ _ _ _ => trivial) (by
 intro d l xs r x0 hxs hr hl _ _ h x hx sx
 obtain rfl := mD hxs
 match r, hr with
 | [_], hr =>
  obtain ⟨⟨s, rfl⟩, _⟩ := hr
  have hx : bC l x := hx
  have h1 := h x (by rw [List.append_assoc]; exact fJ hx) sx
  obtain ⟨n1, n2, n3, v4, l5, l6, l7, l8, i9, i10, i11, i12, b13, i14, rfl⟩ := iI hl
  exact h1)
def yO.sig : Sig := qB mZ.sig [] [.I] fun l => ∀ x, bC (arg l 1).toL x → Small x → (arg l 2).toI = x.calls
theorem cG4 (hk : Kept P G f mZ.sig) : Kept P G f yO.sig := uS [] [.I] hk rfl rfl rfl (fun _ _ _ _ _ _ _ => trivial) (by
 intro d l xs r x0 hxs hr hl _ _ h x hx sx
 obtain rfl := mD hxs
 obtain ⟨i, rfl⟩ := mF hr
 have hx : bC l x := hx
 have h1 := h x (by rw [List.append_assoc]; exact fJ hx) sx
 obtain ⟨n1, n2, n3, v4, l5, l6, l7, l8, i9, i10, i11, i12, b13, i14, rfl⟩ := iI hl
 exact h1)
end
end Go.Vc