/-
 The disk: contracts in which all of its words are one.
 Printed by wip/vct.py: the conditions of functions, by their contracts.
 The disk: contracts in which all of its words are one: what they say.
-/
import Derived.Test.YtmgeaephkagdiaaGreatDoorDskd
import Derived.Test.YtmgeaephkagdiaaGreatDoorVcd
import Derived.KernelRfl
set_option linter.unusedVariables false
set_option linter.unusedSimpArgs false
namespace Go.Vc
open Dk (Ds)
def eRoom.sig : Sig := opSig [aI64 15] [.I] (.tup []) [] fun l => ∀ x, RepAt l 1 x → Small x → RepAt l 16 { x with room := max (arg l 15).toI 0 }
def eCrash.sig : Sig := opSig [aI64 15] [.I] (.tup []) [] fun l => ∀ x, RepAt l 1 x → Small x → RepAt l 16 { x with crash := max (arg l 15).toI (-1) }
def eFail.sig : Sig := opSig [aI64 15] [.I] (.tup []) [] fun l => ∀ x, RepAt l 1 x → Small x → RepAt l 16 { x with fail := max (arg l 15).toI (-1) }
def eDead.sig : Sig := { args := [ptrAt 0], heap := dskH 0 1, srts := .N :: dskS, res := .one (.lf (.bool (.at 15))), heap' := dskH 0 1, news := [.B], pre := fun _ => True, post := fun l => ∀ x, RepAt l 1 x → Small x → (arg l 15).toB = x.dead }
def asO : Srt → O1
 | .I => .asI | .B => .asB | .S => .asS | .Z => .asZ | .L => .asL | .N => .asN | .V => .asV
def pkFrom (h : Nat) : Nat → List Srt → List Tm
 | _, [] => []
 | i, s :: ss => .o1 (asO s) (.o2 .lget (.at h) (.int (i : Int))) :: pkFrom h (i + 1) ss
def pkTms (ss : List Srt) (h : Nat) : List Tm := pkFrom h 0 ss
def atFrom (n m : Nat) : List Tm := (List.range m).map fun i => .at (n + i)
theorem asO_den {s : Srt} {d : D} (h : s.ok d) : (asO s).den d = d := by
 cases s <;> (obtain ⟨x, rfl⟩ := h; rfl)
theorem pkFrom_den {ρ : List D} {h : Nat} {L : List D} (hL : ρ.getD h default = .L L) : ∀ {ss : List Srt} {i : Nat} {l : List D}, srtsOk ss l → (∀ j, j < l.length → L[i + j]? = l[j]?) → (pkFrom h i ss).map (Tm.den ρ) = l
 | [], _, [], _, _ => rfl
 | [], _, _ :: _, h, _ => h.elim
 | _ :: _, _, [], h, _ => h.elim
 | s :: ss, i, d :: l, hs, hj => by
  rw [pkFrom, List.map_cons, pkFrom_den hL hs.2 (fun j hjl => by
   have := hj (j + 1) (by simp; omega)
   rw [show i + 1 + j = i + (j + 1) from by omega, this]; rfl)]
  congr 1
  show (asO s).den (((ρ.getD h default).toL).getD ((i : Int)).toNat default) = d
  rw [hL]
  have h0 := hj 0 (by simp)
  simp only [Nat.add_zero, List.getElem?_cons_zero] at h0
  show (asO s).den (L.getD ((i : Int)).toNat default) = d
  rw [show ((i : Int)).toNat = i from by omega, List.getD, h0]
  exact asO_den hs.1
theorem pkTms_den {ρ : List D} {h : Nat} {ss : List Srt} {l : List D} (hL : ρ.getD h default = .L l) (hs : srtsOk ss l) : (pkTms ss h).map (Tm.den ρ) = l :=
 pkFrom_den hL hs fun j _ => by rw [Nat.zero_add]
theorem atFrom_den {ρ a b c : List D} (h : ρ = a ++ b ++ c) : (atFrom a.length b.length).map (Tm.den ρ) = b := by
 apply List.ext_getElem?
 intro i
 by_cases hi : i < b.length
 ·simp only [atFrom, List.map_map, List.getElem?_map, List.getElem?_range hi, Option.map_some, Function.comp_apply, Tm.den]
  rw [h, List.getD, List.append_assoc, List.getElem?_append_right (by omega), List.getElem?_append_left (by omega), show a.length + i - a.length = i from by omega, List.getElem?_eq_getElem hi]
  rfl
 ·rw [List.getElem?_eq_none (by simp [atFrom]; omega), List.getElem?_eq_none (by omega)]
def RepL (l : List D) (x : Ds) : Prop := srtsOk dskS l ∧ RepAt l 0 x
def dskT (d h : Nat) : List Ch := (dskH 0 1).map (Ch.subst 0 (.at d :: pkTms dskS h))
def qT (n : Nat) : List Tm := .at 0 :: pkTms dskS 1 ++ atFrom 2 n
def qA (s : Sig) (asr rs : List Srt) (post : List D → Prop) : Sig :=
 { args := s.args.map (SV.subst 0 (qT asr.length)), heap := s.heap.map (Ch.subst 0 (qT asr.length)), srts := .N :: .L :: asr, res := s.res.subst 0 (qT asr.length ++ (pkTms dskS (2 + asr.length) ++ atFrom (3 + asr.length) rs.length)),
   heap' := s.heap'.map (Ch.subst 0 (qT asr.length ++ (pkTms dskS (2 + asr.length) ++ atFrom (3 + asr.length) rs.length))), news := .L :: rs, pre := fun l => ∃ x, RepL (arg l 1).toL x ∧ Small x, post := post }
def qB (s : Sig) (asr rs : List Srt) (post : List D → Prop) : Sig :=
 { args := s.args.map (SV.subst 0 (qT asr.length)), heap := s.heap.map (Ch.subst 0 (qT asr.length)), srts := .N :: .L :: asr, res := s.res.subst 0 (qT asr.length ++ atFrom (2 + asr.length) rs.length),
   heap' := s.heap'.map (Ch.subst 0 (qT asr.length ++ atFrom (2 + asr.length) rs.length)), news := rs, pre := fun l => ∃ x, RepL (arg l 1).toL x ∧ Small x, post := post }
theorem srtsOk_split {xs bs : List Srt} : ∀ {l : List D}, srtsOk (xs ++ bs) l → ∃ a b, l = a ++ b ∧ srtsOk xs a ∧ srtsOk bs b := by
 induction xs with
 | nil => intro l h; exact ⟨[], l, rfl, trivial, h⟩
 | cons s xs ih =>
  intro l h
  match l, h with
  | d :: l, h =>
   obtain ⟨a, b, rfl, h1, h2⟩ := ih h.2
   exact ⟨d :: a, b, rfl, ⟨h.1, h1⟩, h2⟩
theorem srtsOk_join {xs bs : List Srt} : ∀ {a b : List D}, srtsOk xs a → srtsOk bs b → srtsOk (xs ++ bs) (a ++ b) := by
 induction xs with
 | nil => intro a b h1 h2; cases a with | nil => exact h2 | cons => exact h1.elim
 | cons s xs ih =>
  intro a b h1 h2
  match a, h1 with
  | d :: a, h1 => exact ⟨h1.1, ih h1.2 h2⟩
theorem pkFrom_under (h m : Nat) (hm : h < m) : ∀ (ss : List Srt) (i : Nat), (pkFrom h i ss).all (Tm.under m) = true
 | [], _ => rfl
 | s :: ss, i => by
  rw [pkFrom, List.all_cons, pkFrom_under h m hm ss, Bool.and_true]
  show (decide (h < m) && true) = true
  simp [hm]
theorem atFrom_under (n k m : Nat) (h : n + k ≤ m) : (atFrom n k).all (Tm.under m) = true := by
 rw [List.all_eq_true]
 intro t ht
 obtain ⟨i, hi, rfl⟩ := List.mem_map.1 ht
 have := List.mem_range.1 hi
 show decide (n + i < m) = true
 simp; omega
theorem qT_under (n : Nat) : (qT n).all (Tm.under (n + 2)) = true := by
 unfold qT
 rw [List.all_append, List.all_cons, pkTms, pkFrom_under 1 (n + 2) (by omega), atFrom_under 2 n (n + 2) (by omega)]
 simp [Tm.under]
theorem qT_den {d : D} {l : List D} {xs σ : List D} (hl : srtsOk dskS l) : (qT xs.length).map (Tm.den (d :: .L l :: xs ++ σ)) = d :: l ++ xs := by
 unfold qT
 rw [List.map_append, List.map_cons, pkTms_den (l := l) rfl hl]
 have := atFrom_den (ρ := d :: .L l :: xs ++ σ) (a := [d, .L l]) (b := xs) (c := σ) (by simp)
 rw [show [d, D.L l].length = 2 from rfl] at this
 rw [this]; rfl
theorem kept_qA {P : Program} {G : List Glob} {f : FuncId} {s : Sig} (asr rs : List Srt) {post : List D → Prop} (hk : Kept P G f s) (ha : s.alt = none) (hsr : s.srts = .N :: dskS ++ asr) (hnew : s.news = dskS ++ rs)
  (hpre : ∀ d l xs x, srtsOk asr xs → RepL l x → Small x → s.pre (d :: l ++ xs))
  (hpost : ∀ d l xs l' r x0, srtsOk asr xs → srtsOk rs r → srtsOk dskS l → srtsOk dskS l' → RepL l x0 → Small x0 → s.post (d :: l ++ xs ++ (l' ++ r)) → post (d :: .L l :: xs ++ .L l' :: r)) : Kept P G f (qA s asr rs post) := by
 refine kept_pack hk (qT asr.length) (pkTms dskS (2 + asr.length) ++ atFrom (3 + asr.length) rs.length) ha rfl rfl rfl rfl rfl (qT_under _) ?_ ?_
 ·intro ρ hs hp
  match ρ, hs with
  | d :: e :: xs, hs =>
   obtain ⟨hd, ⟨l, rfl⟩, has⟩ := hs
   obtain ⟨x, hx, hsm⟩ := hp
   have hx : RepL l x := hx
   have h1 : (qT asr.length).map (Tm.den (d :: .L l :: xs)) = d :: l ++ xs := by
    have := qT_den (d := d) (xs := xs) (σ := []) hx.1
    rw [List.append_nil, srtsOk_length has] at this; exact this
   rw [h1, hsr]
   exact ⟨⟨hd, srtsOk_join hx.1 has⟩, hpre d l xs x has hx hsm⟩
 ·intro ρ σ hs hp hσ hpo
  match ρ, hs with
  | d :: e :: xs, hs =>
   obtain ⟨hd, ⟨l, rfl⟩, has⟩ := hs
   obtain ⟨x, hx, hsm⟩ := hp
   have hx : RepL l x := hx
   rw [hnew] at hσ
   obtain ⟨l', r, rfl, hl', hr⟩ := srtsOk_split hσ
   have h1 : (qT asr.length).map (Tm.den (d :: .L l :: xs)) = d :: l ++ xs := by
    have := qT_den (d := d) (xs := xs) (σ := []) hx.1
    rw [List.append_nil, srtsOk_length has] at this; exact this
   rw [h1] at hpo
   refine ⟨.L l' :: r, ⟨⟨_, rfl⟩, hr⟩, ?_, hpost d l xs l' r x has hr hx.1 hl' hx hsm hpo⟩
   rw [List.map_append]
   have e1 : (pkTms dskS (2 + asr.length)).map (Tm.den (d :: .L l :: xs ++ .L l' :: r)) = l' := by
    refine pkTms_den ?_ hl'
    rw [← srtsOk_length has, show 2 + xs.length = (d :: D.L l :: xs).length from by simp; omega]
    simp [List.getD]
   have e2 : (atFrom (3 + asr.length) rs.length).map (Tm.den (d :: .L l :: xs ++ .L l' :: r)) = r := by
    have := atFrom_den (ρ := d :: .L l :: xs ++ .L l' :: r) (a := d :: .L l :: xs ++ [.L l']) (b := r) (c := []) (by simp)
    rw [show (d :: D.L l :: xs ++ [D.L l']).length = 3 + asr.length from by rw [← srtsOk_length has]; simp; omega, srtsOk_length hr] at this
    exact this
   rw [e1, e2]
theorem kept_qB {P : Program} {G : List Glob} {f : FuncId} {s : Sig} (asr rs : List Srt) {post : List D → Prop} (hk : Kept P G f s) (ha : s.alt = none) (hsr : s.srts = .N :: dskS ++ asr) (hnew : s.news = rs)
  (hpre : ∀ d l xs x, srtsOk asr xs → RepL l x → Small x → s.pre (d :: l ++ xs))
  (hpost : ∀ d l xs r x0, srtsOk asr xs → srtsOk rs r → srtsOk dskS l → RepL l x0 → Small x0 → s.post (d :: l ++ xs ++ r) → post (d :: .L l :: xs ++ r)) : Kept P G f (qB s asr rs post) := by
 refine kept_pack hk (qT asr.length) (atFrom (2 + asr.length) rs.length) ha rfl rfl rfl rfl rfl (qT_under _) ?_ ?_
 ·intro ρ hs hp
  match ρ, hs with
  | d :: e :: xs, hs =>
   obtain ⟨hd, ⟨l, rfl⟩, has⟩ := hs
   obtain ⟨x, hx, hsm⟩ := hp
   have hx : RepL l x := hx
   have h1 : (qT asr.length).map (Tm.den (d :: .L l :: xs)) = d :: l ++ xs := by
    have := qT_den (d := d) (xs := xs) (σ := []) hx.1
    rw [List.append_nil, srtsOk_length has] at this; exact this
   rw [h1, hsr]
   exact ⟨⟨hd, srtsOk_join hx.1 has⟩, hpre d l xs x has hx hsm⟩
 ·intro ρ σ hs hp hσ hpo
  match ρ, hs with
  | d :: e :: xs, hs =>
   obtain ⟨hd, ⟨l, rfl⟩, has⟩ := hs
   obtain ⟨x, hx, hsm⟩ := hp
   have hx : RepL l x := hx
   rw [hnew] at hσ
   have h1 : (qT asr.length).map (Tm.den (d :: .L l :: xs)) = d :: l ++ xs := by
    have := qT_den (d := d) (xs := xs) (σ := []) hx.1
    rw [List.append_nil, srtsOk_length has] at this; exact this
   rw [h1] at hpo
   refine ⟨σ, hσ, ?_, hpost d l xs σ x has hσ hx.1 hx hsm hpo⟩
   have := atFrom_den (ρ := d :: .L l :: xs ++ σ) (a := d :: .L l :: xs) (b := σ) (c := []) (by simp)
   rw [show (d :: D.L l :: xs).length = 2 + asr.length from by rw [← srtsOk_length has]; simp; omega, srtsOk_length hσ] at this
   exact this
end Go.Vc
namespace Go.Vc
set_option linter.unusedVariables false
set_option maxRecDepth 100000
def eRoom.Pure : Prop :=
 ∀ n0 n1 n2 n3 : Nat,
 ∀ v4 : Value,
 ∀ l5 l6 l7 l8 : List D,
 ∀ i9 i10 i11 i12 : Int,
 ∀ b13 : Bool,
 ∀ i14 i15 : Int,
 R64 i15 →
 R64 i9 →
 R64 i10 →
 R64 i11 →
 R64 i12 →
 R64 i14 →
 (mappOk (.int .i64) [.str, .int .i64] l5) →
 (mapOk (.str) (.int .i64) l6) →
 (mapOk (.str) (.int .i64) l7) →
 (EK.ok [.str, .str, .int .i64] (D.L l8)) →
 eRoom.sig.pre [.N n0, .N n1, .N n2, .N n3, .V v4, .L l5, .L l6, .L l7, .L l8, .I i9, .I i10, .I i11, .I i12, .B b13, .I i14, .I i15] →
 eRoom.sig.post [.N n0, .N n1, .N n2, .N n3, .V v4, .L l5, .L l6, .L l7, .L l8, .I i9, .I i10, .I i11, .I i12, .B b13, .I i14, .I i15, .N n1, .N n2, .N n3, .V v4, .L l5, .L l6, .L l7, .L l8, .I i9, .I (maxI i15 0), .I i11, .I i12, .B b13, .I i14]
def eCrash.Pure : Prop :=
 ∀ n0 n1 n2 n3 : Nat,
 ∀ v4 : Value,
 ∀ l5 l6 l7 l8 : List D,
 ∀ i9 i10 i11 i12 : Int,
 ∀ b13 : Bool,
 ∀ i14 i15 : Int,
 R64 i15 →
 R64 i9 →
 R64 i10 →
 R64 i11 →
 R64 i12 →
 R64 i14 →
 (mappOk (.int .i64) [.str, .int .i64] l5) →
 (mapOk (.str) (.int .i64) l6) →
 (mapOk (.str) (.int .i64) l7) →
 (EK.ok [.str, .str, .int .i64] (D.L l8)) →
 eCrash.sig.pre [.N n0, .N n1, .N n2, .N n3, .V v4, .L l5, .L l6, .L l7, .L l8, .I i9, .I i10, .I i11, .I i12, .B b13, .I i14, .I i15] →
 eCrash.sig.post [.N n0, .N n1, .N n2, .N n3, .V v4, .L l5, .L l6, .L l7, .L l8, .I i9, .I i10, .I i11, .I i12, .B b13, .I i14, .I i15, .N n1, .N n2, .N n3, .V v4, .L l5, .L l6, .L l7, .L l8, .I i9, .I i10, .I (maxI i15 (-1 : Int)), .I i12, .B b13, .I i14]
def eFail.Pure : Prop :=
 ∀ n0 n1 n2 n3 : Nat,
 ∀ v4 : Value,
 ∀ l5 l6 l7 l8 : List D,
 ∀ i9 i10 i11 i12 : Int,
 ∀ b13 : Bool,
 ∀ i14 i15 : Int,
 R64 i15 →
 R64 i9 →
 R64 i10 →
 R64 i11 →
 R64 i12 →
 R64 i14 →
 (mappOk (.int .i64) [.str, .int .i64] l5) →
 (mapOk (.str) (.int .i64) l6) →
 (mapOk (.str) (.int .i64) l7) →
 (EK.ok [.str, .str, .int .i64] (D.L l8)) →
 eFail.sig.pre [.N n0, .N n1, .N n2, .N n3, .V v4, .L l5, .L l6, .L l7, .L l8, .I i9, .I i10, .I i11, .I i12, .B b13, .I i14, .I i15] →
 eFail.sig.post [.N n0, .N n1, .N n2, .N n3, .V v4, .L l5, .L l6, .L l7, .L l8, .I i9, .I i10, .I i11, .I i12, .B b13, .I i14, .I i15, .N n1, .N n2, .N n3, .V v4, .L l5, .L l6, .L l7, .L l8, .I i9, .I i10, .I i11, .I (maxI i15 (-1 : Int)), .B b13, .I i14]
def eDead.Pure : Prop :=
 ∀ n0 n1 n2 n3 : Nat,
 ∀ v4 : Value,
 ∀ l5 l6 l7 l8 : List D,
 ∀ i9 i10 i11 i12 : Int,
 ∀ b13 : Bool,
 ∀ i14 : Int,
 R64 i9 →
 R64 i10 →
 R64 i11 →
 R64 i12 →
 R64 i14 →
 (mappOk (.int .i64) [.str, .int .i64] l5) →
 (mapOk (.str) (.int .i64) l6) →
 (mapOk (.str) (.int .i64) l7) →
 (EK.ok [.str, .str, .int .i64] (D.L l8)) →
 eDead.sig.pre [.N n0, .N n1, .N n2, .N n3, .V v4, .L l5, .L l6, .L l7, .L l8, .I i9, .I i10, .I i11, .I i12, .B b13, .I i14] →
 eDead.sig.post [.N n0, .N n1, .N n2, .N n3, .V v4, .L l5, .L l6, .L l7, .L l8, .I i9, .I i10, .I i11, .I i12, .B b13, .I i14, .B b13]
end Go.Vc
namespace Go.Vc
open Dk (Ds)
theorem max_is (a b : Int) : (if b > a then b else a) = max a b := by split <;> omega
theorem eRoom.pure : eRoom.Pure := by
 unfold eRoom.Pure
 intros
 rename_i h
 exact fun x hx sx => ⟨hx.names, hx.safe, hx.pend, hx.files, hx.next, max_is _ _, hx.crash, hx.fail, hx.dead, hx.calls⟩
theorem eCrash.pure : eCrash.Pure := by
 unfold eCrash.Pure
 intros
 exact fun x hx sx => ⟨hx.names, hx.safe, hx.pend, hx.files, hx.next, hx.room, max_is _ _, hx.fail, hx.dead, hx.calls⟩
theorem eFail.pure : eFail.Pure := by
 unfold eFail.Pure
 intros
 exact fun x hx sx => ⟨hx.names, hx.safe, hx.pend, hx.files, hx.next, hx.room, hx.crash, max_is _ _, hx.dead, hx.calls⟩
theorem eDead.pure : eDead.Pure := by unfold eDead.Pure; intros; exact fun x hx _ => hx.dead
theorem dsk_cases {l : List D} (h : srtsOk dskS l) : ∃ n1 n2 n3 v4 l5 l6 l7 l8 i9 i10 i11 i12 b13 i14, l = [.N n1, .N n2, .N n3, .V v4, .L l5, .L l6, .L l7, .L l8, .I i9, .I i10, .I i11, .I i12, .B b13, .I i14] := by
 match l, h with
 | [_, _, _, _, _, _, _, _, _, _, _, _, _, _], h =>
  obtain ⟨⟨a, rfl⟩, ⟨b, rfl⟩, ⟨c, rfl⟩, ⟨d, rfl⟩, ⟨e, rfl⟩, ⟨f, rfl⟩, ⟨g, rfl⟩, ⟨i, rfl⟩, ⟨j, rfl⟩, ⟨k, rfl⟩, ⟨m, rfl⟩, ⟨n, rfl⟩, ⟨o, rfl⟩, ⟨p, rfl⟩, _⟩ := h
  exact ⟨_, _, _, _, _, _, _, _, _, _, _, _, _, _, rfl⟩
theorem arg_mid {pre l r : List D} {k i : Nat} (hk : pre.length = k) (hi : i < l.length) : arg (pre ++ (l ++ r)) (k + i) = arg l (0 + i) := by
 unfold arg
 rw [List.getD, List.getElem?_append_right (by omega), List.getElem?_append_left (by omega), show k + i - pre.length = 0 + i from by omega]; rfl
theorem RepAt.move {L L' : List D} {k k' : Nat} {x : Ds} (h : ∀ i, i < 14 → arg L (k + i) = arg L' (k' + i)) (r : RepAt L k x) : RepAt L' k' x :=
 ⟨by rw [← h 5 (by omega)]; exact r.names, by rw [← h 6 (by omega)]; exact r.safe, by rw [← h 7 (by omega)]; exact r.pend, by rw [← h 4 (by omega)]; exact r.files, by rw [← h 8 (by omega)]; exact r.next, by rw [← h 9 (by omega)]; exact r.room,
  by rw [← h 10 (by omega)]; exact r.crash, by rw [← h 11 (by omega)]; exact r.fail, by rw [← h 12 (by omega)]; exact r.dead, by rw [← h 13 (by omega)]; exact r.calls⟩
theorem repl_up {d : D} {l xs : List D} {x : Ds} (h : RepL l x) : RepAt (d :: l ++ xs) 1 x := by
 have hl := srtsOk_length h.1
 refine RepAt.move (fun i hi => ?_) h.2
 exact (arg_mid (pre := [d]) (r := xs) rfl (by rw [hl]; exact hi)).symm
theorem repl_down {pre l r : List D} {k : Nat} {x : Ds} (hl : srtsOk dskS l) (hk : pre.length = k) (h : RepAt (pre ++ (l ++ r)) k x) : RepL l x :=
 ⟨hl, RepAt.move (fun i hi => arg_mid hk (by rw [srtsOk_length hl]; exact hi)) h⟩
def isQ (l : List D) (k : Nat) (op : Ds → Ds × Int) : Prop := ∀ x, RepL (arg l 1).toL x → Small x → RepL (arg l k).toL (op x).1 ∧ (arg l (k + 1)).toI = (op x).2
theorem isQ_of {d : D} {l xs l' : List D} {e : Int} {k : Nat} {op : Ds → Ds × Int} (hl' : srtsOk dskS l') (hl : srtsOk dskS l) (hk : xs.length + 2 = k) (h : isOp (d :: l ++ xs ++ (l' ++ [.I e])) (13 + k) op) : isQ (d :: .L l :: xs ++ .L l' :: [.I e]) k op := by
 intro x hx sx
 have hlen : (d :: l ++ xs).length = 13 + k := by
  have := srtsOk_length hl
  simp only [List.length_append, List.length_cons, this]
  have : dskS.length = 14 := rfl
  omega
 obtain ⟨h1, h2⟩ := h x (by rw [List.append_assoc]; exact repl_up hx) sx
 have h3 := repl_down hl' hlen h1
 have a1 : arg (d :: .L l :: xs ++ .L l' :: [.I e]) k = .L l' := by
  unfold arg
  rw [List.getD, List.getElem?_append_right (by simp; omega), show k - (d :: D.L l :: xs).length = 0 from by simp; omega]; rfl
 have a2 : arg (d :: .L l :: xs ++ .L l' :: [.I e]) (k + 1) = .I e := by
  unfold arg
  rw [List.getD, List.getElem?_append_right (by simp; omega), show k + 1 - (d :: D.L l :: xs).length = 1 from by simp; omega]; rfl
 have a3 : arg (d :: l ++ xs ++ (l' ++ [.I e])) (13 + k + 14) = .I e := by
  unfold arg
  rw [List.getD, List.getElem?_append_right (by omega), List.getElem?_append_right (by rw [srtsOk_length hl']; show 14 ≤ _; omega), show 13 + k + 14 - (d :: l ++ xs).length - l'.length = 0 from by rw [srtsOk_length hl', hlen]; show _ - 14 = 0; omega]; rfl
 rw [a1, a2]
 rw [a3] at h2
 exact ⟨h3, h2⟩
theorem one_S {l : List D} (h : srtsOk [.S] l) : ∃ a, l = [.S a] := by match l, h with | [_], h => obtain ⟨⟨a, rfl⟩, _⟩ := h; exact ⟨a, rfl⟩
theorem two_S {l : List D} (h : srtsOk [.S, .S] l) : ∃ a b, l = [.S a, .S b] := by match l, h with | [_, _], h => obtain ⟨⟨a, rfl⟩, ⟨b, rfl⟩, _⟩ := h; exact ⟨a, b, rfl⟩
theorem one_I {l : List D} (h : srtsOk [.I] l) : ∃ a, l = [.I a] := by match l, h with | [_], h => obtain ⟨⟨a, rfl⟩, _⟩ := h; exact ⟨a, rfl⟩
theorem no_S {l : List D} (h : srtsOk [] l) : l = [] := by match l, h with | [], _ => rfl
section
variable {P : Program} {G : List Glob} {f : FuncId}
def qNew.sig : Sig := { args := [aI64 0], heap := [], srts := [.I], res := ptrAt 1, heap' := dskT 1 2, news := [.N, .L], pre := fun _ => True, post := fun l => RepL (arg l 2).toL (Dk.new (arg l 0).toI) }
theorem qNew_of (hk : Kept P G f dNew.sig) : Kept P G f qNew.sig := by
 refine kept_pack hk [.at 0] (.at 1 :: pkTms dskS 2) rfl rfl rfl rfl rfl rfl rfl ?_ ?_
 ·intro ρ hs _
  match ρ, hs with
  | [d], hs => exact ⟨hs, trivial⟩
 ·intro ρ σ hs _ hσ hpo
  match ρ, hs with
  | [d], hs =>
   obtain ⟨⟨i, rfl⟩, _⟩ := hs
   match σ, hσ with
   | e :: l, hσ =>
    have hl : srtsOk dskS l := hσ.2
    refine ⟨[e, .L l], ⟨hσ.1, ⟨_, rfl⟩, trivial⟩, ?_, hl, ?_⟩
    ·rw [List.map_cons, pkTms_den (l := l) rfl hl]; rfl
    ·obtain ⟨n1, n2, n3, v4, l5, l6, l7, l8, i9, i10, i11, i12, b13, i14, rfl⟩ := dsk_cases hl
     obtain ⟨⟨m, rfl⟩, _⟩ := hσ
     have := rep_of (n0 := 0) (n1 := n1) (n2 := n2) (n3 := n3) (v4 := v4) (tl := []) (new_use hpo)
     exact RepAt.move (k := 1) (k' := 0) (fun i _ => by rw [Nat.add_comm 1 i, Nat.zero_add]; rfl) this
def qCreate.sig : Sig := qA dCreate.sig [.S] [.I] fun l => isQ l 3 fun x => Dk.create x (tx (arg l 2).toS)
theorem qCreate_of (hk : Kept P G f dCreate.sig) : Kept P G f qCreate.sig := kept_qA [.S] [.I] hk rfl rfl rfl (fun _ _ _ x _ hx sx => ⟨x, repl_up hx, sx⟩) (by
 intro d l xs l' r x0 hxs hr hl hl' _ _ h
 obtain ⟨a, rfl⟩ := one_S hxs
 obtain ⟨e, rfl⟩ := one_I hr
 refine isQ_of hl' hl rfl ?_
 obtain ⟨n1, n2, n3, v4, l5, l6, l7, l8, i9, i10, i11, i12, b13, i14, rfl⟩ := dsk_cases hl
 exact h)
def qSync.sig : Sig := qA dSync.sig [.S] [.I] fun l => isQ l 3 fun x => Dk.sync x (tx (arg l 2).toS)
theorem qSync_of (hk : Kept P G f dSync.sig) : Kept P G f qSync.sig := kept_qA [.S] [.I] hk rfl rfl rfl (fun _ _ _ x _ hx sx => ⟨x, repl_up hx, sx⟩) (by
 intro d l xs l' r x0 hxs hr hl hl' _ _ h
 obtain ⟨a, rfl⟩ := one_S hxs
 obtain ⟨e, rfl⟩ := one_I hr
 refine isQ_of hl' hl rfl ?_
 obtain ⟨n1, n2, n3, v4, l5, l6, l7, l8, i9, i10, i11, i12, b13, i14, rfl⟩ := dsk_cases hl
 exact h)
def qRemove.sig : Sig := qA dRemove.sig [.S] [.I] fun l => isQ l 3 fun x => Dk.remove x (tx (arg l 2).toS)
theorem qRemove_of (hk : Kept P G f dRemove.sig) : Kept P G f qRemove.sig := kept_qA [.S] [.I] hk rfl rfl rfl (fun _ _ _ x _ hx sx => ⟨x, repl_up hx, sx⟩) (by
 intro d l xs l' r x0 hxs hr hl hl' _ _ h
 obtain ⟨a, rfl⟩ := one_S hxs
 obtain ⟨e, rfl⟩ := one_I hr
 refine isQ_of hl' hl rfl ?_
 obtain ⟨n1, n2, n3, v4, l5, l6, l7, l8, i9, i10, i11, i12, b13, i14, rfl⟩ := dsk_cases hl
 exact h)
def qAppend.sig : Sig := qA dAppend.sig [.S, .S] [.I] fun l => isQ l 4 fun x => Dk.append x (tx (arg l 2).toS) (tx (arg l 3).toS)
theorem qAppend_of (hk : Kept P G f dAppend.sig) : Kept P G f qAppend.sig := kept_qA [.S, .S] [.I] hk rfl rfl rfl (fun _ _ _ x _ hx sx => ⟨x, repl_up hx, sx⟩) (by
 intro d l xs l' r x0 hxs hr hl hl' _ _ h
 obtain ⟨a, b, rfl⟩ := two_S hxs
 obtain ⟨e, rfl⟩ := one_I hr
 refine isQ_of hl' hl rfl ?_
 obtain ⟨n1, n2, n3, v4, l5, l6, l7, l8, i9, i10, i11, i12, b13, i14, rfl⟩ := dsk_cases hl
 exact h)
def qRename.sig : Sig := qA dRename.sig [.S, .S] [.I] fun l => isQ l 4 fun x => Dk.rename x (tx (arg l 2).toS) (tx (arg l 3).toS)
theorem qRename_of (hk : Kept P G f dRename.sig) : Kept P G f qRename.sig := kept_qA [.S, .S] [.I] hk rfl rfl rfl (fun _ _ _ x _ hx sx => ⟨x, repl_up hx, sx⟩) (by
 intro d l xs l' r x0 hxs hr hl hl' _ _ h
 obtain ⟨a, b, rfl⟩ := two_S hxs
 obtain ⟨e, rfl⟩ := one_I hr
 refine isQ_of hl' hl rfl ?_
 obtain ⟨n1, n2, n3, v4, l5, l6, l7, l8, i9, i10, i11, i12, b13, i14, rfl⟩ := dsk_cases hl
 exact h)
def qSyncNames.sig : Sig := qA dSyncNames.sig [] [.I] fun l => isQ l 2 fun x => Dk.syncNames x
theorem qSyncNames_of (hk : Kept P G f dSyncNames.sig) : Kept P G f qSyncNames.sig := kept_qA [] [.I] hk rfl rfl rfl (fun _ _ _ x _ hx sx => ⟨x, repl_up hx, sx⟩) (by
 intro d l xs l' r x0 hxs hr hl hl' _ _ h
 obtain rfl := no_S hxs
 obtain ⟨e, rfl⟩ := one_I hr
 refine isQ_of hl' hl rfl ?_
 exact h)
def qRestart.sig : Sig := qA dRestart.sig [.V, .Z] [] fun l => ∀ x, RepL (arg l 1).toL x → Small x → RepL (arg l 4).toL (Dk.restart x (arg l 3).toLi)
theorem qRestart_of (hk : Kept P G f dRestart.sig) : Kept P G f qRestart.sig := kept_qA [.V, .Z] [] hk rfl rfl rfl (fun _ _ _ x _ hx sx => ⟨x, repl_up hx, sx⟩) (by
 intro d l xs l' r x0 hxs hr hl hl' _ _ h x hx sx
 match xs, hxs with
 | [_, _], hxs =>
  obtain ⟨⟨v, rfl⟩, ⟨z, rfl⟩, _⟩ := hxs
  obtain rfl := no_S hr
  have hx : RepL l x := hx
  have h1 := h x (by rw [List.append_assoc]; exact repl_up hx) sx
  have hlen : (d :: l ++ [D.V v, .Z z]).length = 17 := by
   have := srtsOk_length hl
   simp only [List.length_append, List.length_cons, this]; rfl
  have h2 := repl_down hl' hlen h1
  obtain ⟨n1, n2, n3, v4, l5, l6, l7, l8, i9, i10, i11, i12, b13, i14, rfl⟩ := dsk_cases hl
  exact h2)
def qRead.sig : Sig := qB dRead.sig [.S] [.S, .I] fun l => ∀ x, RepL (arg l 1).toL x → Small x → (tx (arg l 3).toS, (arg l 4).toI) = Dk.read x (tx (arg l 2).toS)
theorem qRead_of (hk : Kept P G f dRead.sig) : Kept P G f qRead.sig := kept_qB [.S] [.S, .I] hk rfl rfl rfl (fun _ _ _ x _ hx sx => ⟨x, repl_up hx, sx⟩) (by
 intro d l xs r x0 hxs hr hl _ _ h x hx sx
 obtain ⟨a, rfl⟩ := one_S hxs
 match r, hr with
 | [_, _], hr =>
  obtain ⟨⟨s, rfl⟩, ⟨e, rfl⟩, _⟩ := hr
  have hx : RepL l x := hx
  have h1 := h x (by rw [List.append_assoc]; exact repl_up hx) sx
  obtain ⟨n1, n2, n3, v4, l5, l6, l7, l8, i9, i10, i11, i12, b13, i14, rfl⟩ := dsk_cases hl
  exact h1)
def qNames.sig : Sig := qB dNames.sig [] [.V, .L, .I] fun l => ∀ x, RepL (arg l 1).toL x → Small x → (arg l 4).toI = (if x.dead then 9 else 0) ∧ (arg l 3).toL = if x.dead then [] else x.names.map fun p => .S (bx p.1)
theorem qNames_of (hk : Kept P G f dNames.sig) : Kept P G f qNames.sig := kept_qB [] [.V, .L, .I] hk rfl rfl rfl (fun _ _ _ x _ hx sx => ⟨x, repl_up hx, sx⟩) (by
 intro d l xs r x0 hxs hr hl _ _ h x hx sx
 obtain rfl := no_S hxs
 match r, hr with
 | [_, _, _], hr =>
  obtain ⟨⟨s, rfl⟩, ⟨e, rfl⟩, ⟨i, rfl⟩, _⟩ := hr
  have hx : RepL l x := hx
  have h1 := h x (by rw [List.append_assoc]; exact repl_up hx) sx
  obtain ⟨n1, n2, n3, v4, l5, l6, l7, l8, i9, i10, i11, i12, b13, i14, rfl⟩ := dsk_cases hl
  exact h1)
def isN (l : List D) (op : Ds → Ds) : Prop := ∀ x, RepL (arg l 1).toL x → Small x → RepL (arg l 3).toL (op x)
theorem isN_of {d : D} {l l' : List D} {i : Int} {op : Ds → Ds} (hl' : srtsOk dskS l') (hl : srtsOk dskS l) (h : ∀ x, RepAt (d :: l ++ [.I i] ++ (l' ++ [])) 1 x → Small x → RepAt (d :: l ++ [.I i] ++ (l' ++ [])) 16 (op x)) : isN (d :: .L l :: [.I i] ++ .L l' :: []) op := by
 intro x hx sx
 have h1 := h x (by rw [List.append_assoc]; exact repl_up hx) sx
 have hlen : (d :: l ++ [D.I i]).length = 16 := by
  have := srtsOk_length hl
  simp only [List.length_append, List.length_cons, this]; rfl
 exact repl_down hl' hlen h1
def qRoom.sig : Sig := qA eRoom.sig [.I] [] fun l => isN l fun x => { x with room := max (arg l 2).toI 0 }
theorem qRoom_of (hk : Kept P G f eRoom.sig) : Kept P G f qRoom.sig := kept_qA [.I] [] hk rfl rfl rfl (fun _ _ _ x _ hx sx => ⟨x, repl_up hx, sx⟩) (by
 intro d l xs l' r x0 hxs hr hl hl' _ _ h
 obtain ⟨i, rfl⟩ := one_I hxs
 obtain rfl := no_S hr
 refine isN_of hl' hl ?_
 obtain ⟨n1, n2, n3, v4, l5, l6, l7, l8, i9, i10, i11, i12, b13, i14, rfl⟩ := dsk_cases hl
 exact h)
def qCrash.sig : Sig := qA eCrash.sig [.I] [] fun l => isN l fun x => { x with crash := max (arg l 2).toI (-1) }
theorem qCrash_of (hk : Kept P G f eCrash.sig) : Kept P G f qCrash.sig := kept_qA [.I] [] hk rfl rfl rfl (fun _ _ _ x _ hx sx => ⟨x, repl_up hx, sx⟩) (by
 intro d l xs l' r x0 hxs hr hl hl' _ _ h
 obtain ⟨i, rfl⟩ := one_I hxs
 obtain rfl := no_S hr
 refine isN_of hl' hl ?_
 obtain ⟨n1, n2, n3, v4, l5, l6, l7, l8, i9, i10, i11, i12, b13, i14, rfl⟩ := dsk_cases hl
 exact h)
def qFail.sig : Sig := qA eFail.sig [.I] [] fun l => isN l fun x => { x with fail := max (arg l 2).toI (-1) }
theorem qFail_of (hk : Kept P G f eFail.sig) : Kept P G f qFail.sig := kept_qA [.I] [] hk rfl rfl rfl (fun _ _ _ x _ hx sx => ⟨x, repl_up hx, sx⟩) (by
 intro d l xs l' r x0 hxs hr hl hl' _ _ h
 obtain ⟨i, rfl⟩ := one_I hxs
 obtain rfl := no_S hr
 refine isN_of hl' hl ?_
 obtain ⟨n1, n2, n3, v4, l5, l6, l7, l8, i9, i10, i11, i12, b13, i14, rfl⟩ := dsk_cases hl
 exact h)
def qDead.sig : Sig := qB eDead.sig [] [.B] fun l => ∀ x, RepL (arg l 1).toL x → Small x → (arg l 2).toB = x.dead
theorem qDead_of (hk : Kept P G f eDead.sig) : Kept P G f qDead.sig := kept_qB [] [.B] hk rfl rfl rfl (fun _ _ _ _ _ _ _ => trivial) (by
 intro d l xs r x0 hxs hr hl _ _ h x hx sx
 obtain rfl := no_S hxs
 match r, hr with
 | [_], hr =>
  obtain ⟨⟨s, rfl⟩, _⟩ := hr
  have hx : RepL l x := hx
  have h1 := h x (by rw [List.append_assoc]; exact repl_up hx) sx
  obtain ⟨n1, n2, n3, v4, l5, l6, l7, l8, i9, i10, i11, i12, b13, i14, rfl⟩ := dsk_cases hl
  exact h1)
end
end Go.Vc