/-
 The disk: contracts in which all of its words are one.
 Printed by wip/vct.py: the conditions of functions, by their contracts.
 The disk: contracts in which all of its words are one: what they say.
-/
import Derived.Test.YtmgeaephkagdiaaGreatDoorDskd
import Derived.Test.YtmgeaephkagdiaaGreatDoorVcd
import Derived.KernelRfl
set_option linter.unusedVariables false
set_option linter.unusedSimpArgs false
open _root_.Go.IntKind (wrap)
namespace Go.Vc
open Dk (Ds)
def asO : Srt → O1
 | .I => .asI | .B => .asB | .S => .asS | .Z => .asZ | .L => .asL | .N => .asN | .V => .asV
def aC2 (h : Nat) : Nat → List Srt → List Tm
 | _, [] => []
 | i, s :: ss => .o1 (asO s) (.o2 .lget (.at h) (.int (i : Int))) :: aC2 h (i + 1) ss
def vK (ss : List Srt) (h : Nat) : List Tm := aC2 h 0 ss
def pW (n m : Nat) : List Tm := (List.range m).map fun i => .at (n + i)
theorem cW6 {s : Srt} {d : D} (h : s.ok d) : (asO s).den d = d := by
 cases s <;> (obtain ⟨x, rfl⟩ := h; rfl)
theorem cK2 {ρ : LD} {h : Nat} {L : LD} (hL : ρ.getD h default = .L L) : ∀ {ss : List Srt} {i : Nat} {l : LD}, aY ss l → (∀ j, j < l.length → L[i + j]? = l[j]?) → (aC2 h i ss).map (Tm.den ρ) = l
 | [], _, [], _, _ => rfl
 | [], _, _ :: _, h, _ => h.elim
 | _ :: _, _, [], h, _ => h.elim
 | s :: ss, i, d :: l, hs, hj => by
  rw [aC2, List.map_cons, cK2 hL hs.2 (fun j hjl => by
   have := hj (j + 1) (by simp; omega)
   rw [show i + 1 + j = i + (j + 1) from by omega, this]; rfl)]
  congr 1
  show (asO s).den (((ρ.getD h default).toL).getD ((i : Int)).toNat default) = d
  rw [hL]
  have h0 := hj 0 (by simp)
  simp only [Nat.add_zero, List.getElem?_cons_zero] at h0
  show (asO s).den (L.getD ((i : Int)).toNat default) = d
  rw [show ((i : Int)).toNat = i from by omega, List.getD, h0]
  exact cW6 hs.1
theorem bM3 {ρ : LD} {h : Nat} {ss : List Srt} {l : LD} (hL : ρ.getD h default = .L l) (hs : aY ss l) : (vK ss h).map (Tm.den ρ) = l :=
 cK2 hL hs fun j _ => by rw [Nat.zero_add]
theorem bA5 {ρ a b c : LD} (h : ρ = a ++ b ++ c) : (pW a.length b.length).map (Tm.den ρ) = b := by
 apply List.ext_getElem?
 intro i
 by_cases hi : i < b.length
 ·simp only [pW, List.map_map, List.getElem?_map, List.getElem?_range hi, Option.map_some, Function.comp_apply, Tm.den]
  rw [h, List.getD, List.append_assoc, List.getElem?_append_right (by omega), List.getElem?_append_left (by omega), show a.length + i - a.length = i from by omega, List.getElem?_eq_getElem hi]
  rfl
 ·rw [List.getElem?_eq_none (by simp [pW]; omega), List.getElem?_eq_none (by omega)]
def bD (l : LD) (x : Ds) : Prop := aY fE l ∧ gY l 0 x
def qE (d h : Nat) : List Ch := (kX 0 1).map (Ch.subst 0 (.at d :: vK fE h))
def qT (n : Nat) : List Tm := .at 0 :: vK fE 1 ++ pW 2 n
def qA (s : Sig) (asr rs : List Srt) (post : LD → Prop) : Sig :=
 { args := s.args.map (SV.subst 0 (qT asr.length)), heap := s.heap.map (Ch.subst 0 (qT asr.length)), aA := .N :: .L :: asr, res := s.res.subst 0 (qT asr.length ++ (vK fE (2 + asr.length) ++ pW (3 + asr.length) rs.length)),
   heap' := s.heap'.map (Ch.subst 0 (qT asr.length ++ (vK fE (2 + asr.length) ++ pW (3 + asr.length) rs.length))), news := .L :: rs, pre := fun l => ∃ x, bD (arg l 1).toL x ∧ Small x, post := post }
def qB (s : Sig) (asr rs : List Srt) (post : LD → Prop) : Sig :=
 { args := s.args.map (SV.subst 0 (qT asr.length)), heap := s.heap.map (Ch.subst 0 (qT asr.length)), aA := .N :: .L :: asr, res := s.res.subst 0 (qT asr.length ++ pW (2 + asr.length) rs.length),
   heap' := s.heap'.map (Ch.subst 0 (qT asr.length ++ pW (2 + asr.length) rs.length)), news := rs, pre := fun l => ∃ x, bD (arg l 1).toL x ∧ Small x, post := post }
theorem dT0 {xs bs : List Srt} : ∀ {l : LD}, aY (xs ++ bs) l → ∃ a b, l = a ++ b ∧ aY xs a ∧ aY bs b := by
 induction xs with
 | nil => intro l h; exact ⟨[], l, rfl, trivial, h⟩
 | cons s xs ih =>
  intro l h
  match l, h with
  | d :: l, h =>
   obtain ⟨a, b, rfl, h1, h2⟩ := ih h.2
   exact ⟨d :: a, b, rfl, ⟨h.1, h1⟩, h2⟩
theorem cP8 {xs bs : List Srt} : ∀ {a b : LD}, aY xs a → aY bs b → aY (xs ++ bs) (a ++ b) := by
 induction xs with
 | nil => intro a b h1 h2; cases a with | nil => exact h2 | cons => exact h1.elim
 | cons s xs ih =>
  intro a b h1 h2
  match a, h1 with
  | d :: a, h1 => exact ⟨h1.1, ih h1.2 h2⟩
theorem cK3 (h m : Nat) (hm : h < m) : ∀ (ss : List Srt) (i : Nat), (aC2 h i ss).all (Tm.under m) = true
 | [], _ => rfl
 | s :: ss, i => by
  rw [aC2, List.all_cons, cK3 h m hm ss, Bool.and_true]
  show (decide (h < m) && true) = true
  simp [hm]
theorem cW7 (n k m : Nat) (h : n + k ≤ m) : (pW n k).all (Tm.under m) = true := by
 rw [List.all_eq_true]
 intro t ht
 obtain ⟨i, hi, rfl⟩ := List.mem_map.1 ht
 have := List.mem_range.1 hi
 show decide (n + i < m) = true
 simp; omega
theorem cL7 (n : Nat) : (qT n).all (Tm.under (n + 2)) = true := by
 unfold qT
 rw [List.all_append, List.all_cons, vK, cK3 1 (n + 2) (by omega), cW7 2 n (n + 2) (by omega)]
 simp [Tm.under]
theorem aV6 {d : D} {l : LD} {xs σ : LD} (hl : aY fE l) : (qT xs.length).map (Tm.den (d :: .L l :: xs ++ σ)) = d :: l ++ xs := by
 unfold qT
 rw [List.map_append, List.map_cons, bM3 (l := l) rfl hl]
 have := bA5 (ρ := d :: .L l :: xs ++ σ) (a := [d, .L l]) (b := xs) (c := σ) (by simp)
 rw [show [d, D.L l].length = 2 from rfl] at this
 rw [this]; rfl
theorem yH {P : Program} {G : List Glob} {f : FuncId} {s : Sig} (asr rs : List Srt) {post : LD → Prop} (hk : Kept P G f s) (ha : s.alt = none) (hsr : s.aA = .N :: fE ++ asr) (hnew : s.news = fE ++ rs)
  (hpre : ∀ d l xs x, aY asr xs → bD l x → Small x → s.pre (d :: l ++ xs))
  (hpost : ∀ d l xs l' r x0, aY asr xs → aY rs r → aY fE l → aY fE l' → bD l x0 → Small x0 → s.post (d :: l ++ xs ++ (l' ++ r)) → post (d :: .L l :: xs ++ .L l' :: r)) : Kept P G f (qA s asr rs post) := by
 refine bI7 hk (qT asr.length) (vK fE (2 + asr.length) ++ pW (3 + asr.length) rs.length) ha rfl rfl rfl rfl rfl (cL7 _) ?_ ?_
 ·intro ρ hs hp
  match ρ, hs with
  | d :: e :: xs, hs =>
   obtain ⟨hd, ⟨l, rfl⟩, has⟩ := hs
   obtain ⟨x, hx, hsm⟩ := hp
   have hx : bD l x := hx
   have h1 : (qT asr.length).map (Tm.den (d :: .L l :: xs)) = d :: l ++ xs := by
    have := aV6 (d := d) (xs := xs) (σ := []) hx.1
    rw [List.append_nil, dF has] at this; exact this
   rw [h1, hsr]
   exact ⟨⟨hd, cP8 hx.1 has⟩, hpre d l xs x has hx hsm⟩
 ·intro ρ σ hs hp hσ hpo
  match ρ, hs with
  | d :: e :: xs, hs =>
   obtain ⟨hd, ⟨l, rfl⟩, has⟩ := hs
   obtain ⟨x, hx, hsm⟩ := hp
   have hx : bD l x := hx
   rw [hnew] at hσ
   obtain ⟨l', r, rfl, hl', hr⟩ := dT0 hσ
   have h1 : (qT asr.length).map (Tm.den (d :: .L l :: xs)) = d :: l ++ xs := by
    have := aV6 (d := d) (xs := xs) (σ := []) hx.1
    rw [List.append_nil, dF has] at this; exact this
   rw [h1] at hpo
   refine ⟨.L l' :: r, ⟨⟨_, rfl⟩, hr⟩, ?_, hpost d l xs l' r x has hr hx.1 hl' hx hsm hpo⟩
   rw [List.map_append]
   have e1 : (vK fE (2 + asr.length)).map (Tm.den (d :: .L l :: xs ++ .L l' :: r)) = l' := by
    refine bM3 ?_ hl'
    rw [← dF has, show 2 + xs.length = (d :: D.L l :: xs).length from by simp; omega]
    simp [List.getD]
   have e2 : (pW (3 + asr.length) rs.length).map (Tm.den (d :: .L l :: xs ++ .L l' :: r)) = r := by
    have := bA5 (ρ := d :: .L l :: xs ++ .L l' :: r) (a := d :: .L l :: xs ++ [.L l']) (b := r) (c := []) (by simp)
    rw [show (d :: D.L l :: xs ++ [D.L l']).length = 3 + asr.length from by rw [← dF has]; simp; omega, dF hr] at this
    exact this
   rw [e1, e2]
theorem cE4 {P : Program} {G : List Glob} {f : FuncId} {s : Sig} (asr rs : List Srt) {post : LD → Prop} (hk : Kept P G f s) (ha : s.alt = none) (hsr : s.aA = .N :: fE ++ asr) (hnew : s.news = rs)
  (hpre : ∀ d l xs x, aY asr xs → bD l x → Small x → s.pre (d :: l ++ xs))
  (hpost : ∀ d l xs r x0, aY asr xs → aY rs r → aY fE l → bD l x0 → Small x0 → s.post (d :: l ++ xs ++ r) → post (d :: .L l :: xs ++ r)) : Kept P G f (qB s asr rs post) := by
 refine bI7 hk (qT asr.length) (pW (2 + asr.length) rs.length) ha rfl rfl rfl rfl rfl (cL7 _) ?_ ?_
 ·intro ρ hs hp
  match ρ, hs with
  | d :: e :: xs, hs =>
   obtain ⟨hd, ⟨l, rfl⟩, has⟩ := hs
   obtain ⟨x, hx, hsm⟩ := hp
   have hx : bD l x := hx
   have h1 : (qT asr.length).map (Tm.den (d :: .L l :: xs)) = d :: l ++ xs := by
    have := aV6 (d := d) (xs := xs) (σ := []) hx.1
    rw [List.append_nil, dF has] at this; exact this
   rw [h1, hsr]
   exact ⟨⟨hd, cP8 hx.1 has⟩, hpre d l xs x has hx hsm⟩
 ·intro ρ σ hs hp hσ hpo
  match ρ, hs with
  | d :: e :: xs, hs =>
   obtain ⟨hd, ⟨l, rfl⟩, has⟩ := hs
   obtain ⟨x, hx, hsm⟩ := hp
   have hx : bD l x := hx
   rw [hnew] at hσ
   have h1 : (qT asr.length).map (Tm.den (d :: .L l :: xs)) = d :: l ++ xs := by
    have := aV6 (d := d) (xs := xs) (σ := []) hx.1
    rw [List.append_nil, dF has] at this; exact this
   rw [h1] at hpo
   refine ⟨σ, hσ, ?_, hpost d l xs σ x has hσ hx.1 hx hsm hpo⟩
   have := bA5 (ρ := d :: .L l :: xs ++ σ) (a := d :: .L l :: xs) (b := σ) (c := []) (by simp)
   rw [show (d :: D.L l :: xs).length = 2 + asr.length from by rw [← dF has]; simp; omega, dF hσ] at this
   exact this
end Go.Vc
namespace Go.Vc
set_option linter.unusedVariables false
set_option maxRecDepth 100000
end Go.Vc
namespace Go.Vc
open Dk (Ds)
theorem vF {l : LD} (h : aY fE l) : ∃ n1 n2 n3 v4 l5 l6 l7 l8 i9 i10 i11 i12 b13 i14, l = [.N n1, .N n2, .N n3, .V v4, .L l5, .L l6, .L l7, .L l8, .I i9, .I i10, .I i11, .I i12, .B b13, .I i14] := by
 match l, h with
 | [_, _, _, _, _, _, _, _, _, _, _, _, _, _], h =>
  obtain ⟨⟨a, rfl⟩, ⟨b, rfl⟩, ⟨c, rfl⟩, ⟨d, rfl⟩, ⟨e, rfl⟩, ⟨f, rfl⟩, ⟨g, rfl⟩, ⟨i, rfl⟩, ⟨j, rfl⟩, ⟨k, rfl⟩, ⟨m, rfl⟩, ⟨n, rfl⟩, ⟨o, rfl⟩, ⟨p, rfl⟩, _⟩ := h
  exact ⟨_, _, _, _, _, _, _, _, _, _, _, _, _, _, rfl⟩
theorem bS8 {pre l r : LD} {k i : Nat} (hk : pre.length = k) (hi : i < l.length) : arg (pre ++ (l ++ r)) (k + i) = arg l (0 + i) := by
 unfold arg
 rw [List.getD, List.getElem?_append_right (by omega), List.getElem?_append_left (by omega), show k + i - pre.length = 0 + i from by omega]; rfl
theorem gY.move {L L' : LD} {k k' : Nat} {x : Ds} (h : ∀ i, i < 14 → arg L (k + i) = arg L' (k' + i)) (r : gY L k x) : gY L' k' x :=
 ⟨by rw [← h 5 (by omega)]; exact r.names, by rw [← h 6 (by omega)]; exact r.safe, by rw [← h 7 (by omega)]; exact r.pend, by rw [← h 4 (by omega)]; exact r.files, by rw [← h 8 (by omega)]; exact r.next, by rw [← h 9 (by omega)]; exact r.room,
  by rw [← h 10 (by omega)]; exact r.crash, by rw [← h 11 (by omega)]; exact r.fail, by rw [← h 12 (by omega)]; exact r.dead, by rw [← h 13 (by omega)]; exact r.calls⟩
theorem pJ {d : D} {l xs : LD} {x : Ds} (h : bD l x) : gY (d :: l ++ xs) 1 x := by
 have hl := dF h.1
 refine gY.move (fun i hi => ?_) h.2
 exact (bS8 (pre := [d]) (r := xs) rfl (by rw [hl]; exact hi)).symm
theorem cM1 {pre l r : LD} {k : Nat} {x : Ds} (hl : aY fE l) (hk : pre.length = k) (h : gY (pre ++ (l ++ r)) k x) : bD l x :=
 ⟨hl, gY.move (fun i hi => bS8 hk (by rw [dF hl]; exact hi)) h⟩
def isQ (l : LD) (k : Nat) (op : Ds → Ds × Int) : Prop := ∀ x, bD (arg l 1).toL x → Small x → bD (arg l k).toL (op x).1 ∧ (arg l (k + 1)).toI = (op x).2
theorem aA5 {d : D} {l xs l' : LD} {e : Int} {k : Nat} {op : Ds → Ds × Int} (hl' : aY fE l') (hl : aY fE l) (hk : xs.length + 2 = k) (h : wK (d :: l ++ xs ++ (l' ++ [.I e])) (13 + k) op) : isQ (d :: .L l :: xs ++ .L l' :: [.I e]) k op := by
 intro x hx sx
 have hlen : (d :: l ++ xs).length = 13 + k := by
  have := dF hl
  simp only [List.length_append, List.length_cons, this]
  have : fE.length = 14 := rfl
  omega
 obtain ⟨h1, h2⟩ := h x (by rw [List.append_assoc]; exact pJ hx) sx
 have h3 := cM1 hl' hlen h1
 have a1 : arg (d :: .L l :: xs ++ .L l' :: [.I e]) k = .L l' := by
  unfold arg
  rw [List.getD, List.getElem?_append_right (by simp; omega), show k - (d :: D.L l :: xs).length = 0 from by simp; omega]; rfl
 have a2 : arg (d :: .L l :: xs ++ .L l' :: [.I e]) (k + 1) = .I e := by
  unfold arg
  rw [List.getD, List.getElem?_append_right (by simp; omega), show k + 1 - (d :: D.L l :: xs).length = 1 from by simp; omega]; rfl
 have a3 : arg (d :: l ++ xs ++ (l' ++ [.I e])) (13 + k + 14) = .I e := by
  unfold arg
  rw [List.getD, List.getElem?_append_right (by omega), List.getElem?_append_right (by rw [dF hl']; show 14 ≤ _; omega), show 13 + k + 14 - (d :: l ++ xs).length - l'.length = 0 from by rw [dF hl', hlen]; show _ - 14 = 0; omega]; rfl
 rw [a1, a2]
 rw [a3] at h2
 exact ⟨h3, h2⟩
theorem aU3 {l : LD} (h : aY [.S] l) : ∃ a, l = [.S a] := by match l, h with | [_], h => obtain ⟨⟨a, rfl⟩, _⟩ := h; exact ⟨a, rfl⟩
theorem cT0 {l : LD} (h : aY [.S, .S] l) : ∃ a b, l = [.S a, .S b] := by match l, h with | [_, _], h => obtain ⟨⟨a, rfl⟩, ⟨b, rfl⟩, _⟩ := h; exact ⟨a, b, rfl⟩
theorem aB7 {l : LD} (h : aY [.I] l) : ∃ a, l = [.I a] := by match l, h with | [_], h => obtain ⟨⟨a, rfl⟩, _⟩ := h; exact ⟨a, rfl⟩
theorem bL2 {l : LD} (h : aY [] l) : l = [] := by match l, h with | [], _ => rfl
section
variable {P : Program} {G : List Glob} {f : FuncId}
def wV.sig : Sig := { args := [nV 0], heap := [], aA := [.I], res := kK 1, heap' := qE 1 2, news := [.N, .L], pre := fun _ => True, post := fun l => bD (arg l 2).toL (Dk.new (arg l 0).toI) }
theorem dO2 (hk : Kept P G f dNew.sig) : Kept P G f wV.sig := by
 refine bI7 hk [.at 0] (.at 1 :: vK fE 2) rfl rfl rfl rfl rfl rfl rfl ?_ ?_
 ·intro ρ hs _
  match ρ, hs with
  | [d], hs => exact ⟨hs, trivial⟩
 ·intro ρ σ hs _ hσ hpo
  match ρ, hs with
  | [d], hs =>
   obtain ⟨⟨i, rfl⟩, _⟩ := hs
   match σ, hσ with
   | e :: l, hσ =>
    have hl : aY fE l := hσ.2
    refine ⟨[e, .L l], ⟨hσ.1, ⟨_, rfl⟩, trivial⟩, ?_, hl, ?_⟩
    ·rw [List.map_cons, bM3 (l := l) rfl hl]; rfl
    ·obtain ⟨n1, n2, n3, v4, l5, l6, l7, l8, i9, i10, i11, i12, b13, i14, rfl⟩ := vF hl
     obtain ⟨⟨m, rfl⟩, _⟩ := hσ
     have := dP9 (n0 := 0) (n1 := n1) (n2 := n2) (n3 := n3) (v4 := v4) (tl := []) (dK4 hpo)
     exact gY.move (k := 1) (k' := 0) (fun i _ => by rw [Nat.add_comm 1 i, Nat.zero_add]; rfl) this
def sG.sig : Sig := qA nZ.sig [.S] [.I] fun l => isQ l 3 fun x => Dk.create x (tx (arg l 2).toS)
theorem dO0 (hk : Kept P G f nZ.sig) : Kept P G f sG.sig := yH [.S] [.I] hk rfl rfl rfl (fun _ _ _ x _ hx sx => ⟨x, pJ hx, sx⟩) (by
 intro d l xs l' r x0 hxs hr hl hl' _ _ h
 obtain ⟨a, rfl⟩ := aU3 hxs
 obtain ⟨e, rfl⟩ := aB7 hr
 refine aA5 hl' hl rfl ?_
 obtain ⟨n1, n2, n3, v4, l5, l6, l7, l8, i9, i10, i11, i12, b13, i14, rfl⟩ := vF hl
 exact h)
def aK3.sig : Sig := qA mM.sig [.S] [.I] fun l => isQ l 3 fun x => Dk.sync x (tx (arg l 2).toS)
theorem dO8 (hk : Kept P G f mM.sig) : Kept P G f aK3.sig := yH [.S] [.I] hk rfl rfl rfl (fun _ _ _ x _ hx sx => ⟨x, pJ hx, sx⟩) (by
 intro d l xs l' r x0 hxs hr hl hl' _ _ h
 obtain ⟨a, rfl⟩ := aU3 hxs
 obtain ⟨e, rfl⟩ := aB7 hr
 refine aA5 hl' hl rfl ?_
 obtain ⟨n1, n2, n3, v4, l5, l6, l7, l8, i9, i10, i11, i12, b13, i14, rfl⟩ := vF hl
 exact h)
def aJ9.sig : Sig := qA nH.sig [.S] [.I] fun l => isQ l 3 fun x => Dk.remove x (tx (arg l 2).toS)
theorem dO4 (hk : Kept P G f nH.sig) : Kept P G f aJ9.sig := yH [.S] [.I] hk rfl rfl rfl (fun _ _ _ x _ hx sx => ⟨x, pJ hx, sx⟩) (by
 intro d l xs l' r x0 hxs hr hl hl' _ _ h
 obtain ⟨a, rfl⟩ := aU3 hxs
 obtain ⟨e, rfl⟩ := aB7 hr
 refine aA5 hl' hl rfl ?_
 obtain ⟨n1, n2, n3, v4, l5, l6, l7, l8, i9, i10, i11, i12, b13, i14, rfl⟩ := vF hl
 exact h)
def lV.sig : Sig := qA mJ.sig [.S, .S] [.I] fun l => isQ l 4 fun x => Dk.append x (tx (arg l 2).toS) (tx (arg l 3).toS)
theorem dN9 (hk : Kept P G f mJ.sig) : Kept P G f lV.sig := yH [.S, .S] [.I] hk rfl rfl rfl (fun _ _ _ x _ hx sx => ⟨x, pJ hx, sx⟩) (by
 intro d l xs l' r x0 hxs hr hl hl' _ _ h
 obtain ⟨a, b, rfl⟩ := cT0 hxs
 obtain ⟨e, rfl⟩ := aB7 hr
 refine aA5 hl' hl rfl ?_
 obtain ⟨n1, n2, n3, v4, l5, l6, l7, l8, i9, i10, i11, i12, b13, i14, rfl⟩ := vF hl
 exact h)
def aK1.sig : Sig := qA jH.sig [.S, .S] [.I] fun l => isQ l 4 fun x => Dk.rename x (tx (arg l 2).toS) (tx (arg l 3).toS)
theorem dO5 (hk : Kept P G f jH.sig) : Kept P G f aK1.sig := yH [.S, .S] [.I] hk rfl rfl rfl (fun _ _ _ x _ hx sx => ⟨x, pJ hx, sx⟩) (by
 intro d l xs l' r x0 hxs hr hl hl' _ _ h
 obtain ⟨a, b, rfl⟩ := cT0 hxs
 obtain ⟨e, rfl⟩ := aB7 hr
 refine aA5 hl' hl rfl ?_
 obtain ⟨n1, n2, n3, v4, l5, l6, l7, l8, i9, i10, i11, i12, b13, i14, rfl⟩ := vF hl
 exact h)
def aK4.sig : Sig := qA qC.sig [] [.I] fun l => isQ l 2 fun x => Dk.fD x
theorem dO7 (hk : Kept P G f qC.sig) : Kept P G f aK4.sig := yH [] [.I] hk rfl rfl rfl (fun _ _ _ x _ hx sx => ⟨x, pJ hx, sx⟩) (by
 intro d l xs l' r x0 hxs hr hl hl' _ _ h
 obtain rfl := bL2 hxs
 obtain ⟨e, rfl⟩ := aB7 hr
 refine aA5 hl' hl rfl ?_
 exact h)
def aK2.sig : Sig := qA fZ.sig [.V, .Z] [] fun l => ∀ x, bD (arg l 1).toL x → Small x → bD (arg l 4).toL (Dk.restart x (arg l 3).aC)
theorem dO6 (hk : Kept P G f fZ.sig) : Kept P G f aK2.sig := yH [.V, .Z] [] hk rfl rfl rfl (fun _ _ _ x _ hx sx => ⟨x, pJ hx, sx⟩) (by
 intro d l xs l' r x0 hxs hr hl hl' _ _ h x hx sx
 match xs, hxs with
 | [_, _], hxs =>
  obtain ⟨⟨v, rfl⟩, ⟨z, rfl⟩, _⟩ := hxs
  obtain rfl := bL2 hr
  have hx : bD l x := hx
  have h1 := h x (by rw [List.append_assoc]; exact pJ hx) sx
  have hlen : (d :: l ++ [D.V v, .Z z]).length = 17 := by
   have := dF hl
   simp only [List.length_append, List.length_cons, this]; rfl
  have h2 := cM1 hl' hlen h1
  obtain ⟨n1, n2, n3, v4, l5, l6, l7, l8, i9, i10, i11, i12, b13, i14, rfl⟩ := vF hl
  exact h2)
def aJ8.sig : Sig := qB rJ.sig [.S] [.S, .I] fun l => ∀ x, bD (arg l 1).toL x → Small x → (tx (arg l 3).toS, (arg l 4).toI) = Dk.read x (tx (arg l 2).toS)
theorem dO3 (hk : Kept P G f rJ.sig) : Kept P G f aJ8.sig := cE4 [.S] [.S, .I] hk rfl rfl rfl (fun _ _ _ x _ hx sx => ⟨x, pJ hx, sx⟩) (by
 intro d l xs r x0 hxs hr hl _ _ h x hx sx
 obtain ⟨a, rfl⟩ := aU3 hxs
 match r, hr with
 | [_, _], hr =>
  obtain ⟨⟨s, rfl⟩, ⟨e, rfl⟩, _⟩ := hr
  have hx : bD l x := hx
  have h1 := h x (by rw [List.append_assoc]; exact pJ hx) sx
  obtain ⟨n1, n2, n3, v4, l5, l6, l7, l8, i9, i10, i11, i12, b13, i14, rfl⟩ := vF hl
  exact h1)
def aJ7.sig : Sig := qB tH.sig [] [.V, .L, .I] fun l => ∀ x, bD (arg l 1).toL x → Small x → (arg l 4).toI = (if x.dead then 9 else 0) ∧ (arg l 3).toL = if x.dead then [] else x.names.map fun p => .S (bx p.1)
theorem dO1 (hk : Kept P G f tH.sig) : Kept P G f aJ7.sig := cE4 [] [.V, .L, .I] hk rfl rfl rfl (fun _ _ _ x _ hx sx => ⟨x, pJ hx, sx⟩) (by
 intro d l xs r x0 hxs hr hl _ _ h x hx sx
 obtain rfl := bL2 hxs
 match r, hr with
 | [_, _, _], hr =>
  obtain ⟨⟨s, rfl⟩, ⟨e, rfl⟩, ⟨i, rfl⟩, _⟩ := hr
  have hx : bD l x := hx
  have h1 := h x (by rw [List.append_assoc]; exact pJ hx) sx
  obtain ⟨n1, n2, n3, v4, l5, l6, l7, l8, i9, i10, i11, i12, b13, i14, rfl⟩ := vF hl
  exact h1)
end
end Go.Vc