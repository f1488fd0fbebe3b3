/-
 Library functions on maps: their contracts, from what the shelf says of them.
 maps.Clone, maps.DeleteFunc: their contracts, from what the shelf says of them.
-/
import Derived.Test.YtdppcnngoclehaaTab
import Derived.Test.YtdppcnngoclehaaVcc
import Derived.Lib.SlKeysI
import Derived.Lib.SlMapFilter
import Derived.Maps.Own
set_option linter.unusedVariables false
set_option linter.unusedSimpArgs false
open _root_.Go.IntKind (wrap)
namespace Go.Vc
open Go.MapKept Go.RowKit
open Go.WideElems (rd rg)
theorem bZ7 {n : Int} (h : IntKind.i64.has n) : (Lit.int .i64 n).wf = true := by
 have h1 : IntKind.i64.min ≤ n ∧ n ≤ IntKind.i64.max := h
 simp [Lit.wf]
 exact h1
section
variable {P : Program} {w : World} {k : TypeId} {b clock : Nat} {es : List MapEntry} {L : LD} {R : Value → Option (DataW Unit × List MemPlace)}
theorem bH3 {K : CK} {d : TypeDesc} (hK : kL K = some d) : ∀ {es : List MapEntry} {L : LD}, F2 (RK K) es L → aW L → (es.map (·.key)).Nodup
 | [], [], _, _ => by simp
 | [], _ :: _, h, _ => h.elim
 | _ :: _, [], h, _ => h.elim
 | e :: es, r :: L, h, ho => by
  have ho' := List.pairwise_cons.1 ho
  rw [List.map_cons, List.nodup_cons]
  refine ⟨fun hm => ?_, bH3 hK h.2 ho'.2⟩
  obtain ⟨e', he', hk⟩ := List.mem_map.1 hm
  obtain ⟨j, hj⟩ := List.mem_iff_getElem?.1 he'
  obtain ⟨r', hr', hrk⟩ := F2.get h.2 hj
  have := ho'.1 r' (List.mem_of_getElem? hr')
  have e1 : r.key = r'.key := bA3 hK h.1.2.2 hrk.2.2 (by rw [h.1.1, hrk.1, hk])
  rw [e1, (qK hrk.2.2 hrk.2.2).2 rfl] at this
  cases this
def uY : CK → D → Lit
 | .int k, d => .int k d.toI
 | .str, d => .string d.toS.data.toList
 | .bool, d => .bool d.toB
 | _, _ => .bool false
theorem aR7 {K : CK} {d : TypeDesc} (hK : kL K = some d) (hk : P.underlying k = some d) (hi : ∀ q, K = .int q → q = .i64) {x : D} {u : Value} (hx : K.cells x = [u]) (hok : K.ok x) : keyOf P k u = some (uY K x) := by
 cases K with
 | int q =>
  cases hi q rfl; cases hK
  simp only [CK.cells, List.cons.injEq, and_true] at hx; subst hx
  exact Maps.keyOf_int_mk hk (bZ7 hok)
 | str =>
  cases hK
  simp only [CK.cells, List.cons.injEq, and_true] at hx; subst hx
  have h1 : (x.toS.size : Int) ≤ dF := hok
  have := maxLen_eq
  exact WideMaps.keyOf_string_mk hk (by omega)
 | bool =>
  cases hK
  simp only [CK.cells, List.cons.injEq, and_true] at hx; subst hx
  simp [keyOf, hk, mapKey, uY]
 | _ => cases hK
theorem bY5 {K : CK} {d : TypeDesc} (hK : kL K = some d) (hk : P.underlying k = some d) (hi : ∀ q, K = .int q → q = .i64) (h : bP w b es clock) (hkeys : F2 (RK K) es L) (ho : aW L) (hR : ∀ e ∈ es, ∃ y, R e.val = some y) :
  WideElems.Fit P k R es.toArray clock := by
 refine ⟨by simpa using h.2.2.2, ⟨by simpa using h.2.2.1, by simpa using h.2.1, by simpa using bH3 hK hkeys ho⟩, fun x hx => ?_⟩
 have hx : x ∈ es := by simpa using hx
 obtain ⟨j, hj⟩ := List.mem_iff_getElem?.1 hx
 obtain ⟨r, _, hrk⟩ := F2.get hkeys hj
 obtain ⟨y, hy⟩ := hR x hx
 exact ⟨(uY K r.key, y.1), by simp [rd, aR7 hK hk hi hrk.1 hrk.2.1, hy]⟩
theorem aU4 {K : CK} {d : TypeDesc} (hK : kL K = some d) (hk : P.underlying k = some d) (hi : ∀ q, K = .int q → q = .i64) (h : bP w b es clock) (hkeys : F2 (RK K) es L) (ho : aW L) (hR : ∀ e ∈ es, ∃ y, R e.val = some y) :
  w.ownsMap P k R b L.length (.map ((es.map (rg P k R)).foldr DataW.insert [])) :=
 ⟨es.toArray, clock, h.1, bY5 hK hk hi h hkeys ho hR, by rw [List.size_toArray, hkeys.len]; exact Nat.le_refl _, by simp⟩
theorem aV2 {K : CK} {d : TypeDesc} (hK : kL K = some d) (hk : P.underlying k = some d) (hi : ∀ q, K = .int q → q = .i64) (hR : ∀ v, ∃ y, R v = some y) : ∀ {es : List MapEntry} {L : LD}, F2 (RK K) es L → es.map (fun e => (rg P k R e).1) = L.map fun r => uY K r.key
 | [], [], _ => rfl
 | [], _ :: _, h => h.elim
 | _ :: _, [], h => h.elim
 | e :: es, r :: L, h => by
  obtain ⟨y, hy⟩ := hR e.val
  have : rd P k R e = some (uY K r.key, y.1) := by simp [rd, aR7 hK hk hi h.1.1 h.1.2.1, hy]
  rw [List.map_cons, List.map_cons, WideElems.rg_of this, aV2 hK hk hi hR h.2]
end
def lH (kd : Kd) (ek : EK) (s : Srt) (keys : LD → D) (g : FuncId) : Sig :=
 { args := [.one (.lf (.clo g [] [.at 0]))], heap := [.box (.at 0) [.lf (.mp (.at 1))], .abs kd [.at 1, .at 2]], aA := [.N, .N, .L], res := .one (.lf (.sl (.at 3))),
   heap' := [.osl (.at 3) ek (.at 4), .box (.at 0) [.lf (.mp (.at 1))], .abs kd [.at 1, .at 2]], news := [.V, s],
   pre := fun l => (arg l 2).toL.length ≤ 1000000000, post := fun l => arg l 4 = keys (arg l 2).toL }
def wQ (P : Program) (kd : Kd) (ek : EK) (keys : LD → D) (f g : FuncId) : Prop :=
 ∀ (w : World) (c b : Nat) (es : List MapEntry) (clock : Nat) (L : LD), c < w.heap.size → w.cell? ⟨c, 0, none⟩ = some (.map (some b)) → bP w b es clock → iF w kd es L → aW L → L.length ≤ 1000000000 →
  Calls P f #[.func (.func g) #[] #[.pointer (some ⟨c, 0, none⟩)]] w fun e w' => ∃ v, e = .returned v ∧ Below w.heap.size w w' ∧ iE w' v ek.width (ek.len (keys L)) (ek.cells (keys L)) ∧ ek.ok (keys L) ∧ ∀ x, v.ownBlock = some x → w.heap.size ≤ x
theorem bH1 {P : Program} {G : List Glob} {kd : Kd} {ek : EK} {s : Srt} {keys : LD → D} {f g : FuncId} {fn : Func} (hf : P.funcs[f]? = some fn) (hn : (fn.name == "runtime.NumGoroutine") = false) (hb : fn.body.isSome = true)
  (hs : ∀ L, s.ok (keys L)) (hkd : (∃ K E, kd = .mp K E) ∨ ∃ K e, kd = .mpp K e) (h : wQ P kd ek keys f g) : Kept P G f (lH kd ek s keys g) := by
 obtain ⟨bd, hb⟩ := Option.isSome_iff_exists.1 hb
 refine ⟨?_, fn, bd, hf, hn, hb⟩
 intro w args ρ hsr hp ha hh hg
 have hsr : aP [.N, .N, .L] ρ := hsr
 match ρ, hsr with
 | [d0, d1, d2], hsr =>
  obtain ⟨⟨c, rfl⟩, ⟨b, rfl⟩, ⟨L, rfl⟩, _⟩ := hsr
  obtain ⟨v0, r0, e0, h0, e1⟩ := ha
  have q0 : v0 = .func (.func g) #[] #[.pointer (some ⟨c, 0, none⟩)] := h0
  have q1 : r0 = [] := e1
  subst q0 q1
  have ea : args = #[.func (.func g) #[] #[.pointer (some ⟨c, 0, none⟩)]] := Array.toList_inj.1 e0
  subst ea
  have hp : L.length ≤ 1000000000 := hp
  obtain ⟨cs, te, fz, c1, c2, c3⟩ : ∃ cs te fz, w.heap[c]? = some (.cells cs te fz) ∧ gB fz cs.size ∧ aG [D.N c, .N b, .L L] [.lf (.mp (.at 1))] cs.toList := hh.holds _ (.head _)
  obtain ⟨v1, r1, e1, h1, _, h2⟩ := c3
  have h1 : v1 = .map (some b) := h1
  have h2 : r1 = [] := h2
  subst h1 h2
  have hcs : cs = #[.map (some b)] := Array.toList_inj.1 e1
  subst hcs
  have hm : (Ch.abs kd [.at 1, .at 2]).holds [D.N c, .N b, .L L] w := hh.holds _ (.tail _ (.head _))
  obtain ⟨es, clock, m1, m2, m3⟩ : ∃ es clock, bP w b es clock ∧ iF w kd es L ∧ aW L := by
   rcases hkd with ⟨K, E, rfl⟩ | ⟨K, e, rfl⟩
   ·obtain ⟨es, clock, a1, a2, a3⟩ := hm; exact ⟨es, clock, a1, lD.1 a2, a3⟩
   ·obtain ⟨es, clock, a1, a2, a3⟩ := hm; exact ⟨es, clock, a1, lF.1 a2, a3⟩
  have hcl := (Array.getElem?_eq_some_iff.1 c1).1
  refine (h w c b es clock L hcl (by simp [World.cell?, c1]) m1 m2 m3 hp).mono ?_
  rintro e w' ⟨v, rfl, hbel, o1, o2, o3⟩
  have hfr : mQ w (owns [D.N c, .N b, .L L] (lH kd ek s keys g).heap) w' := ⟨hbel.os, hbel.tape, hbel.output, hbel.size, fun x hx _ => hbel.block x hx⟩
  have hold : aH [D.N c, .N b, .L L] (lH kd ek s keys g).heap w' := hh.congr (fun x hx => hbel.block x (hx.elim hh.iC hh.kJ)) hbel.size
  have hun : (lH kd ek s keys g).heap.all (Ch.under ([D.N c, .N b, .L L] : LD).length) = true := rfl
  have hold' : aH ([D.N c, .N b, .L L] ++ [.V v, keys L]) (lH kd ek s keys g).heap w' :=
   ⟨fun x hx => by rw [Ch.kV (List.all_eq_true.1 hun x hx)]; exact hold.holds x hx, by rw [nT hun]; exact hold.nodup, fun x hx y hy => by rw [Ch.bF1 (List.all_eq_true.1 hun x hx)] at hy; rw [nT hun]; exact hold.ro x hx y hy⟩
  have hrn : ros [D.N c, .N b, .L L] (lH kd ek s keys g).heap = [] := by
   rcases hkd with ⟨K, E, rfl⟩ | ⟨K, e, rfl⟩ <;> rfl
  have hnew : aH ([D.N c, .N b, .L L] ++ [.V v, keys L]) (lH kd ek s keys g).heap' w' := by
   show aH _ (Ch.osl (.at 3) ek (.at 4) :: (lH kd ek s keys g).heap) w'
   refine (uN rfl).2 ⟨⟨o1, o2⟩, hold', fun x hx => ?_, fun x hx => by cases hx⟩
   have hx : v.ownBlock = some x := hx
   have := o3 x hx
   rw [nT hun, vX hun, hrn]
   exact ⟨fun hm => by have := hh.iC hm; omega, by simp⟩
  refine ⟨v, rfl, .inl ⟨[.V v, keys L], ⟨⟨_, rfl⟩, hs L, trivial⟩, rfl, rfl, hnew, ?_, ?_, hfr⟩⟩
  ·intro x hx
   have hx : x ∈ owns ([D.N c, .N b, .L L] ++ [.V v, keys L]) (Ch.osl (.at 3) ek (.at 4) :: (lH kd ek s keys g).heap) := hx
   rw [iY, nT hun] at hx
   rcases hx with hx | hx
   ·exact .inr (o3 x hx)
   ·exact .inl hx
  ·intro x hx
   have hx : x ∈ ros ([D.N c, .N b, .L L] ++ [.V v, keys L]) (Ch.osl (.at 3) ek (.at 4) :: (lH kd ek s keys g).heap) := hx
   rw [lC, vX hun, hrn] at hx
   rcases hx with hx | hx
   ·cases hx
   ·cases hx
theorem bK6 {w : World} {base : Nat} {t : TypeId} {v : Value} {n : Nat} {xs : List Value} (h : w.ownsRow base t 1 v n xs) : iE w v 1 n xs ∧ ∀ x, v.ownBlock = some x → base ≤ x := by
 obtain ⟨hl, ⟨rfl, rfl⟩ | ⟨g, cap, cur, rfl, h1, h2, h3, h4, h5, h6⟩⟩ := h
 ·exact ⟨.inl ⟨rfl, rfl, List.eq_nil_of_length_eq_zero (by simpa using hl)⟩, fun x hx => by cases hx⟩
 ·exact ⟨.inr ⟨g, cap, cur, t, (0, 0), rfl, h2, fun j _ hj => by simp only at hj; omega, h3, h4, h5, hl, h6⟩, fun x hx => by cases hx; exact h1⟩
def nO (L : LD) : D := .L (((L.map fun r => r.key.toS.data.toList).mergeSort leB).map fun x => D.S ⟨x.toArray⟩)
def pU (L : LD) : D := .Z ((L.map fun r => r.key.toI).mergeSort leI)
theorem cL3 {P : Program} {k e : TypeId} {f g : FuncId} {E : CK} (hk : P.underlying k = some .string)
  (h : ∀ (w : World) (c b n : Nat) (D0 : DataW Unit), c < w.heap.size → w.cell? ⟨c, 0, none⟩ = some (.map (some b)) → w.ownsMap P k (fun _ => some (.nil, [])) b n D0 → Maps.size D0 ≤ maxLen → Maps.size D0 * 16 ≤ 140737488355328 →
   Calls P f #[.func (.func g) #[] #[.pointer (some ⟨c, 0, none⟩)]] w fun x w' => ∃ (v : Value) (ss : List (List UInt8)), x = .returned v ∧ ss.Perm (strKeys D0) ∧ w'.ownsRow w.heap.size e 1 v ss.length ((ss.mergeSort leB).map Proofs.encStr) ∧ Below w.heap.size w w') :
  wQ P (.mp .str E) [.str] nO f g := by
 intro w c b es clock L hc hcell m1 m2 m3 hL
 have hi : ∀ q, CK.str = .int q → q = .i64 := fun q h => by cases h
 have hkeys := iF.keys m2
 have hown := aU4 (R := fun _ => some (.nil, [])) (K := .str) rfl hk hi m1 hkeys m3 (fun _ _ => ⟨_, rfl⟩)
 have hrg := aV2 (R := fun _ => some ((.nil : DataW Unit), [])) (K := .str) rfl hk hi (fun _ => ⟨_, rfl⟩) hkeys
 have hsz : Maps.size (H := Unit) (.map ((es.map (rg P k fun _ => some (.nil, []))).foldr DataW.insert [])) = L.length := by
  show (List.foldr DataW.insert [] _).length = _
  rw [length_sorted, List.length_map, hkeys.len]
 refine (h w c b _ _ hc hcell hown (by rw [hsz]; have : (1000000000 : Nat) ≤ maxLen := by decide
                                       omega) (by rw [hsz]; omega)).mono ?_
 rintro x w' ⟨v, ss, rfl, hperm, hrow, hbel⟩
 have hp2 : ss.Perm (L.map fun r => r.key.toS.data.toList) := by
  refine hperm.trans ?_
  have h1 : strKeys (H := Unit) (.map ((es.map (rg P k fun _ => some (.nil, []))).foldr DataW.insert [])) = (List.foldr DataW.insert [] (es.map (rg P k fun _ => some (.nil, [])))).map fun p => strOf p.1 := rfl
  rw [h1]
  refine ((WideShapes.sorted_perm _).map _).trans ?_
  rw [List.map_map]
  have h2 : es.map ((fun p => strOf p.1) ∘ (rg P k fun _ => some ((.nil : DataW Unit), []))) = (es.map fun e => (rg P k (fun _ => some ((.nil : DataW Unit), [])) e).1).map strOf := by rw [List.map_map]; rfl
  rw [h2, hrg, List.map_map]
  exact List.Perm.refl _
 obtain ⟨o1, o2⟩ := bK6 hrow
 rw [mergeSort_of_perm hp2] at o1
 have hlen : ss.length = L.length := by rw [hp2.length_eq, List.length_map]
 refine ⟨v, rfl, hbel, ?_, ?_, o2⟩
 ·have e1 : EK.len [.str] (nO L) = ss.length := by
   show (List.map _ _).length = _
   rw [List.length_map, List.length_mergeSort, List.length_map, hlen]
  have e2 : EK.cells [.str] (nO L) = ((L.map fun r => r.key.toS.data.toList).mergeSort leB).map Proofs.encStr := by
   show (List.map _ _).flatMap (CK.cells .str) = _
   rw [List.flatMap_map]
   generalize (L.map fun r => r.key.toS.data.toList).mergeSort leB = X
   rw [List.map_eq_flatMap]
   rfl
  rw [e1, e2]; exact o1
 ·intro x hx
  obtain ⟨y, hy, rfl⟩ := List.mem_map.1 hx
  have hy := (List.mergeSort_perm _ _).subset hy
  obtain ⟨r, hr, rfl⟩ := List.mem_map.1 hy
  obtain ⟨en, _, hrk⟩ := F2.mem hkeys hr
  have : (r.key.toS.size : Int) ≤ dF := hrk.2.1
  show ((ByteArray.mk (r.key.toS.data.toList.toArray)).size : Int) ≤ dF
  have e3 : (ByteArray.mk (r.key.toS.data.toList.toArray)).size = r.key.toS.size := by
   show (r.key.toS.data.toList.toArray).size = r.key.toS.data.size
   rw [List.size_toArray, Array.length_toList]
  rw [e3]; exact this
theorem cL2 {P : Program} {k e : TypeId} {f g : FuncId} {kd : Kd} (hkd : jI kd = .int .i64) (hk : P.underlying k = some (.int .i64))
  (h : ∀ (w : World) (c b n : Nat) (D0 : DataW Unit), c < w.heap.size → w.cell? ⟨c, 0, none⟩ = some (.map (some b)) → w.ownsMap P k (fun _ => some (.nil, [])) b n D0 → Maps.size D0 ≤ maxLen → Maps.size D0 * 8 ≤ 140737488355328 →
   Calls P f #[.func (.func g) #[] #[.pointer (some ⟨c, 0, none⟩)]] w fun x w' => ∃ (v : Value) (ss : LI), x = .returned v ∧ ss.Perm (intKeys D0) ∧ w'.ownsRow w.heap.size e 1 v ss.length ((ss.mergeSort leI).map encZ) ∧ Below w.heap.size w w') :
  wQ P kd [.int .i64] pU f g := by
 intro w c b es clock L hc hcell m1 m2 m3 hL
 have hi : ∀ q, CK.int .i64 = .int q → q = .i64 := fun q h => by cases h; rfl
 have hkeys := iF.keys m2
 rw [hkd] at hkeys
 have hown := aU4 (R := fun _ => some (.nil, [])) (K := .int .i64) rfl hk hi m1 hkeys m3 (fun _ _ => ⟨_, rfl⟩)
 have hrg := aV2 (R := fun _ => some ((.nil : DataW Unit), [])) (K := .int .i64) rfl hk hi (fun _ => ⟨_, rfl⟩) hkeys
 have hsz : Maps.size (H := Unit) (.map ((es.map (rg P k fun _ => some (.nil, []))).foldr DataW.insert [])) = L.length := by
  show (List.foldr DataW.insert [] _).length = _
  rw [length_sorted, List.length_map, hkeys.len]
 refine (h w c b _ _ hc hcell hown (by rw [hsz]; have : (1000000000 : Nat) ≤ maxLen := by decide
                                       omega) (by rw [hsz]; omega)).mono ?_
 rintro x w' ⟨v, ss, rfl, hperm, hrow, hbel⟩
 have hp2 : ss.Perm (L.map fun r => r.key.toI) := by
  refine hperm.trans ?_
  have h1 : intKeys (H := Unit) (.map ((es.map (rg P k fun _ => some (.nil, []))).foldr DataW.insert [])) = (List.foldr DataW.insert [] (es.map (rg P k fun _ => some (.nil, [])))).map fun p => intOf p.1 := rfl
  rw [h1]
  refine ((WideShapes.sorted_perm _).map _).trans ?_
  rw [List.map_map]
  have h2 : es.map ((fun p => intOf p.1) ∘ (rg P k fun _ => some ((.nil : DataW Unit), []))) = (es.map fun e => (rg P k (fun _ => some ((.nil : DataW Unit), [])) e).1).map intOf := by rw [List.map_map]; rfl
  rw [h2, hrg, List.map_map]
  exact List.Perm.refl _
 obtain ⟨o1, o2⟩ := bK6 hrow
 rw [mergeSort_of_perm_i hp2] at o1
 have hlen : ss.length = L.length := by rw [hp2.length_eq, List.length_map]
 refine ⟨v, rfl, hbel, ?_, ?_, o2⟩
 ·have e1 : EK.len [.int .i64] (pU L) = ss.length := by
   show (List.mergeSort _ _).length = _
   rw [List.length_mergeSort, List.length_map, hlen]
  rw [e1]; exact o1
 ·intro x hx
  have hx := (List.mergeSort_perm _ _).subset hx
  obtain ⟨r, hr, rfl⟩ := List.mem_map.1 hx
  obtain ⟨en, _, hrk⟩ := F2.mem hkeys hr
  exact hrk.2.1
end Go.Vc
namespace Go.Vc
open Go.MapKept Go.RowKit
open Go.WideElems (rd rg)
def bB3 (K E : CK) : Sig :=
 { args := [.one (.lf (.mp (.at 0)))], heap := [.abs (.mp K E) [.at 0, .at 1]], aA := [.N, .L], res := .one (.lf (.mp (.at 2))), heap' := [.abs (.mp K E) [.at 2, .at 1], .abs (.mp K E) [.at 0, .at 1]], news := [.N],
   pre := fun _ => True, post := fun _ => True }
theorem cA9 {P : Program} {G : List Glob} {K E : CK} {f : FuncId} {fn : Func} (hf : P.funcs[f]? = some fn) (hn : (fn.name == "runtime.NumGoroutine") = false) (hb : fn.body.isSome = true)
  (h : ∀ (w : World) (b : Nat) (es : Array MapEntry) (clock : Nat), w.heap[b]? = some (.map es clock) → Calls P f #[.map (some b)] w fun e w' => e = .returned (.map (some w.heap.size)) ∧ w' = w.alloc (.map es clock)) : Kept P G f (bB3 K E) := by
 obtain ⟨bd, hb⟩ := Option.isSome_iff_exists.1 hb
 refine ⟨?_, fn, bd, hf, hn, hb⟩
 intro w args ρ hsr hp ha hh hg
 have hsr : aP [.N, .L] ρ := hsr
 match ρ, hsr with
 | [d0, d1], hsr =>
  obtain ⟨⟨b, rfl⟩, ⟨L, rfl⟩, _⟩ := hsr
  obtain ⟨v0, r0, e0, h0, e1⟩ := ha
  have q0 : v0 = .map (some b) := h0
  have q1 : r0 = [] := e1
  subst q0 q1
  have ea : args = #[.map (some b)] := Array.toList_inj.1 e0
  subst ea
  obtain ⟨es, clock, m1, m2, m3⟩ : ∃ es clock, bP w b es clock ∧ oQ K E es L ∧ aW L := hh.holds (.abs (.mp K E) [.at 0, .at 1]) (.head _)
  refine (h w b es.toArray clock m1.1).mono ?_
  rintro e w' ⟨rfl, rfl⟩
  have hx := jU w (.map es.toArray clock)
  have hl := m1.lt
  refine ⟨_, rfl, .inl ⟨[.N w.heap.size], ⟨⟨_, rfl⟩, trivial⟩, trivial, rfl, ?_, ?_, ?_, ⟨hx.os, hx.tape, hx.output, hx.size, fun x hx' _ => hx.block x hx'⟩⟩⟩
  ·refine ⟨fun c hc => ?_, ?_, fun c hc x hx' => ?_⟩
   ·have hc : c ∈ [Ch.abs (.mp K E) [.at 2, .at 1], .abs (.mp K E) [.at 0, .at 1]] := hc
    rcases List.mem_cons.1 hc with rfl | hc
    ·exact ⟨es, clock, ⟨alloc_at w _, m1.2⟩, m2, m3⟩
    ·rw [List.mem_singleton] at hc; subst hc
     exact ⟨es, clock, m1.congr (hx.block _ hl), m2, m3⟩
   ·show ([w.heap.size, b] : List Nat).Nodup
    simp only [List.nodup_cons, List.mem_singleton, List.not_mem_nil, not_false_eq_true, List.nodup_nil, and_true]
    omega
   ·have hc : c ∈ [Ch.abs (.mp K E) [.at 2, .at 1], .abs (.mp K E) [.at 0, .at 1]] := hc
    rcases List.mem_cons.1 hc with rfl | hc
    ·cases hx'
    ·rw [List.mem_singleton] at hc; subst hc; cases hx'
  ·intro x hx'
   have hx' : x ∈ [w.heap.size, b] := hx'
   rcases List.mem_cons.1 hx' with rfl | hx'
   ·exact .inr (Nat.le_refl _)
   ·rw [List.mem_singleton] at hx'; subst hx'
    exact .inl (by show x ∈ [x]; simp)
  ·intro x hx'
   cases hx'
theorem bK9 {α β : Type} {f : α → β} : ∀ {l1 : List β} {l2 : List α}, l1.Perm (l2.map f) → ∃ l : List α, l.Perm l2 ∧ l.map f = l1
 | [], l2, h => by
  have : l2 = [] := by simpa using h.symm.eq_nil
  subst this
  exact ⟨[], .refl _, rfl⟩
 | b :: l1, l2, h => by
  have hb : b ∈ l2.map f := h.subset (by simp)
  obtain ⟨a, ha, rfl⟩ := List.mem_map.1 hb
  obtain ⟨s, t, rfl⟩ := List.append_of_mem ha
  have h1 : l1.Perm ((s ++ t).map f) := by
   have : (f a :: l1).Perm (f a :: (s ++ t).map f) := h.trans (by
    rw [List.map_append, List.map_cons, List.map_append]
    exact List.perm_middle)
   exact this.cons_inv
  obtain ⟨l, e1, e2⟩ := bK9 h1
  exact ⟨a :: l, (e1.cons a).trans List.perm_middle.symm, by rw [List.map_cons, e2]⟩
def dY (LH : LD) (k : D) : Bool := aI LH k && (aB LH k).snd.toB
theorem aW1 (a b : D) : aQ a b = aQ b a := by
 cases a <;> cases b <;> first | rfl | (simp only [aQ]; exact Bool.beq_comm) | skip
def iZ : Value → Option (DataW Unit × List MemPlace)
 | .pointer (some ⟨n, 0, none⟩) => some (.lit (.int .u64 n), [])
 | _ => none
def aD4 : Lit → Int
 | .int _ n => n
 | _ => 0
def wZ (ek : EK) (g : FuncId) : Sig :=
 { args := [.one (.lf (.mp (.at 0))), .one (.lf (.clo g [] [.at 2]))], heap := [.abs (.mpp (.int .i64) ek) [.at 0, .at 1], .box (.at 2) [.lf (.mp (.at 3))], .abs (.mp (.int .i64) .bool) [.at 3, .at 4]], aA := [.N, .L, .N, .N, .L],
   res := .tup [], heap' := [.abs (.mpp (.int .i64) ek) [.at 0, .at 5], .box (.at 2) [.lf (.mp (.at 3))], .abs (.mp (.int .i64) .bool) [.at 3, .at 4]], news := [.L],
   pre := fun _ => True, post := fun l => (arg l 5).toL.Perm ((arg l 1).toL.filter fun r => dY (arg l 4).toL r.key) }
theorem cB4 {P : Program} {G : List Glob} {ek : EK} {f g : FuncId} {k : TypeId} {fn : Func} (hf : P.funcs[f]? = some fn) (hn : (fn.name == "runtime.NumGoroutine") = false) (hb : fn.body.isSome = true) (hk : P.underlying k = some (.int .i64))
  (h : ∀ (w : World) (b n c bh : Nat) (D0 : DataW Unit) (es : List MapEntry) (clock : Nat) (LH : LD) (te : TypeId) (fz : Nat × Nat), w.ownsMap P k iZ b n D0 → c ≠ b → bh ≠ b → w.heap[c]? = some (.cells #[.map (some bh)] te fz) → bP w bh es clock → F2 (RA (.int .i64) .bool) es LH →
   Calls P f #[.map (some b), .func (.func g) #[] #[.pointer (some ⟨c, 0, none⟩)]] w fun e w' => e = .returned (.tuple #[]) ∧ w'.ownsMap P k iZ b n (Lib.deleteFuncD (fun kl _ => !dY LH (.I (aD4 kl))) D0) ∧ w.grownBy w' (some b)) :
  Kept P G f (wZ ek g) := by
 obtain ⟨bd, hb⟩ := Option.isSome_iff_exists.1 hb
 refine ⟨?_, fn, bd, hf, hn, hb⟩
 intro w args ρ hsr hp ha hh hg
 have hsr : aP [.N, .L, .N, .N, .L] ρ := hsr
 match ρ, hsr with
 | [d0, d1, d2, d3, d4], hsr =>
  obtain ⟨⟨b, rfl⟩, ⟨L, rfl⟩, ⟨c, rfl⟩, ⟨bh, rfl⟩, ⟨LH, rfl⟩, _⟩ := hsr
  obtain ⟨v0, r0, e0, h0, v1, r1, e1, h1, e2⟩ := ha
  have q0 : v0 = .map (some b) := h0
  have q1 : v1 = .func (.func g) #[] #[.pointer (some ⟨c, 0, none⟩)] := h1
  have q2 : r1 = [] := e2
  subst q0 q1 q2 e1
  have ea : args = #[.map (some b), .func (.func g) #[] #[.pointer (some ⟨c, 0, none⟩)]] := Array.toList_inj.1 e0
  subst ea
  obtain ⟨es, clock, m1, m2, m3⟩ : ∃ es clock, bP w b es clock ∧ jK w (.int .i64) ek es L ∧ aW L := hh.holds (.abs (.mpp (.int .i64) ek) [.at 0, .at 1]) (.head _)
  obtain ⟨cs, te, fz, c1, c2, c3⟩ : ∃ cs te fz, w.heap[c]? = some (.cells cs te fz) ∧ gB fz cs.size ∧ aG [D.N b, .L L, .N c, .N bh, .L LH] [.lf (.mp (.at 3))] cs.toList := hh.holds (.box (.at 2) [.lf (.mp (.at 3))]) (.tail _ (.head _))
  obtain ⟨u1, s1, f1, i1, _, i2⟩ := c3
  have i1 : u1 = .map (some bh) := i1
  have i2 : s1 = [] := i2
  subst i1 i2
  have hcs : cs = #[.map (some bh)] := Array.toList_inj.1 f1
  subst hcs
  obtain ⟨esh, clockh, n1, n2, n3⟩ : ∃ es clock, bP w bh es clock ∧ oQ (.int .i64) .bool es LH ∧ aW LH := hh.holds (.abs (.mp (.int .i64) .bool) [.at 3, .at 4]) (.tail _ (.tail _ (.head _)))
  have m2 := lF.1 m2
  have n2 := lD.1 n2
  have hi : ∀ q, CK.int .i64 = .int q → q = .i64 := fun q h => by cases h; rfl
  have hkeys : F2 (RK (.int .i64)) es L := F2.imp (fun _ _ h => ⟨h.1, h.2.1⟩) m2
  have hown : owns [D.N b, .L L, .N c, .N bh, .L LH] (wZ ek g).heap = (b :: aN L) ++ [c, bh] := rfl
  have hnd := hh.nodup
  rw [hown] at hnd
  have hcb : c ≠ b ∧ bh ≠ b := by
   rw [List.cons_append, List.nodup_cons] at hnd
   exact ⟨fun he => hnd.1 (by simp [he]), fun he => hnd.1 (by simp [he])⟩
  have hba : b ∉ aN L := by
   rw [List.cons_append, List.nodup_cons] at hnd
   exact fun hm => hnd.1 (by simp [hm])
  have hR : ∀ e ∈ es, ∃ y, iZ e.val = some y := by
   intro e he
   obtain ⟨j, hj⟩ := List.mem_iff_getElem?.1 he
   obtain ⟨r, _, hr⟩ := F2.get m2 hj
   exact ⟨_, by rw [hr.2.2.1]; rfl⟩
  have hom := aU4 (R := iZ) (K := .int .i64) rfl hk hi m1 hkeys m3 hR
  -- the rows as data
  let φ : D → Lit × DataW Unit := fun r => (.int .i64 r.key.toI, .lit (.int .u64 r.snd.toN))
  have hφ : ∀ {es : List MapEntry} {L : LD}, F2 (RP w (.int .i64) ek) es L → es.map (rg P k iZ) = L.map φ := by
   intro es
   induction es with
   | nil => intro L hF; cases L with | nil => rfl | cons => exact hF.elim
   | cons e es ih =>
    intro L hF
    cases L with
    | nil => exact hF.elim
    | cons r L =>
     have hrd : rd P k iZ e = some (φ r) := by
      have h2 : iZ e.val = some (.lit (.int .u64 r.snd.toN), []) := by rw [hF.1.2.2.1]; rfl
      simp [rd, aR7 (K := .int .i64) rfl hk hi hF.1.1 hF.1.2.1.1, h2, φ, uY]
     rw [List.map_cons, List.map_cons, WideElems.rg_of hrd, ih hF.2]
  refine (h w b L.length c bh _ esh clockh LH te fz hom hcb.1 hcb.2 c1 n1 n2).mono ?_
  rintro e w' ⟨rfl, ⟨esA, clock', k1, k2, k3, k4⟩, hgr⟩
  have hsame : ∀ x, x < w.heap.size → x ≠ b → w'.heap[x]? = w.heap[x]? := fun x hx hxb => hgr.block x hx (by simpa using hxb)
  have k4 : (List.foldr DataW.insert [] (es.map (rg P k iZ))).filter (fun p => !(!dY LH (.I (aD4 p.1)))) = List.foldr DataW.insert [] (esA.toList.map (rg P k iZ)) := by
   injection k4
  have hperm : (esA.toList.map (rg P k iZ)).Perm ((L.filter fun r => dY LH r.key).map φ) := by
   refine (WideShapes.sorted_perm _).symm.trans ?_
   rw [← k4]
   refine ((WideShapes.sorted_perm _).filter _).trans ?_
   rw [hφ m2, List.filter_map]
   refine List.Perm.of_eq (congrArg (List.map φ) (List.filter_congr fun r hr => ?_))
   obtain ⟨e, _, hrp⟩ := F2.mem m2 hr
   have hw : D.I r.key.toI = r.key := hrp.2.1.2
   show (!(!dY LH (.I r.key.toI))) = _
   rw [hw, Bool.not_not]
  obtain ⟨L', hL1, hL2⟩ := bK9 hperm
  have hsub : ∀ r ∈ L', r ∈ L := fun r hr => (List.mem_filter.1 (hL1.subset hr)).1
  -- entries and rows again
  have hF' : ∀ {es' : List MapEntry} {L' : LD}, (∀ r ∈ L', r ∈ L) → (∀ x ∈ es', ∃ y, rd P k iZ x = some y) → L'.map φ = es'.map (rg P k iZ) → F2 (RP w' (.int .i64) ek) es' L' := by
   intro es'
   induction es' with
   | nil => intro L' _ _ he; cases L' with | nil => trivial | cons => simp at he
   | cons x es' ih =>
    intro L' hs hr he
    cases L' with
    | nil => simp at he
    | cons r L' =>
     simp only [List.map_cons, List.cons.injEq] at he
     refine ⟨?_, ih (fun r hr => hs r (by simp [hr])) (fun x hx => hr x (by simp [hx])) he.2⟩
     obtain ⟨y, hy⟩ := hr x (by simp)
     rw [WideElems.rg_of hy] at he
     have he := he.1
     obtain ⟨e0, _, hrp⟩ := F2.mem m2 (hs r (by simp))
     obtain ⟨p1, p2, p3, p4, p5, cs, t, fz', p6, p7⟩ := hrp
     have hkx := WideElems.rd_key hy
     obtain ⟨n, hxk, hyk, _⟩ := Maps.keyOf_i64 hk hkx
     rw [← he] at hyk
     have hyk : Lit.int .i64 r.key.toI = .int .i64 n := hyk
     obtain ⟨z, hz, hzz⟩ := WideElems.rd_val hy
     have hval : x.val = .pointer (some ⟨r.snd.toN, 0, none⟩) := by
      rw [← he] at hzz
      unfold iZ at hz
      split at hz
      ·rename_i m hm
       cases hz
       have hzz : (DataW.lit (.int .u64 (r.snd.toN : Int)) : DataW Unit) = .lit (.int .u64 (m : Int)) := hzz
       injection hzz with hzz
       injection hzz with _ hzz
       have : r.snd.toN = m := by exact_mod_cast hzz
       rw [hm, this]
      ·cases hz
     refine ⟨?_, p2, hval, p4, p5, cs, t, fz', ?_, p7⟩
     ·show [Value.int .i64 r.key.toI] = [x.key]
      injection hyk with _ hyk
      rw [hxk, hyk]
     ·rw [hsame _ (Array.getElem?_eq_some_iff.1 p6).1 (fun hb => hba (by rw [← hb]; exact List.mem_map_of_mem (hs r (by simp))))]; exact p6
  have hRP := hF' hsub (fun x hx => k2.reads x (by simpa using hx)) hL2
  have hMap : bP w' b esA.toList clock' := ⟨by rw [k1], k2.stamped.2.1, k2.stamped.1, by rw [Array.length_toList]; exact k2.size⟩
  have hkeyN : aW L' := by
   have h1 : aW (L.filter fun r => dY LH r.key) := m3.filter _
   refine (hL1.pairwise_iff (fun {a b} hab => ?_)).2 h1
   exact (aW1 _ _).trans hab
  have hadr : ∀ x ∈ aN L', x ∈ aN L := by
   intro x hx
   obtain ⟨r, hr, rfl⟩ := List.mem_map.1 hx
   exact List.mem_map_of_mem (hsub r hr)
  have hadn : (aN L').Nodup := by
   have h1 : (aN (L.filter fun r => dY LH r.key)).Nodup := by
    have h2 : (aN L).Nodup := by
     rw [List.cons_append, List.nodup_cons, List.nodup_append] at hnd
     exact hnd.2.1
    exact (List.filter_sublist.map _).nodup h2
   exact ((hL1.map _).nodup_iff).2 h1
  refine ⟨_, rfl, .inl ⟨[.L L'], ⟨⟨_, rfl⟩, trivial⟩, hL1, ⟨#[], rfl, rfl⟩, ?_, ?_, ?_, ⟨hgr.os, hgr.tape, hgr.output, hgr.size, fun x hx hnx => hsame x hx fun he => hnx ?_⟩⟩⟩
  ·have hclt := (Array.getElem?_eq_some_iff.1 c1).1
   refine ⟨fun ch hc => ?_, ?_, fun ch hc x hx' => ?_⟩
   ·have hc : ch ∈ [Ch.abs (.mpp (.int .i64) ek) [.at 0, .at 5], .box (.at 2) [.lf (.mp (.at 3))], .abs (.mp (.int .i64) .bool) [.at 3, .at 4]] := hc
    rcases List.mem_cons.1 hc with rfl | hc
    ·exact ⟨esA.toList, clock', hMap, lF.2 hRP, hkeyN⟩
    ·rcases List.mem_cons.1 hc with rfl | hc
     ·exact ⟨_, te, fz, (hsame c hclt hcb.1).trans c1, c2, ⟨_, [], rfl, rfl, rfl, rfl⟩⟩
     ·rw [List.mem_singleton] at hc; subst hc
      exact ⟨esh, clockh, n1.congr (hsame bh n1.lt hcb.2), lD.2 n2, n3⟩
   ·show ((b :: aN L') ++ [c, bh]).Nodup
    rw [List.nodup_append] at hnd ⊢
    refine ⟨List.nodup_cons.2 ⟨fun hm => hba (hadr _ hm), hadn⟩, hnd.2.1, fun x hx y hy => hnd.2.2 x ?_ y hy⟩
    rcases List.mem_cons.1 hx with rfl | hx
    ·simp
    ·exact List.mem_cons_of_mem _ (hadr x hx)
   ·have hc : ch ∈ [Ch.abs (.mpp (.int .i64) ek) [.at 0, .at 5], .box (.at 2) [.lf (.mp (.at 3))], .abs (.mp (.int .i64) .bool) [.at 3, .at 4]] := hc
    rcases List.mem_cons.1 hc with rfl | hc
    ·cases hx'
    ·rcases List.mem_cons.1 hc with rfl | hc
     ·cases hx'
     ·rw [List.mem_singleton] at hc; subst hc; cases hx'
  ·intro x hx'
   have hx' : x ∈ (b :: aN L') ++ [c, bh] := hx'
   refine .inl (show x ∈ owns [D.N b, .L L, .N c, .N bh, .L LH] (wZ ek g).heap from ?_)
   rw [hown]
   rcases List.mem_append.1 hx' with hx' | hx'
   ·rcases List.mem_cons.1 hx' with rfl | hx'
    ·simp
    ·exact List.mem_append.2 (.inl (List.mem_cons_of_mem _ (hadr x hx')))
   ·exact List.mem_append.2 (.inr hx')
  ·intro x hx'
   cases hx'
  ·show x ∈ owns [D.N b, .L L, .N c, .N bh, .L LH] (wZ ek g).heap
   rw [hown, he]; simp
end Go.Vc