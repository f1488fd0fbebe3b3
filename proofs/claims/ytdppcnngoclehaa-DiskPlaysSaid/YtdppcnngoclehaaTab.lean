/-
 Package-level tables: from what a row lists to what the walk wants.
 A slice of plain elements that came in: what it holds.
-/
import Derived.Test.YtdppcnngoclehaaVcd
import Derived.OpenShut
import Derived.FnData
import Derived.ChangeArms
import GoSem.ClaimJoined
import Derived.Deep.Slices
import Derived.WideShapes
set_option linter.unusedVariables false
set_option linter.unusedSimpArgs false
open _root_.Go.IntKind (wrap)
namespace Go.Vc
end Go.Vc
namespace Go.Vc
open Go.WideShapes Go.Deep
def xH (P : Program) (rec_ : TypeId → Option EK) : List Field → Nat → Nat → Option EK
 | [], off, tot => if off = tot then some [] else none
 | fd :: r, off, tot => match rec_ fd.type with
  | some ek => if fd.offset = off ∧ P.cellsOf fd.type = ek.width then (match xH P rec_ r (off + ek.width) tot with | some ek' => some (ek ++ ek') | none => none) else none
  | none => none
def xJ (P : Program) : Nat → TypeId → Option EK
 | 0, _ => none
 | f + 1, t => match P.underlying t with
  | some (.int k) => some [.int k]
  | some .bool => some [.bool]
  | some .string => some [.str]
  | some (.array n e) => match P.underlying e with
   | some (.int k) => if P.cellsOf e = 1 ∧ P.cellsOf t = n then some [.ints k n] else none
   | _ => none
  | some (.struct fs) => xH P (xJ P f) fs.toList 0 (P.cellsOf t)
  | some (.slice e) => match xJ P f e with
   | some ek => if ek.width = P.cellsOf e ∧ 0 < ek.width then some [.sl ek] else none
   | none => none
  | _ => none
theorem bA6 {ek' : EK} {ds' : LD} : ∀ {ek : EK} {ds : LD}, ds.length = ek.length → bI (ek ++ ek') (ds ++ ds') = bI ek ds ++ bI ek' ds'
 | [], [], _ => rfl
 | c :: cs, d :: ds, h => by
  simp only [List.cons_append, bI, List.append_assoc]
  rw [bA6 (by simpa using h)]
 | [], _ :: _, h => by simp at h
 | _ :: _, [], h => by simp at h
theorem bA9 {ek' : EK} {ds' : LD} : ∀ {ek : EK} {ds : LD}, dH ek ds → dH ek' ds' → dH (ek ++ ek') (ds ++ ds')
 | [], [], _, h => h
 | _ :: _, _ :: _, h, h' => ⟨h.1, bA9 h.2 h'⟩
 | [], _ :: _, h, _ => h.elim
 | _ :: _, [], h, _ => h.elim
theorem aM2 : ∀ {ek : EK} {ds : LD}, dH ek ds → ds.length = ek.length
 | [], [], _ => rfl
 | _ :: ek, _ :: ds, h => by simp [aM2 h.2]
 | [], _ :: _, h => h.elim
 | _ :: _, [], h => h.elim
theorem aA7 : ∀ {ek : EK} {ds : LD}, dH ek ds → (bI ek ds).length = ek.width
 | [], [], _ => rfl
 | c :: ek, d :: ds, h => by
  simp only [bI, List.length_append, aA7 h.2, EK.width, List.map_cons, List.foldr_cons]
  congr 1
  cases c with
  | ints k n => simp only [CK.cells, CK.width, List.length_map]; exact h.1.1
  | _ => rfl
 | [], _ :: _, h => h.elim
 | _ :: _, [], h => h.elim
theorem bB7 {w : World} {ek' : EK} {ds' : LD} : ∀ {ek : EK} {ds : LD}, ds.length = ek.length → gK w ek ds → gK w ek' ds' → gK w (ek ++ ek') (ds ++ ds')
 | [], [], _, _, h => h
 | _ :: _, _ :: _, hl, h, h' => ⟨h.1, bB7 (by simpa using hl) h.2 h'⟩
 | [], _ :: _, hl, _, _ => by simp at hl
 | _ :: _, [], hl, _, _ => by simp at hl
variable {H : Type} {enc : TypeId × Value → H} {P : Program} {w : World} {base : Nat} {spare : Nat → Bool} {held : Bool}
theorem bE0 {rec_ : TypeId → Option EK} {n : Nat} {cs : List Value} (hrec : ∀ t ek cs x, rec_ t = some ek → DataW.trod enc P w base spare held n t cs = some x → ∃ ds, cs = bI ek ds ∧ dH ek ds ∧ gK w ek ds) :
  ∀ {fds : List Field} {off tot : Nat} {ek : EK}, xH P rec_ fds off tot = some ek → (∀ fd ∈ fds, ∃ y, DataW.trod enc P w base spare held n fd.type ((cs.drop fd.offset).take (P.cellsOf fd.type)) = some y) → cs.length = tot →
   ∃ ds, cs.drop off = bI ek ds ∧ dH ek ds ∧ gK w ek ds
 | [], off, tot, ek, h, _, hl => by
  simp only [xH] at h
  split at h
  ·cases h
   exact ⟨[], by rw [List.drop_of_length_le (by omega)]; rfl, trivial, trivial⟩
  ·cases h
 | fd :: r, off, tot, ek, h, hy, hl => by
  simp only [xH] at h
  split at h
  ·rename_i ek1 h1
   split at h
   ·rename_i hc
    obtain ⟨ho, hw⟩ := hc
    split at h
    ·rename_i ek2 h2
     cases h
     obtain ⟨y, hy1⟩ := hy fd (by simp)
     obtain ⟨ds1, e1, k1, d1⟩ := hrec _ _ _ _ h1 hy1
     obtain ⟨ds2, e2, k2, d2⟩ := bE0 hrec h2 (fun fd hfd => hy fd (by simp [hfd])) hl
     refine ⟨ds1 ++ ds2, ?_, bA9 k1 k2, bB7 (aM2 k1) d1 d2⟩
     rw [bA6 (aM2 k1), ← e1, ← e2, ho, hw, ← List.drop_drop, List.take_append_drop]
    ·cases h
   ·cases h
  ·cases h
theorem bE1 {α : Type} {f : Nat → List α} {wd : Nat} : ∀ {n : Nat}, (∀ i, i < n → (f i).length = wd) → ∀ {j : Nat} {u : α}, ((List.range n).flatMap f)[j]? = some u → ∃ i r, i < n ∧ r < wd ∧ j = i * wd + r ∧ (f i)[r]? = some u
 | 0, _, j, u, h => by simp at h
 | n + 1, hw, j, u, h => by
  rw [List.range_succ, List.flatMap_append] at h
  simp only [List.flatMap_cons, List.flatMap_nil, List.append_nil] at h
  have hl : ((List.range n).flatMap f).length = n * wd := by
   clear h
   have hw' : ∀ i, i < n → (f i).length = wd := fun i hi => hw i (by omega)
   clear hw
   induction n with
   | zero => simp
   | succ n ih =>
    rw [List.range_succ, List.flatMap_append]
    simp only [List.flatMap_cons, List.flatMap_nil, List.append_nil, List.length_append]
    rw [ih (fun i hi => hw' i (by omega)), hw' n (by omega), Nat.succ_mul]
  by_cases c : j < n * wd
  ·rw [List.getElem?_append_left (by omega)] at h
   obtain ⟨i, r, h1, h2, h3, h4⟩ := bE1 (fun i hi => hw i (by omega)) h
   exact ⟨i, r, by omega, h2, h3, h4⟩
  ·rw [List.getElem?_append_right (by omega), hl] at h
   have : j - n * wd < (f n).length := by
    apply Classical.byContradiction
    intro hc
    rw [List.getElem?_eq_none (by omega)] at h; cases h
   rw [hw n (by omega)] at this
   exact ⟨n, j - n * wd, by omega, this, by omega, h⟩
def dU (ek : EK) (len : Nat) (ds : Nat → LD) : D :=
 match ek with
 | [.int _] => .Z ((List.range len).map fun i => ((ds i).headD default).toI)
 | [_] => .L ((List.range len).map fun i => (ds i).headD default)
 | _ => .L ((List.range len).map fun i => .L (ds i))
theorem lM {c : CK} {ds : LD} (h : dH [c] ds) : ∃ y, ds = [y] ∧ c.ok y := by
 match ds, h with
 | [y], h => exact ⟨y, rfl, h.1⟩
theorem bN0 {ek : EK} {len : Nat} {ds : Nat → LD} (h : ∀ i, i < len → dH ek (ds i)) :
  (rD ek).ok (dU ek len ds) ∧ ek.len (dU ek len ds) = len ∧ ek.cells (dU ek len ds) = (List.range len).flatMap (fun i => bI ek (ds i)) ∧ ek.ok (dU ek len ds) := by
 match ek, h with
 | [.int k], h =>
  refine ⟨⟨_, rfl⟩, by simp [dU, EK.len], ?_, ?_⟩
  ·simp only [dU, EK.cells, D.toLi_Z, List.map_map, List.flatMap_def]
   rw [show (List.range len).map (fun i => bI [CK.int k] (ds i)) = (List.range len).map (fun i => [Value.int k ((ds i).headD default).toI]) from List.map_congr_left (fun i hi => by
    obtain ⟨y, e, _⟩ := lM (h i (List.mem_range.1 hi))
    rw [e]; rfl)]
   rw [← List.flatMap_def, List.map_eq_flatMap]
   rfl
  ·intro x hx
   simp only [dU, D.toLi_Z, List.mem_map, List.mem_range] at hx
   obtain ⟨i, hi, rfl⟩ := hx
   obtain ⟨y, e, hy⟩ := lM (h i hi)
   rw [e]; exact hy
 | [.bool], h =>
  refine ⟨⟨_, rfl⟩, by simp [dU, EK.len], ?_, ?_⟩
  ·simp only [dU, EK.cells, D.toL_L, List.flatMap_def, List.map_map]
   congr 1
   apply List.map_congr_left
   intro i hi
   obtain ⟨y, e, _⟩ := lM (h i (List.mem_range.1 hi))
   simp only [Function.comp, e, bI, List.headD_cons, List.append_nil]
  ·intro x hx
   simp only [dU, D.toL_L, List.mem_map, List.mem_range] at hx
   obtain ⟨i, hi, rfl⟩ := hx
   obtain ⟨y, e, hy⟩ := lM (h i hi)
   rw [e]; exact hy
 | [.sl _], h =>
  refine ⟨⟨_, rfl⟩, by simp [dU, EK.len], ?_, ?_⟩
  ·simp only [dU, EK.cells, D.toL_L, List.flatMap_def, List.map_map]
   congr 1
   apply List.map_congr_left
   intro i hi
   obtain ⟨y, e, _⟩ := lM (h i (List.mem_range.1 hi))
   simp only [Function.comp, e, bI, List.headD_cons, List.append_nil]
  ·intro x hx
   simp only [dU, D.toL_L, List.mem_map, List.mem_range] at hx
   obtain ⟨i, hi, rfl⟩ := hx
   obtain ⟨y, e, hy⟩ := lM (h i hi)
   rw [e]; exact hy
 | [.str], h =>
  refine ⟨⟨_, rfl⟩, by simp [dU, EK.len], ?_, ?_⟩
  ·simp only [dU, EK.cells, D.toL_L, List.flatMap_def, List.map_map]
   congr 1
   apply List.map_congr_left
   intro i hi
   obtain ⟨y, e, _⟩ := lM (h i (List.mem_range.1 hi))
   simp only [Function.comp, e, bI, List.headD_cons, List.append_nil]
  ·intro x hx
   simp only [dU, D.toL_L, List.mem_map, List.mem_range] at hx
   obtain ⟨i, hi, rfl⟩ := hx
   obtain ⟨y, e, hy⟩ := lM (h i hi)
   rw [e]; exact hy
 | [.ints k n], h =>
  refine ⟨⟨_, rfl⟩, by simp [dU, EK.len], ?_, ?_⟩
  ·simp only [dU, EK.cells, D.toL_L, List.flatMap_def, List.map_map]
   congr 1
   apply List.map_congr_left
   intro i hi
   obtain ⟨y, e, _⟩ := lM (h i (List.mem_range.1 hi))
   simp only [Function.comp, e, bI, List.headD_cons, List.append_nil]
  ·intro x hx
   simp only [dU, D.toL_L, List.mem_map, List.mem_range] at hx
   obtain ⟨i, hi, rfl⟩ := hx
   obtain ⟨y, e, hy⟩ := lM (h i hi)
   rw [e]; exact hy
 | [], h =>
  refine ⟨⟨_, rfl⟩, by simp [dU, EK.len], ?_, ?_⟩
  ·simp only [dU, EK.cells, D.toL_L, List.flatMap_def, List.map_map]; rfl
  ·intro x hx
   simp only [dU, D.toL_L, List.mem_map, List.mem_range] at hx
   obtain ⟨i, hi, rfl⟩ := hx
   exact h i hi
 | c :: c' :: cs, h =>
  have e1 : dU (c :: c' :: cs) len ds = .L ((List.range len).map fun i => .L (ds i)) := by cases c <;> rfl
  have e2 : rD (c :: c' :: cs) = .L := by cases c <;> rfl
  have e3 : ∀ x, EK.len (c :: c' :: cs) x = x.toL.length := by intro x; cases c <;> rfl
  have e4 : ∀ x, EK.cells (c :: c' :: cs) x = x.toL.flatMap fun r => bI (c :: c' :: cs) r.toL := by intro x; cases c <;> rfl
  have e5 : ∀ x, EK.ok (c :: c' :: cs) x ↔ ∀ r ∈ x.toL, dH (c :: c' :: cs) r.toL := by intro x; cases c <;> exact Iff.rfl
  rw [e1, e2, e3, e4, e5]
  refine ⟨⟨_, rfl⟩, by simp, ?_, ?_⟩
  ·simp only [D.toL_L, List.flatMap_def, List.map_map]; rfl
  ·intro x hx
   simp only [D.toL_L, List.mem_map, List.mem_range] at hx
   obtain ⟨i, hi, rfl⟩ := hx
   exact h i hi
theorem bB8 {ek : EK} {len : Nat} {ds : Nat → LD} (h : ∀ i, i < len → dH ek (ds i)) (hd : ∀ i, i < len → gK w ek (ds i)) : fQ w ek (dU ek len ds) := by
 intro x hx
 match ek, h, hd, hx with
 | [], _, _, _ => trivial
 | [.int _], _, _, _ => exact ⟨trivial, trivial⟩
 | [.bool], _, _, _ => exact ⟨trivial, trivial⟩
 | [.str], _, _, _ => exact ⟨trivial, trivial⟩
 | [.ints _ _], _, _, _ => exact ⟨trivial, trivial⟩
 | [.sl e], h, hd, hx =>
  have hx : x ∈ (List.range len).map fun i => (ds i).headD default := hx
  obtain ⟨i, hi, rfl⟩ := List.mem_map.1 hx
  have hi := List.mem_range.1 hi
  obtain ⟨y, e1, _⟩ := lM (h i hi)
  have := hd i hi
  rw [e1] at this ⊢
  exact this
 | c :: c' :: cs, _, hd, hx =>
  have e1 : dU (c :: c' :: cs) len ds = .L ((List.range len).map fun i => .L (ds i)) := by cases c <;> rfl
  have e2 : ∀ y, aJ (c :: c' :: cs) y = y.toL := by intro y; cases c <;> rfl
  have e3 : ∀ y, kF (c :: c' :: cs) y = y.toL := by intro y; cases c <;> rfl
  rw [e1, e2] at hx
  obtain ⟨i, hi, rfl⟩ := List.mem_map.1 (show x ∈ (List.range len).map fun i => D.L (ds i) from hx)
  rw [e3]
  exact hd i (List.mem_range.1 hi)
theorem bO4 {e t : TypeId} {ek : EK} {fuel : Nat} {cs : List Value} {x : DataW H × List MemPlace}
  (hrec : ∀ n cs x, DataW.trod enc P w 0 (fun _ => true) held n e cs = some x → ∃ ds, cs = bI ek ds ∧ dH ek ds ∧ gK w ek ds) (ht : P.underlying t = some (.slice e)) (hw : ek.width = P.cellsOf e)
  (hpos : 0 < ek.width ∨ ∀ ad n c, cs = [.slice (some ad) n c] → ad.spot = none ∧ ad.block < w.heap.size) (h : DataW.trod enc P w 0 (fun _ => true) held fuel t cs = some x) :
  ∃ v pl, cs = [v] ∧ (rD ek).ok pl ∧ gX w v ek.width (ek.len pl) (ek.cells pl) ∧ ek.ok pl ∧ fQ w ek pl := by
 rcases open_slice ht h with ⟨rfl, _⟩ | ⟨ad, len, cap, m, n, Dd, Pl, rfl, _, hl, hm, hmm, _, hx⟩
 ·have := bN0 (ek := ek) (len := 0) (ds := fun _ => []) (fun i hi => by omega)
  refine ⟨_, _, rfl, this.1, .inl ⟨rfl, this.2.1, ?_⟩, this.2.2.2, bB8 (fun i hi => by omega) (fun i hi => by omega)⟩
  rw [this.2.2.1]; rfl
 ·have hds : ∀ i, ∃ ds, i < len → w.cells? 0 (ad.add (i * ek.width)) ek.width = some (bI ek ds) ∧ dH ek ds ∧ gK w ek ds := by
   intro i
   by_cases hi : i < len
   ·obtain ⟨cs', h1, h2⟩ := hx i (by rw [hmm]; simp; omega)
    obtain ⟨ds, e1, e2⟩ := hrec _ _ _ h2
    exact ⟨ds, fun _ => ⟨by rw [hw, h1, e1], e2⟩⟩
   ·exact ⟨[], fun h => absurd h hi⟩
  obtain ⟨ds, hds⟩ := Classical.axiomOfChoice hds
  have := bN0 (ek := ek) (len := len) (ds := ds) (fun i hi => (hds i hi).2.1)
  refine ⟨_, _, rfl, this.1, ?_, this.2.2.2, bB8 (fun i hi => (hds i hi).2.1) (fun i hi => (hds i hi).2.2)⟩
  by_cases hz : len = 0
  ·subst hz
   refine .inr (.inl ⟨ad, cap, rfl, this.2.1, ?_⟩)
   rw [this.2.2.1]; rfl
  have hsb : ad.spot = none ∧ ad.block < w.heap.size := by
   rcases hpos with hpos | hpos
   ·obtain ⟨_, hlen, hat⟩ := World.cells?_some (hds 0 (by omega)).1
    have h0 := hat 0 hpos
    obtain ⟨u, hu⟩ : ∃ u, (bI ek (ds 0))[0]? = some u := ⟨_, List.getElem?_eq_getElem (by rw [aA7 (hds 0 (by omega)).2.1]; exact hpos)⟩
    rw [hu, Nat.zero_mul] at h0
    have ha : (ad.add 0).add 0 = ad := by simp [Addr.add]
    rw [ha] at h0
    unfold World.cell? at h0
    split at h0
    ·rename_i hb
     split at h0
     ·cases h0
     ·rename_i hs
      exact ⟨by simpa using hs, (Array.getElem?_eq_some_iff.1 hb).1⟩
    ·cases h0
   ·exact hpos ad len cap rfl
  obtain ⟨hs, hb⟩ := hsb
  refine .inr (.inr ⟨ad, cap, by rw [this.2.1], hs, hb, by rw [this.2.1]; exact hl, hm, ?_, ?_⟩)
  ·rw [this.2.2.1, this.2.1, List.length_flatMap]
   have : (List.range len).map (fun i => (bI ek (ds i)).length) = List.replicate len ek.width := by
    apply List.ext_getElem (by simp)
    intro i h1 h2
    simp only [List.getElem_map, List.getElem_range, List.getElem_replicate]
    exact aA7 (hds i (by simpa using h1)).2.1
   rw [this]; simp
  ·intro j u hj
   rw [this.2.2.1] at hj
   obtain ⟨i, r, hi, hr, rfl, hu⟩ := bE1 (fun i hi => aA7 (hds i hi).2.1) hj
   obtain ⟨_, hlen, hat⟩ := World.cells?_some (hds i hi).1
   have := hat r hr
   rw [hu] at this
   rw [← this, Addr.mW hs, Addr.mW hs, Addr.mW rfl]
   simp only [Nat.add_assoc]
theorem aX3 : ∀ {f : Nat} {t : TypeId} {ek : EK} {fuel : Nat} {cs : List Value} {x : DataW H × List MemPlace}, xJ P f t = some ek → DataW.trod enc P w 0 (fun _ => true) held fuel t cs = some x → ∃ ds, cs = bI ek ds ∧ dH ek ds ∧ gK w ek ds
 | 0, _, _, _, _, _, h, _ => by cases h
 | f + 1, t, ek, fuel, cs, x, h, hx => by
  simp only [xJ] at h
  split at h
  ·rename_i k hu
   cases h
   obtain ⟨n, rfl, _, hw⟩ := DataW.trod_int hu hx
   exact ⟨[.I n], rfl, ⟨aX9 hw, trivial⟩, trivial, trivial⟩
  ·rename_i hu
   cases h
   obtain ⟨b, rfl, _⟩ := DataW.trod_bool hu hx
   exact ⟨[.B b], rfl, ⟨trivial, trivial⟩, trivial, trivial⟩
  ·rename_i hu
   cases h
   obtain ⟨s, rfl, _, hs⟩ := DataW.trod_string hu hx
   refine ⟨[.S s], rfl, ⟨?_, trivial⟩, trivial, trivial⟩
   have h1 := maxLen_eq
   have h2 : dF = 9223372036854775807 := rfl
   show (s.size : Int) ≤ dF
   omega
  ·rename_i n e hu
   split at h
   ·rename_i k he
    split at h
    ·rename_i hc
     cases h
     obtain ⟨xs, m, rfl, _, hlen, hn, hel⟩ := DataW.trod_array hu hx
     rw [hc.2] at hlen
     have hat : ∀ i, i < n → ∃ z, cs[i]? = some (.int k z) ∧ k.has z := by
      intro i hi
      have h1 := hel i hi
      rw [hc.1, Nat.mul_one, List.getElem?_eq_getElem (show i < xs.length by omega)] at h1
      obtain ⟨z, e1, _, e3⟩ := DataW.trod_int he h1
      refine ⟨z, ?_, aX9 e3⟩
      have := congrArg (fun l : List Value => l[0]?) e1
      simpa using this
     have hz : ∃ zs : LI, cs = zs.map (.int k) ∧ ∀ z ∈ zs, k.has z := by
      refine ⟨cs.map fun v => match v with | .int _ z => z | _ => 0, ?_, ?_⟩
      ·apply List.ext_getElem?
       intro i
       by_cases hi : i < n
       ·obtain ⟨z, e1, _⟩ := hat i hi
        simp [e1]
       ·rw [List.getElem?_eq_none (by omega), List.getElem?_eq_none (by simp; omega)]
      ·intro z hz
       obtain ⟨v, hv, rfl⟩ := List.mem_map.1 hz
       obtain ⟨i, hi, rfl⟩ := List.mem_iff_getElem.1 hv
       obtain ⟨z, e1, e2⟩ := hat i (by omega)
       rw [List.getElem?_eq_getElem hi] at e1
       rw [Option.some.inj e1]; exact e2
     obtain ⟨zs, rfl, hz⟩ := hz
     refine ⟨[.Z zs], by simp [bI, CK.cells], ⟨⟨by simpa using hlen, hz⟩, trivial⟩, trivial, trivial⟩
    ·cases h
   ·cases h
  ·rename_i fs hu
   obtain ⟨xs, n, rfl, _, hlen, hn, hel⟩ := DataW.trod_struct hu hx
   have := bE0 (n := n) (cs := cs) (fun t ek cs x h1 h2 => aX3 h1 h2) h (fun fd hfd => by
    obtain ⟨i, hi, rfl⟩ := List.mem_iff_getElem.1 hfd
    have hi' : i < fs.size := by simpa using hi
    have h1 := hel i fs[i] (by rw [Array.getElem?_eq_getElem hi'])
    refine ⟨xs[i], ?_⟩
    rw [Array.getElem_toList, h1, List.getElem?_eq_getElem]) hlen
   simpa using this
  ·rename_i e hu
   split at h
   ·rename_i ek1 h1
    split at h
    ·rename_i hc
     cases h
     obtain ⟨v, pl, rfl, _, hrd, hok, hdp⟩ := bO4 (ek := ek1) (fun n cs x hx => aX3 h1 hx) hu hc.1 (.inl hc.2) hx
     refine ⟨[.L [.V v, pl]], rfl, ⟨⟨⟨⟨v, pl, rfl⟩, ?_⟩, (aA9 ek1 pl).2 hok⟩, trivial⟩, ⟨⟨hrd, hdp⟩, trivial⟩⟩
     rcases hrd with ⟨h1, _⟩ | ⟨_, _, h1, _⟩ | ⟨_, _, h1, _⟩ <;> (show one v; rw [h1]; rfl)
    ·cases h
   ·cases h
  ·cases h
theorem cF4 {t e : TypeId} {ek : EK} {f : Nat} {v : Value} {d : DataW H} {p : List MemPlace} (ht : P.underlying t = some (.slice e)) (hk : xJ P f e = some ek) (hw : ek.width = P.cellsOf e)
  (hok : Value.okWide P w .any base t v) (h : DataW.Trod enc P w 0 (fun _ => true) true t v d p) :
  ∃ pl : D, (rD ek).ok pl ∧ gX w v ek.width (ek.len pl) (ek.cells pl) ∧ ek.ok pl ∧ fQ w ek pl := by
 obtain ⟨a, len, cap, rfl⟩ := okWide_slice ht hok
 obtain ⟨fuel, hf⟩ := h
 have hc : (Value.slice a len cap).cells.toList = [Value.slice a len cap] := rfl
 rw [hc] at hf
 obtain ⟨v, pl, hv, h1, h2, h3, h4⟩ := bO4 (ek := ek) (fun n cs x hx => aX3 hk hx) ht hw (.inr (by
  intro ad n c he
  simp only [List.cons.injEq, and_true] at he
  cases he
  simp only [Value.okWide, ht, Cell.okWide, Cell.ok] at hok
  obtain ⟨_, _, _, hs, row, cells, hsh, _⟩ := hok
  refine ⟨hs, ?_⟩
  apply Classical.byContradiction
  intro hge
  rw [World.shape?, Array.getElem?_eq_none (by omega)] at hsh
  cases hsh)) hf
 simp only [List.cons.injEq, and_true] at hv
 subst hv
 exact ⟨pl, h1, h2, h3, h4⟩
theorem cK7 {ρ : LD} {v : Value} {i : Nat} (h : ρ[i]? = some (.V v)) : (SV.one (.lf (.sl (.at i)))).holds ρ v := by
 have e : (Tm.den ρ (.at i)) = .V v := by simp [Tm.den, List.getD, h]
 show v = (Tm.den ρ (.at i)).toV
 rw [e]; rfl
theorem cJ5 {ρ : LD} {w : World} {v : Value} {pl : D} {ek : EK} {i : Nat} (h : ρ[i]? = some (.V v)) (h' : ρ[i + 1]? = some pl) (hr : gX w v ek.width (ek.len pl) (ek.cells pl)) (ho : ek.ok pl) :
  (Ch.rsl (.at i) ek (.at (i + 1))).holds ρ w := by
 have e : (Tm.den ρ (.at i)) = .V v := by simp [Tm.den, List.getD, h]
 have e' : (Tm.den ρ (.at (i + 1))) = pl := by simp [Tm.den, List.getD, h']
 show gX w (Tm.den ρ (.at i)).toV ek.width (ek.len (Tm.den ρ (.at (i + 1)))) (ek.cells (Tm.den ρ (.at (i + 1)))) ∧ ek.ok (Tm.den ρ (.at (i + 1)))
 rw [e, e']; exact ⟨hr, ho⟩
theorem bW2 {ρ : LD} {w : World} {pl : D} {ek : EK} {i : Nat} (h' : ρ[i]? = some pl) (hd : fQ w ek pl) : (Ch.abs (.deep ek) [.at i]).holds ρ w := by
 have e' : (Tm.den ρ (.at i)) = pl := by simp [Tm.den, List.getD, h']
 show fQ w ek (Tm.den ρ (.at i))
 rw [e']; exact hd
theorem cJ4 {ρ : LD} {w : World} {as : List AK} (h : ∀ c ∈ mX false 0 as, c.holds ρ w) : aH ρ (mX false 0 as) w :=
 ⟨h, by rw [yH]; simp, fun _ _ b _ => by rw [yH]; simp⟩
theorem bV6 {ρ : LD} {w : World} : ∀ c ∈ ([] : List Ch), c.holds ρ w := by simp
theorem bA5 {ρ : LD} {w : World} {c : Ch} {cs : List Ch} (h : c.holds ρ w) (h' : ∀ c ∈ cs, c.holds ρ w) : ∀ x ∈ c :: cs, x.holds ρ w := by
 intro x hx
 rcases List.mem_cons.1 hx with rfl | hx
 ·exact h
 ·exact h' x hx
end Go.Vc