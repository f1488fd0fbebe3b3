/-
 Package-level tables: from what a row lists to what the walk wants.
 A slice of plain elements that came in: what it holds.
-/
import Derived.Test.YtmgeaephkagdiaaGreatDoorVcd
import Derived.OpenShut
import Derived.FnData
import Derived.ChangeArms
import GoSem.ClaimJoined
import Derived.Deep.Slices
import Derived.WideShapes
set_option linter.unusedVariables false
set_option linter.unusedSimpArgs false
open _root_.Go.IntKind (wrap)
namespace Go.Vc
def qZ (k : IntKind) (l : LI) : DataW Unit := .agg (l.map fun x => .lit (.int k x))
theorem bZ7 {P : Program} {w : World} {n : String} {g t e fuel : Nat} {k : IntKind} {l : LI} {cs : Array Value} {p : List MemPlace} (hg : P.globalNamed n = some g) 
  (hu : P.underlying t = some (.array l.length e)) (he : P.underlying e = some (.int k)) (ce : P.cellsOf e = 1) (ct : P.cellsOf t = l.length) (hv : w.var? P n = some cs)
  (h : DataW.trod (fun _ => ()) P w 0 (fun _ => true) false fuel t cs.toList = some (qZ k l, p)) : Glob.holds ⟨g, k, l⟩ w := by
 obtain ⟨xs, m, rfl, hx, hlen, hn, hel⟩ := DataW.trod_array hu h
 simp only [Prod.mk.injEq, qZ, DataW.agg.injEq] at hx
 have hx := hx.1
 rw [ct] at hlen
 have hat : ∀ i, i < l.length → cs.toList[i]? = some (.int k (l.getD i 0)) ∧ (Lit.int k (l.getD i 0)).wf = true := by
  intro i hi
  have h1 := hel i hi
  rw [ce, Nat.mul_one] at h1
  have hxi : i < xs.length := by omega
  rw [List.getElem?_eq_getElem hxi] at h1
  obtain ⟨v, e1, e2, e3⟩ := DataW.trod_int he h1
  have h2 : (l.map fun x => (DataW.lit (.int k x) : DataW Unit))[i]? = some (xs[i].1) := by rw [hx]; simp [hxi]
  rw [e2, List.getElem?_map, List.getElem?_eq_getElem hi] at h2
  simp at h2
  have hg2 : l.getD i 0 = v := by simp [List.getD, hi, h2]
  rw [hg2]
  refine ⟨?_, e3⟩
  have := congrArg (fun z : List Value => z[0]?) e1
  simpa using this
 refine ⟨?_, ?_⟩
 ·unfold World.var? at hv
  rw [hg] at hv
  simp only [Option.bind_some] at hv
  split at hv
  ·rename_i cs' e' fz hh
   cases hv
   refine ⟨e', fz, ?_⟩
   have : cs = (l.map (Value.int k)).toArray := by
    apply Array.toList_inj.1
    apply List.ext_getElem?
    intro i
    by_cases hi : i < l.length
    ·rw [(hat i hi).1]; simp [List.getD, hi]
    ·rw [List.getElem?_eq_none (by omega), List.getElem?_eq_none (by simp; omega)]
   rw [← this]; exact hh
  ·cases hv
 ·intro y hy
  obtain ⟨i, hi, rfl⟩ := List.mem_iff_getElem.1 hy
  have := (hat i hi).2
  simp only [List.getD, List.getElem?_eq_getElem hi, Option.getD_some] at this
  exact dX4 this
end Go.Vc
namespace Go.Vc
open Go.WideShapes Go.Deep
variable {H : Type} {enc : TypeId × Value → H} {P : Program} {w : World} {base : Nat} {spare : Nat → Bool} {held : Bool}
end Go.Vc