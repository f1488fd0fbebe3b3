/-
  Each of these functions keeps its contract, in the program of this seat.
-/
import Derived.Test.YtdppcnngoclehaaDoorChecked
import Derived.Test.YtdppcnngoclehaaDoorLxr
import Derived.Test.YtdppcnngoclehaaDoorLexb
import Derived.Test.YtdppcnngoclehaaDoorVcd
import Derived.OpenShut
import Derived.FnData
import Derived.ChangeArms
import GoSem.ClaimJoined
import Derived.Deep.Slices
import Derived.WideShapes
set_option linter.unusedVariables false
set_option maxRecDepth 100000
namespace Go.Proofs.YtdppcnngoclehaaDoor.LexKeep
open Go.Vc
theorem mixed : Tryd.prog.follows .mixedOrders = true := by kernel_rfl
theorem all_nil {p : FuncId × Sig → Prop} : ∀ x ∈ ([] : List (FuncId × Sig)), p x := by intro x hx; cases hx
theorem all_cons {p : FuncId × Sig → Prop} {a : FuncId × Sig} {l : List (FuncId × Sig)} (h : p a) (h' : ∀ x ∈ l, p x) : ∀ x ∈ a :: l, p x := by
  intro x hx
  rcases List.mem_cons.1 hx with rfl | hx
  · exact h
  · exact h' x hx
def tables : List Glob := []
abbrev az : Ann := { key := 999999, j := 0, watch := [], havoc := [] }
abbrev an (k j : Nat) (w h : List Nat) (z : Bool) : Ann := { key := k, j := j, watch := w, havoc := h, frz := z }
noncomputable def cx_ (fn : Func) (l : List (FuncId × Sig)) (s : Sig) (a : List Ann) : Cx := { P := Tryd.prog, fn := fn, G := tables, sigs := jT 1 l, own := s.toSigR, anns := a }
theorem ks {f : FuncId} {fn : Func} {s : Sig} {Q : Prop} (l : List (FuncId × Sig)) (i : List ((List D → Prop) × (List D → Nat))) (a : List Ann) (hf : Tryd.prog.funcs[f]? = some fn) (hn : (fn.name == "runtime.NumGoroutine") = false) (hl : ∀ x ∈ l, Kept Tryd.prog tables x.1 x.2)
    (hq : tK (cx_ fn l s a) (dS s (l.map (·.2)) i) = Q) (q : Q) (h : l.length.blt 199 = true) : Kept Tryd.prog tables f s := aP9 (cx := cx_ fn l s a) mixed hf hn rfl rfl hl rfl hq q (Nat.blt_eq.mp h)
theorem kt {f : FuncId} {fn : Func} {s : Sig} {Q : Prop} (l : List (FuncId × Sig)) (i : List ((List D → Prop) × (List D → Nat))) (a : List Ann) (hf : Tryd.prog.funcs[f]? = some fn) (hn : (fn.name == "runtime.NumGoroutine") = false) (hl : ∀ x ∈ l, Kept Tryd.prog tables x.1 x.2)
    (hq : wJ (cx_ fn l s a) (dS s (l.map (·.2)) i) = Q) (q : Q) (h : l.length.blt 199 = true) : Kept Tryd.prog tables f s := bF8 (cx := cx_ fn l s a) mixed hf hn rfl rfl hl rfl hq q (Nat.blt_eq.mp h)
noncomputable def cxi_ (fn : Func) (l : List (FuncId × Sig)) (s : Sig) (a : List Ann) (g : List FuncId) : Cx := { P := Tryd.prog, fn := fn, G := tables, sigs := jT 1 l, own := s.toSigR, anns := a, iters := g }
theorem kis {f : FuncId} {fn : Func} {s : Sig} {Q : Prop} (l : List (FuncId × Sig)) (i : List ((List D → Prop) × (List D → Nat))) (a : List Ann) (g : List FuncId) (hg : ∀ x ∈ g, jH Tryd.prog x) (hf : Tryd.prog.funcs[f]? = some fn) (hn : (fn.name == "runtime.NumGoroutine") = false) (hl : ∀ x ∈ l, Kept Tryd.prog tables x.1 x.2)
    (hq : tK (cxi_ fn l s a g) (dS s (l.map (·.2)) i) = Q) (q : Q) (h : l.length.blt 199 = true) : Kept Tryd.prog tables f s := aP9 (cx := cxi_ fn l s a g) mixed hf hn rfl rfl hl rfl hq q (Nat.blt_eq.mp h) hg
theorem lCut_kept : Kept Tryd.prog tables 5 gG.sig := ks [] [] [az] Tryd.func5 (by kernel_rfl) all_nil (by kernel_rfl) gG.pure rfl
theorem xSplit0_kept : Kept Tryd.prog tables 14 (kC.sig 22) := ks [] [] [az] Tryd.func14 (by kernel_rfl) all_nil (by kernel_rfl) kC.pure rfl
theorem xSplit_kept : Kept Tryd.prog tables 10 (kW.sig 22) := ks [(14, (kC.sig 22))] [] [az] Tryd.func10 (by kernel_rfl) (all_cons xSplit0_kept all_nil) (by kernel_rfl) kW.pure rfl
theorem xHasS_kept : Kept Tryd.prog tables 34 jZ.sig := ks [] [] [az] Tryd.func34 (by kernel_rfl) all_nil (by kernel_rfl) jZ.pure rfl
theorem xTrimS_kept : Kept Tryd.prog tables 18 kD.sig := ks [(34, jZ.sig)] [] [az] Tryd.func18 (by kernel_rfl) (all_cons xHasS_kept all_nil) (by kernel_rfl) kD.pure rfl
theorem xTrim_kept : Kept Tryd.prog tables 12 kX.sig := ks [(18, kD.sig)] [] [az] Tryd.func12 (by kernel_rfl) (all_cons xTrimS_kept all_nil) (by kernel_rfl) kX.pure rfl
theorem IxB_kept : Kept Tryd.prog tables 42 IxB.sig := bF9 Tryd.func42 (by kernel_rfl) (by kernel_rfl) Go.Proofs.Tryd.stringslite_IndexByte
theorem xIdx_kept : Kept Tryd.prog tables 37 xIdx.sig := ks [(42, IxB.sig)] [] [{ key := 2000006, j := 0, join := true }, az] Tryd.func37 (by kernel_rfl) (all_cons IxB_kept all_nil) (by kernel_rfl) xIdx.pure rfl
theorem xCutL_kept : Kept Tryd.prog tables 25 jW.sig := ks [(37, xIdx.sig)] [] [az] Tryd.func25 (by kernel_rfl) (all_cons xIdx_kept all_nil) (by kernel_rfl) jW.pure rfl
theorem xCut_kept : Kept Tryd.prog tables 15 kU.sig := ks [(25, jW.sig)] [] [az] Tryd.func15 (by kernel_rfl) (all_cons xCutL_kept all_nil) (by kernel_rfl) kU.pure rfl
theorem xTrimL_kept : Kept Tryd.prog tables 16 pW.sig := Go.Proofs.Tryd.trimL_kept
theorem xSmall_kept : Kept Tryd.prog tables 30 iE.sig := ks [] [] [az] Tryd.func30 (by kernel_rfl) all_nil (by kernel_rfl) iE.pure rfl
theorem xDigit_kept : Kept Tryd.prog tables 32 fH.sig := ks [] [] [az] Tryd.func32 (by kernel_rfl) all_nil (by kernel_rfl) fH.pure rfl
theorem xSpan_kept : Kept Tryd.prog tables 31 dD.sig := ks [(30, iE.sig), (32, fH.sig)] [(dD.I0, dD.I0M)] [an 2 0 [] [] false, az] Tryd.func31 (by kernel_rfl) (all_cons xSmall_kept (all_cons xDigit_kept all_nil)) (by kernel_rfl) dD.pure rfl
theorem xHasP_kept : Kept Tryd.prog tables 52 jY.sig := ks [] [] [az] Tryd.func52 (by kernel_rfl) all_nil (by kernel_rfl) jY.pure rfl
theorem xCutPL_kept : Kept Tryd.prog tables 47 jX.sig := ks [(52, jY.sig)] [] [az] Tryd.func47 (by kernel_rfl) (all_cons xHasP_kept all_nil) (by kernel_rfl) jX.pure rfl
theorem xCutP_kept : Kept Tryd.prog tables 40 kV.sig := ks [(47, jX.sig)] [] [az] Tryd.func40 (by kernel_rfl) (all_cons xCutPL_kept all_nil) (by kernel_rfl) kV.pure rfl
theorem xValue_kept : Kept Tryd.prog tables 41 gV.sig := ks [(32, fH.sig)] [] [az] Tryd.func41 (by kernel_rfl) (all_cons xDigit_kept all_nil) (by kernel_rfl) gV.pure rfl
theorem xNumber_kept : Kept Tryd.prog tables 33 bK.sig := ks [(40, kV.sig), (41, gV.sig)] [(bK.I0, bK.I0M)] [an 7 0 [] [] false, az] Tryd.func33 (by kernel_rfl) (all_cons xCutP_kept (all_cons xValue_kept all_nil)) (by kernel_rfl) bK.pure rfl
theorem xNext_kept : Kept Tryd.prog tables 17 fV.sig := ks [(30, iE.sig), (32, fH.sig), (31, dD.sig), (33, bK.sig)] [] [az] Tryd.func17 (by kernel_rfl) (all_cons xSmall_kept (all_cons xDigit_kept (all_cons xSpan_kept (all_cons xNumber_kept all_nil)))) (by kernel_rfl) fV.pure rfl
theorem xTokens_kept : Kept Tryd.prog tables 11 fB.sig := ks [(15, kU.sig), (16, pW.sig), (17, fV.sig)] [(fB.I0, fB.I0M)] [an 4 0 [] [] false, az] Tryd.func11 (by kernel_rfl) (all_cons xCut_kept (all_cons xTrimL_kept (all_cons xNext_kept all_nil))) (by kernel_rfl) fB.pure rfl
theorem xLines_kept : Kept Tryd.prog tables 6 bD.sig := kis [(10, (kW.sig 22)), (12, kX.sig), (11, fB.sig)] [(bD.I0, bD.I0M)] [an 6 0 [] [0, 1] false, az] [22] (by intro x hx; rcases List.mem_singleton.1 hx with rfl; exact Go.Proofs.Tryd.split_ok) Tryd.func6 (by kernel_rfl) (all_cons xSplit_kept (all_cons xTrim_kept (all_cons xTokens_kept all_nil))) (by kernel_rfl) bD.pure rfl
theorem yLetter_kept : Kept Tryd.prog tables 19 fZ.sig := ks [] [] [az] Tryd.func19 (by kernel_rfl) all_nil (by kernel_rfl) fZ.pure rfl
theorem yDigit_kept : Kept Tryd.prog tables 20 cO.sig := ks [] [] [az] Tryd.func20 (by kernel_rfl) all_nil (by kernel_rfl) cO.pure rfl
theorem yTimes_kept : Kept Tryd.prog tables 35 bM.sig := ks [] [(bM.I0, bM.I0M)] [an 3 0 [] [] false, az] Tryd.func35 (by kernel_rfl) all_nil (by kernel_rfl) bM.pure rfl
theorem yNumber_kept : Kept Tryd.prog tables 21 aK.sig := ks [(20, cO.sig), (35, bM.sig)] [(aK.I0, aK.I0M)] [an 9 0 [] [] false, az] Tryd.func21 (by kernel_rfl) (all_cons yDigit_kept (all_cons yTimes_kept all_nil)) (by kernel_rfl) aK.pure rfl
theorem yTokens_kept : Kept Tryd.prog tables 13 aF.sig := ks [(19, fZ.sig), (20, cO.sig), (21, aK.sig)] [(aF.I0, aF.I0M), (aF.I1, aF.I1M), (aF.J0, aF.J0M)] [an 3 0 [] [] false, an 15 1 [5] [] false, { key := 1000017, j := 2, join := true, tmpl := some aF.T }, az] Tryd.func13 (by kernel_rfl) (all_cons yLetter_kept (all_cons yDigit_kept (all_cons yNumber_kept all_nil))) (by kernel_rfl) aF.pure rfl
theorem yLines_kept : Kept Tryd.prog tables 7 bF.sig := ks [(13, aF.sig)] [(bF.I0, bF.I0M)] [an 7 0 [] [] false, az] Tryd.func7 (by kernel_rfl) (all_cons yTokens_kept all_nil) (by kernel_rfl) bF.pure rfl
theorem aw09_kept : Kept Tryd.prog tables 8 dF.sig := ks [(6, bD.sig)] [] [az] Tryd.func8 (by kernel_rfl) (all_cons xLines_kept all_nil) (by kernel_rfl) dF.pure rfl
theorem kSame_kept : Kept Tryd.prog tables 9 bP.sig := ks [] [(bP.I0, bP.I0M), (bP.I1, bP.I1M)] [an 4 0 [] [] false, an 9 1 [] [] false, az] Tryd.func9 (by kernel_rfl) all_nil (by kernel_rfl) bP.pure rfl
theorem LLexLines_kept : Kept Tryd.prog tables 3 kG.sig := ks [(5, gG.sig), (6, bD.sig), (7, bF.sig), (8, dF.sig), (9, bP.sig)] [] [az] Tryd.func3 (by kernel_rfl) (all_cons lCut_kept (all_cons xLines_kept (all_cons yLines_kept (all_cons aw09_kept (all_cons kSame_kept all_nil))))) (by kernel_rfl) kG.pure rfl
theorem LLexJoined_kept : Kept Tryd.prog tables 4 aU.sig := ks [(5, gG.sig), (6, bD.sig), (8, dF.sig)] [(aU.I0, aU.I0M), (aU.I1, aU.I1M)] [an 9 0 [] [] false, an 16 1 [] [] false, az] Tryd.func4 (by kernel_rfl) (all_cons lCut_kept (all_cons xLines_kept (all_cons aw09_kept all_nil))) (by kernel_rfl) aU.pure rfl
end Go.Proofs.YtdppcnngoclehaaDoor.LexKeep
