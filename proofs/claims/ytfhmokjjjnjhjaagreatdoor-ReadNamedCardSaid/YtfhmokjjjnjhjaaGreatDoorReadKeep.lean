/-
  Each of these functions keeps its contract, in the program of this seat.
-/
import Derived.Test.YtfhmokjjjnjhjaaGreatDoorChecked
import Derived.Test.YtfhmokjjjnjhjaaGreatDoorLxr
import Derived.Test.YtfhmokjjjnjhjaaGreatDoorSrt
import Derived.Test.YtfhmokjjjnjhjaaGreatDoorLexb
import Derived.Test.YtfhmokjjjnjhjaaGreatDoorReada
import Derived.Test.YtfhmokjjjnjhjaaGreatDoorVcd
import Derived.OpenShut
import Derived.FnData
import Derived.ChangeArms
import GoSem.ClaimJoined
import Derived.Deep.Slices
import Derived.WideShapes
import Derived.LaidMore
import Derived.Stop.Joined
import Derived.Test.YtfhmokjjjnjhjaaGreatDoorRows
set_option linter.unusedVariables false
set_option maxRecDepth 100000
namespace Go.Proofs.YtfhmokjjjnjhjaaGreatDoor.ReadKeep
open Go.Vc
theorem mixed : Tryz.prog.follows .mixedOrders = true := by kernel_rfl
theorem all_nil {p : FuncId × Sig → Prop} : ∀ x ∈ ([] : List (FuncId × Sig)), p x := by intro x hx; cases hx
theorem all_cons {p : FuncId × Sig → Prop} {a : FuncId × Sig} {l : List (FuncId × Sig)} (h : p a) (h' : ∀ x ∈ l, p x) : ∀ x ∈ a :: l, p x := by
  intro x hx
  rcases List.mem_cons.1 hx with rfl | hx
  · exact h
  · exact h' x hx
def tables : List Glob := []
abbrev az : Ann := { key := 999999, j := 0, watch := [], havoc := [] }
abbrev an (k j : Nat) (w h : List Nat) (z : Bool) : Ann := { key := k, j := j, watch := w, havoc := h, frz := z }
noncomputable def cx_ (fn : Func) (l : List (FuncId × Sig)) (s : Sig) (a : List Ann) : Cx := { P := Tryz.prog, fn := fn, G := tables, sigs := nU 1 l, own := s.toSigR, anns := a }
theorem ks {f : FuncId} {fn : Func} {s : Sig} {Q : Prop} (l : List (FuncId × Sig)) (i : List ((List D → Prop) × (List D → Nat))) (a : List Ann) (hf : Tryz.prog.funcs[f]? = some fn) (hn : (fn.name == "runtime.NumGoroutine") = false) (hl : ∀ x ∈ l, Kept Tryz.prog tables x.1 x.2)
    (hq : yU (cx_ fn l s a) (gB s (l.map (·.2)) i) = Q) (q : Q) (h : l.length.blt 199 = true) : Kept Tryz.prog tables f s := bG1 (cx := cx_ fn l s a) mixed hf hn rfl rfl hl rfl hq q (Nat.blt_eq.mp h)
theorem kt {f : FuncId} {fn : Func} {s : Sig} {Q : Prop} (l : List (FuncId × Sig)) (i : List ((List D → Prop) × (List D → Nat))) (a : List Ann) (hf : Tryz.prog.funcs[f]? = some fn) (hn : (fn.name == "runtime.NumGoroutine") = false) (hl : ∀ x ∈ l, Kept Tryz.prog tables x.1 x.2)
    (hq : aE4 (cx_ fn l s a) (gB s (l.map (·.2)) i) = Q) (q : Q) (h : l.length.blt 199 = true) : Kept Tryz.prog tables f s := bY6 (cx := cx_ fn l s a) mixed hf hn rfl rfl hl rfl hq q (Nat.blt_eq.mp h)
noncomputable def cxi_ (fn : Func) (l : List (FuncId × Sig)) (s : Sig) (a : List Ann) (g : List FuncId) : Cx := { P := Tryz.prog, fn := fn, G := tables, sigs := nU 1 l, own := s.toSigR, anns := a, iters := g }
theorem kis {f : FuncId} {fn : Func} {s : Sig} {Q : Prop} (l : List (FuncId × Sig)) (i : List ((List D → Prop) × (List D → Nat))) (a : List Ann) (g : List FuncId) (hg : ∀ x ∈ g, nC Tryz.prog x) (hf : Tryz.prog.funcs[f]? = some fn) (hn : (fn.name == "runtime.NumGoroutine") = false) (hl : ∀ x ∈ l, Kept Tryz.prog tables x.1 x.2)
    (hq : yU (cxi_ fn l s a g) (gB s (l.map (·.2)) i) = Q) (q : Q) (h : l.length.blt 199 = true) : Kept Tryz.prog tables f s := bG1 (cx := cxi_ fn l s a g) mixed hf hn rfl rfl hl rfl hq q (Nat.blt_eq.mp h) hg
theorem lCut_kept : Kept Tryz.prog tables 11 nO.sig := ks [] [] [az] Tryz.func11 (by kernel_rfl) all_nil (by kernel_rfl) nO.pure rfl
theorem xSplit0_kept : Kept Tryz.prog tables 76 (oH.sig 110) := ks [] [] [az] Tryz.func76 (by kernel_rfl) all_nil (by kernel_rfl) oH.pure rfl
theorem xSplit_kept : Kept Tryz.prog tables 45 (qC.sig 110) := ks [(76, (oH.sig 110))] [] [az] Tryz.func45 (by kernel_rfl) (all_cons xSplit0_kept all_nil) (by kernel_rfl) qC.pure rfl
theorem xHasS_kept : Kept Tryz.prog tables 122 oG.sig := ks [] [] [az] Tryz.func122 (by kernel_rfl) all_nil (by kernel_rfl) oG.pure rfl
theorem xTrimS_kept : Kept Tryz.prog tables 80 oI.sig := ks [(122, oG.sig)] [] [az] Tryz.func80 (by kernel_rfl) (all_cons xHasS_kept all_nil) (by kernel_rfl) oI.pure rfl
theorem xTrim_kept : Kept Tryz.prog tables 47 qE.sig := ks [(80, oI.sig)] [] [az] Tryz.func47 (by kernel_rfl) (all_cons xTrimS_kept all_nil) (by kernel_rfl) qE.pure rfl
theorem IxB_kept : Kept Tryz.prog tables 167 IxB.sig := bY8 Tryz.func167 (by kernel_rfl) (by kernel_rfl) Go.Proofs.Tryz.stringslite_IndexByte
theorem xIdx_kept : Kept Tryz.prog tables 145 xIdx.sig := ks [(167, IxB.sig)] [] [{ key := 2000006, j := 0, join := true }, az] Tryz.func145 (by kernel_rfl) (all_cons IxB_kept all_nil) (by kernel_rfl) xIdx.pure rfl
theorem xCutL_kept : Kept Tryz.prog tables 113 nZ.sig := ks [(145, xIdx.sig)] [] [az] Tryz.func113 (by kernel_rfl) (all_cons xIdx_kept all_nil) (by kernel_rfl) nZ.pure rfl
theorem xCut_kept : Kept Tryz.prog tables 77 qA.sig := ks [(113, nZ.sig)] [] [az] Tryz.func77 (by kernel_rfl) (all_cons xCutL_kept all_nil) (by kernel_rfl) qA.pure rfl
theorem xTrimL_kept : Kept Tryz.prog tables 78 vS.sig := Go.Proofs.Tryz.trimL_kept
theorem xSmall_kept : Kept Tryz.prog tables 118 lJ.sig := ks [] [] [az] Tryz.func118 (by kernel_rfl) all_nil (by kernel_rfl) lJ.pure rfl
theorem xDigit_kept : Kept Tryz.prog tables 120 jS.sig := ks [] [] [az] Tryz.func120 (by kernel_rfl) all_nil (by kernel_rfl) jS.pure rfl
theorem xSpan_kept : Kept Tryz.prog tables 119 dY.sig := ks [(118, lJ.sig), (120, jS.sig)] [(dY.I0, dY.I0M)] [an 2 0 [] [] false, az] Tryz.func119 (by kernel_rfl) (all_cons xSmall_kept (all_cons xDigit_kept all_nil)) (by kernel_rfl) dY.pure rfl
theorem xHasP_kept : Kept Tryz.prog tables 183 oD.sig := ks [] [] [az] Tryz.func183 (by kernel_rfl) all_nil (by kernel_rfl) oD.pure rfl
theorem xCutPL_kept : Kept Tryz.prog tables 172 oC.sig := ks [(183, oD.sig)] [] [az] Tryz.func172 (by kernel_rfl) (all_cons xHasP_kept all_nil) (by kernel_rfl) oC.pure rfl
theorem xCutP_kept : Kept Tryz.prog tables 148 qB.sig := ks [(172, oC.sig)] [] [az] Tryz.func148 (by kernel_rfl) (all_cons xCutPL_kept all_nil) (by kernel_rfl) qB.pure rfl
theorem xValue_kept : Kept Tryz.prog tables 149 kG.sig := ks [(120, jS.sig)] [] [az] Tryz.func149 (by kernel_rfl) (all_cons xDigit_kept all_nil) (by kernel_rfl) kG.pure rfl
theorem xNumber_kept : Kept Tryz.prog tables 121 dO.sig := ks [(148, qB.sig), (149, kG.sig)] [(dO.I0, dO.I0M)] [an 7 0 [] [] false, az] Tryz.func121 (by kernel_rfl) (all_cons xCutP_kept (all_cons xValue_kept all_nil)) (by kernel_rfl) dO.pure rfl
theorem xNext_kept : Kept Tryz.prog tables 79 jT.sig := ks [(118, lJ.sig), (120, jS.sig), (119, dY.sig), (121, dO.sig)] [] [az] Tryz.func79 (by kernel_rfl) (all_cons xSmall_kept (all_cons xDigit_kept (all_cons xSpan_kept (all_cons xNumber_kept all_nil)))) (by kernel_rfl) jT.pure rfl
theorem xTokens_kept : Kept Tryz.prog tables 46 iR.sig := ks [(77, qA.sig), (78, vS.sig), (79, jT.sig)] [(iR.I0, iR.I0M)] [an 4 0 [] [] false, az] Tryz.func46 (by kernel_rfl) (all_cons xCut_kept (all_cons xTrimL_kept (all_cons xNext_kept all_nil))) (by kernel_rfl) iR.pure rfl
theorem xLines_kept : Kept Tryz.prog tables 24 fU.sig := kis [(45, (qC.sig 110)), (47, qE.sig), (46, iR.sig)] [(fU.I0, fU.I0M)] [an 6 0 [] [0, 1] false, az] [110] (by intro x hx; rcases List.mem_singleton.1 hx with rfl; exact Go.Proofs.Tryz.split_ok) Tryz.func24 (by kernel_rfl) (all_cons xSplit_kept (all_cons xTrim_kept (all_cons xTokens_kept all_nil))) (by kernel_rfl) fU.pure rfl
theorem rAccept_kept : Kept Tryz.prog tables 48 bZ.sig := ks [] [] [az] Tryz.func48 (by kernel_rfl) all_nil (by kernel_rfl) bZ.pure rfl
theorem rFail_kept : Kept Tryz.prog tables 86 aW.sig := ks [] [] [az] Tryz.func86 (by kernel_rfl) all_nil (by kernel_rfl) aW.pure rfl
theorem rNext_kept : Kept Tryz.prog tables 123 fO.sig := ks [(86, aW.sig)] [] [az] Tryz.func123 (by kernel_rfl) (all_cons rFail_kept all_nil) (by kernel_rfl) fO.pure rfl
theorem rWord_kept : Kept Tryz.prog tables 91 eG.sig := ks [(123, fO.sig), (86, aW.sig)] [] [az] Tryz.func91 (by kernel_rfl) (all_cons rNext_kept (all_cons rFail_kept all_nil)) (by kernel_rfl) eG.pure rfl
theorem lName_kept : Kept Tryz.prog tables 28 bC.sig := ks [] [(bC.I0, bC.I0M)] [an 2 0 [] [] false, az] Tryz.func28 (by kernel_rfl) all_nil (by kernel_rfl) bC.pure rfl
theorem rLoc_kept : Kept Tryz.prog tables 81 gX.sig := ks [(91, eG.sig), (28, bC.sig), (86, aW.sig)] [] [az] Tryz.func81 (by kernel_rfl) (all_cons rWord_kept (all_cons lName_kept (all_cons rFail_kept all_nil))) (by kernel_rfl) gX.pure rfl
theorem rSign_kept : Kept Tryz.prog tables 82 gY.sig := ks [(123, fO.sig), (86, aW.sig)] [] [az] Tryz.func82 (by kernel_rfl) (all_cons rNext_kept (all_cons rFail_kept all_nil)) (by kernel_rfl) gY.pure rfl
theorem rNumber_kept : Kept Tryz.prog tables 83 dM.sig := ks [(123, fO.sig), (86, aW.sig)] [] [az] Tryz.func83 (by kernel_rfl) (all_cons rNext_kept (all_cons rFail_kept all_nil)) (by kernel_rfl) dM.pure rfl
theorem cName_kept : Kept Tryz.prog tables 85 cName.sig := ks [] [] [az] Tryz.func85 (by kernel_rfl) all_nil (by kernel_rfl) cName.pure rfl
theorem iIdx_kept : Kept Tryz.prog tables 54 (dK.sig 85) := ks [(85, cName.sig)] [(dK.I0, dK.I0M)] [an 2 0 [] [] false, az] Tryz.func54 (by kernel_rfl) (all_cons cName_kept all_nil) (by kernel_rfl) dK.pure rfl
theorem iHas_kept : Kept Tryz.prog tables 84 (mP.sig 85) := ks [(54, (dK.sig 85))] [] [az] Tryz.func84 (by kernel_rfl) (all_cons iIdx_kept all_nil) (by kernel_rfl) mP.pure rfl
theorem dStarts_kept : Kept Tryz.prog tables 49 dF.sig := ks [(81, gX.sig), (82, gY.sig), (83, dM.sig), (84, (mP.sig 85)), (86, aW.sig)] [(dF.I0, dF.I0M)] [an 0 0 [] [100000, 2] false, az] Tryz.func49 (by kernel_rfl) (all_cons rLoc_kept (all_cons rSign_kept (all_cons rNumber_kept (all_cons iHas_kept (all_cons rFail_kept all_nil))))) (by kernel_rfl) dF.pure rfl
theorem rIsReg_kept : Kept Tryz.prog tables 124 jY.sig := ks [] [] [az] Tryz.func124 (by kernel_rfl) all_nil (by kernel_rfl) jY.pure rfl
theorem rReg_kept : Kept Tryz.prog tables 87 dA.sig := ks [(91, eG.sig), (124, jY.sig), (86, aW.sig)] [] [az] Tryz.func87 (by kernel_rfl) (all_cons rWord_kept (all_cons rIsReg_kept (all_cons rFail_kept all_nil))) (by kernel_rfl) dA.pure rfl
theorem cAsk_kept : Kept Tryz.prog tables 89 lM.sig := ks [] [] [az] Tryz.func89 (by kernel_rfl) all_nil (by kernel_rfl) lM.pure rfl
theorem kIdx_kept : Kept Tryz.prog tables 125 (fZ.sig 89) := ks [(89, lM.sig)] [(fZ.I0, fZ.I0M)] [an 2 0 [] [] false, az] Tryz.func125 (by kernel_rfl) (all_cons cAsk_kept all_nil) (by kernel_rfl) fZ.pure rfl
theorem kHas_kept : Kept Tryz.prog tables 88 (mW.sig 89) := ks [(125, (fZ.sig 89))] [] [az] Tryz.func88 (by kernel_rfl) (all_cons kIdx_kept all_nil) (by kernel_rfl) mW.pure rfl
theorem dAsk_kept : Kept Tryz.prog tables 50 bJ.sig := ks [(83, dM.sig), (82, gY.sig), (87, dA.sig), (81, gX.sig), (88, (mW.sig 89)), (86, aW.sig)] [(bJ.I0, bJ.I0M)] [an 0 0 [] [100002, 2] false, az] Tryz.func50 (by kernel_rfl) (all_cons rNumber_kept (all_cons rSign_kept (all_cons rReg_kept (all_cons rLoc_kept (all_cons kHas_kept (all_cons rFail_kept all_nil)))))) (by kernel_rfl) bJ.pure rfl
theorem lSets_kept : Kept Tryz.prog tables 67 iW.sig := ks [] [] [az] Tryz.func67 (by kernel_rfl) all_nil (by kernel_rfl) iW.pure rfl
theorem lOf_kept : Kept Tryz.prog tables 62 lOf.sig := ks [] [] [az] Tryz.func62 (by kernel_rfl) all_nil (by kernel_rfl) lOf.pure rfl
theorem lMem_kept : Kept Tryz.prog tables 61 dW.sig := ks [(62, lOf.sig)] [] [az] Tryz.func61 (by kernel_rfl) (all_cons lOf_kept all_nil) (by kernel_rfl) dW.pure rfl
theorem rArg_kept : Kept Tryz.prog tables 92 eF.sig := ks [(83, dM.sig), (87, dA.sig)] [] [az] Tryz.func92 (by kernel_rfl) (all_cons rNumber_kept (all_cons rReg_kept all_nil)) (by kernel_rfl) eF.pure rfl
theorem rSide_kept : Kept Tryz.prog tables 93 jK.sig := ks [(91, eG.sig), (86, aW.sig)] [] [az] Tryz.func93 (by kernel_rfl) (all_cons rWord_kept (all_cons rFail_kept all_nil)) (by kernel_rfl) jK.pure rfl
theorem rTail_kept : Kept Tryz.prog tables 94 jL.sig := ks [(62, lOf.sig), (48, bZ.sig), (87, dA.sig)] [] [az] Tryz.func94 (by kernel_rfl) (all_cons lOf_kept (all_cons rAccept_kept (all_cons rReg_kept all_nil))) (by kernel_rfl) jL.pure rfl
theorem sIndex_kept : Kept Tryz.prog tables 90 gZ.sig := ks [] [(gZ.I0, gZ.I0M)] [an 2 0 [] [] false, az] Tryz.func90 (by kernel_rfl) all_nil (by kernel_rfl) gZ.pure rfl
theorem rInstr_kept : Kept Tryz.prog tables 51 (aI.sig 2) := ks [(91, eG.sig), (86, aW.sig), (67, iW.sig), (87, dA.sig), (61, dW.sig), (81, gX.sig), (83, dM.sig), (62, lOf.sig), (92, eF.sig), (93, jK.sig), (94, jL.sig), (90, gZ.sig)] [(aI.J0, aI.J0M), (aI.J1, aI.J1M), (aI.J2, aI.J2M), (aI.J3, aI.J3M), (aI.J4, aI.J4M)] [{ key := 1000009, j := 0, join := true, tmpl := some (aI.T 2) }, { key := 1000011, j := 1, join := true, tmpl := some (aI.T 2) }, { key := 1000021, j := 2, join := true, tmpl := some (aI.T 2) }, { key := 1000023, j := 3, join := true, tmpl := some (aI.T 2) }, { key := 1000025, j := 4, join := true, tmpl := some (aI.T 2) }, az] Tryz.func51 (by kernel_rfl) (all_cons rWord_kept (all_cons rFail_kept (all_cons lSets_kept (all_cons rReg_kept (all_cons lMem_kept (all_cons rLoc_kept (all_cons rNumber_kept (all_cons lOf_kept (all_cons rArg_kept (all_cons rSide_kept (all_cons rTail_kept (all_cons sIndex_kept all_nil)))))))))))) (by kernel_rfl) aI.pure rfl
theorem dTake_kept : Kept Tryz.prog tables 25 (aK.sig 2) := ks [(48, bZ.sig), (49, dF.sig), (50, bJ.sig), (51, (aI.sig 2))] [(aK.J0, aK.J0M)] [an 7000000 14 [] [] false, an 4000053 14 [] [] false, an 5000083 14 [] [] false, { key := 1000020, j := 0, join := true, tmpl := some (aK.T 2), frz := true }, az] Tryz.func25 (by kernel_rfl) (all_cons rAccept_kept (all_cons dStarts_kept (all_cons dAsk_kept (all_cons rInstr_kept all_nil)))) (by kernel_rfl) aK.pure rfl
theorem sCloneI_kept : Kept Tryz.prog tables 95 qX.sig := bY7 Tryz.func95 (by kernel_rfl) rfl Tryz.runClone Tryz.runCloneN
theorem cLoc_kept : Kept Tryz.prog tables 97 oM.sig := ks [] [] [az] Tryz.func97 (by kernel_rfl) all_nil (by kernel_rfl) oM.pure rfl
theorem jIdx_kept : Kept Tryz.prog tables 54 (iI.sig 97) := ks [(97, oM.sig)] [(iI.I0, iI.I0M)] [an 2 0 [] [] false, az] Tryz.func54 (by kernel_rfl) (all_cons cLoc_kept all_nil) (by kernel_rfl) iI.pure rfl
theorem jHas_kept : Kept Tryz.prog tables 84 (oW.sig 97) := ks [(54, (iI.sig 97))] [] [az] Tryz.func84 (by kernel_rfl) (all_cons jIdx_kept all_nil) (by kernel_rfl) oW.pure rfl
theorem dAdd_kept : Kept Tryz.prog tables 96 kU.sig := ks [(84, (oW.sig 97))] [] [az] Tryz.func96 (by kernel_rfl) (all_cons jHas_kept all_nil) (by kernel_rfl) kU.pure rfl
theorem sSortI_kept : Kept Tryz.prog tables 98 (aB2.sig 99) := bZ0 Tryz.func98 (by kernel_rfl) rfl Tryz.runLocs Tryz.runLocsN
theorem dLocs_kept : Kept Tryz.prog tables 52 bT.sig := ks [(95, qX.sig), (96, kU.sig), (98, (aB2.sig 99))] [(bT.I0, bT.I0M), (bT.I1, bT.I1M), (bT.I2, bT.I2M)] [an 4 0 [] [1] false, an 7 1 [22] [2] false, an 13 2 [] [1] false, an 5000020 14 [] [] false, az] Tryz.func52 (by kernel_rfl) (all_cons sCloneI_kept (all_cons dAdd_kept (all_cons sSortI_kept all_nil))) (by kernel_rfl) bT.pure rfl
theorem tName_kept : Kept Tryz.prog tables 55 pK.sig := ks [] [] [az] Tryz.func55 (by kernel_rfl) all_nil (by kernel_rfl) pK.pure rfl
theorem tIdx_kept : Kept Tryz.prog tables 54 (iQ.sig 55) := ks [(55, pK.sig)] [(iQ.I0, iQ.I0M)] [an 2 0 [] [] false, az] Tryz.func54 (by kernel_rfl) (all_cons tName_kept all_nil) (by kernel_rfl) iQ.pure rfl
theorem dAt_kept : Kept Tryz.prog tables 53 dAt.sig := ks [(54, (iQ.sig 55))] [] [az] Tryz.func53 (by kernel_rfl) (all_cons tIdx_kept all_nil) (by kernel_rfl) dAt.pure rfl
theorem sSortA_kept : Kept Tryz.prog tables 56 (aB1.sig 57) := bY9 Tryz.func56 (by kernel_rfl) rfl Tryz.runAsks Tryz.runAsksN
theorem dTest_kept : Kept Tryz.prog tables 26 bG.sig := ks [(52, bT.sig), (53, dAt.sig), (56, (aB1.sig 57))] [(bG.I0, bG.I0M), (bG.I1, bG.I1M), (bG.I2, bG.I2M)] [an 4 0 [] [100201] false, an 8 1 [21] [] false, an 17 2 [] [100202] false, az] Tryz.func26 (by kernel_rfl) (all_cons dLocs_kept (all_cons dAt_kept (all_cons sSortA_kept all_nil))) (by kernel_rfl) bG.pure rfl
theorem lEvents_kept : Kept Tryz.prog tables 58 bU.sig := ks [(62, lOf.sig)] [(bU.I0, bU.I0M), (bU.I1, bU.I1M)] [an 3 0 [] [] false, an 6 1 [14] [] false, az] Tryz.func58 (by kernel_rfl) (all_cons lOf_kept all_nil) (by kernel_rfl) bU.pure rfl
theorem lSizes_kept : Kept Tryz.prog tables 27 dX.sig := ks [(58, bU.sig)] [(dX.I0, dX.I0M)] [an 6 0 [] [] false, az] Tryz.func27 (by kernel_rfl) (all_cons lEvents_kept all_nil) (by kernel_rfl) dX.pure rfl
theorem lBlank_kept : Kept Tryz.prog tables 59 aC.sig := ks [(67, iW.sig), (61, dW.sig), (62, lOf.sig)] [(aC.J0, aC.J0M), (aC.J1, aC.J1M), (aC.J2, aC.J2M), (aC.J3, aC.J3M), (aC.J4, aC.J4M)] [{ key := 1000004, j := 0, join := true, tmpl := some aC.T }, { key := 1000006, j := 1, join := true, tmpl := some aC.T }, { key := 1000013, j := 2, join := true, tmpl := some aC.T }, { key := 1000015, j := 3, join := true, tmpl := some aC.T }, { key := 1000017, j := 4, join := true, tmpl := some aC.T }, { key := 6000005, j := 0, join := true, tmpl := some aC.T5 }] Tryz.func59 (by kernel_rfl) (all_cons lSets_kept (all_cons lMem_kept (all_cons lOf_kept all_nil))) (by kernel_rfl) aC.pure rfl
theorem lArg_kept : Kept Tryz.prog tables 60 jV.sig := ks [] [] [az] Tryz.func60 (by kernel_rfl) all_nil (by kernel_rfl) jV.pure rfl
theorem lCheck1_kept : Kept Tryz.prog tables 29 aG.sig := ks [(59, aC.sig), (60, jV.sig), (61, dW.sig), (62, lOf.sig)] [(aG.J0, aG.J0M), (aG.J1, aG.J1M), (aG.J2, aG.J2M), (aG.J3, aG.J3M)] [{ key := 1000007, j := 0, join := true, tmpl := some aG.T }, { key := 1000009, j := 1, join := true, tmpl := some aG.T }, { key := 1000011, j := 2, join := true, tmpl := some aG.T }, { key := 1000013, j := 3, join := true, tmpl := some aG.T }, az] Tryz.func29 (by kernel_rfl) (all_cons lBlank_kept (all_cons lArg_kept (all_cons lMem_kept (all_cons lOf_kept all_nil)))) (by kernel_rfl) aG.pure rfl
theorem lAsk_kept : Kept Tryz.prog tables 30 gQ.sig := ks [] [] [az] Tryz.func30 (by kernel_rfl) all_nil (by kernel_rfl) gQ.pure rfl
theorem lBefore_kept : Kept Tryz.prog tables 31 kL.sig := ks [] [] [az] Tryz.func31 (by kernel_rfl) all_nil (by kernel_rfl) kL.pure rfl
theorem lCheck_kept : Kept Tryz.prog tables 13 aQ.sig := ks [(27, dX.sig), (28, bC.sig), (29, aG.sig), (30, gQ.sig), (31, kL.sig)] [(aQ.I0, aQ.I0M), (aQ.I1, aQ.I1M), (aQ.I2, aQ.I2M), (aQ.I3, aQ.I3M)] [an 5 0 [] [] false, an 13 1 [] [] false, an 16 2 [55] [] false, an 24 3 [] [] false, az] Tryz.func13 (by kernel_rfl) (all_cons lSizes_kept (all_cons lName_kept (all_cons lCheck1_kept (all_cons lAsk_kept (all_cons lBefore_kept all_nil))))) (by kernel_rfl) aQ.pure rfl
theorem rParse_kept : Kept Tryz.prog tables 10 (dN.sig 2) := ks [(24, fU.sig), (25, (aK.sig 2)), (26, bG.sig), (13, aQ.sig)] [(dN.I0, dN.I0M)] [an 6 0 [] [2, 200001, 200000] false, { key := 8000005, j := 0, join := true, tmpl := some cH5 }, az] Tryz.func10 (by kernel_rfl) (all_cons xLines_kept (all_cons dTake_kept (all_cons dTest_kept (all_cons lCheck_kept all_nil)))) (by kernel_rfl) dN.pure rfl
theorem aw10_kept : Kept Tryz.prog tables 12 (gJ.sig 2) := ks [(10, (dN.sig 2))] [] [az] Tryz.func12 (by kernel_rfl) (all_cons rParse_kept all_nil) (by kernel_rfl) gJ.pure rfl
theorem LReadGood_kept : Kept Tryz.prog tables 3 (kR.sig 2) := ks [(11, nO.sig), (10, (dN.sig 2)), (12, (gJ.sig 2)), (13, aQ.sig)] [] [az] Tryz.func3 (by kernel_rfl) (all_cons lCut_kept (all_cons rParse_kept (all_cons aw10_kept (all_cons lCheck_kept all_nil)))) (by kernel_rfl) kR.pure rfl
theorem oInstr_kept : Kept Tryz.prog tables 32 cL8.sig := ks [] [] [az] Tryz.func32 (by kernel_rfl) all_nil (by kernel_rfl) cL8.pure rfl
theorem oTold_kept : Kept Tryz.prog tables 15 cK9.sig := ks [(32, cL8.sig)] [(cK9.I0, cK9.I0M), (cK9.I1, cK9.I1M), (cK9.I2, cK9.I2M), (cK9.I3, cK9.I3M)] [an 3 0 [] [100300] false, an 8 1 [] [100301] false, an 12 2 [31] [] false, an 19 3 [] [100302] false, az] Tryz.func15 (by kernel_rfl) (all_cons oInstr_kept all_nil) (by kernel_rfl) cK9.pure rfl
theorem oSame_kept : Kept Tryz.prog tables 14 cK8.sig := ks [] [(cK8.I0, cK8.I0M), (cK8.I1, cK8.I1M), (cK8.I2, cK8.I2M), (cK8.I3, cK8.I3M)] [an 4 0 [] [] false, an 10 1 [] [] false, an 16 2 [] [] false, an 21 3 [73] [] false, az] Tryz.func14 (by kernel_rfl) all_nil (by kernel_rfl) cK8.pure rfl
theorem LReadNotes_kept : Kept Tryz.prog tables 4 (cL0.sig 2) := ks [(11, nO.sig), (10, (dN.sig 2)), (12, (gJ.sig 2)), (15, cK9.sig), (14, cK8.sig)] [(cL0.I0, cL0.I0M), (cL0.I1, cL0.I1M)] [an 4 0 [] [] false, an 12 1 [] [] false, az] Tryz.func4 (by kernel_rfl) (all_cons lCut_kept (all_cons rParse_kept (all_cons aw10_kept (all_cons oTold_kept (all_cons oSame_kept all_nil))))) (by kernel_rfl) cL0.pure rfl
theorem oHex_kept : Kept Tryz.prog tables 16 cL3.sig := ks [] [(cL3.I0, cL3.I0M)] [an 3 0 [] [] false, az] Tryz.func16 (by kernel_rfl) all_nil (by kernel_rfl) cL3.pure rfl
theorem LReadNamed_kept : Kept Tryz.prog tables 5 (cL1.sig 2) := ks [(16, cL3.sig), (10, (dN.sig 2)), (12, (gJ.sig 2))] [(cL1.I0, cL1.I0M)] [an 5 0 [] [] false, az] Tryz.func5 (by kernel_rfl) (all_cons oHex_kept (all_cons rParse_kept (all_cons aw10_kept all_nil))) (by kernel_rfl) cL1.pure rfl
theorem names_of {W : World} (h : laidMetH Tryz.prog [("unicode/utf8.acceptRanges", Rows.laid_unicode_utf8_acceptRanges), ("ordeal/read.names", Rows.laid_ordeal_read_names), ("unicode/utf8.first", Rows.laid_unicode_utf8_first)] W) : ∃ v, fA W (.slice (some ⟨2, 0, none⟩) 1 1) 1 1 [v] ∧ Go.Vc.one v ∧ fA W v 1 Lt.names.length (Lt.names.map fun s => .string (bx s)) := by
  rw [MakeChecks.laidMetH_plain _ _ _ (by kernel_rfl)] at h
  obtain ⟨ps, ⟨g0, t0, cs0, f0, p0, q0, hg0, ht0, hv0, hd0, ⟨g1, t1, cs1, f1, p1, q1, hg1, ht1, hv1, hd1, _, _⟩, _⟩, _, _⟩ := h
  obtain rfl := Option.some.inj ((show Tryz.prog.globalNamed "ordeal/read.names" = some 2 by kernel_rfl).symm.trans hg1)
  obtain rfl := Option.some.inj ((show (Tryz.prog.globals[2]?).map (·.type) = some 94 by kernel_rfl).symm.trans ht1)
  exact cC0 (t := 94) (e := 9) (ss := Lt.names) hg1 (by kernel_rfl) (by kernel_rfl) (by kernel_rfl) hv1 (by decide) (by decide) hd1
end Go.Proofs.YtfhmokjjjnjhjaaGreatDoor.ReadKeep
