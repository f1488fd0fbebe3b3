/-
  Each of these functions keeps its contract, in the program of this seat.
-/
import Derived.Test.YtdppcnngoclehaaChecked
import Derived.Test.YtdppcnngoclehaaSlm
import Derived.Test.YtdppcnngoclehaaDskh
import Derived.Test.YtdppcnngoclehaaTab
set_option linter.unusedVariables false
set_option maxRecDepth 100000
namespace Go.Proofs.Ytdppcnngoclehaa.DskpKeep
open Go.Vc
theorem mixed : Try.prog.follows .mixedOrders = true := by kernel_rfl
theorem all_nil {p : FuncId × Sig → Prop} : ∀ x ∈ ([] : List (FuncId × Sig)), p x := by intro x hx; cases hx
theorem all_cons {p : FuncId × Sig → Prop} {a : FuncId × Sig} {l : List (FuncId × Sig)} (h : p a) (h' : ∀ x ∈ l, p x) : ∀ x ∈ a :: l, p x := by
  intro x hx
  rcases List.mem_cons.1 hx with rfl | hx
  · exact h
  · exact h' x hx
def tables : List Glob := []
abbrev az : Ann := { key := 999999, j := 0, watch := [], havoc := [] }
abbrev an (k j : Nat) (w h : List Nat) (z : Bool) : Ann := { key := k, j := j, watch := w, havoc := h, frz := z }
noncomputable def cx_ (fn : Func) (l : List (FuncId × Sig)) (s : Sig) (a : List Ann) : Cx := { P := Try.prog, fn := fn, G := tables, sigs := nU 1 l, own := s.toSigR, anns := a }
theorem ks {f : FuncId} {fn : Func} {s : Sig} {Q : Prop} (l : List (FuncId × Sig)) (i : List ((List D → Prop) × (List D → Nat))) (a : List Ann) (hf : Try.prog.funcs[f]? = some fn) (hn : (fn.name == "runtime.NumGoroutine") = false) (hl : ∀ x ∈ l, Kept Try.prog tables x.1 x.2)
    (hq : aB3 (cx_ fn l s a) (fZ s (l.map (·.2)) i) = Q) (q : Q) (h : l.length.blt 199 = true) : Kept Try.prog tables f s := cA6 (cx := cx_ fn l s a) mixed hf hn rfl rfl hl rfl hq q (Nat.blt_eq.mp h)
theorem kt {f : FuncId} {fn : Func} {s : Sig} {Q : Prop} (l : List (FuncId × Sig)) (i : List ((List D → Prop) × (List D → Nat))) (a : List Ann) (hf : Try.prog.funcs[f]? = some fn) (hn : (fn.name == "runtime.NumGoroutine") = false) (hl : ∀ x ∈ l, Kept Try.prog tables x.1 x.2)
    (hq : aB4 (cx_ fn l s a) (fZ s (l.map (·.2)) i) = Q) (q : Q) (h : l.length.blt 199 = true) : Kept Try.prog tables f s := cA8 (cx := cx_ fn l s a) mixed hf hn rfl rfl hl rfl hq q (Nat.blt_eq.mp h)
theorem dNew_kept : Kept Try.prog tables 7 dNew.sig := kt [] [] [az] Try.func7 (by kernel_rfl) all_nil (by kernel_rfl) dNew.pure rfl
theorem qNew_kept : Kept Try.prog tables 7 yU.sig := cH1 dNew_kept
theorem zNew_kept : Kept Try.prog tables 21 mM.sig := ks [] [] [az] Try.func21 (by kernel_rfl) all_nil (by kernel_rfl) mM.pure rfl
theorem dBegin_kept : Kept Try.prog tables 24 bJ.sig := kt [] [] [az] Try.func24 (by kernel_rfl) all_nil (by kernel_rfl) bJ.pure rfl
theorem dApply_kept : Kept Try.prog tables 32 iG.sig := kt [] [] [az] Try.func32 (by kernel_rfl) all_nil (by kernel_rfl) iG.pure rfl
theorem dTurn_kept : Kept Try.prog tables 25 dN.sig := kt [(32, iG.sig)] [] [az] Try.func25 (by kernel_rfl) (all_cons dApply_kept all_nil) (by kernel_rfl) dN.pure rfl
theorem dEnd_kept : Kept Try.prog tables 26 bG.sig := kt [] [] [az] Try.func26 (by kernel_rfl) all_nil (by kernel_rfl) bG.pure rfl
theorem dCreate_kept : Kept Try.prog tables 8 eP.sig := kt [(24, bJ.sig), (25, dN.sig), (26, bG.sig)] [] [az] Try.func8 (by kernel_rfl) (all_cons dBegin_kept (all_cons dTurn_kept (all_cons dEnd_kept all_nil))) (by kernel_rfl) eP.pure rfl
theorem dFind_kept : Kept Try.prog tables 29 bV.sig := kt [] [] [az] Try.func29 (by kernel_rfl) all_nil (by kernel_rfl) bV.pure rfl
theorem dUsed_kept : Kept Try.prog tables 52 fP.sig := kt [] [(fP.I0, fP.I0M)] [an 3 0 [] [1] false, az] Try.func52 (by kernel_rfl) all_nil (by kernel_rfl) fP.pure rfl
theorem dFree_kept : Kept Try.prog tables 30 jF.sig := kt [(52, fP.sig)] [] [az] Try.func30 (by kernel_rfl) (all_cons dUsed_kept all_nil) (by kernel_rfl) jF.pure rfl
theorem dAppend_kept : Kept Try.prog tables 11 fD.sig := kt [(29, bV.sig), (30, jF.sig), (24, bJ.sig), (26, bG.sig)] [] [az] Try.func11 (by kernel_rfl) (all_cons dFind_kept (all_cons dFree_kept (all_cons dBegin_kept (all_cons dEnd_kept all_nil)))) (by kernel_rfl) fD.pure rfl
theorem dClone_kept : Kept Try.prog tables 27 qW.sig := cA9 Try.func27 (by kernel_rfl) rfl Try.runClone
theorem dDel_kept : Kept Try.prog tables 50 (aB1.sig 51) := cB4 Try.func50 (by kernel_rfl) rfl (by kernel_rfl) Try.runDel
theorem dSweep_kept : Kept Try.prog tables 28 bT.sig := kt [(50, (aB1.sig 51))] [(bT.I0, bT.I0M), (bT.I1, bT.I1M), (bT.I2, bT.I2M)] [an 2 0 [] [1, 4] false, an 6 1 [] [1, 5] false, an 10 2 [] [1] false, az] Try.func28 (by kernel_rfl) (all_cons dDel_kept all_nil) (by kernel_rfl) bT.pure rfl
theorem dSyncNames_kept : Kept Try.prog tables 9 iH.sig := kt [(24, bJ.sig), (26, bG.sig), (27, qW.sig), (28, bT.sig)] [] [az] Try.func9 (by kernel_rfl) (all_cons dBegin_kept (all_cons dEnd_kept (all_cons dClone_kept (all_cons dSweep_kept all_nil)))) (by kernel_rfl) iH.pure rfl
theorem dPick_kept : Kept Try.prog tables 31 jS.sig := kt [] [] [az] Try.func31 (by kernel_rfl) all_nil (by kernel_rfl) jS.pure rfl
theorem dKeysI_kept : Kept Try.prog tables 34 (lN.sig 55) := kt [] [] [az] Try.func34 (by kernel_rfl) all_nil (by kernel_rfl) lN.pure rfl
theorem dSortI_kept : Kept Try.prog tables 33 (aB2.sig 55) := bH1 Try.func33 (by kernel_rfl) rfl (fun _ => ⟨_, rfl⟩) (.inr ⟨_, _, rfl⟩) (Try.runSortI rfl)
theorem dRestart_kept : Kept Try.prog tables 13 bQ.sig := kt [(31, jS.sig), (32, iG.sig), (27, qW.sig), (28, bT.sig), (34, (lN.sig 55)), (33, (aB2.sig 55))] [(bQ.I0, bQ.I0M), (bQ.I1, bQ.I1M)] [an 2 0 [] [4] false, an 11 1 [] [2] false, az] Try.func13 (by kernel_rfl) (all_cons dPick_kept (all_cons dApply_kept (all_cons dClone_kept (all_cons dSweep_kept (all_cons dKeysI_kept (all_cons dSortI_kept all_nil)))))) (by kernel_rfl) bQ.pure rfl
theorem dRead_kept : Kept Try.prog tables 14 gJ.sig := kt [(29, bV.sig)] [] [az] Try.func14 (by kernel_rfl) (all_cons dFind_kept all_nil) (by kernel_rfl) gJ.pure rfl
theorem dAwake_kept : Kept Try.prog tables 15 iU.sig := kt [(7, dNew.sig), (8, eP.sig), (11, fD.sig), (9, iH.sig), (13, bQ.sig), (14, gJ.sig)] [] [az] Try.func15 (by kernel_rfl) (all_cons dNew_kept (all_cons dCreate_kept (all_cons dAppend_kept (all_cons dSyncNames_kept (all_cons dRestart_kept (all_cons dRead_kept all_nil)))))) (by kernel_rfl) iU.pure rfl
theorem qFree_kept : Kept Try.prog tables 30 yS.sig := cG9 dFree_kept
theorem eDead_kept : Kept Try.prog tables 18 nD.sig := kt [] [] [az] Try.func18 (by kernel_rfl) all_nil (by kernel_rfl) nD.pure rfl
theorem qDead_kept : Kept Try.prog tables 18 sK.sig := cG7 eDead_kept
theorem eCalls_kept : Kept Try.prog tables 36 mZ.sig := kt [] [] [az] Try.func36 (by kernel_rfl) all_nil (by kernel_rfl) mZ.pure rfl
theorem qCalls_kept : Kept Try.prog tables 36 yO.sig := cG4 eCalls_kept
theorem dKeysS_kept : Kept Try.prog tables 58 (kE.sig 70) := kt [] [] [az] Try.func58 (by kernel_rfl) all_nil (by kernel_rfl) kE.pure rfl
theorem dSortS_kept : Kept Try.prog tables 57 (qX.sig 70) := bH1 Try.func57 (by kernel_rfl) rfl (fun _ => ⟨_, rfl⟩) (.inl ⟨_, _, rfl⟩) Try.runSortS
theorem dSafe_kept : Kept Try.prog tables 37 dM.sig := kt [(58, (kE.sig 70)), (57, (qX.sig 70))] [(dM.I0, dM.I0M)] [an 4 0 [] [0] false, az] Try.func37 (by kernel_rfl) (all_cons dKeysS_kept (all_cons dSortS_kept all_nil)) (by kernel_rfl) dM.pure rfl
theorem qSafe_kept : Kept Try.prog tables 37 zA.sig := cH7 dSafe_kept
theorem dNames_kept : Kept Try.prog tables 38 mY.sig := kt [(58, (kE.sig 70)), (57, (qX.sig 70))] [] [az] Try.func38 (by kernel_rfl) (all_cons dKeysS_kept (all_cons dSortS_kept all_nil)) (by kernel_rfl) mY.pure rfl
theorem qNames_kept : Kept Try.prog tables 38 yT.sig := cH0 dNames_kept
theorem qRead_kept : Kept Try.prog tables 14 qH.sig := cH2 dRead_kept
theorem zHeld_kept : Kept Try.prog tables 56 aZ.sig := ks [] [(aZ.I0, aZ.I0M), (aZ.I1, aZ.I1M), (aZ.I2, aZ.I2M)] [an 2 0 [] [] false, an 8 1 [] [] false, an 14 2 [] [] false, az] Try.func56 (by kernel_rfl) all_nil (by kernel_rfl) aZ.pure rfl
theorem zFree_kept : Kept Try.prog tables 35 dZ.sig := ks [(56, aZ.sig)] [(dZ.I0, dZ.I0M)] [an 3 0 [] [] false, az] Try.func35 (by kernel_rfl) (all_cons zHeld_kept all_nil) (by kernel_rfl) dZ.pure rfl
theorem fShows_kept : Kept Try.prog tables 22 aO.sig := ks [(30, yS.sig), (18, sK.sig), (36, yO.sig), (37, zA.sig), (38, yT.sig), (14, qH.sig), (35, dZ.sig)] [(aO.I0, aO.I0M), (aO.I1, aO.I1M), (aO.J0, aO.J0M)] [an 7 0 [] [] false, an 21 1 [] [] false, an 999998 0 [] [] false, { key := 1000003, j := 2, join := true, tmpl := some aO.T }, az] Try.func22 (by kernel_rfl) (all_cons qFree_kept (all_cons qDead_kept (all_cons qCalls_kept (all_cons qSafe_kept (all_cons qNames_kept (all_cons qRead_kept (all_cons zFree_kept all_nil))))))) (by kernel_rfl) aO.pure rfl
theorem dCut_kept : Kept Try.prog tables 10 jE.sig := kt [] [] [az] Try.func10 (by kernel_rfl) all_nil (by kernel_rfl) jE.pure rfl
theorem fFew_kept : Kept Try.prog tables 19 lT.sig := ks [(10, jE.sig)] [] [az] Try.func19 (by kernel_rfl) (all_cons dCut_kept all_nil) (by kernel_rfl) lT.pure rfl
theorem qCreate_kept : Kept Try.prog tables 8 yQ.sig := cG6 dCreate_kept
theorem qAppend_kept : Kept Try.prog tables 11 yN.sig := cG3 dAppend_kept
theorem dSync_kept : Kept Try.prog tables 12 iV.sig := kt [(29, bV.sig), (24, bJ.sig), (26, bG.sig)] [] [az] Try.func12 (by kernel_rfl) (all_cons dFind_kept (all_cons dBegin_kept (all_cons dEnd_kept all_nil))) (by kernel_rfl) iV.pure rfl
theorem qSync_kept : Kept Try.prog tables 12 zB.sig := cH9 dSync_kept
theorem qSyncNames_kept : Kept Try.prog tables 9 zC.sig := cH8 dSyncNames_kept
theorem dRename_kept : Kept Try.prog tables 17 fE.sig := kt [(29, bV.sig), (24, bJ.sig), (25, dN.sig), (26, bG.sig)] [] [az] Try.func17 (by kernel_rfl) (all_cons dFind_kept (all_cons dBegin_kept (all_cons dTurn_kept (all_cons dEnd_kept all_nil)))) (by kernel_rfl) fE.pure rfl
theorem qRename_kept : Kept Try.prog tables 17 yX.sig := cH4 dRename_kept
theorem dRemove_kept : Kept Try.prog tables 20 jG.sig := kt [(29, bV.sig), (24, bJ.sig), (25, dN.sig), (26, bG.sig)] [] [az] Try.func20 (by kernel_rfl) (all_cons dFind_kept (all_cons dBegin_kept (all_cons dTurn_kept (all_cons dEnd_kept all_nil)))) (by kernel_rfl) jG.pure rfl
theorem qRemove_kept : Kept Try.prog tables 20 yV.sig := cH3 dRemove_kept
theorem qRestart_kept : Kept Try.prog tables 13 yY.sig := cH5 dRestart_kept
theorem eCrash_kept : Kept Try.prog tables 16 nC.sig := kt [] [] [az] Try.func16 (by kernel_rfl) all_nil (by kernel_rfl) nC.pure rfl
theorem qCrash_kept : Kept Try.prog tables 16 yP.sig := cG5 eCrash_kept
theorem eFail_kept : Kept Try.prog tables 46 nG.sig := kt [] [] [az] Try.func46 (by kernel_rfl) all_nil (by kernel_rfl) nG.pure rfl
theorem qFail_kept : Kept Try.prog tables 46 yR.sig := cG8 eFail_kept
theorem eRoom_kept : Kept Try.prog tables 47 nH.sig := kt [] [] [az] Try.func47 (by kernel_rfl) all_nil (by kernel_rfl) nH.pure rfl
theorem qRoom_kept : Kept Try.prog tables 47 yZ.sig := cH6 eRoom_kept
theorem zFind_kept : Kept Try.prog tables 59 cO.sig := ks [] [(cO.I0, cO.I0M)] [an 2 0 [] [] false, az] Try.func59 (by kernel_rfl) all_nil (by kernel_rfl) cO.pure rfl
theorem zBegin_kept : Kept Try.prog tables 60 cZ.sig := ks [] [] [az] Try.func60 (by kernel_rfl) all_nil (by kernel_rfl) cZ.pure rfl
theorem zApply_kept : Kept Try.prog tables 64 dJ.sig := ks [] [(dJ.I0, dJ.I0M)] [an 4 0 [] [] false, az] Try.func64 (by kernel_rfl) all_nil (by kernel_rfl) dJ.pure rfl
theorem zTurn_kept : Kept Try.prog tables 61 bF.sig := ks [(64, dJ.sig)] [] [az] Try.func61 (by kernel_rfl) (all_cons zApply_kept all_nil) (by kernel_rfl) bF.pure rfl
theorem zCreate_kept : Kept Try.prog tables 39 jP.sig := ks [(59, cO.sig), (60, cZ.sig), (61, bF.sig)] [] [az] Try.func39 (by kernel_rfl) (all_cons zFind_kept (all_cons zBegin_kept (all_cons zTurn_kept all_nil))) (by kernel_rfl) jP.pure rfl
theorem zSet_kept : Kept Try.prog tables 62 gW.sig := ks [] [] [az] Try.func62 (by kernel_rfl) all_nil (by kernel_rfl) gW.pure rfl
theorem zAppend_kept : Kept Try.prog tables 40 jO.sig := ks [(59, cO.sig), (35, dZ.sig), (60, cZ.sig), (62, gW.sig)] [] [az] Try.func40 (by kernel_rfl) (all_cons zFind_kept (all_cons zFree_kept (all_cons zBegin_kept (all_cons zSet_kept all_nil)))) (by kernel_rfl) jO.pure rfl
theorem zSync_kept : Kept Try.prog tables 41 kP.sig := ks [(59, cO.sig), (60, cZ.sig), (62, gW.sig)] [] [az] Try.func41 (by kernel_rfl) (all_cons zFind_kept (all_cons zBegin_kept (all_cons zSet_kept all_nil))) (by kernel_rfl) kP.pure rfl
theorem zSyncNames_kept : Kept Try.prog tables 42 mO.sig := ks [(60, cZ.sig)] [] [az] Try.func42 (by kernel_rfl) (all_cons zBegin_kept all_nil) (by kernel_rfl) mO.pure rfl
theorem zRename_kept : Kept Try.prog tables 43 jC.sig := ks [(59, cO.sig), (60, cZ.sig), (61, bF.sig)] [] [az] Try.func43 (by kernel_rfl) (all_cons zFind_kept (all_cons zBegin_kept (all_cons zTurn_kept all_nil))) (by kernel_rfl) jC.pure rfl
theorem zRemove_kept : Kept Try.prog tables 44 kD.sig := ks [(59, cO.sig), (60, cZ.sig), (61, bF.sig)] [] [az] Try.func44 (by kernel_rfl) (all_cons zFind_kept (all_cons zBegin_kept (all_cons zTurn_kept all_nil))) (by kernel_rfl) kD.pure rfl
theorem zPick_kept : Kept Try.prog tables 63 kM.sig := ks [] [] [az] Try.func63 (by kernel_rfl) all_nil (by kernel_rfl) kM.pure rfl
theorem zRestart_kept : Kept Try.prog tables 45 dK.sig := ks [(63, kM.sig), (64, dJ.sig), (56, aZ.sig), (62, gW.sig)] [(dK.I0, dK.I0M), (dK.I1, dK.I1M)] [an 3 0 [] [100502] false, an 10 1 [] [100600] false, az] Try.func45 (by kernel_rfl) (all_cons zPick_kept (all_cons zApply_kept (all_cons zHeld_kept (all_cons zSet_kept all_nil)))) (by kernel_rfl) dK.pure rfl
theorem zRead_kept : Kept Try.prog tables 48 kN.sig := ks [(59, cO.sig)] [] [az] Try.func48 (by kernel_rfl) (all_cons zFind_kept all_nil) (by kernel_rfl) kN.pure rfl
theorem fDoes_kept : Kept Try.prog tables 23 dS.sig := ks [(19, lT.sig), (8, yQ.sig), (11, yN.sig), (12, zB.sig), (9, zC.sig), (17, yX.sig), (20, yV.sig), (13, yY.sig), (16, yP.sig), (46, yR.sig), (47, yZ.sig), (14, qH.sig), (39, jP.sig), (40, jO.sig), (41, kP.sig), (42, mO.sig), (43, jC.sig), (44, kD.sig), (45, dK.sig), (48, kN.sig)] [] [az] Try.func23 (by kernel_rfl) (all_cons fFew_kept (all_cons qCreate_kept (all_cons qAppend_kept (all_cons qSync_kept (all_cons qSyncNames_kept (all_cons qRename_kept (all_cons qRemove_kept (all_cons qRestart_kept (all_cons qCrash_kept (all_cons qFail_kept (all_cons qRoom_kept (all_cons qRead_kept (all_cons zCreate_kept (all_cons zAppend_kept (all_cons zSync_kept (all_cons zSyncNames_kept (all_cons zRename_kept (all_cons zRemove_kept (all_cons zRestart_kept (all_cons zRead_kept all_nil)))))))))))))))))))) (by kernel_rfl) dS.pure rfl
theorem LDiskPlays_kept : Kept Try.prog tables 6 dV.sig := ks [(7, yU.sig), (21, mM.sig), (15, iU.sig), (22, aO.sig), (23, dS.sig)] [(dV.I0, dV.I0M)] [an 6 0 [] [0, 5] false, az] Try.func6 (by kernel_rfl) (all_cons qNew_kept (all_cons zNew_kept (all_cons dAwake_kept (all_cons fShows_kept (all_cons fDoes_kept all_nil))))) (by kernel_rfl) dV.pure rfl
end Go.Proofs.Ytdppcnngoclehaa.DskpKeep
