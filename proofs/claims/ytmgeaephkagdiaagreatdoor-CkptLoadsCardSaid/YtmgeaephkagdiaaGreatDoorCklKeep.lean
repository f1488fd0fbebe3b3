/-
  Each of these functions keeps its contract, in the program of this seat.
-/
import Derived.Test.YtmgeaephkagdiaaGreatDoorChecked
import Derived.Test.YtmgeaephkagdiaaGreatDoorSlm
import Derived.Test.YtmgeaephkagdiaaGreatDoorIns
import Derived.Test.YtmgeaephkagdiaaGreatDoorCkc
import Derived.Test.YtmgeaephkagdiaaGreatDoorTab
import Derived.LaidMore
import Derived.Stop.Joined
set_option linter.unusedVariables false
set_option maxRecDepth 100000
namespace Go.Proofs.YtmgeaephkagdiaaGreatDoor.CklKeep
open Go.Vc
theorem mixed : Tryz.prog.follows .mixedOrders = true := by kernel_rfl
theorem all_nil {p : FuncId × Sig → Prop} : ∀ x ∈ ([] : List (FuncId × Sig)), p x := by intro x hx; cases hx
theorem all_cons {p : FuncId × Sig → Prop} {a : FuncId × Sig} {l : List (FuncId × Sig)} (h : p a) (h' : ∀ x ∈ l, p x) : ∀ x ∈ a :: l, p x := by
  intro x hx
  rcases List.mem_cons.1 hx with rfl | hx
  · exact h
  · exact h' x hx
def tables : List Glob := [{ g := 2, k := .u32, l := gK }, { g := 1, k := .u32, l := dO }]
abbrev az : Ann := { key := 999999, j := 0, watch := [], havoc := [] }
abbrev an (k j : Nat) (w h : List Nat) (z : Bool) : Ann := { key := k, j := j, watch := w, havoc := h, frz := z }
noncomputable def cx_ (fn : Func) (l : List (FuncId × Sig)) (s : Sig) (a : List Ann) : Cx := { P := Tryz.prog, fn := fn, G := tables, sigs := uM 1 l, own := s.toSigR, anns := a }
theorem ks {f : FuncId} {fn : Func} {s : Sig} {Q : Prop} (l : List (FuncId × Sig)) (i : List ((List D → Prop) × (List D → Nat))) (a : List Ann) (hf : Tryz.prog.funcs[f]? = some fn) (hn : (fn.name == "runtime.NumGoroutine") = false) (hl : ∀ x ∈ l, Kept Tryz.prog tables x.1 x.2)
    (hq : aO8 (cx_ fn l s a) (jX s (l.map (·.2)) i) = Q) (q : Q) (h : l.length.blt 199 = true) : Kept Tryz.prog tables f s := dG1 (cx := cx_ fn l s a) mixed hf hn rfl rfl hl rfl hq q (Nat.blt_eq.mp h)
theorem kt {f : FuncId} {fn : Func} {s : Sig} {Q : Prop} (l : List (FuncId × Sig)) (i : List ((List D → Prop) × (List D → Nat))) (a : List Ann) (hf : Tryz.prog.funcs[f]? = some fn) (hn : (fn.name == "runtime.NumGoroutine") = false) (hl : ∀ x ∈ l, Kept Tryz.prog tables x.1 x.2)
    (hq : aO9 (cx_ fn l s a) (jX s (l.map (·.2)) i) = Q) (q : Q) (h : l.length.blt 199 = true) : Kept Tryz.prog tables f s := dG3 (cx := cx_ fn l s a) mixed hf hn rfl rfl hl rfl hq q (Nat.blt_eq.mp h)
theorem Cut_kept : Kept Tryz.prog tables 14 Cut.sig := kt [] [] [] Tryz.func14 (by kernel_rfl) all_nil (by kernel_rfl) Cut.pure rfl
theorem dNew_kept : Kept Tryz.prog tables 12 dNew.sig := kt [] [] [az] Tryz.func12 (by kernel_rfl) all_nil (by kernel_rfl) dNew.pure rfl
theorem qNew_kept : Kept Tryz.prog tables 12 wV.sig := dO2 dNew_kept
theorem T32_kept : Kept Tryz.prog tables 188 T32.sig := kt [] [] [] Tryz.func188 (by kernel_rfl) all_nil (by kernel_rfl) T32.pure rfl
theorem SSched_kept : Kept Tryz.prog tables 187 bQ.sig := kt [(188, T32.sig)] [(bQ.I0, bQ.I0M), (bQ.I1, bQ.I1M)] [an 3 0 [] [0] false, an 8 1 [] [0] false, az] Tryz.func187 (by kernel_rfl) (all_cons T32_kept all_nil) (by kernel_rfl) bQ.pure rfl
theorem SMix_kept : Kept Tryz.prog tables 145 aF.sig := kt [(187, bQ.sig), (188, T32.sig)] [(aF.I0, aF.I0M), (aF.I1, aF.I1M), (aF.J0, aF.J0M)] [an 3 0 [] [0] false, an 11 1 [] [0] false, { key := 3, j := 2, join := true, tmpl := some aF.T }, az] Tryz.func145 (by kernel_rfl) (all_cons SSched_kept (all_cons T32_kept all_nil)) (by kernel_rfl) aF.pure rfl
theorem HWrite_kept : Kept Tryz.prog tables 114 dP.sig := kt [(145, aF.sig)] [(dP.I0, dP.I0M)] [an 4 0 [] [1] false, az] Tryz.func114 (by kernel_rfl) (all_cons SMix_kept all_nil) (by kernel_rfl) dP.pure rfl
theorem Bytes_kept : Kept Tryz.prog tables 146 Bytes.sig := kt [] [(Bytes.I0, Bytes.I0M)] [an 3 0 [] [0] false] Tryz.func146 (by kernel_rfl) all_nil (by kernel_rfl) Bytes.pure rfl
theorem Swap_kept : Kept Tryz.prog tables 147 Swap.sig := kt [] [] [] Tryz.func147 (by kernel_rfl) all_nil (by kernel_rfl) Swap.pure rfl
theorem HSum_kept : Kept Tryz.prog tables 115 aV.sig := kt [(145, aF.sig), (146, Bytes.sig), (147, Swap.sig)] [(aV.I0, aV.I0M), (aV.I1, aV.I1M), (aV.I2, aV.I2M)] [an 5 0 [] [] false, an 8 1 [] [2] true, an 13 2 [] [0] false, az] Tryz.func115 (by kernel_rfl) (all_cons SMix_kept (all_cons Bytes_kept (all_cons Swap_kept all_nil))) (by kernel_rfl) aV.pure rfl
theorem HOf_kept : Kept Tryz.prog tables 71 HOf.sig := kt [(114, dP.sig), (115, aV.sig)] [] [] Tryz.func71 (by kernel_rfl) (all_cons HWrite_kept (all_cons HSum_kept all_nil)) (by kernel_rfl) HOf.pure rfl
theorem HCmp_kept : Kept Tryz.prog tables 141 iH.sig := kt [] [(iH.I0, iH.I0M)] [an 2 0 [] [] false, az] Tryz.func141 (by kernel_rfl) all_nil (by kernel_rfl) iH.pure rfl
theorem ECmp_kept : Kept Tryz.prog tables 149 nR.sig := kt [(141, iH.sig)] [] [az] Tryz.func149 (by kernel_rfl) (all_cons HCmp_kept all_nil) (by kernel_rfl) nR.pure rfl
theorem BSF_kept : Kept Tryz.prog tables 148 (BSF.sig 149) := kt [(149, nR.sig)] [(BSF.I0, BSF.I0M)] [an 3 0 [] [] false, az] Tryz.func148 (by kernel_rfl) (all_cons ECmp_kept all_nil) (by kernel_rfl) BSF.pure rfl
theorem TFind_kept : Kept Tryz.prog tables 116 nT.sig := kt [(148, (BSF.sig 149))] [] [az] Tryz.func116 (by kernel_rfl) (all_cons BSF_kept all_nil) (by kernel_rfl) nT.pure rfl
theorem TInsA_kept : Kept Tryz.prog tables 117 jQ.sig := dG6 Tryz.func117 (by kernel_rfl) (by kernel_rfl) Ins.insOk
theorem TPutA_kept : Kept Tryz.prog tables 72 kS.sig := kt [(116, nT.sig), (117, jQ.sig)] [] [az] Tryz.func72 (by kernel_rfl) (all_cons TFind_kept (all_cons TInsA_kept all_nil)) (by kernel_rfl) kS.pure rfl
theorem rFind_kept : Kept Tryz.prog tables 118 iR.sig := kt [] [(iR.I0, iR.I0M)] [an 2 0 [] [] false, az] Tryz.func118 (by kernel_rfl) all_nil (by kernel_rfl) iR.pure rfl
theorem rPut_kept : Kept Tryz.prog tables 73 fO.sig := kt [(118, iR.sig)] [(fO.I0, fO.I0M)] [an 6 0 [] [] false, az] Tryz.func73 (by kernel_rfl) (all_cons rFind_kept all_nil) (by kernel_rfl) fO.pure rfl
theorem Grow_kept : Kept Tryz.prog tables 38 Grow.sig := kt [(71, HOf.sig), (14, Cut.sig), (72, kS.sig), (73, fO.sig)] [(Grow.I0, Grow.I0M)] [an 4 0 [] [1] true, az] Tryz.func38 (by kernel_rfl) (all_cons HOf_kept (all_cons Cut_kept (all_cons TPutA_kept (all_cons rPut_kept all_nil)))) (by kernel_rfl) Grow.pure rfl
theorem dKeysS_kept : Kept Tryz.prog tables 49 (tC.sig 86) := kt [] [] [az] Tryz.func49 (by kernel_rfl) all_nil (by kernel_rfl) tC.pure rfl
theorem dSortS_kept : Kept Tryz.prog tables 48 (aO7.sig 86) := cE5 Tryz.func48 (by kernel_rfl) rfl (fun _ => ⟨_, rfl⟩) (.inl ⟨_, _, rfl⟩) Tryz.runSortS
theorem dNames_kept : Kept Tryz.prog tables 17 tH.sig := kt [(49, (tC.sig 86)), (48, (aO7.sig 86))] [] [az] Tryz.func17 (by kernel_rfl) (all_cons dKeysS_kept (all_cons dSortS_kept all_nil)) (by kernel_rfl) tH.pure rfl
theorem qNames_kept : Kept Tryz.prog tables 17 aJ7.sig := dO1 dNames_kept
theorem wIndex_kept : Kept Tryz.prog tables 121 kP.sig := ks [] [(kP.I0, kP.I0M)] [an 2 0 [] [] false, az] Tryz.func121 (by kernel_rfl) all_nil (by kernel_rfl) kP.pure rfl
theorem wContains_kept : Kept Tryz.prog tables 81 uQ.sig := ks [(121, kP.sig)] [] [az] Tryz.func81 (by kernel_rfl) (all_cons wIndex_kept all_nil) (by kernel_rfl) uQ.pure rfl
theorem dFind_kept : Kept Tryz.prog tables 46 eP.sig := kt [] [] [az] Tryz.func46 (by kernel_rfl) all_nil (by kernel_rfl) eP.pure rfl
theorem dBegin_kept : Kept Tryz.prog tables 43 dR.sig := kt [] [] [az] Tryz.func43 (by kernel_rfl) all_nil (by kernel_rfl) dR.pure rfl
theorem dApply_kept : Kept Tryz.prog tables 58 lM.sig := kt [] [] [az] Tryz.func58 (by kernel_rfl) all_nil (by kernel_rfl) lM.pure rfl
theorem dTurn_kept : Kept Tryz.prog tables 44 gZ.sig := kt [(58, lM.sig)] [] [az] Tryz.func44 (by kernel_rfl) (all_cons dApply_kept all_nil) (by kernel_rfl) gZ.pure rfl
theorem dEnd_kept : Kept Tryz.prog tables 45 dL.sig := kt [] [] [az] Tryz.func45 (by kernel_rfl) all_nil (by kernel_rfl) dL.pure rfl
theorem dRemove_kept : Kept Tryz.prog tables 63 nH.sig := kt [(46, eP.sig), (43, dR.sig), (44, gZ.sig), (45, dL.sig)] [] [az] Tryz.func63 (by kernel_rfl) (all_cons dFind_kept (all_cons dBegin_kept (all_cons dTurn_kept (all_cons dEnd_kept all_nil)))) (by kernel_rfl) nH.pure rfl
theorem qRemove_kept : Kept Tryz.prog tables 63 aJ9.sig := dO4 dRemove_kept
theorem cClean_kept : Kept Tryz.prog tables 41 pX.sig := ks [(17, aJ7.sig), (81, uQ.sig), (63, aJ9.sig)] [] [az] Tryz.func41 (by kernel_rfl) (all_cons qNames_kept (all_cons wContains_kept (all_cons qRemove_kept all_nil))) (by kernel_rfl) pX.pure rfl
theorem cDo1_kept : Kept Tryz.prog tables 74 sU.sig := ks [(41, pX.sig)] [] [az] Tryz.func74 (by kernel_rfl) (all_cons cClean_kept all_nil) (by kernel_rfl) sU.pure rfl
theorem dCreate_kept : Kept Tryz.prog tables 15 nZ.sig := kt [(43, dR.sig), (44, gZ.sig), (45, dL.sig)] [] [az] Tryz.func15 (by kernel_rfl) (all_cons dBegin_kept (all_cons dTurn_kept (all_cons dEnd_kept all_nil))) (by kernel_rfl) nZ.pure rfl
theorem qCreate_kept : Kept Tryz.prog tables 15 sG.sig := dO0 dCreate_kept
theorem cDo2_kept : Kept Tryz.prog tables 75 sV.sig := ks [(15, sG.sig)] [] [az] Tryz.func75 (by kernel_rfl) (all_cons qCreate_kept all_nil) (by kernel_rfl) sV.pure rfl
theorem WRaw_kept : Kept Tryz.prog tables 93 mF.sig := kt [] [] [] Tryz.func93 (by kernel_rfl) all_nil (by kernel_rfl) mF.pure rfl
theorem Width_kept : Kept Tryz.prog tables 152 Width.sig := kt [] [(Width.I0, Width.I0M)] [an 2 0 [] [] false] Tryz.func152 (by kernel_rfl) all_nil (by kernel_rfl) Width.pure rfl
theorem Low_kept : Kept Tryz.prog tables 122 Low.sig := kt [] [] [] Tryz.func122 (by kernel_rfl) all_nil (by kernel_rfl) Low.pure rfl
theorem Field_kept : Kept Tryz.prog tables 82 Field.sig := kt [(122, Low.sig)] [] [] Tryz.func82 (by kernel_rfl) (all_cons Low_kept all_nil) (by kernel_rfl) Field.pure rfl
theorem WFixed_kept : Kept Tryz.prog tables 94 fV.sig := kt [(82, Field.sig)] [(fV.I0, fV.I0M)] [an 2 0 [] [0] false] Tryz.func94 (by kernel_rfl) (all_cons Field_kept all_nil) (by kernel_rfl) fV.pure rfl
theorem WNum_kept : Kept Tryz.prog tables 119 kT.sig := kt [(152, Width.sig), (94, fV.sig)] [] [] Tryz.func119 (by kernel_rfl) (all_cons Width_kept (all_cons WFixed_kept all_nil)) (by kernel_rfl) kT.pure rfl
theorem WText_kept : Kept Tryz.prog tables 120 nD.sig := kt [(119, kT.sig)] [] [] Tryz.func120 (by kernel_rfl) (all_cons WNum_kept all_nil) (by kernel_rfl) nD.pure rfl
theorem WBytes_kept : Kept Tryz.prog tables 97 nU.sig := kt [] [] [] Tryz.func97 (by kernel_rfl) all_nil (by kernel_rfl) nU.pure rfl
theorem TBytes_kept : Kept Tryz.prog tables 77 gG.sig := kt [(93, mF.sig), (119, kT.sig), (120, nD.sig), (97, nU.sig), (71, HOf.sig)] [(gG.I0, gG.I0M)] [an 5 0 [] [0] false, az] Tryz.func77 (by kernel_rfl) (all_cons WRaw_kept (all_cons WNum_kept (all_cons WText_kept (all_cons WBytes_kept (all_cons HOf_kept all_nil))))) (by kernel_rfl) gG.pure rfl
theorem dUsed_kept : Kept Tryz.prog tables 83 jT.sig := kt [] [(jT.I0, jT.I0M)] [an 3 0 [] [1] false, az] Tryz.func83 (by kernel_rfl) all_nil (by kernel_rfl) jT.pure rfl
theorem dFree_kept : Kept Tryz.prog tables 47 oQ.sig := kt [(83, jT.sig)] [] [az] Tryz.func47 (by kernel_rfl) (all_cons dUsed_kept all_nil) (by kernel_rfl) oQ.pure rfl
theorem dAppend_kept : Kept Tryz.prog tables 16 mJ.sig := kt [(46, eP.sig), (47, oQ.sig), (43, dR.sig), (45, dL.sig)] [] [az] Tryz.func16 (by kernel_rfl) (all_cons dFind_kept (all_cons dFree_kept (all_cons dBegin_kept (all_cons dEnd_kept all_nil)))) (by kernel_rfl) mJ.pure rfl
theorem qAppend_kept : Kept Tryz.prog tables 16 lV.sig := dN9 dAppend_kept
theorem cDo3_kept : Kept Tryz.prog tables 76 oP.sig := ks [(77, gG.sig), (16, lV.sig)] [] [az] Tryz.func76 (by kernel_rfl) (all_cons TBytes_kept (all_cons qAppend_kept all_nil)) (by kernel_rfl) oP.pure rfl
theorem dSync_kept : Kept Tryz.prog tables 56 mM.sig := kt [(46, eP.sig), (43, dR.sig), (45, dL.sig)] [] [az] Tryz.func56 (by kernel_rfl) (all_cons dFind_kept (all_cons dBegin_kept (all_cons dEnd_kept all_nil))) (by kernel_rfl) mM.pure rfl
theorem qSync_kept : Kept Tryz.prog tables 56 aK3.sig := dO8 dSync_kept
theorem cDo4_kept : Kept Tryz.prog tables 78 sW.sig := ks [(56, aK3.sig)] [] [az] Tryz.func78 (by kernel_rfl) (all_cons qSync_kept all_nil) (by kernel_rfl) sW.pure rfl
theorem dRename_kept : Kept Tryz.prog tables 80 jH.sig := kt [(46, eP.sig), (43, dR.sig), (44, gZ.sig), (45, dL.sig)] [] [az] Tryz.func80 (by kernel_rfl) (all_cons dFind_kept (all_cons dBegin_kept (all_cons dTurn_kept (all_cons dEnd_kept all_nil)))) (by kernel_rfl) jH.pure rfl
theorem qRename_kept : Kept Tryz.prog tables 80 aK1.sig := dO5 dRename_kept
theorem cDo5_kept : Kept Tryz.prog tables 79 sZ.sig := ks [(80, aK1.sig)] [] [az] Tryz.func79 (by kernel_rfl) (all_cons qRename_kept all_nil) (by kernel_rfl) sZ.pure rfl
theorem dClone_kept : Kept Tryz.prog tables 59 xR.sig := dG4 Tryz.func59 (by kernel_rfl) rfl Tryz.runClone
theorem dDel_kept : Kept Tryz.prog tables 99 (aO5.sig 100) := dG5 Tryz.func99 (by kernel_rfl) rfl (by kernel_rfl) Tryz.runDel
theorem dSweep_kept : Kept Tryz.prog tables 60 dZ.sig := kt [(99, (aO5.sig 100))] [(dZ.I0, dZ.I0M), (dZ.I1, dZ.I1M), (dZ.I2, dZ.I2M)] [an 2 0 [] [1, 4] false, an 6 1 [] [1, 5] false, an 10 2 [] [1] false, az] Tryz.func60 (by kernel_rfl) (all_cons dDel_kept all_nil) (by kernel_rfl) dZ.pure rfl
theorem dSyncNames_kept : Kept Tryz.prog tables 64 qC.sig := kt [(43, dR.sig), (45, dL.sig), (59, xR.sig), (60, dZ.sig)] [] [az] Tryz.func64 (by kernel_rfl) (all_cons dBegin_kept (all_cons dEnd_kept (all_cons dClone_kept (all_cons dSweep_kept all_nil)))) (by kernel_rfl) qC.pure rfl
theorem qSyncNames_kept : Kept Tryz.prog tables 64 aK4.sig := dO7 dSyncNames_kept
theorem cSave_kept : Kept Tryz.prog tables 39 dW.sig := ks [(74, sU.sig), (75, sV.sig), (76, oP.sig), (78, sW.sig), (79, sZ.sig), (64, aK4.sig)] [(dW.I0, dW.I0M)] [an 2 0 [] [5] false, az] Tryz.func39 (by kernel_rfl) (all_cons cDo1_kept (all_cons cDo2_kept (all_cons cDo3_kept (all_cons cDo4_kept (all_cons cDo5_kept (all_cons qSyncNames_kept all_nil)))))) (by kernel_rfl) dW.pure rfl
theorem dPick_kept : Kept Tryz.prog tables 57 oU.sig := kt [] [] [az] Tryz.func57 (by kernel_rfl) all_nil (by kernel_rfl) oU.pure rfl
theorem dKeysI_kept : Kept Tryz.prog tables 62 (rH.sig 103) := kt [] [] [az] Tryz.func62 (by kernel_rfl) all_nil (by kernel_rfl) rH.pure rfl
theorem dSortI_kept : Kept Tryz.prog tables 61 (aO6.sig 103) := cE5 Tryz.func61 (by kernel_rfl) rfl (fun _ => ⟨_, rfl⟩) (.inr ⟨_, _, rfl⟩) (Tryz.runSortI rfl)
theorem dRestart_kept : Kept Tryz.prog tables 26 fZ.sig := kt [(57, oU.sig), (58, lM.sig), (59, xR.sig), (60, dZ.sig), (62, (rH.sig 103)), (61, (aO6.sig 103))] [(fZ.I0, fZ.I0M), (fZ.I1, fZ.I1M)] [an 2 0 [] [4] false, an 11 1 [] [2] false, az] Tryz.func26 (by kernel_rfl) (all_cons dPick_kept (all_cons dApply_kept (all_cons dClone_kept (all_cons dSweep_kept (all_cons dKeysI_kept (all_cons dSortI_kept all_nil)))))) (by kernel_rfl) fZ.pure rfl
theorem qRestart_kept : Kept Tryz.prog tables 26 aK2.sig := dO6 dRestart_kept
theorem dRead_kept : Kept Tryz.prog tables 18 rJ.sig := kt [(46, eP.sig)] [] [az] Tryz.func18 (by kernel_rfl) (all_cons dFind_kept all_nil) (by kernel_rfl) rJ.pure rfl
theorem qRead_kept : Kept Tryz.prog tables 18 aJ8.sig := dO3 dRead_kept
theorem PRead_kept : Kept Tryz.prog tables 129 sQ.sig := kt [] [] [] Tryz.func129 (by kernel_rfl) all_nil (by kernel_rfl) sQ.pure rfl
theorem PRaw_kept : Kept Tryz.prog tables 130 eH.sig := kt [] [] [] Tryz.func130 (by kernel_rfl) all_nil (by kernel_rfl) eH.pure rfl
theorem PFixed_kept : Kept Tryz.prog tables 132 iY.sig := kt [(130, eH.sig)] [(iY.I0, iY.I0M)] [an 3 0 [] [] false] Tryz.func132 (by kernel_rfl) (all_cons PRaw_kept all_nil) (by kernel_rfl) iY.pure rfl
theorem PNum_kept : Kept Tryz.prog tables 139 gW.sig := kt [(132, iY.sig), (152, Width.sig)] [] [] Tryz.func139 (by kernel_rfl) (all_cons PFixed_kept (all_cons Width_kept all_nil)) (by kernel_rfl) gW.pure rfl
theorem PFail_kept : Kept Tryz.prog tables 138 kR.sig := kt [] [] [] Tryz.func138 (by kernel_rfl) all_nil (by kernel_rfl) kR.pure rfl
theorem PErr_kept : Kept Tryz.prog tables 131 pR.sig := kt [] [] [] Tryz.func131 (by kernel_rfl) all_nil (by kernel_rfl) pR.pure rfl
theorem PText_kept : Kept Tryz.prog tables 140 kE.sig := kt [(139, gW.sig), (130, eH.sig)] [] [] Tryz.func140 (by kernel_rfl) (all_cons PNum_kept (all_cons PRaw_kept all_nil)) (by kernel_rfl) kE.pure rfl
theorem PDone_kept : Kept Tryz.prog tables 142 lD.sig := kt [(138, kR.sig)] [] [] Tryz.func142 (by kernel_rfl) (all_cons PFail_kept all_nil) (by kernel_rfl) lD.pure rfl
theorem TRead_kept : Kept Tryz.prog tables 108 aO.sig := kt [(129, sQ.sig), (130, eH.sig), (139, gW.sig), (138, kR.sig), (131, pR.sig), (140, kE.sig), (141, iH.sig), (142, lD.sig)] [(aO.I0, aO.I0M), (aO.J0, aO.J0M)] [an 6 0 [] [0, 1] false, { key := 6, j := 1, join := true, tmpl := some aO.T }, az] Tryz.func108 (by kernel_rfl) (all_cons PRead_kept (all_cons PRaw_kept (all_cons PNum_kept (all_cons PFail_kept (all_cons PErr_kept (all_cons PText_kept (all_cons HCmp_kept (all_cons PDone_kept all_nil)))))))) (by kernel_rfl) aO.pure rfl
theorem TParse_kept : Kept Tryz.prog tables 68 kG.sig := kt [(71, HOf.sig), (108, aO.sig)] [] [az] Tryz.func68 (by kernel_rfl) (all_cons HOf_kept (all_cons TRead_kept all_nil)) (by kernel_rfl) kG.pure rfl
theorem cLoad_kept : Kept Tryz.prog tables 35 dQ.sig := ks [(18, aJ8.sig), (68, kG.sig)] [] [az] Tryz.func35 (by kernel_rfl) (all_cons qRead_kept (all_cons TParse_kept all_nil)) (by kernel_rfl) dQ.pure rfl
theorem TClone_kept : Kept Tryz.prog tables 113 nC.sig := kt [] [] [az] Tryz.func113 (by kernel_rfl) all_nil (by kernel_rfl) nC.pure rfl
theorem TAll_kept : Kept Tryz.prog tables 70 nS.sig := kt [(113, nC.sig)] [] [az] Tryz.func70 (by kernel_rfl) (all_cons TClone_kept all_nil) (by kernel_rfl) nS.pure rfl
theorem TLen_kept : Kept Tryz.prog tables 40 pV.sig := kt [] [] [az] Tryz.func40 (by kernel_rfl) all_nil (by kernel_rfl) pV.pure rfl
theorem TSame_kept : Kept Tryz.prog tables 37 bT.sig := kt [(70, nS.sig), (40, pV.sig)] [(bT.I0, bT.I0M)] [an 5 0 [] [] false, az] Tryz.func37 (by kernel_rfl) (all_cons TAll_kept (all_cons TLen_kept all_nil)) (by kernel_rfl) bT.pure rfl
theorem aw23_kept : Kept Tryz.prog tables 32 nG.sig := ks [(12, wV.sig), (38, Grow.sig), (39, dW.sig), (26, aK2.sig), (35, dQ.sig), (37, bT.sig)] [] [az] Tryz.func32 (by kernel_rfl) (all_cons qNew_kept (all_cons Grow_kept (all_cons cSave_kept (all_cons qRestart_kept (all_cons cLoad_kept (all_cons TSame_kept all_nil)))))) (by kernel_rfl) nG.pure rfl
theorem rPrimes_kept : Kept Tryz.prog tables 66 dX.sig := kt [] [(dX.I0, dX.I0M), (dX.I1, dX.I1M)] [an 3 0 [] [] false, an 7 1 [3, 4] [] false, az] Tryz.func66 (by kernel_rfl) all_nil (by kernel_rfl) dX.pure rfl
theorem rTimes_kept : Kept Tryz.prog tables 106 dG.sig := kt [] [(dG.I0, dG.I0M), (dG.I1, dG.I1M), (dG.I2, dG.I2M)] [an 3 0 [] [0] false, an 6 1 [6] [1] false, an 10 2 [6, 8] [1] false, az] Tryz.func106 (by kernel_rfl) all_nil (by kernel_rfl) dG.pure rfl
theorem rOver_kept : Kept Tryz.prog tables 107 iT.sig := kt [] [(iT.I0, iT.I0M)] [an 4 0 [] [] false, az] Tryz.func107 (by kernel_rfl) all_nil (by kernel_rfl) iT.pure rfl
theorem rRoot_kept : Kept Tryz.prog tables 67 dD.sig := kt [(106, dG.sig), (107, iT.sig)] [(dD.I0, dD.I0M), (dD.I1, dD.I1M)] [an 3 0 [] [] false, an 7 1 [5, 6] [0] false, az] Tryz.func67 (by kernel_rfl) (all_cons rTimes_kept (all_cons rOver_kept all_nil)) (by kernel_rfl) dD.pure rfl
theorem rMade_kept : Kept Tryz.prog tables 34 bC.sig := kt [(66, dX.sig), (67, dD.sig)] [(bC.I0, bC.I0M), (bC.I1, bC.I1M)] [an 3 0 [] [3] false, an 8 1 [] [4] false, az] Tryz.func34 (by kernel_rfl) (all_cons rPrimes_kept (all_cons rRoot_kept all_nil)) (by kernel_rfl) bC.pure rfl
theorem rTurn_kept : Kept Tryz.prog tables 104 dS.sig := kt [] [(dS.I0, dS.I0M)] [an 2 0 [] [] false] Tryz.func104 (by kernel_rfl) all_nil (by kernel_rfl) dS.pure rfl
theorem rNot_kept : Kept Tryz.prog tables 105 qQ.sig := kt [] [] [] Tryz.func105 (by kernel_rfl) all_nil (by kernel_rfl) qQ.pure rfl
theorem rMix_kept : Kept Tryz.prog tables 65 bW.sig := kt [(104, dS.sig), (105, qQ.sig)] [(bW.I0, bW.I0M), (bW.I1, bW.I1M), (bW.I2, bW.I2M), (bW.I3, bW.I3M)] [an 3 0 [] [] false, an 7 1 [] [] false, an 13 2 [] [] false, an 20 3 [] [0] false, az] Tryz.func65 (by kernel_rfl) (all_cons rTurn_kept (all_cons rNot_kept all_nil)) (by kernel_rfl) bW.pure rfl
theorem rOf_kept : Kept Tryz.prog tables 33 rOf.sig := kt [(65, bW.sig)] [(rOf.I0, rOf.I0M), (rOf.I1, rOf.I1M), (rOf.I2, rOf.I2M), (rOf.I3, rOf.I3M)] [an 4 0 [] [] false, an 9 1 [] [] false, an 16 2 [] [] false, an 21 3 [] [] false, az] Tryz.func33 (by kernel_rfl) (all_cons rMix_kept all_nil) (by kernel_rfl) rOf.pure rfl
theorem cRaw_kept : Kept Tryz.prog tables 110 aQ.sig := kt [] [] [] Tryz.func110 (by kernel_rfl) all_nil (by kernel_rfl) aQ.pure rfl
theorem cFixed_kept : Kept Tryz.prog tables 143 iI.sig := kt [(110, aQ.sig)] [(iI.I0, iI.I0M)] [an 4 0 [] [] false] Tryz.func143 (by kernel_rfl) (all_cons cRaw_kept all_nil) (by kernel_rfl) iI.pure rfl
theorem RBits_kept : Kept Tryz.prog tables 208 jP.sig := kt [] [(jP.I0, jP.I0M)] [an 3 0 [] [] false] Tryz.func208 (by kernel_rfl) all_nil (by kernel_rfl) jP.pure rfl
theorem RValue_kept : Kept Tryz.prog tables 209 iZ.sig := kt [] [(iZ.I0, iZ.I0M)] [an 3 0 [] [] false] Tryz.func209 (by kernel_rfl) all_nil (by kernel_rfl) iZ.pure rfl
theorem RField_kept : Kept Tryz.prog tables 186 pU.sig := kt [(208, jP.sig), (209, iZ.sig)] [] [] Tryz.func186 (by kernel_rfl) (all_cons RBits_kept (all_cons RValue_kept all_nil)) (by kernel_rfl) pU.pure rfl
theorem RBytes_kept : Kept Tryz.prog tables 202 kF.sig := kt [] [(kF.I0, kF.I0M)] [an 3 0 [] [] false] Tryz.func202 (by kernel_rfl) all_nil (by kernel_rfl) kF.pure rfl
theorem RFixed_kept : Kept Tryz.prog tables 175 gB.sig := kt [(202, kF.sig)] [(gB.I0, gB.I0M)] [an 3 0 [] [] false] Tryz.func175 (by kernel_rfl) (all_cons RBytes_kept all_nil) (by kernel_rfl) gB.pure rfl
theorem RNum_kept : Kept Tryz.prog tables 144 fU.sig := kt [(186, pU.sig), (175, gB.sig)] [(fU.I0, fU.I0M)] [an 5 0 [] [] false] Tryz.func144 (by kernel_rfl) (all_cons RField_kept (all_cons RFixed_kept all_nil)) (by kernel_rfl) fU.pure rfl
theorem cNum_kept : Kept Tryz.prog tables 109 iJ.sig := kt [(143, iI.sig), (144, fU.sig)] [] [] Tryz.func109 (by kernel_rfl) (all_cons cFixed_kept (all_cons RNum_kept all_nil)) (by kernel_rfl) iJ.pure rfl
theorem cText_kept : Kept Tryz.prog tables 111 aZ.sig := kt [(109, iJ.sig), (110, aQ.sig)] [] [] Tryz.func111 (by kernel_rfl) (all_cons cNum_kept (all_cons cRaw_kept all_nil)) (by kernel_rfl) aZ.pure rfl
theorem cDone_kept : Kept Tryz.prog tables 112 kV.sig := kt [] [] [] Tryz.func112 (by kernel_rfl) all_nil (by kernel_rfl) kV.pure rfl
theorem rPs_kept : Kept Tryz.prog tables 69 rPs.sig := kt [(33, rOf.sig), (109, iJ.sig), (110, aQ.sig), (111, aZ.sig), (112, kV.sig)] [(rPs.I0, rPs.I0M)] [an 11 0 [] [1] false, az] Tryz.func69 (by kernel_rfl) (all_cons rOf_kept (all_cons cNum_kept (all_cons cRaw_kept (all_cons cText_kept (all_cons cDone_kept all_nil))))) (by kernel_rfl) rPs.pure rfl
theorem rLoad_kept : Kept Tryz.prog tables 36 dV.sig := ks [(69, rPs.sig)] [(dV.I0, dV.I0M)] [an 2 0 [] [] false, az] Tryz.func36 (by kernel_rfl) (all_cons rPs_kept all_nil) (by kernel_rfl) dV.pure rfl
theorem LCkptLoads_kept : Kept Tryz.prog tables 8 bK.sig := ks [(14, Cut.sig), (12, wV.sig), (32, nG.sig), (34, bC.sig), (33, rOf.sig), (15, sG.sig), (16, lV.sig), (35, dQ.sig), (36, dV.sig), (37, bT.sig)] [] [az] Tryz.func8 (by kernel_rfl) (all_cons Cut_kept (all_cons qNew_kept (all_cons aw23_kept (all_cons rMade_kept (all_cons rOf_kept (all_cons qCreate_kept (all_cons qAppend_kept (all_cons cLoad_kept (all_cons rLoad_kept (all_cons TSame_kept all_nil)))))))))) (by kernel_rfl) bK.pure rfl
theorem tables_of {W : World} (h : laidMetH Tryz.prog [("ordeal/sha.rounds", qZ .u32 gK), ("ordeal/sha.start", qZ .u32 dO)] W) : ∀ g ∈ tables, g.holds W := by
  rw [MakeChecks.laidMetH_plain _ _ _ (by kernel_rfl)] at h
  obtain ⟨ps, ⟨g0, t0, cs0, f0, p0, q0, hg0, ht0, hv0, hd0, ⟨g1, t1, cs1, f1, p1, q1, hg1, ht1, hv1, hd1, hend, e1⟩, e0⟩, _, _⟩ := h
  obtain rfl := Option.some.inj ((show Tryz.prog.globalNamed "ordeal/sha.rounds" = some 2 by kernel_rfl).symm.trans hg0)
  obtain rfl := Option.some.inj ((show (Tryz.prog.globals[2]?).map (·.type) = some 245 by kernel_rfl).symm.trans ht0)
  obtain rfl := Option.some.inj ((show Tryz.prog.globalNamed "ordeal/sha.start" = some 1 by kernel_rfl).symm.trans hg1)
  obtain rfl := Option.some.inj ((show (Tryz.prog.globals[1]?).map (·.type) = some 184 by kernel_rfl).symm.trans ht1)
  intro g hg
  simp only [tables, List.mem_cons, List.not_mem_nil, or_false] at hg
  rcases hg with rfl | rfl
  · exact bZ7 (t := 245) (e := 127) hg0 (by kernel_rfl) (by kernel_rfl) (by kernel_rfl) (by kernel_rfl) hv0 hd0
  · exact bZ7 (t := 184) (e := 127) hg1 (by kernel_rfl) (by kernel_rfl) (by kernel_rfl) (by kernel_rfl) hv1 hd1
end Go.Proofs.YtmgeaephkagdiaaGreatDoor.CklKeep
