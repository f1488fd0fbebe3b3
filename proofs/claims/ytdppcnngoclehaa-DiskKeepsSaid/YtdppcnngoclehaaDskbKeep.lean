/-
  Each of these functions keeps its contract, in the program of this seat.
-/
import Derived.Test.YtdppcnngoclehaaChecked
import Derived.Test.YtdppcnngoclehaaSlm
import Derived.Test.YtdppcnngoclehaaDskf
import Derived.Test.YtdppcnngoclehaaTab
set_option linter.unusedVariables false
namespace Go.Proofs.Ytdppcnngoclehaa.DskbKeep
open Go.Vc
theorem mixed : Try.prog.follows .mixedOrders = true := by kernel_rfl
theorem all_nil {p : FuncId × Sig → Prop} : ∀ x ∈ ([] : List (FuncId × Sig)), p x := by intro x hx; cases hx
theorem all_cons {p : FuncId × Sig → Prop} {a : FuncId × Sig} {l : List (FuncId × Sig)} (h : p a) (h' : ∀ x ∈ l, p x) : ∀ x ∈ a :: l, p x := by
  intro x hx
  rcases List.mem_cons.1 hx with rfl | hx
  · exact h
  · exact h' x hx
def tables : List Glob := []
noncomputable def dCut_cx : Cx := { P := Try.prog, fn := Try.f10, G := tables, sigs := sigsOf 1 [], own := dCut.sig.toSigR, anns := [{ key := 999999, j := 0, watch := [], havoc := [] }] }
theorem dCut_vc : vcOf' dCut_cx = .ok dCut.vc := by kernel_rfl
theorem dCut_kept : Kept Try.prog tables 10 dCut.sig := keeps (cx := dCut_cx) (l := []) (invs := []) mixed Try.func10 (by kernel_rfl) rfl rfl all_nil dCut_vc (Eq.mpr dCut.den dCut.pure) (by decide)
noncomputable def dNew_cx : Cx := { P := Try.prog, fn := Try.f7, G := tables, sigs := sigsOf 1 [], own := dNew.sig.toSigR, anns := [{ key := 999999, j := 0, watch := [], havoc := [] }] }
theorem dNew_vc : vcOf' dNew_cx = .ok dNew.vc := by kernel_rfl
theorem dNew_kept : Kept Try.prog tables 7 dNew.sig := keeps (cx := dNew_cx) (l := []) (invs := []) mixed Try.func7 (by kernel_rfl) rfl rfl all_nil dNew_vc (Eq.mpr dNew.den dNew.pure) (by decide)
theorem qNew_kept : Kept Try.prog tables 7 qNew.sig := qNew_of dNew_kept
noncomputable def dBegin_cx : Cx := { P := Try.prog, fn := Try.f24, G := tables, sigs := sigsOf 1 [], own := dBegin.sig.toSigR, anns := [{ key := 999999, j := 0, watch := [], havoc := [] }] }
theorem dBegin_vc : vcOf' dBegin_cx = .ok dBegin.vc := by kernel_rfl
theorem dBegin_kept : Kept Try.prog tables 24 dBegin.sig := keeps (cx := dBegin_cx) (l := []) (invs := []) mixed Try.func24 (by kernel_rfl) rfl rfl all_nil dBegin_vc (Eq.mpr dBegin.den dBegin.pure) (by decide)
noncomputable def dApply_cx : Cx := { P := Try.prog, fn := Try.f32, G := tables, sigs := sigsOf 1 [], own := dApply.sig.toSigR, anns := [{ key := 999999, j := 0, watch := [], havoc := [] }] }
theorem dApply_vc : vcOf' dApply_cx = .ok dApply.vc := by kernel_rfl
theorem dApply_kept : Kept Try.prog tables 32 dApply.sig := keeps (cx := dApply_cx) (l := []) (invs := []) mixed Try.func32 (by kernel_rfl) rfl rfl all_nil dApply_vc (Eq.mpr dApply.den dApply.pure) (by decide)
noncomputable def dTurn_cx : Cx := { P := Try.prog, fn := Try.f25, G := tables, sigs := sigsOf 1 [(32, dApply.sig)], own := dTurn.sig.toSigR, anns := [{ key := 999999, j := 0, watch := [], havoc := [] }] }
theorem dTurn_vc : vcOf' dTurn_cx = .ok dTurn.vc := by kernel_rfl
theorem dTurn_kept : Kept Try.prog tables 25 dTurn.sig := keeps (cx := dTurn_cx) (l := [(32, dApply.sig)]) (invs := []) mixed Try.func25 (by kernel_rfl) rfl rfl (all_cons dApply_kept all_nil) dTurn_vc (Eq.mpr dTurn.den dTurn.pure) (by decide)
noncomputable def dEnd_cx : Cx := { P := Try.prog, fn := Try.f26, G := tables, sigs := sigsOf 1 [], own := dEnd.sig.toSigR, anns := [{ key := 999999, j := 0, watch := [], havoc := [] }] }
theorem dEnd_vc : vcOf' dEnd_cx = .ok dEnd.vc := by kernel_rfl
theorem dEnd_kept : Kept Try.prog tables 26 dEnd.sig := keeps (cx := dEnd_cx) (l := []) (invs := []) mixed Try.func26 (by kernel_rfl) rfl rfl all_nil dEnd_vc (Eq.mpr dEnd.den dEnd.pure) (by decide)
noncomputable def dCreate_cx : Cx := { P := Try.prog, fn := Try.f8, G := tables, sigs := sigsOf 1 [(24, dBegin.sig), (25, dTurn.sig), (26, dEnd.sig)], own := dCreate.sig.toSigR, anns := [{ key := 999999, j := 0, watch := [], havoc := [] }] }
theorem dCreate_vc : vcOf' dCreate_cx = .ok dCreate.vc := by kernel_rfl
theorem dCreate_kept : Kept Try.prog tables 8 dCreate.sig := keeps (cx := dCreate_cx) (l := [(24, dBegin.sig), (25, dTurn.sig), (26, dEnd.sig)]) (invs := []) mixed Try.func8 (by kernel_rfl) rfl rfl (all_cons dBegin_kept (all_cons dTurn_kept (all_cons dEnd_kept all_nil))) dCreate_vc (Eq.mpr dCreate.den dCreate.pure) (by decide)
theorem qCreate_kept : Kept Try.prog tables 8 qCreate.sig := qCreate_of dCreate_kept
noncomputable def dFind_cx : Cx := { P := Try.prog, fn := Try.f29, G := tables, sigs := sigsOf 1 [], own := dFind.sig.toSigR, anns := [{ key := 999999, j := 0, watch := [], havoc := [] }] }
theorem dFind_vc : vcOf' dFind_cx = .ok dFind.vc := by kernel_rfl
theorem dFind_kept : Kept Try.prog tables 29 dFind.sig := keeps (cx := dFind_cx) (l := []) (invs := []) mixed Try.func29 (by kernel_rfl) rfl rfl all_nil dFind_vc (Eq.mpr dFind.den dFind.pure) (by decide)
noncomputable def dUsed_cx : Cx := { P := Try.prog, fn := Try.f52, G := tables, sigs := sigsOf 1 [], own := dUsed.sig.toSigR, anns := [{ key := 3, j := 0, watch := [], havoc := [1] }, { key := 999999, j := 0, watch := [], havoc := [] }] }
theorem dUsed_vc : vcOf' dUsed_cx = .ok dUsed.vc := by kernel_rfl
theorem dUsed_kept : Kept Try.prog tables 52 dUsed.sig := keeps (cx := dUsed_cx) (l := []) (invs := [(dUsed.I0, dUsed.I0M)]) mixed Try.func52 (by kernel_rfl) rfl rfl all_nil dUsed_vc (Eq.mpr dUsed.den dUsed.pure) (by decide)
noncomputable def dFree_cx : Cx := { P := Try.prog, fn := Try.f30, G := tables, sigs := sigsOf 1 [(52, dUsed.sig)], own := dFree.sig.toSigR, anns := [{ key := 999999, j := 0, watch := [], havoc := [] }] }
theorem dFree_vc : vcOf' dFree_cx = .ok dFree.vc := by kernel_rfl
theorem dFree_kept : Kept Try.prog tables 30 dFree.sig := keeps (cx := dFree_cx) (l := [(52, dUsed.sig)]) (invs := []) mixed Try.func30 (by kernel_rfl) rfl rfl (all_cons dUsed_kept all_nil) dFree_vc (Eq.mpr dFree.den dFree.pure) (by decide)
noncomputable def dAppend_cx : Cx := { P := Try.prog, fn := Try.f11, G := tables, sigs := sigsOf 1 [(29, dFind.sig), (30, dFree.sig), (24, dBegin.sig), (26, dEnd.sig)], own := dAppend.sig.toSigR, anns := [{ key := 999999, j := 0, watch := [], havoc := [] }] }
theorem dAppend_vc : vcOf' dAppend_cx = .ok dAppend.vc := by kernel_rfl
theorem dAppend_kept : Kept Try.prog tables 11 dAppend.sig := keeps (cx := dAppend_cx) (l := [(29, dFind.sig), (30, dFree.sig), (24, dBegin.sig), (26, dEnd.sig)]) (invs := []) mixed Try.func11 (by kernel_rfl) rfl rfl (all_cons dFind_kept (all_cons dFree_kept (all_cons dBegin_kept (all_cons dEnd_kept all_nil)))) dAppend_vc (Eq.mpr dAppend.den dAppend.pure) (by decide)
theorem qAppend_kept : Kept Try.prog tables 11 qAppend.sig := qAppend_of dAppend_kept
noncomputable def dSync_cx : Cx := { P := Try.prog, fn := Try.f12, G := tables, sigs := sigsOf 1 [(29, dFind.sig), (24, dBegin.sig), (26, dEnd.sig)], own := dSync.sig.toSigR, anns := [{ key := 999999, j := 0, watch := [], havoc := [] }] }
theorem dSync_vc : vcOf' dSync_cx = .ok dSync.vc := by kernel_rfl
theorem dSync_kept : Kept Try.prog tables 12 dSync.sig := keeps (cx := dSync_cx) (l := [(29, dFind.sig), (24, dBegin.sig), (26, dEnd.sig)]) (invs := []) mixed Try.func12 (by kernel_rfl) rfl rfl (all_cons dFind_kept (all_cons dBegin_kept (all_cons dEnd_kept all_nil))) dSync_vc (Eq.mpr dSync.den dSync.pure) (by decide)
theorem qSync_kept : Kept Try.prog tables 12 qSync.sig := qSync_of dSync_kept
theorem dClone_kept : Kept Try.prog tables 27 dClone.sig := kept_clone Try.func27 (by kernel_rfl) rfl Try.runClone
theorem dDel_kept : Kept Try.prog tables 50 (dDel.sig 51) := kept_del Try.func50 (by kernel_rfl) rfl (by kernel_rfl) Try.runDel
noncomputable def dSweep_cx : Cx := { P := Try.prog, fn := Try.f28, G := tables, sigs := sigsOf 1 [(50, (dDel.sig 51))], own := dSweep.sig.toSigR, anns := [{ key := 2, j := 0, watch := [], havoc := [1, 4] }, { key := 6, j := 1, watch := [], havoc := [1, 5] }, { key := 10, j := 2, watch := [], havoc := [1] }, { key := 999999, j := 0, watch := [], havoc := [] }] }
theorem dSweep_vc : vcOf' dSweep_cx = .ok dSweep.vc := by kernel_rfl
theorem dSweep_kept : Kept Try.prog tables 28 dSweep.sig := keeps (cx := dSweep_cx) (l := [(50, (dDel.sig 51))]) (invs := [(dSweep.I0, dSweep.I0M), (dSweep.I1, dSweep.I1M), (dSweep.I2, dSweep.I2M)]) mixed Try.func28 (by kernel_rfl) rfl rfl (all_cons dDel_kept all_nil) dSweep_vc (Eq.mpr (dSweep.den 51) dSweep.pure) (by decide)
noncomputable def dSyncNames_cx : Cx := { P := Try.prog, fn := Try.f9, G := tables, sigs := sigsOf 1 [(24, dBegin.sig), (26, dEnd.sig), (27, dClone.sig), (28, dSweep.sig)], own := dSyncNames.sig.toSigR, anns := [{ key := 999999, j := 0, watch := [], havoc := [] }] }
theorem dSyncNames_vc : vcOf' dSyncNames_cx = .ok dSyncNames.vc := by kernel_rfl
theorem dSyncNames_kept : Kept Try.prog tables 9 dSyncNames.sig := keeps (cx := dSyncNames_cx) (l := [(24, dBegin.sig), (26, dEnd.sig), (27, dClone.sig), (28, dSweep.sig)]) (invs := []) mixed Try.func9 (by kernel_rfl) rfl rfl (all_cons dBegin_kept (all_cons dEnd_kept (all_cons dClone_kept (all_cons dSweep_kept all_nil)))) dSyncNames_vc (Eq.mpr dSyncNames.den dSyncNames.pure) (by decide)
theorem qSyncNames_kept : Kept Try.prog tables 9 qSyncNames.sig := qSyncNames_of dSyncNames_kept
noncomputable def eCrash_cx : Cx := { P := Try.prog, fn := Try.f16, G := tables, sigs := sigsOf 1 [], own := eCrash.sig.toSigR, anns := [{ key := 999999, j := 0, watch := [], havoc := [] }] }
theorem eCrash_vc : vcOf' eCrash_cx = .ok eCrash.vc := by kernel_rfl
theorem eCrash_kept : Kept Try.prog tables 16 eCrash.sig := keeps (cx := eCrash_cx) (l := []) (invs := []) mixed Try.func16 (by kernel_rfl) rfl rfl all_nil eCrash_vc (Eq.mpr eCrash.den eCrash.pure) (by decide)
theorem qCrash_kept : Kept Try.prog tables 16 qCrash.sig := qCrash_of eCrash_kept
noncomputable def dRename_cx : Cx := { P := Try.prog, fn := Try.f17, G := tables, sigs := sigsOf 1 [(29, dFind.sig), (24, dBegin.sig), (25, dTurn.sig), (26, dEnd.sig)], own := dRename.sig.toSigR, anns := [{ key := 999999, j := 0, watch := [], havoc := [] }] }
theorem dRename_vc : vcOf' dRename_cx = .ok dRename.vc := by kernel_rfl
theorem dRename_kept : Kept Try.prog tables 17 dRename.sig := keeps (cx := dRename_cx) (l := [(29, dFind.sig), (24, dBegin.sig), (25, dTurn.sig), (26, dEnd.sig)]) (invs := []) mixed Try.func17 (by kernel_rfl) rfl rfl (all_cons dFind_kept (all_cons dBegin_kept (all_cons dTurn_kept (all_cons dEnd_kept all_nil)))) dRename_vc (Eq.mpr dRename.den dRename.pure) (by decide)
theorem qRename_kept : Kept Try.prog tables 17 qRename.sig := qRename_of dRename_kept
noncomputable def eDead_cx : Cx := { P := Try.prog, fn := Try.f18, G := tables, sigs := sigsOf 1 [], own := eDead.sig.toSigR, anns := [{ key := 999999, j := 0, watch := [], havoc := [] }] }
theorem eDead_vc : vcOf' eDead_cx = .ok eDead.vc := by kernel_rfl
theorem eDead_kept : Kept Try.prog tables 18 eDead.sig := keeps (cx := eDead_cx) (l := []) (invs := []) mixed Try.func18 (by kernel_rfl) rfl rfl all_nil eDead_vc (Eq.mpr eDead.den eDead.pure) (by decide)
theorem qDead_kept : Kept Try.prog tables 18 qDead.sig := qDead_of eDead_kept
noncomputable def dPick_cx : Cx := { P := Try.prog, fn := Try.f31, G := tables, sigs := sigsOf 1 [], own := dPick.sig.toSigR, anns := [{ key := 999999, j := 0, watch := [], havoc := [] }] }
theorem dPick_vc : vcOf' dPick_cx = .ok dPick.vc := by kernel_rfl
theorem dPick_kept : Kept Try.prog tables 31 dPick.sig := keeps (cx := dPick_cx) (l := []) (invs := []) mixed Try.func31 (by kernel_rfl) rfl rfl all_nil dPick_vc (Eq.mpr dPick.den dPick.pure) (by decide)
noncomputable def dKeysI_cx : Cx := { P := Try.prog, fn := Try.f34, G := tables, sigs := sigsOf 1 [], own := (dKeysI.sig 55).toSigR, anns := [{ key := 999999, j := 0, watch := [], havoc := [] }] }
theorem dKeysI_vc : vcOf' dKeysI_cx = .ok dKeysI.vc := by kernel_rfl
theorem dKeysI_kept : Kept Try.prog tables 34 (dKeysI.sig 55) := keeps (cx := dKeysI_cx) (l := []) (invs := []) mixed Try.func34 (by kernel_rfl) rfl rfl all_nil dKeysI_vc (Eq.mpr (dKeysI.den 55) dKeysI.pure) (by decide)
theorem dSortI_kept : Kept Try.prog tables 33 (dSortI.sig 55) := kept_sort Try.func33 (by kernel_rfl) rfl (fun _ => ⟨_, rfl⟩) (.inr ⟨_, _, rfl⟩) (Try.runSortI rfl)
noncomputable def dRestart_cx : Cx := { P := Try.prog, fn := Try.f13, G := tables, sigs := sigsOf 1 [(31, dPick.sig), (32, dApply.sig), (27, dClone.sig), (28, dSweep.sig), (34, (dKeysI.sig 55)), (33, (dSortI.sig 55))], own := dRestart.sig.toSigR, anns := [{ key := 2, j := 0, watch := [], havoc := [4] }, { key := 11, j := 1, watch := [], havoc := [2] }, { key := 999999, j := 0, watch := [], havoc := [] }] }
theorem dRestart_vc : vcOf' dRestart_cx = .ok dRestart.vc := by kernel_rfl
theorem dRestart_kept : Kept Try.prog tables 13 dRestart.sig := keeps (cx := dRestart_cx) (l := [(31, dPick.sig), (32, dApply.sig), (27, dClone.sig), (28, dSweep.sig), (34, (dKeysI.sig 55)), (33, (dSortI.sig 55))]) (invs := [(dRestart.I0, dRestart.I0M), (dRestart.I1, dRestart.I1M)]) mixed Try.func13 (by kernel_rfl) rfl rfl (all_cons dPick_kept (all_cons dApply_kept (all_cons dClone_kept (all_cons dSweep_kept (all_cons dKeysI_kept (all_cons dSortI_kept all_nil)))))) dRestart_vc (Eq.mpr (dRestart.den 55) dRestart.pure) (by decide)
theorem qRestart_kept : Kept Try.prog tables 13 qRestart.sig := qRestart_of dRestart_kept
noncomputable def dRead_cx : Cx := { P := Try.prog, fn := Try.f14, G := tables, sigs := sigsOf 1 [(29, dFind.sig)], own := dRead.sig.toSigR, anns := [{ key := 999999, j := 0, watch := [], havoc := [] }] }
theorem dRead_vc : vcOf' dRead_cx = .ok dRead.vc := by kernel_rfl
theorem dRead_kept : Kept Try.prog tables 14 dRead.sig := keeps (cx := dRead_cx) (l := [(29, dFind.sig)]) (invs := []) mixed Try.func14 (by kernel_rfl) rfl rfl (all_cons dFind_kept all_nil) dRead_vc (Eq.mpr dRead.den dRead.pure) (by decide)
theorem qRead_kept : Kept Try.prog tables 14 qRead.sig := qRead_of dRead_kept
noncomputable def dAwake_cx : Cx := { P := Try.prog, fn := Try.f15, G := tables, sigs := sigsOf 1 [(7, dNew.sig), (8, dCreate.sig), (11, dAppend.sig), (9, dSyncNames.sig), (13, dRestart.sig), (14, dRead.sig)], own := dAwake.sig.toSigR, anns := [{ key := 999999, j := 0, watch := [], havoc := [] }] }
theorem dAwake_vc : vcOf' dAwake_cx = .ok dAwake.vc := by kernel_rfl
theorem dAwake_kept : Kept Try.prog tables 15 dAwake.sig := keeps (cx := dAwake_cx) (l := [(7, dNew.sig), (8, dCreate.sig), (11, dAppend.sig), (9, dSyncNames.sig), (13, dRestart.sig), (14, dRead.sig)]) (invs := []) mixed Try.func15 (by kernel_rfl) rfl rfl (all_cons dNew_kept (all_cons dCreate_kept (all_cons dAppend_kept (all_cons dSyncNames_kept (all_cons dRestart_kept (all_cons dRead_kept all_nil)))))) dAwake_vc (Eq.mpr dAwake.den dAwake.pure) (by decide)
noncomputable def LDiskSwap_cx : Cx := { P := Try.prog, fn := Try.f4, G := tables, sigs := sigsOf 1 [(10, dCut.sig), (7, qNew.sig), (8, qCreate.sig), (11, qAppend.sig), (12, qSync.sig), (9, qSyncNames.sig), (16, qCrash.sig), (17, qRename.sig), (18, qDead.sig), (13, qRestart.sig), (14, qRead.sig), (15, dAwake.sig)], own := LDiskSwap.sig.toSigR, anns := [{ key := 999999, j := 0, watch := [], havoc := [] }] }
theorem LDiskSwap_vc : vcOfs LDiskSwap_cx = .ok LDiskSwap.vc := by kernel_rfl
theorem LDiskSwap_kept : Kept Try.prog tables 4 LDiskSwap.sig := keep_slim (cx := LDiskSwap_cx) (l := [(10, dCut.sig), (7, qNew.sig), (8, qCreate.sig), (11, qAppend.sig), (12, qSync.sig), (9, qSyncNames.sig), (16, qCrash.sig), (17, qRename.sig), (18, qDead.sig), (13, qRestart.sig), (14, qRead.sig), (15, dAwake.sig)]) (invs := []) mixed Try.func4 (by kernel_rfl) rfl rfl (all_cons dCut_kept (all_cons qNew_kept (all_cons qCreate_kept (all_cons qAppend_kept (all_cons qSync_kept (all_cons qSyncNames_kept (all_cons qCrash_kept (all_cons qRename_kept (all_cons qDead_kept (all_cons qRestart_kept (all_cons qRead_kept (all_cons dAwake_kept all_nil)))))))))))) LDiskSwap_vc (Eq.mpr LDiskSwap.den LDiskSwap.pure) (by decide)
noncomputable def dRemove_cx : Cx := { P := Try.prog, fn := Try.f20, G := tables, sigs := sigsOf 1 [(29, dFind.sig), (24, dBegin.sig), (25, dTurn.sig), (26, dEnd.sig)], own := dRemove.sig.toSigR, anns := [{ key := 999999, j := 0, watch := [], havoc := [] }] }
theorem dRemove_vc : vcOf' dRemove_cx = .ok dRemove.vc := by kernel_rfl
theorem dRemove_kept : Kept Try.prog tables 20 dRemove.sig := keeps (cx := dRemove_cx) (l := [(29, dFind.sig), (24, dBegin.sig), (25, dTurn.sig), (26, dEnd.sig)]) (invs := []) mixed Try.func20 (by kernel_rfl) rfl rfl (all_cons dFind_kept (all_cons dBegin_kept (all_cons dTurn_kept (all_cons dEnd_kept all_nil)))) dRemove_vc (Eq.mpr dRemove.den dRemove.pure) (by decide)
theorem qRemove_kept : Kept Try.prog tables 20 qRemove.sig := qRemove_of dRemove_kept
noncomputable def fFew_cx : Cx := { P := Try.prog, fn := Try.f19, G := tables, sigs := sigsOf 1 [(10, dCut.sig)], own := fFew.sig.toSigR, anns := [{ key := 999999, j := 0, watch := [], havoc := [] }] }
theorem fFew_vc : vcOfs fFew_cx = .ok fFew.vc := by kernel_rfl
theorem fFew_kept : Kept Try.prog tables 19 fFew.sig := keep_slim (cx := fFew_cx) (l := [(10, dCut.sig)]) (invs := []) mixed Try.func19 (by kernel_rfl) rfl rfl (all_cons dCut_kept all_nil) fFew_vc (Eq.mpr fFew.den fFew.pure) (by decide)
noncomputable def LDiskKeeps_cx : Cx := { P := Try.prog, fn := Try.f5, G := tables, sigs := sigsOf 1 [(10, dCut.sig), (7, qNew.sig), (8, qCreate.sig), (11, qAppend.sig), (12, qSync.sig), (9, qSyncNames.sig), (20, qRemove.sig), (16, qCrash.sig), (17, qRename.sig), (13, qRestart.sig), (14, qRead.sig), (19, fFew.sig), (15, dAwake.sig)], own := LDiskKeeps.sig.toSigR, anns := [{ key := 6, j := 0, watch := [], havoc := [0] }, { key := 999999, j := 0, watch := [], havoc := [] }] }
theorem LDiskKeeps_vc : vcOfs LDiskKeeps_cx = .ok LDiskKeeps.vc := by kernel_rfl
theorem LDiskKeeps_kept : Kept Try.prog tables 5 LDiskKeeps.sig := keep_slim (cx := LDiskKeeps_cx) (l := [(10, dCut.sig), (7, qNew.sig), (8, qCreate.sig), (11, qAppend.sig), (12, qSync.sig), (9, qSyncNames.sig), (20, qRemove.sig), (16, qCrash.sig), (17, qRename.sig), (13, qRestart.sig), (14, qRead.sig), (19, fFew.sig), (15, dAwake.sig)]) (invs := [(LDiskKeeps.I0, LDiskKeeps.I0M)]) mixed Try.func5 (by kernel_rfl) rfl rfl (all_cons dCut_kept (all_cons qNew_kept (all_cons qCreate_kept (all_cons qAppend_kept (all_cons qSync_kept (all_cons qSyncNames_kept (all_cons qRemove_kept (all_cons qCrash_kept (all_cons qRename_kept (all_cons qRestart_kept (all_cons qRead_kept (all_cons fFew_kept (all_cons dAwake_kept all_nil))))))))))))) LDiskKeeps_vc (Eq.mpr LDiskKeeps.den LDiskKeeps.pure) (by decide)
end Go.Proofs.Ytdppcnngoclehaa.DskbKeep
