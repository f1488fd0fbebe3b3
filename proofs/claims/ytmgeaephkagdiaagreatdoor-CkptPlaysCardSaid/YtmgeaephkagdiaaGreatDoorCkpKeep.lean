/-
  Each of these functions keeps its contract, in the program of this seat.
-/
import Derived.Test.YtmgeaephkagdiaaGreatDoorChecked
import Derived.Test.YtmgeaephkagdiaaGreatDoorSlm
import Derived.Test.YtmgeaephkagdiaaGreatDoorIns
import Derived.Test.YtmgeaephkagdiaaGreatDoorCkd
import Derived.Test.YtmgeaephkagdiaaGreatDoorTab
import Derived.LaidMore
import Derived.Stop.Joined
set_option linter.unusedVariables false
set_option maxRecDepth 100000
namespace Go.Proofs.YtmgeaephkagdiaaGreatDoor.CkpKeep
open Go.Vc
theorem mixed : Tryz.prog.follows .mixedOrders = true := by kernel_rfl
theorem all_nil {p : FuncId × Sig → Prop} : ∀ x ∈ ([] : List (FuncId × Sig)), p x := by intro x hx; cases hx
theorem all_cons {p : FuncId × Sig → Prop} {a : FuncId × Sig} {l : List (FuncId × Sig)} (h : p a) (h' : ∀ x ∈ l, p x) : ∀ x ∈ a :: l, p x := by
  intro x hx
  rcases List.mem_cons.1 hx with rfl | hx
  · exact h
  · exact h' x hx
def tables : List Glob := [{ g := 2, k := .u32, l := shaRounds }, { g := 1, k := .u32, l := shaStart }]
noncomputable def dNew_cx : Cx := { P := Tryz.prog, fn := Tryz.f12, G := tables, sigs := sigsOf 1 [], own := dNew.sig.toSigR, anns := [{ key := 999999, j := 0, watch := [], havoc := [] }] }
theorem dNew_den : denT dNew_cx (mkEnv dNew.sig [] []) = dNew.Pure := by kernel_rfl
theorem dNew_kept : Kept Tryz.prog tables 12 dNew.sig := keep_t (cx := dNew_cx) (l := []) (invs := []) mixed Tryz.func12 (by kernel_rfl) rfl rfl all_nil rfl dNew_den dNew.pure (by decide)
theorem qNew_kept : Kept Tryz.prog tables 12 qNew.sig := qNew_of dNew_kept
noncomputable def T32_cx : Cx := { P := Tryz.prog, fn := Tryz.f188, G := tables, sigs := sigsOf 1 [], own := T32.sig.toSigR, anns := [] }
theorem T32_den : denT T32_cx (mkEnv T32.sig [] []) = T32.Pure := by kernel_rfl
theorem T32_kept : Kept Tryz.prog tables 188 T32.sig := keep_t (cx := T32_cx) (l := []) (invs := []) mixed Tryz.func188 (by kernel_rfl) rfl rfl all_nil rfl T32_den T32.pure (by decide)
noncomputable def SSched_cx : Cx := { P := Tryz.prog, fn := Tryz.f187, G := tables, sigs := sigsOf 1 [(188, T32.sig)], own := SSched.sig.toSigR, anns := [{ key := 3, j := 0, watch := [], havoc := [0] }, { key := 8, j := 1, watch := [], havoc := [0] }, { key := 999999, j := 0, watch := [], havoc := [] }] }
theorem SSched_den : denT SSched_cx (mkEnv SSched.sig [T32.sig] [(SSched.I0, SSched.I0M), (SSched.I1, SSched.I1M)]) = SSched.Pure := by kernel_rfl
theorem SSched_kept : Kept Tryz.prog tables 187 SSched.sig := keep_t (cx := SSched_cx) (l := [(188, T32.sig)]) (invs := [(SSched.I0, SSched.I0M), (SSched.I1, SSched.I1M)]) mixed Tryz.func187 (by kernel_rfl) rfl rfl (all_cons T32_kept all_nil) rfl SSched_den SSched.pure (by decide)
noncomputable def SMix_cx : Cx := { P := Tryz.prog, fn := Tryz.f145, G := tables, sigs := sigsOf 1 [(187, SSched.sig), (188, T32.sig)], own := SMix.sig.toSigR, anns := [{ key := 3, j := 0, watch := [], havoc := [0] }, { key := 11, j := 1, watch := [], havoc := [0] }, { key := 3, j := 2, join := true, tmpl := some SMix.T }, { key := 999999, j := 0, watch := [], havoc := [] }] }
theorem SMix_den : denT SMix_cx (mkEnv SMix.sig [SSched.sig, T32.sig] [(SMix.I0, SMix.I0M), (SMix.I1, SMix.I1M), (SMix.J0, SMix.J0M)]) = SMix.Pure := by kernel_rfl
theorem SMix_kept : Kept Tryz.prog tables 145 SMix.sig := keep_t (cx := SMix_cx) (l := [(187, SSched.sig), (188, T32.sig)]) (invs := [(SMix.I0, SMix.I0M), (SMix.I1, SMix.I1M), (SMix.J0, SMix.J0M)]) mixed Tryz.func145 (by kernel_rfl) rfl rfl (all_cons SSched_kept (all_cons T32_kept all_nil)) rfl SMix_den SMix.pure (by decide)
noncomputable def HWrite_cx : Cx := { P := Tryz.prog, fn := Tryz.f114, G := tables, sigs := sigsOf 1 [(145, SMix.sig)], own := HWrite.sig.toSigR, anns := [{ key := 4, j := 0, watch := [], havoc := [1] }, { key := 999999, j := 0, watch := [], havoc := [] }] }
theorem HWrite_den : denT HWrite_cx (mkEnv HWrite.sig [SMix.sig] [(HWrite.I0, HWrite.I0M)]) = HWrite.Pure := by kernel_rfl
theorem HWrite_kept : Kept Tryz.prog tables 114 HWrite.sig := keep_t (cx := HWrite_cx) (l := [(145, SMix.sig)]) (invs := [(HWrite.I0, HWrite.I0M)]) mixed Tryz.func114 (by kernel_rfl) rfl rfl (all_cons SMix_kept all_nil) rfl HWrite_den HWrite.pure (by decide)
noncomputable def Bytes_cx : Cx := { P := Tryz.prog, fn := Tryz.f146, G := tables, sigs := sigsOf 1 [], own := Bytes.sig.toSigR, anns := [{ key := 3, j := 0, watch := [], havoc := [0] }] }
theorem Bytes_den : denT Bytes_cx (mkEnv Bytes.sig [] [(Bytes.I0, Bytes.I0M)]) = Bytes.Pure := by kernel_rfl
theorem Bytes_kept : Kept Tryz.prog tables 146 Bytes.sig := keep_t (cx := Bytes_cx) (l := []) (invs := [(Bytes.I0, Bytes.I0M)]) mixed Tryz.func146 (by kernel_rfl) rfl rfl all_nil rfl Bytes_den Bytes.pure (by decide)
noncomputable def Swap_cx : Cx := { P := Tryz.prog, fn := Tryz.f147, G := tables, sigs := sigsOf 1 [], own := Swap.sig.toSigR, anns := [] }
theorem Swap_den : denT Swap_cx (mkEnv Swap.sig [] []) = Swap.Pure := by kernel_rfl
theorem Swap_kept : Kept Tryz.prog tables 147 Swap.sig := keep_t (cx := Swap_cx) (l := []) (invs := []) mixed Tryz.func147 (by kernel_rfl) rfl rfl all_nil rfl Swap_den Swap.pure (by decide)
noncomputable def HSum_cx : Cx := { P := Tryz.prog, fn := Tryz.f115, G := tables, sigs := sigsOf 1 [(145, SMix.sig), (146, Bytes.sig), (147, Swap.sig)], own := HSum.sig.toSigR, anns := [{ key := 5, j := 0, watch := [], havoc := [] }, { key := 8, j := 1, watch := [], havoc := [2], frz := true }, { key := 13, j := 2, watch := [], havoc := [0] }, { key := 999999, j := 0, watch := [], havoc := [] }] }
theorem HSum_den : denT HSum_cx (mkEnv HSum.sig [SMix.sig, Bytes.sig, Swap.sig] [(HSum.I0, HSum.I0M), (HSum.I1, HSum.I1M), (HSum.I2, HSum.I2M)]) = HSum.Pure := by kernel_rfl
theorem HSum_kept : Kept Tryz.prog tables 115 HSum.sig := keep_t (cx := HSum_cx) (l := [(145, SMix.sig), (146, Bytes.sig), (147, Swap.sig)]) (invs := [(HSum.I0, HSum.I0M), (HSum.I1, HSum.I1M), (HSum.I2, HSum.I2M)]) mixed Tryz.func115 (by kernel_rfl) rfl rfl (all_cons SMix_kept (all_cons Bytes_kept (all_cons Swap_kept all_nil))) rfl HSum_den HSum.pure (by decide)
noncomputable def HOf_cx : Cx := { P := Tryz.prog, fn := Tryz.f71, G := tables, sigs := sigsOf 1 [(114, HWrite.sig), (115, HSum.sig)], own := HOf.sig.toSigR, anns := [] }
theorem HOf_den : denT HOf_cx (mkEnv HOf.sig [HWrite.sig, HSum.sig] []) = HOf.Pure := by kernel_rfl
theorem HOf_kept : Kept Tryz.prog tables 71 HOf.sig := keep_t (cx := HOf_cx) (l := [(114, HWrite.sig), (115, HSum.sig)]) (invs := []) mixed Tryz.func71 (by kernel_rfl) rfl rfl (all_cons HWrite_kept (all_cons HSum_kept all_nil)) rfl HOf_den HOf.pure (by decide)
noncomputable def Cut_cx : Cx := { P := Tryz.prog, fn := Tryz.f14, G := tables, sigs := sigsOf 1 [], own := Cut.sig.toSigR, anns := [] }
theorem Cut_den : denT Cut_cx (mkEnv Cut.sig [] []) = Cut.Pure := by kernel_rfl
theorem Cut_kept : Kept Tryz.prog tables 14 Cut.sig := keep_t (cx := Cut_cx) (l := []) (invs := []) mixed Tryz.func14 (by kernel_rfl) rfl rfl all_nil rfl Cut_den Cut.pure (by decide)
noncomputable def HCmp_cx : Cx := { P := Tryz.prog, fn := Tryz.f141, G := tables, sigs := sigsOf 1 [], own := HCmp.sig.toSigR, anns := [{ key := 2, j := 0, watch := [], havoc := [] }, { key := 999999, j := 0, watch := [], havoc := [] }] }
theorem HCmp_den : denT HCmp_cx (mkEnv HCmp.sig [] [(HCmp.I0, HCmp.I0M)]) = HCmp.Pure := by kernel_rfl
theorem HCmp_kept : Kept Tryz.prog tables 141 HCmp.sig := keep_t (cx := HCmp_cx) (l := []) (invs := [(HCmp.I0, HCmp.I0M)]) mixed Tryz.func141 (by kernel_rfl) rfl rfl all_nil rfl HCmp_den HCmp.pure (by decide)
noncomputable def ECmp_cx : Cx := { P := Tryz.prog, fn := Tryz.f149, G := tables, sigs := sigsOf 1 [(141, HCmp.sig)], own := ECmp.sig.toSigR, anns := [{ key := 999999, j := 0, watch := [], havoc := [] }] }
theorem ECmp_den : denT ECmp_cx (mkEnv ECmp.sig [HCmp.sig] []) = ECmp.Pure := by kernel_rfl
theorem ECmp_kept : Kept Tryz.prog tables 149 ECmp.sig := keep_t (cx := ECmp_cx) (l := [(141, HCmp.sig)]) (invs := []) mixed Tryz.func149 (by kernel_rfl) rfl rfl (all_cons HCmp_kept all_nil) rfl ECmp_den ECmp.pure (by decide)
noncomputable def BSF_cx : Cx := { P := Tryz.prog, fn := Tryz.f148, G := tables, sigs := sigsOf 1 [(149, ECmp.sig)], own := (BSF.sig 149).toSigR, anns := [{ key := 3, j := 0, watch := [], havoc := [] }, { key := 999999, j := 0, watch := [], havoc := [] }] }
theorem BSF_den : denT BSF_cx (mkEnv (BSF.sig 149) [ECmp.sig] [(BSF.I0, BSF.I0M)]) = BSF.Pure := by kernel_rfl
theorem BSF_kept : Kept Tryz.prog tables 148 (BSF.sig 149) := keep_t (cx := BSF_cx) (l := [(149, ECmp.sig)]) (invs := [(BSF.I0, BSF.I0M)]) mixed Tryz.func148 (by kernel_rfl) rfl rfl (all_cons ECmp_kept all_nil) rfl BSF_den BSF.pure (by decide)
noncomputable def TFind_cx : Cx := { P := Tryz.prog, fn := Tryz.f116, G := tables, sigs := sigsOf 1 [(148, (BSF.sig 149))], own := TFind.sig.toSigR, anns := [{ key := 999999, j := 0, watch := [], havoc := [] }] }
theorem TFind_den : denT TFind_cx (mkEnv TFind.sig [(BSF.sig 149)] []) = TFind.Pure := by kernel_rfl
theorem TFind_kept : Kept Tryz.prog tables 116 TFind.sig := keep_t (cx := TFind_cx) (l := [(148, (BSF.sig 149))]) (invs := []) mixed Tryz.func116 (by kernel_rfl) rfl rfl (all_cons BSF_kept all_nil) rfl TFind_den TFind.pure (by decide)
theorem TInsA_kept : Kept Tryz.prog tables 117 TInsA.sig := kept_ins Tryz.func117 (by kernel_rfl) (by kernel_rfl) Ins.insOk
noncomputable def TPutA_cx : Cx := { P := Tryz.prog, fn := Tryz.f72, G := tables, sigs := sigsOf 1 [(116, TFind.sig), (117, TInsA.sig)], own := TPutA.sig.toSigR, anns := [{ key := 999999, j := 0, watch := [], havoc := [] }] }
theorem TPutA_den : denT TPutA_cx (mkEnv TPutA.sig [TFind.sig, TInsA.sig] []) = TPutA.Pure := by kernel_rfl
theorem TPutA_kept : Kept Tryz.prog tables 72 TPutA.sig := keep_t (cx := TPutA_cx) (l := [(116, TFind.sig), (117, TInsA.sig)]) (invs := []) mixed Tryz.func72 (by kernel_rfl) rfl rfl (all_cons TFind_kept (all_cons TInsA_kept all_nil)) rfl TPutA_den TPutA.pure (by decide)
noncomputable def rFind_cx : Cx := { P := Tryz.prog, fn := Tryz.f118, G := tables, sigs := sigsOf 1 [], own := rFind.sig.toSigR, anns := [{ key := 2, j := 0, watch := [], havoc := [] }, { key := 999999, j := 0, watch := [], havoc := [] }] }
theorem rFind_den : denT rFind_cx (mkEnv rFind.sig [] [(rFind.I0, rFind.I0M)]) = rFind.Pure := by kernel_rfl
theorem rFind_kept : Kept Tryz.prog tables 118 rFind.sig := keep_t (cx := rFind_cx) (l := []) (invs := [(rFind.I0, rFind.I0M)]) mixed Tryz.func118 (by kernel_rfl) rfl rfl all_nil rfl rFind_den rFind.pure (by decide)
noncomputable def rPut_cx : Cx := { P := Tryz.prog, fn := Tryz.f73, G := tables, sigs := sigsOf 1 [(118, rFind.sig)], own := rPut.sig.toSigR, anns := [{ key := 6, j := 0, watch := [], havoc := [] }, { key := 999999, j := 0, watch := [], havoc := [] }] }
theorem rPut_den : denT rPut_cx (mkEnv rPut.sig [rFind.sig] [(rPut.I0, rPut.I0M)]) = rPut.Pure := by kernel_rfl
theorem rPut_kept : Kept Tryz.prog tables 73 rPut.sig := keep_t (cx := rPut_cx) (l := [(118, rFind.sig)]) (invs := [(rPut.I0, rPut.I0M)]) mixed Tryz.func73 (by kernel_rfl) rfl rfl (all_cons rFind_kept all_nil) rfl rPut_den rPut.pure (by decide)
noncomputable def Grow_cx : Cx := { P := Tryz.prog, fn := Tryz.f38, G := tables, sigs := sigsOf 1 [(71, HOf.sig), (14, Cut.sig), (72, TPutA.sig), (73, rPut.sig)], own := Grow.sig.toSigR, anns := [{ key := 4, j := 0, watch := [], havoc := [1], frz := true }, { key := 999999, j := 0, watch := [], havoc := [] }] }
theorem Grow_den : denT Grow_cx (mkEnv Grow.sig [HOf.sig, Cut.sig, TPutA.sig, rPut.sig] [(Grow.I0, Grow.I0M)]) = Grow.Pure := by kernel_rfl
theorem Grow_kept : Kept Tryz.prog tables 38 Grow.sig := keep_t (cx := Grow_cx) (l := [(71, HOf.sig), (14, Cut.sig), (72, TPutA.sig), (73, rPut.sig)]) (invs := [(Grow.I0, Grow.I0M)]) mixed Tryz.func38 (by kernel_rfl) rfl rfl (all_cons HOf_kept (all_cons Cut_kept (all_cons TPutA_kept (all_cons rPut_kept all_nil)))) rfl Grow_den Grow.pure (by decide)
noncomputable def dKeysS_cx : Cx := { P := Tryz.prog, fn := Tryz.f49, G := tables, sigs := sigsOf 1 [], own := (dKeysS.sig 86).toSigR, anns := [{ key := 999999, j := 0, watch := [], havoc := [] }] }
theorem dKeysS_den : denT dKeysS_cx (mkEnv (dKeysS.sig 86) [] []) = dKeysS.Pure := by kernel_rfl
theorem dKeysS_kept : Kept Tryz.prog tables 49 (dKeysS.sig 86) := keep_t (cx := dKeysS_cx) (l := []) (invs := []) mixed Tryz.func49 (by kernel_rfl) rfl rfl all_nil rfl dKeysS_den dKeysS.pure (by decide)
theorem dSortS_kept : Kept Tryz.prog tables 48 (dSortS.sig 86) := kept_sort Tryz.func48 (by kernel_rfl) rfl (fun _ => ⟨_, rfl⟩) (.inl ⟨_, _, rfl⟩) Tryz.runSortS
noncomputable def dNames_cx : Cx := { P := Tryz.prog, fn := Tryz.f17, G := tables, sigs := sigsOf 1 [(49, (dKeysS.sig 86)), (48, (dSortS.sig 86))], own := dNames.sig.toSigR, anns := [{ key := 999999, j := 0, watch := [], havoc := [] }] }
theorem dNames_den : denT dNames_cx (mkEnv dNames.sig [(dKeysS.sig 86), (dSortS.sig 86)] []) = dNames.Pure := by kernel_rfl
theorem dNames_kept : Kept Tryz.prog tables 17 dNames.sig := keep_t (cx := dNames_cx) (l := [(49, (dKeysS.sig 86)), (48, (dSortS.sig 86))]) (invs := []) mixed Tryz.func17 (by kernel_rfl) rfl rfl (all_cons dKeysS_kept (all_cons dSortS_kept all_nil)) rfl dNames_den dNames.pure (by decide)
theorem qNames_kept : Kept Tryz.prog tables 17 qNames.sig := qNames_of dNames_kept
noncomputable def wIndex_cx : Cx := { P := Tryz.prog, fn := Tryz.f121, G := tables, sigs := sigsOf 1 [], own := wIndex.sig.toSigR, anns := [{ key := 2, j := 0, watch := [], havoc := [] }, { key := 999999, j := 0, watch := [], havoc := [] }] }
theorem wIndex_den : denS wIndex_cx (mkEnv wIndex.sig [] [(wIndex.I0, wIndex.I0M)]) = wIndex.Pure := by kernel_rfl
theorem wIndex_kept : Kept Tryz.prog tables 121 wIndex.sig := keep_s (cx := wIndex_cx) (l := []) (invs := [(wIndex.I0, wIndex.I0M)]) mixed Tryz.func121 (by kernel_rfl) rfl rfl all_nil rfl wIndex_den wIndex.pure (by decide)
noncomputable def wContains_cx : Cx := { P := Tryz.prog, fn := Tryz.f81, G := tables, sigs := sigsOf 1 [(121, wIndex.sig)], own := wContains.sig.toSigR, anns := [{ key := 999999, j := 0, watch := [], havoc := [] }] }
theorem wContains_den : denS wContains_cx (mkEnv wContains.sig [wIndex.sig] []) = wContains.Pure := by kernel_rfl
theorem wContains_kept : Kept Tryz.prog tables 81 wContains.sig := keep_s (cx := wContains_cx) (l := [(121, wIndex.sig)]) (invs := []) mixed Tryz.func81 (by kernel_rfl) rfl rfl (all_cons wIndex_kept all_nil) rfl wContains_den wContains.pure (by decide)
noncomputable def dFind_cx : Cx := { P := Tryz.prog, fn := Tryz.f46, G := tables, sigs := sigsOf 1 [], own := dFind.sig.toSigR, anns := [{ key := 999999, j := 0, watch := [], havoc := [] }] }
theorem dFind_den : denT dFind_cx (mkEnv dFind.sig [] []) = dFind.Pure := by kernel_rfl
theorem dFind_kept : Kept Tryz.prog tables 46 dFind.sig := keep_t (cx := dFind_cx) (l := []) (invs := []) mixed Tryz.func46 (by kernel_rfl) rfl rfl all_nil rfl dFind_den dFind.pure (by decide)
noncomputable def dBegin_cx : Cx := { P := Tryz.prog, fn := Tryz.f43, G := tables, sigs := sigsOf 1 [], own := dBegin.sig.toSigR, anns := [{ key := 999999, j := 0, watch := [], havoc := [] }] }
theorem dBegin_den : denT dBegin_cx (mkEnv dBegin.sig [] []) = dBegin.Pure := by kernel_rfl
theorem dBegin_kept : Kept Tryz.prog tables 43 dBegin.sig := keep_t (cx := dBegin_cx) (l := []) (invs := []) mixed Tryz.func43 (by kernel_rfl) rfl rfl all_nil rfl dBegin_den dBegin.pure (by decide)
noncomputable def dApply_cx : Cx := { P := Tryz.prog, fn := Tryz.f58, G := tables, sigs := sigsOf 1 [], own := dApply.sig.toSigR, anns := [{ key := 999999, j := 0, watch := [], havoc := [] }] }
theorem dApply_den : denT dApply_cx (mkEnv dApply.sig [] []) = dApply.Pure := by kernel_rfl
theorem dApply_kept : Kept Tryz.prog tables 58 dApply.sig := keep_t (cx := dApply_cx) (l := []) (invs := []) mixed Tryz.func58 (by kernel_rfl) rfl rfl all_nil rfl dApply_den dApply.pure (by decide)
noncomputable def dTurn_cx : Cx := { P := Tryz.prog, fn := Tryz.f44, G := tables, sigs := sigsOf 1 [(58, dApply.sig)], own := dTurn.sig.toSigR, anns := [{ key := 999999, j := 0, watch := [], havoc := [] }] }
theorem dTurn_den : denT dTurn_cx (mkEnv dTurn.sig [dApply.sig] []) = dTurn.Pure := by kernel_rfl
theorem dTurn_kept : Kept Tryz.prog tables 44 dTurn.sig := keep_t (cx := dTurn_cx) (l := [(58, dApply.sig)]) (invs := []) mixed Tryz.func44 (by kernel_rfl) rfl rfl (all_cons dApply_kept all_nil) rfl dTurn_den dTurn.pure (by decide)
noncomputable def dEnd_cx : Cx := { P := Tryz.prog, fn := Tryz.f45, G := tables, sigs := sigsOf 1 [], own := dEnd.sig.toSigR, anns := [{ key := 999999, j := 0, watch := [], havoc := [] }] }
theorem dEnd_den : denT dEnd_cx (mkEnv dEnd.sig [] []) = dEnd.Pure := by kernel_rfl
theorem dEnd_kept : Kept Tryz.prog tables 45 dEnd.sig := keep_t (cx := dEnd_cx) (l := []) (invs := []) mixed Tryz.func45 (by kernel_rfl) rfl rfl all_nil rfl dEnd_den dEnd.pure (by decide)
noncomputable def dRemove_cx : Cx := { P := Tryz.prog, fn := Tryz.f63, G := tables, sigs := sigsOf 1 [(46, dFind.sig), (43, dBegin.sig), (44, dTurn.sig), (45, dEnd.sig)], own := dRemove.sig.toSigR, anns := [{ key := 999999, j := 0, watch := [], havoc := [] }] }
theorem dRemove_den : denT dRemove_cx (mkEnv dRemove.sig [dFind.sig, dBegin.sig, dTurn.sig, dEnd.sig] []) = dRemove.Pure := by kernel_rfl
theorem dRemove_kept : Kept Tryz.prog tables 63 dRemove.sig := keep_t (cx := dRemove_cx) (l := [(46, dFind.sig), (43, dBegin.sig), (44, dTurn.sig), (45, dEnd.sig)]) (invs := []) mixed Tryz.func63 (by kernel_rfl) rfl rfl (all_cons dFind_kept (all_cons dBegin_kept (all_cons dTurn_kept (all_cons dEnd_kept all_nil)))) rfl dRemove_den dRemove.pure (by decide)
theorem qRemove_kept : Kept Tryz.prog tables 63 qRemove.sig := qRemove_of dRemove_kept
noncomputable def cClean_cx : Cx := { P := Tryz.prog, fn := Tryz.f41, G := tables, sigs := sigsOf 1 [(17, qNames.sig), (81, wContains.sig), (63, qRemove.sig)], own := cClean.sig.toSigR, anns := [{ key := 999999, j := 0, watch := [], havoc := [] }] }
theorem cClean_den : denS cClean_cx (mkEnv cClean.sig [qNames.sig, wContains.sig, qRemove.sig] []) = cClean.Pure := by kernel_rfl
theorem cClean_kept : Kept Tryz.prog tables 41 cClean.sig := keep_s (cx := cClean_cx) (l := [(17, qNames.sig), (81, wContains.sig), (63, qRemove.sig)]) (invs := []) mixed Tryz.func41 (by kernel_rfl) rfl rfl (all_cons qNames_kept (all_cons wContains_kept (all_cons qRemove_kept all_nil))) rfl cClean_den cClean.pure (by decide)
noncomputable def cDo1_cx : Cx := { P := Tryz.prog, fn := Tryz.f74, G := tables, sigs := sigsOf 1 [(41, cClean.sig)], own := cDo1.sig.toSigR, anns := [{ key := 999999, j := 0, watch := [], havoc := [] }] }
theorem cDo1_den : denS cDo1_cx (mkEnv cDo1.sig [cClean.sig] []) = cDo1.Pure := by kernel_rfl
theorem cDo1_kept : Kept Tryz.prog tables 74 cDo1.sig := keep_s (cx := cDo1_cx) (l := [(41, cClean.sig)]) (invs := []) mixed Tryz.func74 (by kernel_rfl) rfl rfl (all_cons cClean_kept all_nil) rfl cDo1_den cDo1.pure (by decide)
noncomputable def dCreate_cx : Cx := { P := Tryz.prog, fn := Tryz.f15, G := tables, sigs := sigsOf 1 [(43, dBegin.sig), (44, dTurn.sig), (45, dEnd.sig)], own := dCreate.sig.toSigR, anns := [{ key := 999999, j := 0, watch := [], havoc := [] }] }
theorem dCreate_den : denT dCreate_cx (mkEnv dCreate.sig [dBegin.sig, dTurn.sig, dEnd.sig] []) = dCreate.Pure := by kernel_rfl
theorem dCreate_kept : Kept Tryz.prog tables 15 dCreate.sig := keep_t (cx := dCreate_cx) (l := [(43, dBegin.sig), (44, dTurn.sig), (45, dEnd.sig)]) (invs := []) mixed Tryz.func15 (by kernel_rfl) rfl rfl (all_cons dBegin_kept (all_cons dTurn_kept (all_cons dEnd_kept all_nil))) rfl dCreate_den dCreate.pure (by decide)
theorem qCreate_kept : Kept Tryz.prog tables 15 qCreate.sig := qCreate_of dCreate_kept
noncomputable def cDo2_cx : Cx := { P := Tryz.prog, fn := Tryz.f75, G := tables, sigs := sigsOf 1 [(15, qCreate.sig)], own := cDo2.sig.toSigR, anns := [{ key := 999999, j := 0, watch := [], havoc := [] }] }
theorem cDo2_den : denS cDo2_cx (mkEnv cDo2.sig [qCreate.sig] []) = cDo2.Pure := by kernel_rfl
theorem cDo2_kept : Kept Tryz.prog tables 75 cDo2.sig := keep_s (cx := cDo2_cx) (l := [(15, qCreate.sig)]) (invs := []) mixed Tryz.func75 (by kernel_rfl) rfl rfl (all_cons qCreate_kept all_nil) rfl cDo2_den cDo2.pure (by decide)
noncomputable def WRaw_cx : Cx := { P := Tryz.prog, fn := Tryz.f93, G := tables, sigs := sigsOf 1 [], own := WRaw.sig.toSigR, anns := [] }
theorem WRaw_den : denT WRaw_cx (mkEnv WRaw.sig [] []) = WRaw.Pure := by kernel_rfl
theorem WRaw_kept : Kept Tryz.prog tables 93 WRaw.sig := keep_t (cx := WRaw_cx) (l := []) (invs := []) mixed Tryz.func93 (by kernel_rfl) rfl rfl all_nil rfl WRaw_den WRaw.pure (by decide)
noncomputable def Width_cx : Cx := { P := Tryz.prog, fn := Tryz.f152, G := tables, sigs := sigsOf 1 [], own := Width.sig.toSigR, anns := [{ key := 2, j := 0, watch := [], havoc := [] }] }
theorem Width_den : denT Width_cx (mkEnv Width.sig [] [(Width.I0, Width.I0M)]) = Width.Pure := by kernel_rfl
theorem Width_kept : Kept Tryz.prog tables 152 Width.sig := keep_t (cx := Width_cx) (l := []) (invs := [(Width.I0, Width.I0M)]) mixed Tryz.func152 (by kernel_rfl) rfl rfl all_nil rfl Width_den Width.pure (by decide)
noncomputable def Low_cx : Cx := { P := Tryz.prog, fn := Tryz.f122, G := tables, sigs := sigsOf 1 [], own := Low.sig.toSigR, anns := [] }
theorem Low_den : denT Low_cx (mkEnv Low.sig [] []) = Low.Pure := by kernel_rfl
theorem Low_kept : Kept Tryz.prog tables 122 Low.sig := keep_t (cx := Low_cx) (l := []) (invs := []) mixed Tryz.func122 (by kernel_rfl) rfl rfl all_nil rfl Low_den Low.pure (by decide)
noncomputable def Field_cx : Cx := { P := Tryz.prog, fn := Tryz.f82, G := tables, sigs := sigsOf 1 [(122, Low.sig)], own := Field.sig.toSigR, anns := [] }
theorem Field_den : denT Field_cx (mkEnv Field.sig [Low.sig] []) = Field.Pure := by kernel_rfl
theorem Field_kept : Kept Tryz.prog tables 82 Field.sig := keep_t (cx := Field_cx) (l := [(122, Low.sig)]) (invs := []) mixed Tryz.func82 (by kernel_rfl) rfl rfl (all_cons Low_kept all_nil) rfl Field_den Field.pure (by decide)
noncomputable def WFixed_cx : Cx := { P := Tryz.prog, fn := Tryz.f94, G := tables, sigs := sigsOf 1 [(82, Field.sig)], own := WFixed.sig.toSigR, anns := [{ key := 2, j := 0, watch := [], havoc := [0] }] }
theorem WFixed_den : denT WFixed_cx (mkEnv WFixed.sig [Field.sig] [(WFixed.I0, WFixed.I0M)]) = WFixed.Pure := by kernel_rfl
theorem WFixed_kept : Kept Tryz.prog tables 94 WFixed.sig := keep_t (cx := WFixed_cx) (l := [(82, Field.sig)]) (invs := [(WFixed.I0, WFixed.I0M)]) mixed Tryz.func94 (by kernel_rfl) rfl rfl (all_cons Field_kept all_nil) rfl WFixed_den WFixed.pure (by decide)
noncomputable def WNum_cx : Cx := { P := Tryz.prog, fn := Tryz.f119, G := tables, sigs := sigsOf 1 [(152, Width.sig), (94, WFixed.sig)], own := WNum.sig.toSigR, anns := [] }
theorem WNum_den : denT WNum_cx (mkEnv WNum.sig [Width.sig, WFixed.sig] []) = WNum.Pure := by kernel_rfl
theorem WNum_kept : Kept Tryz.prog tables 119 WNum.sig := keep_t (cx := WNum_cx) (l := [(152, Width.sig), (94, WFixed.sig)]) (invs := []) mixed Tryz.func119 (by kernel_rfl) rfl rfl (all_cons Width_kept (all_cons WFixed_kept all_nil)) rfl WNum_den WNum.pure (by decide)
noncomputable def WText_cx : Cx := { P := Tryz.prog, fn := Tryz.f120, G := tables, sigs := sigsOf 1 [(119, WNum.sig)], own := WText.sig.toSigR, anns := [] }
theorem WText_den : denT WText_cx (mkEnv WText.sig [WNum.sig] []) = WText.Pure := by kernel_rfl
theorem WText_kept : Kept Tryz.prog tables 120 WText.sig := keep_t (cx := WText_cx) (l := [(119, WNum.sig)]) (invs := []) mixed Tryz.func120 (by kernel_rfl) rfl rfl (all_cons WNum_kept all_nil) rfl WText_den WText.pure (by decide)
noncomputable def WBytes_cx : Cx := { P := Tryz.prog, fn := Tryz.f97, G := tables, sigs := sigsOf 1 [], own := WBytes.sig.toSigR, anns := [] }
theorem WBytes_den : denT WBytes_cx (mkEnv WBytes.sig [] []) = WBytes.Pure := by kernel_rfl
theorem WBytes_kept : Kept Tryz.prog tables 97 WBytes.sig := keep_t (cx := WBytes_cx) (l := []) (invs := []) mixed Tryz.func97 (by kernel_rfl) rfl rfl all_nil rfl WBytes_den WBytes.pure (by decide)
noncomputable def TBytes_cx : Cx := { P := Tryz.prog, fn := Tryz.f77, G := tables, sigs := sigsOf 1 [(93, WRaw.sig), (119, WNum.sig), (120, WText.sig), (97, WBytes.sig), (71, HOf.sig)], own := TBytes.sig.toSigR, anns := [{ key := 5, j := 0, watch := [], havoc := [0] }, { key := 999999, j := 0, watch := [], havoc := [] }] }
theorem TBytes_den : denT TBytes_cx (mkEnv TBytes.sig [WRaw.sig, WNum.sig, WText.sig, WBytes.sig, HOf.sig] [(TBytes.I0, TBytes.I0M)]) = TBytes.Pure := by kernel_rfl
theorem TBytes_kept : Kept Tryz.prog tables 77 TBytes.sig := keep_t (cx := TBytes_cx) (l := [(93, WRaw.sig), (119, WNum.sig), (120, WText.sig), (97, WBytes.sig), (71, HOf.sig)]) (invs := [(TBytes.I0, TBytes.I0M)]) mixed Tryz.func77 (by kernel_rfl) rfl rfl (all_cons WRaw_kept (all_cons WNum_kept (all_cons WText_kept (all_cons WBytes_kept (all_cons HOf_kept all_nil))))) rfl TBytes_den TBytes.pure (by decide)
noncomputable def dUsed_cx : Cx := { P := Tryz.prog, fn := Tryz.f83, G := tables, sigs := sigsOf 1 [], own := dUsed.sig.toSigR, anns := [{ key := 3, j := 0, watch := [], havoc := [1] }, { key := 999999, j := 0, watch := [], havoc := [] }] }
theorem dUsed_den : denT dUsed_cx (mkEnv dUsed.sig [] [(dUsed.I0, dUsed.I0M)]) = dUsed.Pure := by kernel_rfl
theorem dUsed_kept : Kept Tryz.prog tables 83 dUsed.sig := keep_t (cx := dUsed_cx) (l := []) (invs := [(dUsed.I0, dUsed.I0M)]) mixed Tryz.func83 (by kernel_rfl) rfl rfl all_nil rfl dUsed_den dUsed.pure (by decide)
noncomputable def dFree_cx : Cx := { P := Tryz.prog, fn := Tryz.f47, G := tables, sigs := sigsOf 1 [(83, dUsed.sig)], own := dFree.sig.toSigR, anns := [{ key := 999999, j := 0, watch := [], havoc := [] }] }
theorem dFree_den : denT dFree_cx (mkEnv dFree.sig [dUsed.sig] []) = dFree.Pure := by kernel_rfl
theorem dFree_kept : Kept Tryz.prog tables 47 dFree.sig := keep_t (cx := dFree_cx) (l := [(83, dUsed.sig)]) (invs := []) mixed Tryz.func47 (by kernel_rfl) rfl rfl (all_cons dUsed_kept all_nil) rfl dFree_den dFree.pure (by decide)
noncomputable def dAppend_cx : Cx := { P := Tryz.prog, fn := Tryz.f16, G := tables, sigs := sigsOf 1 [(46, dFind.sig), (47, dFree.sig), (43, dBegin.sig), (45, dEnd.sig)], own := dAppend.sig.toSigR, anns := [{ key := 999999, j := 0, watch := [], havoc := [] }] }
theorem dAppend_den : denT dAppend_cx (mkEnv dAppend.sig [dFind.sig, dFree.sig, dBegin.sig, dEnd.sig] []) = dAppend.Pure := by kernel_rfl
theorem dAppend_kept : Kept Tryz.prog tables 16 dAppend.sig := keep_t (cx := dAppend_cx) (l := [(46, dFind.sig), (47, dFree.sig), (43, dBegin.sig), (45, dEnd.sig)]) (invs := []) mixed Tryz.func16 (by kernel_rfl) rfl rfl (all_cons dFind_kept (all_cons dFree_kept (all_cons dBegin_kept (all_cons dEnd_kept all_nil)))) rfl dAppend_den dAppend.pure (by decide)
theorem qAppend_kept : Kept Tryz.prog tables 16 qAppend.sig := qAppend_of dAppend_kept
noncomputable def cDo3_cx : Cx := { P := Tryz.prog, fn := Tryz.f76, G := tables, sigs := sigsOf 1 [(77, TBytes.sig), (16, qAppend.sig)], own := cDo3.sig.toSigR, anns := [{ key := 999999, j := 0, watch := [], havoc := [] }] }
theorem cDo3_den : denS cDo3_cx (mkEnv cDo3.sig [TBytes.sig, qAppend.sig] []) = cDo3.Pure := by kernel_rfl
theorem cDo3_kept : Kept Tryz.prog tables 76 cDo3.sig := keep_s (cx := cDo3_cx) (l := [(77, TBytes.sig), (16, qAppend.sig)]) (invs := []) mixed Tryz.func76 (by kernel_rfl) rfl rfl (all_cons TBytes_kept (all_cons qAppend_kept all_nil)) rfl cDo3_den cDo3.pure (by decide)
noncomputable def dSync_cx : Cx := { P := Tryz.prog, fn := Tryz.f56, G := tables, sigs := sigsOf 1 [(46, dFind.sig), (43, dBegin.sig), (45, dEnd.sig)], own := dSync.sig.toSigR, anns := [{ key := 999999, j := 0, watch := [], havoc := [] }] }
theorem dSync_den : denT dSync_cx (mkEnv dSync.sig [dFind.sig, dBegin.sig, dEnd.sig] []) = dSync.Pure := by kernel_rfl
theorem dSync_kept : Kept Tryz.prog tables 56 dSync.sig := keep_t (cx := dSync_cx) (l := [(46, dFind.sig), (43, dBegin.sig), (45, dEnd.sig)]) (invs := []) mixed Tryz.func56 (by kernel_rfl) rfl rfl (all_cons dFind_kept (all_cons dBegin_kept (all_cons dEnd_kept all_nil))) rfl dSync_den dSync.pure (by decide)
theorem qSync_kept : Kept Tryz.prog tables 56 qSync.sig := qSync_of dSync_kept
noncomputable def cDo4_cx : Cx := { P := Tryz.prog, fn := Tryz.f78, G := tables, sigs := sigsOf 1 [(56, qSync.sig)], own := cDo4.sig.toSigR, anns := [{ key := 999999, j := 0, watch := [], havoc := [] }] }
theorem cDo4_den : denS cDo4_cx (mkEnv cDo4.sig [qSync.sig] []) = cDo4.Pure := by kernel_rfl
theorem cDo4_kept : Kept Tryz.prog tables 78 cDo4.sig := keep_s (cx := cDo4_cx) (l := [(56, qSync.sig)]) (invs := []) mixed Tryz.func78 (by kernel_rfl) rfl rfl (all_cons qSync_kept all_nil) rfl cDo4_den cDo4.pure (by decide)
noncomputable def dRename_cx : Cx := { P := Tryz.prog, fn := Tryz.f80, G := tables, sigs := sigsOf 1 [(46, dFind.sig), (43, dBegin.sig), (44, dTurn.sig), (45, dEnd.sig)], own := dRename.sig.toSigR, anns := [{ key := 999999, j := 0, watch := [], havoc := [] }] }
theorem dRename_den : denT dRename_cx (mkEnv dRename.sig [dFind.sig, dBegin.sig, dTurn.sig, dEnd.sig] []) = dRename.Pure := by kernel_rfl
theorem dRename_kept : Kept Tryz.prog tables 80 dRename.sig := keep_t (cx := dRename_cx) (l := [(46, dFind.sig), (43, dBegin.sig), (44, dTurn.sig), (45, dEnd.sig)]) (invs := []) mixed Tryz.func80 (by kernel_rfl) rfl rfl (all_cons dFind_kept (all_cons dBegin_kept (all_cons dTurn_kept (all_cons dEnd_kept all_nil)))) rfl dRename_den dRename.pure (by decide)
theorem qRename_kept : Kept Tryz.prog tables 80 qRename.sig := qRename_of dRename_kept
noncomputable def cDo5_cx : Cx := { P := Tryz.prog, fn := Tryz.f79, G := tables, sigs := sigsOf 1 [(80, qRename.sig)], own := cDo5.sig.toSigR, anns := [{ key := 999999, j := 0, watch := [], havoc := [] }] }
theorem cDo5_den : denS cDo5_cx (mkEnv cDo5.sig [qRename.sig] []) = cDo5.Pure := by kernel_rfl
theorem cDo5_kept : Kept Tryz.prog tables 79 cDo5.sig := keep_s (cx := cDo5_cx) (l := [(80, qRename.sig)]) (invs := []) mixed Tryz.func79 (by kernel_rfl) rfl rfl (all_cons qRename_kept all_nil) rfl cDo5_den cDo5.pure (by decide)
theorem dClone_kept : Kept Tryz.prog tables 59 dClone.sig := kept_clone Tryz.func59 (by kernel_rfl) rfl Tryz.runClone
theorem dDel_kept : Kept Tryz.prog tables 99 (dDel.sig 100) := kept_del Tryz.func99 (by kernel_rfl) rfl (by kernel_rfl) Tryz.runDel
noncomputable def dSweep_cx : Cx := { P := Tryz.prog, fn := Tryz.f60, G := tables, sigs := sigsOf 1 [(99, (dDel.sig 100))], own := dSweep.sig.toSigR, anns := [{ key := 2, j := 0, watch := [], havoc := [1, 4] }, { key := 6, j := 1, watch := [], havoc := [1, 5] }, { key := 10, j := 2, watch := [], havoc := [1] }, { key := 999999, j := 0, watch := [], havoc := [] }] }
theorem dSweep_den : denT dSweep_cx (mkEnv dSweep.sig [(dDel.sig 100)] [(dSweep.I0, dSweep.I0M), (dSweep.I1, dSweep.I1M), (dSweep.I2, dSweep.I2M)]) = dSweep.Pure := by kernel_rfl
theorem dSweep_kept : Kept Tryz.prog tables 60 dSweep.sig := keep_t (cx := dSweep_cx) (l := [(99, (dDel.sig 100))]) (invs := [(dSweep.I0, dSweep.I0M), (dSweep.I1, dSweep.I1M), (dSweep.I2, dSweep.I2M)]) mixed Tryz.func60 (by kernel_rfl) rfl rfl (all_cons dDel_kept all_nil) rfl dSweep_den dSweep.pure (by decide)
noncomputable def dSyncNames_cx : Cx := { P := Tryz.prog, fn := Tryz.f64, G := tables, sigs := sigsOf 1 [(43, dBegin.sig), (45, dEnd.sig), (59, dClone.sig), (60, dSweep.sig)], own := dSyncNames.sig.toSigR, anns := [{ key := 999999, j := 0, watch := [], havoc := [] }] }
theorem dSyncNames_den : denT dSyncNames_cx (mkEnv dSyncNames.sig [dBegin.sig, dEnd.sig, dClone.sig, dSweep.sig] []) = dSyncNames.Pure := by kernel_rfl
theorem dSyncNames_kept : Kept Tryz.prog tables 64 dSyncNames.sig := keep_t (cx := dSyncNames_cx) (l := [(43, dBegin.sig), (45, dEnd.sig), (59, dClone.sig), (60, dSweep.sig)]) (invs := []) mixed Tryz.func64 (by kernel_rfl) rfl rfl (all_cons dBegin_kept (all_cons dEnd_kept (all_cons dClone_kept (all_cons dSweep_kept all_nil)))) rfl dSyncNames_den dSyncNames.pure (by decide)
theorem qSyncNames_kept : Kept Tryz.prog tables 64 qSyncNames.sig := qSyncNames_of dSyncNames_kept
noncomputable def cSave_cx : Cx := { P := Tryz.prog, fn := Tryz.f39, G := tables, sigs := sigsOf 1 [(74, cDo1.sig), (75, cDo2.sig), (76, cDo3.sig), (78, cDo4.sig), (79, cDo5.sig), (64, qSyncNames.sig)], own := cSave.sig.toSigR, anns := [{ key := 2, j := 0, watch := [], havoc := [5] }, { key := 999999, j := 0, watch := [], havoc := [] }] }
theorem cSave_den : denS cSave_cx (mkEnv cSave.sig [cDo1.sig, cDo2.sig, cDo3.sig, cDo4.sig, cDo5.sig, qSyncNames.sig] [(cSave.I0, cSave.I0M)]) = cSave.Pure := by kernel_rfl
theorem cSave_kept : Kept Tryz.prog tables 39 cSave.sig := keep_s (cx := cSave_cx) (l := [(74, cDo1.sig), (75, cDo2.sig), (76, cDo3.sig), (78, cDo4.sig), (79, cDo5.sig), (64, qSyncNames.sig)]) (invs := [(cSave.I0, cSave.I0M)]) mixed Tryz.func39 (by kernel_rfl) rfl rfl (all_cons cDo1_kept (all_cons cDo2_kept (all_cons cDo3_kept (all_cons cDo4_kept (all_cons cDo5_kept (all_cons qSyncNames_kept all_nil)))))) rfl cSave_den cSave.pure (by decide)
noncomputable def dPick_cx : Cx := { P := Tryz.prog, fn := Tryz.f57, G := tables, sigs := sigsOf 1 [], own := dPick.sig.toSigR, anns := [{ key := 999999, j := 0, watch := [], havoc := [] }] }
theorem dPick_den : denT dPick_cx (mkEnv dPick.sig [] []) = dPick.Pure := by kernel_rfl
theorem dPick_kept : Kept Tryz.prog tables 57 dPick.sig := keep_t (cx := dPick_cx) (l := []) (invs := []) mixed Tryz.func57 (by kernel_rfl) rfl rfl all_nil rfl dPick_den dPick.pure (by decide)
noncomputable def dKeysI_cx : Cx := { P := Tryz.prog, fn := Tryz.f62, G := tables, sigs := sigsOf 1 [], own := (dKeysI.sig 103).toSigR, anns := [{ key := 999999, j := 0, watch := [], havoc := [] }] }
theorem dKeysI_den : denT dKeysI_cx (mkEnv (dKeysI.sig 103) [] []) = dKeysI.Pure := by kernel_rfl
theorem dKeysI_kept : Kept Tryz.prog tables 62 (dKeysI.sig 103) := keep_t (cx := dKeysI_cx) (l := []) (invs := []) mixed Tryz.func62 (by kernel_rfl) rfl rfl all_nil rfl dKeysI_den dKeysI.pure (by decide)
theorem dSortI_kept : Kept Tryz.prog tables 61 (dSortI.sig 103) := kept_sort Tryz.func61 (by kernel_rfl) rfl (fun _ => ⟨_, rfl⟩) (.inr ⟨_, _, rfl⟩) (Tryz.runSortI rfl)
noncomputable def dRestart_cx : Cx := { P := Tryz.prog, fn := Tryz.f26, G := tables, sigs := sigsOf 1 [(57, dPick.sig), (58, dApply.sig), (59, dClone.sig), (60, dSweep.sig), (62, (dKeysI.sig 103)), (61, (dSortI.sig 103))], own := dRestart.sig.toSigR, anns := [{ key := 2, j := 0, watch := [], havoc := [4] }, { key := 11, j := 1, watch := [], havoc := [2] }, { key := 999999, j := 0, watch := [], havoc := [] }] }
theorem dRestart_den : denT dRestart_cx (mkEnv dRestart.sig [dPick.sig, dApply.sig, dClone.sig, dSweep.sig, (dKeysI.sig 103), (dSortI.sig 103)] [(dRestart.I0, dRestart.I0M), (dRestart.I1, dRestart.I1M)]) = dRestart.Pure := by kernel_rfl
theorem dRestart_kept : Kept Tryz.prog tables 26 dRestart.sig := keep_t (cx := dRestart_cx) (l := [(57, dPick.sig), (58, dApply.sig), (59, dClone.sig), (60, dSweep.sig), (62, (dKeysI.sig 103)), (61, (dSortI.sig 103))]) (invs := [(dRestart.I0, dRestart.I0M), (dRestart.I1, dRestart.I1M)]) mixed Tryz.func26 (by kernel_rfl) rfl rfl (all_cons dPick_kept (all_cons dApply_kept (all_cons dClone_kept (all_cons dSweep_kept (all_cons dKeysI_kept (all_cons dSortI_kept all_nil)))))) rfl dRestart_den dRestart.pure (by decide)
theorem qRestart_kept : Kept Tryz.prog tables 26 qRestart.sig := qRestart_of dRestart_kept
noncomputable def eCrash_cx : Cx := { P := Tryz.prog, fn := Tryz.f24, G := tables, sigs := sigsOf 1 [], own := eCrash.sig.toSigR, anns := [{ key := 999999, j := 0, watch := [], havoc := [] }] }
theorem eCrash_den : denT eCrash_cx (mkEnv eCrash.sig [] []) = eCrash.Pure := by kernel_rfl
theorem eCrash_kept : Kept Tryz.prog tables 24 eCrash.sig := keep_t (cx := eCrash_cx) (l := []) (invs := []) mixed Tryz.func24 (by kernel_rfl) rfl rfl all_nil rfl eCrash_den eCrash.pure (by decide)
theorem qCrash_kept : Kept Tryz.prog tables 24 qCrash.sig := qCrash_of eCrash_kept
noncomputable def eFail_cx : Cx := { P := Tryz.prog, fn := Tryz.f30, G := tables, sigs := sigsOf 1 [], own := eFail.sig.toSigR, anns := [{ key := 999999, j := 0, watch := [], havoc := [] }] }
theorem eFail_den : denT eFail_cx (mkEnv eFail.sig [] []) = eFail.Pure := by kernel_rfl
theorem eFail_kept : Kept Tryz.prog tables 30 eFail.sig := keep_t (cx := eFail_cx) (l := []) (invs := []) mixed Tryz.func30 (by kernel_rfl) rfl rfl all_nil rfl eFail_den eFail.pure (by decide)
theorem qFail_kept : Kept Tryz.prog tables 30 qFail.sig := qFail_of eFail_kept
noncomputable def eRoom_cx : Cx := { P := Tryz.prog, fn := Tryz.f31, G := tables, sigs := sigsOf 1 [], own := eRoom.sig.toSigR, anns := [{ key := 999999, j := 0, watch := [], havoc := [] }] }
theorem eRoom_den : denT eRoom_cx (mkEnv eRoom.sig [] []) = eRoom.Pure := by kernel_rfl
theorem eRoom_kept : Kept Tryz.prog tables 31 eRoom.sig := keep_t (cx := eRoom_cx) (l := []) (invs := []) mixed Tryz.func31 (by kernel_rfl) rfl rfl all_nil rfl eRoom_den eRoom.pure (by decide)
theorem qRoom_kept : Kept Tryz.prog tables 31 qRoom.sig := qRoom_of eRoom_kept
noncomputable def eDead_cx : Cx := { P := Tryz.prog, fn := Tryz.f29, G := tables, sigs := sigsOf 1 [], own := eDead.sig.toSigR, anns := [{ key := 999999, j := 0, watch := [], havoc := [] }] }
theorem eDead_den : denT eDead_cx (mkEnv eDead.sig [] []) = eDead.Pure := by kernel_rfl
theorem eDead_kept : Kept Tryz.prog tables 29 eDead.sig := keep_t (cx := eDead_cx) (l := []) (invs := []) mixed Tryz.func29 (by kernel_rfl) rfl rfl all_nil rfl eDead_den eDead.pure (by decide)
theorem qDead_kept : Kept Tryz.prog tables 29 qDead.sig := qDead_of eDead_kept
noncomputable def dRead_cx : Cx := { P := Tryz.prog, fn := Tryz.f18, G := tables, sigs := sigsOf 1 [(46, dFind.sig)], own := dRead.sig.toSigR, anns := [{ key := 999999, j := 0, watch := [], havoc := [] }] }
theorem dRead_den : denT dRead_cx (mkEnv dRead.sig [dFind.sig] []) = dRead.Pure := by kernel_rfl
theorem dRead_kept : Kept Tryz.prog tables 18 dRead.sig := keep_t (cx := dRead_cx) (l := [(46, dFind.sig)]) (invs := []) mixed Tryz.func18 (by kernel_rfl) rfl rfl (all_cons dFind_kept all_nil) rfl dRead_den dRead.pure (by decide)
theorem qRead_kept : Kept Tryz.prog tables 18 qRead.sig := qRead_of dRead_kept
noncomputable def PRead_cx : Cx := { P := Tryz.prog, fn := Tryz.f129, G := tables, sigs := sigsOf 1 [], own := PRead.sig.toSigR, anns := [] }
theorem PRead_den : denT PRead_cx (mkEnv PRead.sig [] []) = PRead.Pure := by kernel_rfl
theorem PRead_kept : Kept Tryz.prog tables 129 PRead.sig := keep_t (cx := PRead_cx) (l := []) (invs := []) mixed Tryz.func129 (by kernel_rfl) rfl rfl all_nil rfl PRead_den PRead.pure (by decide)
noncomputable def PRaw_cx : Cx := { P := Tryz.prog, fn := Tryz.f130, G := tables, sigs := sigsOf 1 [], own := PRaw.sig.toSigR, anns := [] }
theorem PRaw_den : denT PRaw_cx (mkEnv PRaw.sig [] []) = PRaw.Pure := by kernel_rfl
theorem PRaw_kept : Kept Tryz.prog tables 130 PRaw.sig := keep_t (cx := PRaw_cx) (l := []) (invs := []) mixed Tryz.func130 (by kernel_rfl) rfl rfl all_nil rfl PRaw_den PRaw.pure (by decide)
noncomputable def PFixed_cx : Cx := { P := Tryz.prog, fn := Tryz.f132, G := tables, sigs := sigsOf 1 [(130, PRaw.sig)], own := PFixed.sig.toSigR, anns := [{ key := 3, j := 0, watch := [], havoc := [] }] }
theorem PFixed_den : denT PFixed_cx (mkEnv PFixed.sig [PRaw.sig] [(PFixed.I0, PFixed.I0M)]) = PFixed.Pure := by kernel_rfl
theorem PFixed_kept : Kept Tryz.prog tables 132 PFixed.sig := keep_t (cx := PFixed_cx) (l := [(130, PRaw.sig)]) (invs := [(PFixed.I0, PFixed.I0M)]) mixed Tryz.func132 (by kernel_rfl) rfl rfl (all_cons PRaw_kept all_nil) rfl PFixed_den PFixed.pure (by decide)
noncomputable def PNum_cx : Cx := { P := Tryz.prog, fn := Tryz.f139, G := tables, sigs := sigsOf 1 [(132, PFixed.sig), (152, Width.sig)], own := PNum.sig.toSigR, anns := [] }
theorem PNum_den : denT PNum_cx (mkEnv PNum.sig [PFixed.sig, Width.sig] []) = PNum.Pure := by kernel_rfl
theorem PNum_kept : Kept Tryz.prog tables 139 PNum.sig := keep_t (cx := PNum_cx) (l := [(132, PFixed.sig), (152, Width.sig)]) (invs := []) mixed Tryz.func139 (by kernel_rfl) rfl rfl (all_cons PFixed_kept (all_cons Width_kept all_nil)) rfl PNum_den PNum.pure (by decide)
noncomputable def PFail_cx : Cx := { P := Tryz.prog, fn := Tryz.f138, G := tables, sigs := sigsOf 1 [], own := PFail.sig.toSigR, anns := [] }
theorem PFail_den : denT PFail_cx (mkEnv PFail.sig [] []) = PFail.Pure := by kernel_rfl
theorem PFail_kept : Kept Tryz.prog tables 138 PFail.sig := keep_t (cx := PFail_cx) (l := []) (invs := []) mixed Tryz.func138 (by kernel_rfl) rfl rfl all_nil rfl PFail_den PFail.pure (by decide)
noncomputable def PErr_cx : Cx := { P := Tryz.prog, fn := Tryz.f131, G := tables, sigs := sigsOf 1 [], own := PErr.sig.toSigR, anns := [] }
theorem PErr_den : denT PErr_cx (mkEnv PErr.sig [] []) = PErr.Pure := by kernel_rfl
theorem PErr_kept : Kept Tryz.prog tables 131 PErr.sig := keep_t (cx := PErr_cx) (l := []) (invs := []) mixed Tryz.func131 (by kernel_rfl) rfl rfl all_nil rfl PErr_den PErr.pure (by decide)
noncomputable def PText_cx : Cx := { P := Tryz.prog, fn := Tryz.f140, G := tables, sigs := sigsOf 1 [(139, PNum.sig), (130, PRaw.sig)], own := PText.sig.toSigR, anns := [] }
theorem PText_den : denT PText_cx (mkEnv PText.sig [PNum.sig, PRaw.sig] []) = PText.Pure := by kernel_rfl
theorem PText_kept : Kept Tryz.prog tables 140 PText.sig := keep_t (cx := PText_cx) (l := [(139, PNum.sig), (130, PRaw.sig)]) (invs := []) mixed Tryz.func140 (by kernel_rfl) rfl rfl (all_cons PNum_kept (all_cons PRaw_kept all_nil)) rfl PText_den PText.pure (by decide)
noncomputable def PDone_cx : Cx := { P := Tryz.prog, fn := Tryz.f142, G := tables, sigs := sigsOf 1 [(138, PFail.sig)], own := PDone.sig.toSigR, anns := [] }
theorem PDone_den : denT PDone_cx (mkEnv PDone.sig [PFail.sig] []) = PDone.Pure := by kernel_rfl
theorem PDone_kept : Kept Tryz.prog tables 142 PDone.sig := keep_t (cx := PDone_cx) (l := [(138, PFail.sig)]) (invs := []) mixed Tryz.func142 (by kernel_rfl) rfl rfl (all_cons PFail_kept all_nil) rfl PDone_den PDone.pure (by decide)
noncomputable def TRead_cx : Cx := { P := Tryz.prog, fn := Tryz.f108, G := tables, sigs := sigsOf 1 [(129, PRead.sig), (130, PRaw.sig), (139, PNum.sig), (138, PFail.sig), (131, PErr.sig), (140, PText.sig), (141, HCmp.sig), (142, PDone.sig)], own := TRead.sig.toSigR, anns := [{ key := 6, j := 0, watch := [], havoc := [0, 1] }, { key := 6, j := 1, join := true, tmpl := some TRead.T }, { key := 999999, j := 0, watch := [], havoc := [] }] }
theorem TRead_den : denT TRead_cx (mkEnv TRead.sig [PRead.sig, PRaw.sig, PNum.sig, PFail.sig, PErr.sig, PText.sig, HCmp.sig, PDone.sig] [(TRead.I0, TRead.I0M), (TRead.J0, TRead.J0M)]) = TRead.Pure := by kernel_rfl
theorem TRead_kept : Kept Tryz.prog tables 108 TRead.sig := keep_t (cx := TRead_cx) (l := [(129, PRead.sig), (130, PRaw.sig), (139, PNum.sig), (138, PFail.sig), (131, PErr.sig), (140, PText.sig), (141, HCmp.sig), (142, PDone.sig)]) (invs := [(TRead.I0, TRead.I0M), (TRead.J0, TRead.J0M)]) mixed Tryz.func108 (by kernel_rfl) rfl rfl (all_cons PRead_kept (all_cons PRaw_kept (all_cons PNum_kept (all_cons PFail_kept (all_cons PErr_kept (all_cons PText_kept (all_cons HCmp_kept (all_cons PDone_kept all_nil)))))))) rfl TRead_den TRead.pure (by decide)
noncomputable def TParse_cx : Cx := { P := Tryz.prog, fn := Tryz.f68, G := tables, sigs := sigsOf 1 [(71, HOf.sig), (108, TRead.sig)], own := TParse.sig.toSigR, anns := [{ key := 999999, j := 0, watch := [], havoc := [] }] }
theorem TParse_den : denT TParse_cx (mkEnv TParse.sig [HOf.sig, TRead.sig] []) = TParse.Pure := by kernel_rfl
theorem TParse_kept : Kept Tryz.prog tables 68 TParse.sig := keep_t (cx := TParse_cx) (l := [(71, HOf.sig), (108, TRead.sig)]) (invs := []) mixed Tryz.func68 (by kernel_rfl) rfl rfl (all_cons HOf_kept (all_cons TRead_kept all_nil)) rfl TParse_den TParse.pure (by decide)
noncomputable def cLoad_cx : Cx := { P := Tryz.prog, fn := Tryz.f35, G := tables, sigs := sigsOf 1 [(18, qRead.sig), (68, TParse.sig)], own := cLoad.sig.toSigR, anns := [{ key := 999999, j := 0, watch := [], havoc := [] }] }
theorem cLoad_den : denS cLoad_cx (mkEnv cLoad.sig [qRead.sig, TParse.sig] []) = cLoad.Pure := by kernel_rfl
theorem cLoad_kept : Kept Tryz.prog tables 35 cLoad.sig := keep_s (cx := cLoad_cx) (l := [(18, qRead.sig), (68, TParse.sig)]) (invs := []) mixed Tryz.func35 (by kernel_rfl) rfl rfl (all_cons qRead_kept (all_cons TParse_kept all_nil)) rfl cLoad_den cLoad.pure (by decide)
noncomputable def TClone_cx : Cx := { P := Tryz.prog, fn := Tryz.f113, G := tables, sigs := sigsOf 1 [], own := TClone.sig.toSigR, anns := [{ key := 999999, j := 0, watch := [], havoc := [] }] }
theorem TClone_den : denT TClone_cx (mkEnv TClone.sig [] []) = TClone.Pure := by kernel_rfl
theorem TClone_kept : Kept Tryz.prog tables 113 TClone.sig := keep_t (cx := TClone_cx) (l := []) (invs := []) mixed Tryz.func113 (by kernel_rfl) rfl rfl all_nil rfl TClone_den TClone.pure (by decide)
noncomputable def TAll_cx : Cx := { P := Tryz.prog, fn := Tryz.f70, G := tables, sigs := sigsOf 1 [(113, TClone.sig)], own := TAll.sig.toSigR, anns := [{ key := 999999, j := 0, watch := [], havoc := [] }] }
theorem TAll_den : denT TAll_cx (mkEnv TAll.sig [TClone.sig] []) = TAll.Pure := by kernel_rfl
theorem TAll_kept : Kept Tryz.prog tables 70 TAll.sig := keep_t (cx := TAll_cx) (l := [(113, TClone.sig)]) (invs := []) mixed Tryz.func70 (by kernel_rfl) rfl rfl (all_cons TClone_kept all_nil) rfl TAll_den TAll.pure (by decide)
noncomputable def TLen_cx : Cx := { P := Tryz.prog, fn := Tryz.f40, G := tables, sigs := sigsOf 1 [], own := TLen.sig.toSigR, anns := [{ key := 999999, j := 0, watch := [], havoc := [] }] }
theorem TLen_den : denT TLen_cx (mkEnv TLen.sig [] []) = TLen.Pure := by kernel_rfl
theorem TLen_kept : Kept Tryz.prog tables 40 TLen.sig := keep_t (cx := TLen_cx) (l := []) (invs := []) mixed Tryz.func40 (by kernel_rfl) rfl rfl all_nil rfl TLen_den TLen.pure (by decide)
noncomputable def TSame_cx : Cx := { P := Tryz.prog, fn := Tryz.f37, G := tables, sigs := sigsOf 1 [(70, TAll.sig), (40, TLen.sig)], own := TSame.sig.toSigR, anns := [{ key := 5, j := 0, watch := [], havoc := [] }, { key := 999999, j := 0, watch := [], havoc := [] }] }
theorem TSame_den : denT TSame_cx (mkEnv TSame.sig [TAll.sig, TLen.sig] [(TSame.I0, TSame.I0M)]) = TSame.Pure := by kernel_rfl
theorem TSame_kept : Kept Tryz.prog tables 37 TSame.sig := keep_t (cx := TSame_cx) (l := [(70, TAll.sig), (40, TLen.sig)]) (invs := [(TSame.I0, TSame.I0M)]) mixed Tryz.func37 (by kernel_rfl) rfl rfl (all_cons TAll_kept (all_cons TLen_kept all_nil)) rfl TSame_den TSame.pure (by decide)
noncomputable def aw23_cx : Cx := { P := Tryz.prog, fn := Tryz.f32, G := tables, sigs := sigsOf 1 [(12, qNew.sig), (38, Grow.sig), (39, cSave.sig), (26, qRestart.sig), (35, cLoad.sig), (37, TSame.sig)], own := aw23.sig.toSigR, anns := [{ key := 999999, j := 0, watch := [], havoc := [] }] }
theorem aw23_den : denS aw23_cx (mkEnv aw23.sig [qNew.sig, Grow.sig, cSave.sig, qRestart.sig, cLoad.sig, TSame.sig] []) = aw23.Pure := by kernel_rfl
theorem aw23_kept : Kept Tryz.prog tables 32 aw23.sig := keep_s (cx := aw23_cx) (l := [(12, qNew.sig), (38, Grow.sig), (39, cSave.sig), (26, qRestart.sig), (35, cLoad.sig), (37, TSame.sig)]) (invs := []) mixed Tryz.func32 (by kernel_rfl) rfl rfl (all_cons qNew_kept (all_cons Grow_kept (all_cons cSave_kept (all_cons qRestart_kept (all_cons cLoad_kept (all_cons TSame_kept all_nil)))))) rfl aw23_den aw23.pure (by decide)
noncomputable def LCkptPlays_cx : Cx := { P := Tryz.prog, fn := Tryz.f11, G := tables, sigs := sigsOf 1 [(12, qNew.sig), (38, Grow.sig), (39, cSave.sig), (41, cClean.sig), (26, qRestart.sig), (24, qCrash.sig), (30, qFail.sig), (31, qRoom.sig), (29, qDead.sig), (35, cLoad.sig), (37, TSame.sig), (32, aw23.sig)], own := LCkptPlays.sig.toSigR, anns := [{ key := 6, j := 0, watch := [], havoc := [3], frz := true }, { key := 37, j := 1, watch := [6], havoc := [1] }, { key := 1000028, j := 2, join := true, tmpl := some LCkptPlays.T }, { key := 999999, j := 0, watch := [], havoc := [] }] }
theorem LCkptPlays_den : denS LCkptPlays_cx (mkEnv LCkptPlays.sig [qNew.sig, Grow.sig, cSave.sig, cClean.sig, qRestart.sig, qCrash.sig, qFail.sig, qRoom.sig, qDead.sig, cLoad.sig, TSame.sig, aw23.sig] [(LCkptPlays.I0, LCkptPlays.I0M), (LCkptPlays.I1, LCkptPlays.I1M), (LCkptPlays.J0, LCkptPlays.J0M)]) = LCkptPlays.Pure := by kernel_rfl
theorem LCkptPlays_kept : Kept Tryz.prog tables 11 LCkptPlays.sig := keep_s (cx := LCkptPlays_cx) (l := [(12, qNew.sig), (38, Grow.sig), (39, cSave.sig), (41, cClean.sig), (26, qRestart.sig), (24, qCrash.sig), (30, qFail.sig), (31, qRoom.sig), (29, qDead.sig), (35, cLoad.sig), (37, TSame.sig), (32, aw23.sig)]) (invs := [(LCkptPlays.I0, LCkptPlays.I0M), (LCkptPlays.I1, LCkptPlays.I1M), (LCkptPlays.J0, LCkptPlays.J0M)]) mixed Tryz.func11 (by kernel_rfl) rfl rfl (all_cons qNew_kept (all_cons Grow_kept (all_cons cSave_kept (all_cons cClean_kept (all_cons qRestart_kept (all_cons qCrash_kept (all_cons qFail_kept (all_cons qRoom_kept (all_cons qDead_kept (all_cons cLoad_kept (all_cons TSame_kept (all_cons aw23_kept all_nil)))))))))))) rfl LCkptPlays_den LCkptPlays.pure (by decide)
theorem tables_of {W : World} (h : laidMetH Tryz.prog [("ordeal/sha.rounds", tableData .u32 shaRounds), ("ordeal/sha.start", tableData .u32 shaStart)] W) : ∀ g ∈ tables, g.holds W := by
  rw [MakeChecks.laidMetH_plain _ _ _ (by kernel_rfl)] at h
  obtain ⟨ps, ⟨g0, t0, cs0, f0, p0, q0, hg0, ht0, hv0, hd0, ⟨g1, t1, cs1, f1, p1, q1, hg1, ht1, hv1, hd1, hend, e1⟩, e0⟩, _, _⟩ := h
  obtain rfl := Option.some.inj ((show Tryz.prog.globalNamed "ordeal/sha.rounds" = some 2 by kernel_rfl).symm.trans hg0)
  obtain rfl := Option.some.inj ((show (Tryz.prog.globals[2]?).map (·.type) = some 245 by kernel_rfl).symm.trans ht0)
  obtain rfl := Option.some.inj ((show Tryz.prog.globalNamed "ordeal/sha.start" = some 1 by kernel_rfl).symm.trans hg1)
  obtain rfl := Option.some.inj ((show (Tryz.prog.globals[1]?).map (·.type) = some 184 by kernel_rfl).symm.trans ht1)
  intro g hg
  simp only [tables, List.mem_cons, List.not_mem_nil, or_false] at hg
  rcases hg with rfl | rfl
  · exact glob_one (t := 245) (e := 127) hg0 (by kernel_rfl) (by kernel_rfl) (by kernel_rfl) (by kernel_rfl) hv0 hd0
  · exact glob_one (t := 184) (e := 127) hg1 (by kernel_rfl) (by kernel_rfl) (by kernel_rfl) (by kernel_rfl) hv1 hd1
end Go.Proofs.YtmgeaephkagdiaaGreatDoor.CkpKeep
