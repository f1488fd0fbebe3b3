/-
  Each of these functions keeps its contract, in the program of this seat.
-/
import Derived.Test.YtnnjpgenekgciaaDoorChecked
import Derived.Test.YtnnjpgenekgciaaDoorTabd
import Derived.Test.YtnnjpgenekgciaaDoorTab
import Derived.Test.YtnnjpgenekgciaaDoorIns
import Derived.LaidMore
import Derived.Stop.Joined
set_option linter.unusedVariables false
namespace Go.Proofs.YtnnjpgenekgciaaDoor.TabcKeep
open Go.Vc
theorem mixed : Tryd.prog.follows .mixedOrders = true := by kernel_rfl
theorem all_nil {p : FuncId × Sig → Prop} : ∀ x ∈ ([] : List (FuncId × Sig)), p x := by intro x hx; cases hx
theorem all_cons {p : FuncId × Sig → Prop} {a : FuncId × Sig} {l : List (FuncId × Sig)} (h : p a) (h' : ∀ x ∈ l, p x) : ∀ x ∈ a :: l, p x := by
  intro x hx
  rcases List.mem_cons.1 hx with rfl | hx
  · exact h
  · exact h' x hx
def tables : List Glob := [{ g := 1, k := .u32, l := shaRounds }, { g := 0, k := .u32, l := shaStart }]
noncomputable def T32_cx : Cx := { P := Tryd.prog, fn := Tryd.f71, G := tables, sigs := sigsOf 1 [], own := T32.sig.toSigR, anns := [] }
theorem T32_vc : vcOf' T32_cx = .ok T32.vc := by kernel_rfl
theorem T32_kept : Kept Tryd.prog tables 71 T32.sig := keeps (cx := T32_cx) (l := []) (invs := []) mixed Tryd.func71 (by kernel_rfl) rfl rfl all_nil T32_vc (Eq.mpr T32.den T32.pure) (by decide)
noncomputable def SSched_cx : Cx := { P := Tryd.prog, fn := Tryd.f70, G := tables, sigs := sigsOf 1 [(71, T32.sig)], own := SSched.sig.toSigR, anns := [{ key := 3, j := 0, watch := [], havoc := [0] }, { key := 8, j := 1, watch := [], havoc := [0] }, { key := 999999, j := 0, watch := [], havoc := [] }] }
theorem SSched_vc : vcOf' SSched_cx = .ok SSched.vc := by kernel_rfl
theorem SSched_kept : Kept Tryd.prog tables 70 SSched.sig := keeps (cx := SSched_cx) (l := [(71, T32.sig)]) (invs := [(SSched.I0, SSched.I0M), (SSched.I1, SSched.I1M)]) mixed Tryd.func70 (by kernel_rfl) rfl rfl (all_cons T32_kept all_nil) SSched_vc (Eq.mpr SSched.den SSched.pure) (by decide)
noncomputable def SMix_cx : Cx := { P := Tryd.prog, fn := Tryd.f51, G := tables, sigs := sigsOf 1 [(70, SSched.sig), (71, T32.sig)], own := SMix.sig.toSigR, anns := [{ key := 3, j := 0, watch := [], havoc := [0] }, { key := 11, j := 1, watch := [], havoc := [0] }, { key := 3, j := 2, join := true, tmpl := some SMix.T }, { key := 999999, j := 0, watch := [], havoc := [] }] }
theorem SMix_vc : vcOf' SMix_cx = .ok SMix.vc := by kernel_rfl
theorem SMix_kept : Kept Tryd.prog tables 51 SMix.sig := keeps (cx := SMix_cx) (l := [(70, SSched.sig), (71, T32.sig)]) (invs := [(SMix.I0, SMix.I0M), (SMix.I1, SMix.I1M), (SMix.J0, SMix.J0M)]) mixed Tryd.func51 (by kernel_rfl) rfl rfl (all_cons SSched_kept (all_cons T32_kept all_nil)) SMix_vc (Eq.mpr SMix.den SMix.pure) (by decide)
noncomputable def HWrite_cx : Cx := { P := Tryd.prog, fn := Tryd.f28, G := tables, sigs := sigsOf 1 [(51, SMix.sig)], own := HWrite.sig.toSigR, anns := [{ key := 4, j := 0, watch := [], havoc := [1] }, { key := 999999, j := 0, watch := [], havoc := [] }] }
theorem HWrite_vc : vcOf' HWrite_cx = .ok HWrite.vc := by kernel_rfl
theorem HWrite_kept : Kept Tryd.prog tables 28 HWrite.sig := keeps (cx := HWrite_cx) (l := [(51, SMix.sig)]) (invs := [(HWrite.I0, HWrite.I0M)]) mixed Tryd.func28 (by kernel_rfl) rfl rfl (all_cons SMix_kept all_nil) HWrite_vc (Eq.mpr HWrite.den HWrite.pure) (by decide)
noncomputable def Bytes_cx : Cx := { P := Tryd.prog, fn := Tryd.f52, G := tables, sigs := sigsOf 1 [], own := Bytes.sig.toSigR, anns := [{ key := 3, j := 0, watch := [], havoc := [0] }] }
theorem Bytes_vc : vcOf' Bytes_cx = .ok Bytes.vc := by kernel_rfl
theorem Bytes_kept : Kept Tryd.prog tables 52 Bytes.sig := keeps (cx := Bytes_cx) (l := []) (invs := [(Bytes.I0, Bytes.I0M)]) mixed Tryd.func52 (by kernel_rfl) rfl rfl all_nil Bytes_vc (Eq.mpr Bytes.den Bytes.pure) (by decide)
noncomputable def Swap_cx : Cx := { P := Tryd.prog, fn := Tryd.f53, G := tables, sigs := sigsOf 1 [], own := Swap.sig.toSigR, anns := [] }
theorem Swap_vc : vcOf' Swap_cx = .ok Swap.vc := by kernel_rfl
theorem Swap_kept : Kept Tryd.prog tables 53 Swap.sig := keeps (cx := Swap_cx) (l := []) (invs := []) mixed Tryd.func53 (by kernel_rfl) rfl rfl all_nil Swap_vc (Eq.mpr Swap.den Swap.pure) (by decide)
noncomputable def HSum_cx : Cx := { P := Tryd.prog, fn := Tryd.f29, G := tables, sigs := sigsOf 1 [(51, SMix.sig), (52, Bytes.sig), (53, Swap.sig)], own := HSum.sig.toSigR, anns := [{ key := 5, j := 0, watch := [], havoc := [] }, { key := 8, j := 1, watch := [], havoc := [2], frz := true }, { key := 13, j := 2, watch := [], havoc := [0] }, { key := 999999, j := 0, watch := [], havoc := [] }] }
theorem HSum_vc : vcOf' HSum_cx = .ok HSum.vc := by kernel_rfl
theorem HSum_kept : Kept Tryd.prog tables 29 HSum.sig := keeps (cx := HSum_cx) (l := [(51, SMix.sig), (52, Bytes.sig), (53, Swap.sig)]) (invs := [(HSum.I0, HSum.I0M), (HSum.I1, HSum.I1M), (HSum.I2, HSum.I2M)]) mixed Tryd.func29 (by kernel_rfl) rfl rfl (all_cons SMix_kept (all_cons Bytes_kept (all_cons Swap_kept all_nil))) HSum_vc (Eq.mpr HSum.den HSum.pure) (by decide)
noncomputable def HOf_cx : Cx := { P := Tryd.prog, fn := Tryd.f11, G := tables, sigs := sigsOf 1 [(28, HWrite.sig), (29, HSum.sig)], own := HOf.sig.toSigR, anns := [] }
theorem HOf_vc : vcOf' HOf_cx = .ok HOf.vc := by kernel_rfl
theorem HOf_kept : Kept Tryd.prog tables 11 HOf.sig := keeps (cx := HOf_cx) (l := [(28, HWrite.sig), (29, HSum.sig)]) (invs := []) mixed Tryd.func11 (by kernel_rfl) rfl rfl (all_cons HWrite_kept (all_cons HSum_kept all_nil)) HOf_vc (Eq.mpr HOf.den HOf.pure) (by decide)
noncomputable def Cut_cx : Cx := { P := Tryd.prog, fn := Tryd.f12, G := tables, sigs := sigsOf 1 [], own := Cut.sig.toSigR, anns := [] }
theorem Cut_vc : vcOf' Cut_cx = .ok Cut.vc := by kernel_rfl
theorem Cut_kept : Kept Tryd.prog tables 12 Cut.sig := keeps (cx := Cut_cx) (l := []) (invs := []) mixed Tryd.func12 (by kernel_rfl) rfl rfl all_nil Cut_vc (Eq.mpr Cut.den Cut.pure) (by decide)
noncomputable def HCmp_cx : Cx := { P := Tryd.prog, fn := Tryd.f48, G := tables, sigs := sigsOf 1 [], own := HCmp.sig.toSigR, anns := [{ key := 2, j := 0, watch := [], havoc := [] }, { key := 999999, j := 0, watch := [], havoc := [] }] }
theorem HCmp_vc : vcOf' HCmp_cx = .ok HCmp.vc := by kernel_rfl
theorem HCmp_kept : Kept Tryd.prog tables 48 HCmp.sig := keeps (cx := HCmp_cx) (l := []) (invs := [(HCmp.I0, HCmp.I0M)]) mixed Tryd.func48 (by kernel_rfl) rfl rfl all_nil HCmp_vc (Eq.mpr HCmp.den HCmp.pure) (by decide)
noncomputable def ECmp_cx : Cx := { P := Tryd.prog, fn := Tryd.f47, G := tables, sigs := sigsOf 1 [(48, HCmp.sig)], own := ECmp.sig.toSigR, anns := [{ key := 999999, j := 0, watch := [], havoc := [] }] }
theorem ECmp_vc : vcOf' ECmp_cx = .ok ECmp.vc := by kernel_rfl
theorem ECmp_kept : Kept Tryd.prog tables 47 ECmp.sig := keeps (cx := ECmp_cx) (l := [(48, HCmp.sig)]) (invs := []) mixed Tryd.func47 (by kernel_rfl) rfl rfl (all_cons HCmp_kept all_nil) ECmp_vc (Eq.mpr ECmp.den ECmp.pure) (by decide)
noncomputable def BSF_cx : Cx := { P := Tryd.prog, fn := Tryd.f46, G := tables, sigs := sigsOf 1 [(47, ECmp.sig)], own := (BSF.sig 47).toSigR, anns := [{ key := 3, j := 0, watch := [], havoc := [] }, { key := 999999, j := 0, watch := [], havoc := [] }] }
theorem BSF_vc : vcOf' BSF_cx = .ok BSF.vc := by kernel_rfl
theorem BSF_kept : Kept Tryd.prog tables 46 (BSF.sig 47) := keeps (cx := BSF_cx) (l := [(47, ECmp.sig)]) (invs := [(BSF.I0, BSF.I0M)]) mixed Tryd.func46 (by kernel_rfl) rfl rfl (all_cons ECmp_kept all_nil) BSF_vc (Eq.mpr (BSF.den 47) BSF.pure) (by decide)
noncomputable def TFind_cx : Cx := { P := Tryd.prog, fn := Tryd.f26, G := tables, sigs := sigsOf 1 [(46, (BSF.sig 47))], own := TFind.sig.toSigR, anns := [{ key := 999999, j := 0, watch := [], havoc := [] }] }
theorem TFind_vc : vcOf' TFind_cx = .ok TFind.vc := by kernel_rfl
theorem TFind_kept : Kept Tryd.prog tables 26 TFind.sig := keeps (cx := TFind_cx) (l := [(46, (BSF.sig 47))]) (invs := []) mixed Tryd.func26 (by kernel_rfl) rfl rfl (all_cons BSF_kept all_nil) TFind_vc (Eq.mpr (TFind.den 47) TFind.pure) (by decide)
theorem TInsA_kept : Kept Tryd.prog tables 27 TInsA.sig := kept_ins Tryd.func27 (by kernel_rfl) (by kernel_rfl) Ins.insOk
noncomputable def TPutA_cx : Cx := { P := Tryd.prog, fn := Tryd.f10, G := tables, sigs := sigsOf 1 [(26, TFind.sig), (27, TInsA.sig)], own := TPutA.sig.toSigR, anns := [{ key := 999999, j := 0, watch := [], havoc := [] }] }
theorem TPutA_vc : vcOf' TPutA_cx = .ok TPutA.vc := by kernel_rfl
theorem TPutA_kept : Kept Tryd.prog tables 10 TPutA.sig := keeps (cx := TPutA_cx) (l := [(26, TFind.sig), (27, TInsA.sig)]) (invs := []) mixed Tryd.func10 (by kernel_rfl) rfl rfl (all_cons TFind_kept (all_cons TInsA_kept all_nil)) TPutA_vc (Eq.mpr TPutA.den TPutA.pure) (by decide)
noncomputable def rFind_cx : Cx := { P := Tryd.prog, fn := Tryd.f19, G := tables, sigs := sigsOf 1 [], own := rFind.sig.toSigR, anns := [{ key := 2, j := 0, watch := [], havoc := [] }, { key := 999999, j := 0, watch := [], havoc := [] }] }
theorem rFind_vc : vcOf' rFind_cx = .ok rFind.vc := by kernel_rfl
theorem rFind_kept : Kept Tryd.prog tables 19 rFind.sig := keeps (cx := rFind_cx) (l := []) (invs := [(rFind.I0, rFind.I0M)]) mixed Tryd.func19 (by kernel_rfl) rfl rfl all_nil rFind_vc (Eq.mpr rFind.den rFind.pure) (by decide)
noncomputable def rPut_cx : Cx := { P := Tryd.prog, fn := Tryd.f24, G := tables, sigs := sigsOf 1 [(19, rFind.sig)], own := rPut.sig.toSigR, anns := [{ key := 6, j := 0, watch := [], havoc := [] }, { key := 999999, j := 0, watch := [], havoc := [] }] }
theorem rPut_vc : vcOf' rPut_cx = .ok rPut.vc := by kernel_rfl
theorem rPut_kept : Kept Tryd.prog tables 24 rPut.sig := keeps (cx := rPut_cx) (l := [(19, rFind.sig)]) (invs := [(rPut.I0, rPut.I0M)]) mixed Tryd.func24 (by kernel_rfl) rfl rfl (all_cons rFind_kept all_nil) rPut_vc (Eq.mpr rPut.den rPut.pure) (by decide)
noncomputable def Grow_cx : Cx := { P := Tryd.prog, fn := Tryd.f8, G := tables, sigs := sigsOf 1 [(11, HOf.sig), (12, Cut.sig), (10, TPutA.sig), (24, rPut.sig)], own := Grow.sig.toSigR, anns := [{ key := 4, j := 0, watch := [], havoc := [1], frz := true }, { key := 999999, j := 0, watch := [], havoc := [] }] }
theorem Grow_vc : vcOf' Grow_cx = .ok Grow.vc := by kernel_rfl
theorem Grow_kept : Kept Tryd.prog tables 8 Grow.sig := keeps (cx := Grow_cx) (l := [(11, HOf.sig), (12, Cut.sig), (10, TPutA.sig), (24, rPut.sig)]) (invs := [(Grow.I0, Grow.I0M)]) mixed Tryd.func8 (by kernel_rfl) rfl rfl (all_cons HOf_kept (all_cons Cut_kept (all_cons TPutA_kept (all_cons rPut_kept all_nil)))) Grow_vc (Eq.mpr Grow.den Grow.pure) (by decide)
noncomputable def TIns_cx : Cx := { P := Tryd.prog, fn := Tryd.f27, G := tables, sigs := sigsOf 1 [], own := TIns.sig.toSigR, anns := [{ key := 3000012, j := 0 }, { key := 2000004, j := 0, join := true }, { key := 2000008, j := 0, join := true }, { key := 999999, j := 0, watch := [], havoc := [] }] }
theorem TIns_vc : vcOf' TIns_cx = .ok TIns.vc := by kernel_rfl
theorem TIns_kept : Kept Tryd.prog tables 27 TIns.sig := keeps (cx := TIns_cx) (l := []) (invs := []) mixed Tryd.func27 (by kernel_rfl) rfl rfl all_nil TIns_vc (Eq.mpr TIns.den TIns.pure) (by decide)
noncomputable def TPut_cx : Cx := { P := Tryd.prog, fn := Tryd.f10, G := tables, sigs := sigsOf 1 [(26, TFind.sig), (27, TIns.sig)], own := TPut.sig.toSigR, anns := [{ key := 999999, j := 0, watch := [], havoc := [] }] }
theorem TPut_vc : vcOf' TPut_cx = .ok TPut.vc := by kernel_rfl
theorem TPut_kept : Kept Tryd.prog tables 10 TPut.sig := keeps (cx := TPut_cx) (l := [(26, TFind.sig), (27, TIns.sig)]) (invs := []) mixed Tryd.func10 (by kernel_rfl) rfl rfl (all_cons TFind_kept (all_cons TIns_kept all_nil)) TPut_vc (Eq.mpr TPut.den TPut.pure) (by decide)
noncomputable def TGet_cx : Cx := { P := Tryd.prog, fn := Tryd.f18, G := tables, sigs := sigsOf 1 [(26, TFind.sig)], own := TGet.sig.toSigR, anns := [{ key := 999999, j := 0, watch := [], havoc := [] }] }
theorem TGet_vc : vcOf' TGet_cx = .ok TGet.vc := by kernel_rfl
theorem TGet_kept : Kept Tryd.prog tables 18 TGet.sig := keeps (cx := TGet_cx) (l := [(26, TFind.sig)]) (invs := []) mixed Tryd.func18 (by kernel_rfl) rfl rfl (all_cons TFind_kept all_nil) TGet_vc (Eq.mpr TGet.den TGet.pure) (by decide)
noncomputable def TLen_cx : Cx := { P := Tryd.prog, fn := Tryd.f25, G := tables, sigs := sigsOf 1 [], own := TLen.sig.toSigR, anns := [{ key := 999999, j := 0, watch := [], havoc := [] }] }
theorem TLen_vc : vcOf' TLen_cx = .ok TLen.vc := by kernel_rfl
theorem TLen_kept : Kept Tryd.prog tables 25 TLen.sig := keeps (cx := TLen_cx) (l := []) (invs := []) mixed Tryd.func25 (by kernel_rfl) rfl rfl all_nil TLen_vc (Eq.mpr TLen.den TLen.pure) (by decide)
noncomputable def Awake22_cx : Cx := { P := Tryd.prog, fn := Tryd.f9, G := tables, sigs := sigsOf 1 [(11, HOf.sig), (10, TPut.sig), (18, TGet.sig), (25, TLen.sig)], own := Awake22.sig.toSigR, anns := [{ key := 999999, j := 0, watch := [], havoc := [] }] }
theorem Awake22_vc : vcOf' Awake22_cx = .ok Awake22.vc := by kernel_rfl
theorem Awake22_kept : Kept Tryd.prog tables 9 Awake22.sig := keeps (cx := Awake22_cx) (l := [(11, HOf.sig), (10, TPut.sig), (18, TGet.sig), (25, TLen.sig)]) (invs := []) mixed Tryd.func9 (by kernel_rfl) rfl rfl (all_cons HOf_kept (all_cons TPut_kept (all_cons TGet_kept (all_cons TLen_kept all_nil)))) Awake22_vc (Eq.mpr Awake22.den Awake22.pure) (by decide)
noncomputable def TClone_cx : Cx := { P := Tryd.prog, fn := Tryd.f35, G := tables, sigs := sigsOf 1 [], own := TClone.sig.toSigR, anns := [{ key := 999999, j := 0, watch := [], havoc := [] }] }
theorem TClone_vc : vcOf' TClone_cx = .ok TClone.vc := by kernel_rfl
theorem TClone_kept : Kept Tryd.prog tables 35 TClone.sig := keeps (cx := TClone_cx) (l := []) (invs := []) mixed Tryd.func35 (by kernel_rfl) rfl rfl all_nil TClone_vc (Eq.mpr TClone.den TClone.pure) (by decide)
noncomputable def TAll_cx : Cx := { P := Tryd.prog, fn := Tryd.f34, G := tables, sigs := sigsOf 1 [(35, TClone.sig)], own := TAll.sig.toSigR, anns := [{ key := 999999, j := 0, watch := [], havoc := [] }] }
theorem TAll_vc : vcOf' TAll_cx = .ok TAll.vc := by kernel_rfl
theorem TAll_kept : Kept Tryd.prog tables 34 TAll.sig := keeps (cx := TAll_cx) (l := [(35, TClone.sig)]) (invs := []) mixed Tryd.func34 (by kernel_rfl) rfl rfl (all_cons TClone_kept all_nil) TAll_vc (Eq.mpr TAll.den TAll.pure) (by decide)
noncomputable def TSame_cx : Cx := { P := Tryd.prog, fn := Tryd.f15, G := tables, sigs := sigsOf 1 [(34, TAll.sig), (25, TLen.sig)], own := TSame.sig.toSigR, anns := [{ key := 5, j := 0, watch := [], havoc := [] }, { key := 999999, j := 0, watch := [], havoc := [] }] }
theorem TSame_vc : vcOf' TSame_cx = .ok TSame.vc := by kernel_rfl
theorem TSame_kept : Kept Tryd.prog tables 15 TSame.sig := keeps (cx := TSame_cx) (l := [(34, TAll.sig), (25, TLen.sig)]) (invs := [(TSame.I0, TSame.I0M)]) mixed Tryd.func15 (by kernel_rfl) rfl rfl (all_cons TAll_kept (all_cons TLen_kept all_nil)) TSame_vc (Eq.mpr TSame.den TSame.pure) (by decide)
noncomputable def TWithin_cx : Cx := { P := Tryd.prog, fn := Tryd.f14, G := tables, sigs := sigsOf 1 [(18, TGet.sig)], own := TWithin.sig.toSigR, anns := [{ key := 2, j := 0, watch := [], havoc := [] }, { key := 999999, j := 0, watch := [], havoc := [] }] }
theorem TWithin_vc : vcOf' TWithin_cx = .ok TWithin.vc := by kernel_rfl
theorem TWithin_kept : Kept Tryd.prog tables 14 TWithin.sig := keeps (cx := TWithin_cx) (l := [(18, TGet.sig)]) (invs := [(TWithin.I0, TWithin.I0M)]) mixed Tryd.func14 (by kernel_rfl) rfl rfl (all_cons TGet_kept all_nil) TWithin_vc (Eq.mpr TWithin.den TWithin.pure) (by decide)
noncomputable def rWithin_cx : Cx := { P := Tryd.prog, fn := Tryd.f16, G := tables, sigs := sigsOf 1 [(19, rFind.sig)], own := rWithin.sig.toSigR, anns := [{ key := 2, j := 0, watch := [], havoc := [] }, { key := 999999, j := 0, watch := [], havoc := [] }] }
theorem rWithin_vc : vcOf' rWithin_cx = .ok rWithin.vc := by kernel_rfl
theorem rWithin_kept : Kept Tryd.prog tables 16 rWithin.sig := keeps (cx := rWithin_cx) (l := [(19, rFind.sig)]) (invs := [(rWithin.I0, rWithin.I0M)]) mixed Tryd.func16 (by kernel_rfl) rfl rfl (all_cons rFind_kept all_nil) rWithin_vc (Eq.mpr rWithin.den rWithin.pure) (by decide)
noncomputable def TCopy_cx : Cx := { P := Tryd.prog, fn := Tryd.f17, G := tables, sigs := sigsOf 1 [(35, TClone.sig)], own := TCopy.sig.toSigR, anns := [{ key := 999999, j := 0, watch := [], havoc := [] }] }
theorem TCopy_vc : vcOf' TCopy_cx = .ok TCopy.vc := by kernel_rfl
theorem TCopy_kept : Kept Tryd.prog tables 17 TCopy.sig := keeps (cx := TCopy_cx) (l := [(35, TClone.sig)]) (invs := []) mixed Tryd.func17 (by kernel_rfl) rfl rfl (all_cons TClone_kept all_nil) TCopy_vc (Eq.mpr TCopy.den TCopy.pure) (by decide)
noncomputable def WRaw_cx : Cx := { P := Tryd.prog, fn := Tryd.f30, G := tables, sigs := sigsOf 1 [], own := WRaw.sig.toSigR, anns := [] }
theorem WRaw_vc : vcOf' WRaw_cx = .ok WRaw.vc := by kernel_rfl
theorem WRaw_kept : Kept Tryd.prog tables 30 WRaw.sig := keeps (cx := WRaw_cx) (l := []) (invs := []) mixed Tryd.func30 (by kernel_rfl) rfl rfl all_nil WRaw_vc (Eq.mpr WRaw.den WRaw.pure) (by decide)
noncomputable def Width_cx : Cx := { P := Tryd.prog, fn := Tryd.f54, G := tables, sigs := sigsOf 1 [], own := Width.sig.toSigR, anns := [{ key := 2, j := 0, watch := [], havoc := [] }] }
theorem Width_vc : vcOf' Width_cx = .ok Width.vc := by kernel_rfl
theorem Width_kept : Kept Tryd.prog tables 54 Width.sig := keeps (cx := Width_cx) (l := []) (invs := [(Width.I0, Width.I0M)]) mixed Tryd.func54 (by kernel_rfl) rfl rfl all_nil Width_vc (Eq.mpr Width.den Width.pure) (by decide)
noncomputable def Low_cx : Cx := { P := Tryd.prog, fn := Tryd.f80, G := tables, sigs := sigsOf 1 [], own := Low.sig.toSigR, anns := [] }
theorem Low_vc : vcOf' Low_cx = .ok Low.vc := by kernel_rfl
theorem Low_kept : Kept Tryd.prog tables 80 Low.sig := keeps (cx := Low_cx) (l := []) (invs := []) mixed Tryd.func80 (by kernel_rfl) rfl rfl all_nil Low_vc (Eq.mpr Low.den Low.pure) (by decide)
noncomputable def Field_cx : Cx := { P := Tryd.prog, fn := Tryd.f72, G := tables, sigs := sigsOf 1 [(80, Low.sig)], own := Field.sig.toSigR, anns := [] }
theorem Field_vc : vcOf' Field_cx = .ok Field.vc := by kernel_rfl
theorem Field_kept : Kept Tryd.prog tables 72 Field.sig := keeps (cx := Field_cx) (l := [(80, Low.sig)]) (invs := []) mixed Tryd.func72 (by kernel_rfl) rfl rfl (all_cons Low_kept all_nil) Field_vc (Eq.mpr Field.den Field.pure) (by decide)
noncomputable def WFixed_cx : Cx := { P := Tryd.prog, fn := Tryd.f55, G := tables, sigs := sigsOf 1 [(72, Field.sig)], own := WFixed.sig.toSigR, anns := [{ key := 2, j := 0, watch := [], havoc := [0] }] }
theorem WFixed_vc : vcOf' WFixed_cx = .ok WFixed.vc := by kernel_rfl
theorem WFixed_kept : Kept Tryd.prog tables 55 WFixed.sig := keeps (cx := WFixed_cx) (l := [(72, Field.sig)]) (invs := [(WFixed.I0, WFixed.I0M)]) mixed Tryd.func55 (by kernel_rfl) rfl rfl (all_cons Field_kept all_nil) WFixed_vc (Eq.mpr WFixed.den WFixed.pure) (by decide)
noncomputable def WNum_cx : Cx := { P := Tryd.prog, fn := Tryd.f31, G := tables, sigs := sigsOf 1 [(54, Width.sig), (55, WFixed.sig)], own := WNum.sig.toSigR, anns := [] }
theorem WNum_vc : vcOf' WNum_cx = .ok WNum.vc := by kernel_rfl
theorem WNum_kept : Kept Tryd.prog tables 31 WNum.sig := keeps (cx := WNum_cx) (l := [(54, Width.sig), (55, WFixed.sig)]) (invs := []) mixed Tryd.func31 (by kernel_rfl) rfl rfl (all_cons Width_kept (all_cons WFixed_kept all_nil)) WNum_vc (Eq.mpr WNum.den WNum.pure) (by decide)
noncomputable def WText_cx : Cx := { P := Tryd.prog, fn := Tryd.f32, G := tables, sigs := sigsOf 1 [(31, WNum.sig)], own := WText.sig.toSigR, anns := [] }
theorem WText_vc : vcOf' WText_cx = .ok WText.vc := by kernel_rfl
theorem WText_kept : Kept Tryd.prog tables 32 WText.sig := keeps (cx := WText_cx) (l := [(31, WNum.sig)]) (invs := []) mixed Tryd.func32 (by kernel_rfl) rfl rfl (all_cons WNum_kept all_nil) WText_vc (Eq.mpr WText.den WText.pure) (by decide)
noncomputable def WBytes_cx : Cx := { P := Tryd.prog, fn := Tryd.f33, G := tables, sigs := sigsOf 1 [], own := WBytes.sig.toSigR, anns := [] }
theorem WBytes_vc : vcOf' WBytes_cx = .ok WBytes.vc := by kernel_rfl
theorem WBytes_kept : Kept Tryd.prog tables 33 WBytes.sig := keeps (cx := WBytes_cx) (l := []) (invs := []) mixed Tryd.func33 (by kernel_rfl) rfl rfl all_nil WBytes_vc (Eq.mpr WBytes.den WBytes.pure) (by decide)
noncomputable def TBytes_cx : Cx := { P := Tryd.prog, fn := Tryd.f13, G := tables, sigs := sigsOf 1 [(30, WRaw.sig), (31, WNum.sig), (32, WText.sig), (33, WBytes.sig), (11, HOf.sig)], own := TBytes.sig.toSigR, anns := [{ key := 5, j := 0, watch := [], havoc := [0] }, { key := 999999, j := 0, watch := [], havoc := [] }] }
theorem TBytes_vc : vcOf' TBytes_cx = .ok TBytes.vc := by kernel_rfl
theorem TBytes_kept : Kept Tryd.prog tables 13 TBytes.sig := keeps (cx := TBytes_cx) (l := [(30, WRaw.sig), (31, WNum.sig), (32, WText.sig), (33, WBytes.sig), (11, HOf.sig)]) (invs := [(TBytes.I0, TBytes.I0M)]) mixed Tryd.func13 (by kernel_rfl) rfl rfl (all_cons WRaw_kept (all_cons WNum_kept (all_cons WText_kept (all_cons WBytes_kept (all_cons HOf_kept all_nil))))) TBytes_vc (Eq.mpr TBytes.den TBytes.pure) (by decide)
noncomputable def rPrimes_cx : Cx := { P := Tryd.prog, fn := Tryd.f39, G := tables, sigs := sigsOf 1 [], own := rPrimes.sig.toSigR, anns := [{ key := 3, j := 0, watch := [], havoc := [] }, { key := 7, j := 1, watch := [3, 4], havoc := [] }, { key := 999999, j := 0, watch := [], havoc := [] }] }
theorem rPrimes_vc : vcOf' rPrimes_cx = .ok rPrimes.vc := by kernel_rfl
theorem rPrimes_kept : Kept Tryd.prog tables 39 rPrimes.sig := keeps (cx := rPrimes_cx) (l := []) (invs := [(rPrimes.I0, rPrimes.I0M), (rPrimes.I1, rPrimes.I1M)]) mixed Tryd.func39 (by kernel_rfl) rfl rfl all_nil rPrimes_vc (Eq.mpr rPrimes.den rPrimes.pure) (by decide)
noncomputable def rTimes_cx : Cx := { P := Tryd.prog, fn := Tryd.f59, G := tables, sigs := sigsOf 1 [], own := rTimes.sig.toSigR, anns := [{ key := 3, j := 0, watch := [], havoc := [0] }, { key := 6, j := 1, watch := [6], havoc := [1] }, { key := 10, j := 2, watch := [6, 8], havoc := [1] }, { key := 999999, j := 0, watch := [], havoc := [] }] }
theorem rTimes_vc : vcOf' rTimes_cx = .ok rTimes.vc := by kernel_rfl
theorem rTimes_kept : Kept Tryd.prog tables 59 rTimes.sig := keeps (cx := rTimes_cx) (l := []) (invs := [(rTimes.I0, rTimes.I0M), (rTimes.I1, rTimes.I1M), (rTimes.I2, rTimes.I2M)]) mixed Tryd.func59 (by kernel_rfl) rfl rfl all_nil rTimes_vc (Eq.mpr rTimes.den rTimes.pure) (by decide)
noncomputable def rOver_cx : Cx := { P := Tryd.prog, fn := Tryd.f60, G := tables, sigs := sigsOf 1 [], own := rOver.sig.toSigR, anns := [{ key := 4, j := 0, watch := [], havoc := [] }, { key := 999999, j := 0, watch := [], havoc := [] }] }
theorem rOver_vc : vcOf' rOver_cx = .ok rOver.vc := by kernel_rfl
theorem rOver_kept : Kept Tryd.prog tables 60 rOver.sig := keeps (cx := rOver_cx) (l := []) (invs := [(rOver.I0, rOver.I0M)]) mixed Tryd.func60 (by kernel_rfl) rfl rfl all_nil rOver_vc (Eq.mpr rOver.den rOver.pure) (by decide)
noncomputable def rRoot_cx : Cx := { P := Tryd.prog, fn := Tryd.f40, G := tables, sigs := sigsOf 1 [(59, rTimes.sig), (60, rOver.sig)], own := rRoot.sig.toSigR, anns := [{ key := 3, j := 0, watch := [], havoc := [] }, { key := 7, j := 1, watch := [5, 6], havoc := [0] }, { key := 999999, j := 0, watch := [], havoc := [] }] }
theorem rRoot_vc : vcOf' rRoot_cx = .ok rRoot.vc := by kernel_rfl
theorem rRoot_kept : Kept Tryd.prog tables 40 rRoot.sig := keeps (cx := rRoot_cx) (l := [(59, rTimes.sig), (60, rOver.sig)]) (invs := [(rRoot.I0, rRoot.I0M), (rRoot.I1, rRoot.I1M)]) mixed Tryd.func40 (by kernel_rfl) rfl rfl (all_cons rTimes_kept (all_cons rOver_kept all_nil)) rRoot_vc (Eq.mpr rRoot.den rRoot.pure) (by decide)
noncomputable def rMade_cx : Cx := { P := Tryd.prog, fn := Tryd.f21, G := tables, sigs := sigsOf 1 [(39, rPrimes.sig), (40, rRoot.sig)], own := rMade.sig.toSigR, anns := [{ key := 3, j := 0, watch := [], havoc := [3] }, { key := 8, j := 1, watch := [], havoc := [4] }, { key := 999999, j := 0, watch := [], havoc := [] }] }
theorem rMade_vc : vcOf' rMade_cx = .ok rMade.vc := by kernel_rfl
theorem rMade_kept : Kept Tryd.prog tables 21 rMade.sig := keeps (cx := rMade_cx) (l := [(39, rPrimes.sig), (40, rRoot.sig)]) (invs := [(rMade.I0, rMade.I0M), (rMade.I1, rMade.I1M)]) mixed Tryd.func21 (by kernel_rfl) rfl rfl (all_cons rPrimes_kept (all_cons rRoot_kept all_nil)) rMade_vc (Eq.mpr rMade.den rMade.pure) (by decide)
noncomputable def RBits_cx : Cx := { P := Tryd.prog, fn := Tryd.f73, G := tables, sigs := sigsOf 1 [], own := RBits.sig.toSigR, anns := [{ key := 3, j := 0, watch := [], havoc := [] }] }
theorem RBits_vc : vcOf' RBits_cx = .ok RBits.vc := by kernel_rfl
theorem RBits_kept : Kept Tryd.prog tables 73 RBits.sig := keeps (cx := RBits_cx) (l := []) (invs := [(RBits.I0, RBits.I0M)]) mixed Tryd.func73 (by kernel_rfl) rfl rfl all_nil RBits_vc (Eq.mpr RBits.den RBits.pure) (by decide)
noncomputable def RValue_cx : Cx := { P := Tryd.prog, fn := Tryd.f74, G := tables, sigs := sigsOf 1 [], own := RValue.sig.toSigR, anns := [{ key := 3, j := 0, watch := [], havoc := [] }] }
theorem RValue_vc : vcOf' RValue_cx = .ok RValue.vc := by kernel_rfl
theorem RValue_kept : Kept Tryd.prog tables 74 RValue.sig := keeps (cx := RValue_cx) (l := []) (invs := [(RValue.I0, RValue.I0M)]) mixed Tryd.func74 (by kernel_rfl) rfl rfl all_nil RValue_vc (Eq.mpr RValue.den RValue.pure) (by decide)
noncomputable def RField_cx : Cx := { P := Tryd.prog, fn := Tryd.f56, G := tables, sigs := sigsOf 1 [(73, RBits.sig), (74, RValue.sig)], own := RField.sig.toSigR, anns := [] }
theorem RField_vc : vcOf' RField_cx = .ok RField.vc := by kernel_rfl
theorem RField_kept : Kept Tryd.prog tables 56 RField.sig := keeps (cx := RField_cx) (l := [(73, RBits.sig), (74, RValue.sig)]) (invs := []) mixed Tryd.func56 (by kernel_rfl) rfl rfl (all_cons RBits_kept (all_cons RValue_kept all_nil)) RField_vc (Eq.mpr RField.den RField.pure) (by decide)
noncomputable def RBytes_cx : Cx := { P := Tryd.prog, fn := Tryd.f75, G := tables, sigs := sigsOf 1 [], own := RBytes.sig.toSigR, anns := [{ key := 3, j := 0, watch := [], havoc := [] }] }
theorem RBytes_vc : vcOf' RBytes_cx = .ok RBytes.vc := by kernel_rfl
theorem RBytes_kept : Kept Tryd.prog tables 75 RBytes.sig := keeps (cx := RBytes_cx) (l := []) (invs := [(RBytes.I0, RBytes.I0M)]) mixed Tryd.func75 (by kernel_rfl) rfl rfl all_nil RBytes_vc (Eq.mpr RBytes.den RBytes.pure) (by decide)
noncomputable def RFixed_cx : Cx := { P := Tryd.prog, fn := Tryd.f57, G := tables, sigs := sigsOf 1 [(75, RBytes.sig)], own := RFixed.sig.toSigR, anns := [{ key := 3, j := 0, watch := [], havoc := [] }] }
theorem RFixed_vc : vcOf' RFixed_cx = .ok RFixed.vc := by kernel_rfl
theorem RFixed_kept : Kept Tryd.prog tables 57 RFixed.sig := keeps (cx := RFixed_cx) (l := [(75, RBytes.sig)]) (invs := [(RFixed.I0, RFixed.I0M)]) mixed Tryd.func57 (by kernel_rfl) rfl rfl (all_cons RBytes_kept all_nil) RFixed_vc (Eq.mpr RFixed.den RFixed.pure) (by decide)
noncomputable def RNum_cx : Cx := { P := Tryd.prog, fn := Tryd.f36, G := tables, sigs := sigsOf 1 [(56, RField.sig), (57, RFixed.sig)], own := RNum.sig.toSigR, anns := [{ key := 5, j := 0, watch := [], havoc := [] }] }
theorem RNum_vc : vcOf' RNum_cx = .ok RNum.vc := by kernel_rfl
theorem RNum_kept : Kept Tryd.prog tables 36 RNum.sig := keeps (cx := RNum_cx) (l := [(56, RField.sig), (57, RFixed.sig)]) (invs := [(RNum.I0, RNum.I0M)]) mixed Tryd.func36 (by kernel_rfl) rfl rfl (all_cons RField_kept (all_cons RFixed_kept all_nil)) RNum_vc (Eq.mpr RNum.den RNum.pure) (by decide)
noncomputable def RText_cx : Cx := { P := Tryd.prog, fn := Tryd.f37, G := tables, sigs := sigsOf 1 [(36, RNum.sig)], own := RText.sig.toSigR, anns := [] }
theorem RText_vc : vcOf' RText_cx = .ok RText.vc := by kernel_rfl
theorem RText_kept : Kept Tryd.prog tables 37 RText.sig := keeps (cx := RText_cx) (l := [(36, RNum.sig)]) (invs := []) mixed Tryd.func37 (by kernel_rfl) rfl rfl (all_cons RNum_kept all_nil) RText_vc (Eq.mpr RText.den RText.pure) (by decide)
noncomputable def rTurn_cx : Cx := { P := Tryd.prog, fn := Tryd.f76, G := tables, sigs := sigsOf 1 [], own := rTurn.sig.toSigR, anns := [{ key := 2, j := 0, watch := [], havoc := [] }] }
theorem rTurn_vc : vcOf' rTurn_cx = .ok rTurn.vc := by kernel_rfl
theorem rTurn_kept : Kept Tryd.prog tables 76 rTurn.sig := keeps (cx := rTurn_cx) (l := []) (invs := [(rTurn.I0, rTurn.I0M)]) mixed Tryd.func76 (by kernel_rfl) rfl rfl all_nil rTurn_vc (Eq.mpr rTurn.den rTurn.pure) (by decide)
noncomputable def rNot_cx : Cx := { P := Tryd.prog, fn := Tryd.f77, G := tables, sigs := sigsOf 1 [], own := rNot.sig.toSigR, anns := [] }
theorem rNot_vc : vcOf' rNot_cx = .ok rNot.vc := by kernel_rfl
theorem rNot_kept : Kept Tryd.prog tables 77 rNot.sig := keeps (cx := rNot_cx) (l := []) (invs := []) mixed Tryd.func77 (by kernel_rfl) rfl rfl all_nil rNot_vc (Eq.mpr rNot.den rNot.pure) (by decide)
noncomputable def rMix_cx : Cx := { P := Tryd.prog, fn := Tryd.f58, G := tables, sigs := sigsOf 1 [(76, rTurn.sig), (77, rNot.sig)], own := rMix.sig.toSigR, anns := [{ key := 3, j := 0, watch := [], havoc := [] }, { key := 7, j := 1, watch := [], havoc := [] }, { key := 13, j := 2, watch := [], havoc := [] }, { key := 20, j := 3, watch := [], havoc := [0] }, { key := 999999, j := 0, watch := [], havoc := [] }] }
theorem rMix_vc : vcOf' rMix_cx = .ok rMix.vc := by kernel_rfl
theorem rMix_kept : Kept Tryd.prog tables 58 rMix.sig := keeps (cx := rMix_cx) (l := [(76, rTurn.sig), (77, rNot.sig)]) (invs := [(rMix.I0, rMix.I0M), (rMix.I1, rMix.I1M), (rMix.I2, rMix.I2M), (rMix.I3, rMix.I3M)]) mixed Tryd.func58 (by kernel_rfl) rfl rfl (all_cons rTurn_kept (all_cons rNot_kept all_nil)) rMix_vc (Eq.mpr rMix.den rMix.pure) (by decide)
noncomputable def rOf_cx : Cx := { P := Tryd.prog, fn := Tryd.f38, G := tables, sigs := sigsOf 1 [(58, rMix.sig)], own := rOf.sig.toSigR, anns := [{ key := 4, j := 0, watch := [], havoc := [] }, { key := 9, j := 1, watch := [], havoc := [] }, { key := 16, j := 2, watch := [], havoc := [] }, { key := 21, j := 3, watch := [], havoc := [] }, { key := 999999, j := 0, watch := [], havoc := [] }] }
theorem rOf_vc : vcOf' rOf_cx = .ok rOf.vc := by kernel_rfl
theorem rOf_kept : Kept Tryd.prog tables 38 rOf.sig := keeps (cx := rOf_cx) (l := [(58, rMix.sig)]) (invs := [(rOf.I0, rOf.I0M), (rOf.I1, rOf.I1M), (rOf.I2, rOf.I2M), (rOf.I3, rOf.I3M)]) mixed Tryd.func38 (by kernel_rfl) rfl rfl (all_cons rMix_kept all_nil) rOf_vc (Eq.mpr rOf.den rOf.pure) (by decide)
noncomputable def rBytes22_cx : Cx := { P := Tryd.prog, fn := Tryd.f20, G := tables, sigs := sigsOf 1 [(36, RNum.sig), (37, RText.sig), (38, rOf.sig)], own := rBytes22.sig.toSigR, anns := [{ key := 3, j := 0, watch := [], havoc := [] }, { key := 999999, j := 0, watch := [], havoc := [] }] }
theorem rBytes22_vc : vcOf' rBytes22_cx = .ok rBytes22.vc := by kernel_rfl
theorem rBytes22_kept : Kept Tryd.prog tables 20 rBytes22.sig := keeps (cx := rBytes22_cx) (l := [(36, RNum.sig), (37, RText.sig), (38, rOf.sig)]) (invs := [(rBytes22.I0, rBytes22.I0M)]) mixed Tryd.func20 (by kernel_rfl) rfl rfl (all_cons RNum_kept (all_cons RText_kept (all_cons rOf_kept all_nil))) rBytes22_vc (Eq.mpr rBytes22.den rBytes22.pure) (by decide)
noncomputable def LTablePlays_cx : Cx := { P := Tryd.prog, fn := Tryd.f4, G := tables, sigs := sigsOf 1 [(8, Grow.sig), (9, Awake22.sig), (15, TSame.sig), (14, TWithin.sig), (16, rWithin.sig), (17, TCopy.sig), (11, HOf.sig), (12, Cut.sig), (18, TGet.sig), (19, rFind.sig), (13, TBytes.sig), (21, rMade.sig), (20, rBytes22.sig)], own := LTablePlays.sig.toSigR, anns := [{ key := 6, j := 0, watch := [], havoc := [] }, { key := 999999, j := 0, watch := [], havoc := [] }] }
theorem LTablePlays_vc : vcOf' LTablePlays_cx = .ok LTablePlays.vc := by kernel_rfl
theorem LTablePlays_kept : Kept Tryd.prog tables 4 LTablePlays.sig := keeps (cx := LTablePlays_cx) (l := [(8, Grow.sig), (9, Awake22.sig), (15, TSame.sig), (14, TWithin.sig), (16, rWithin.sig), (17, TCopy.sig), (11, HOf.sig), (12, Cut.sig), (18, TGet.sig), (19, rFind.sig), (13, TBytes.sig), (21, rMade.sig), (20, rBytes22.sig)]) (invs := [(LTablePlays.I0, LTablePlays.I0M)]) mixed Tryd.func4 (by kernel_rfl) rfl rfl (all_cons Grow_kept (all_cons Awake22_kept (all_cons TSame_kept (all_cons TWithin_kept (all_cons rWithin_kept (all_cons TCopy_kept (all_cons HOf_kept (all_cons Cut_kept (all_cons TGet_kept (all_cons rFind_kept (all_cons TBytes_kept (all_cons rMade_kept (all_cons rBytes22_kept all_nil))))))))))))) LTablePlays_vc (Eq.mpr LTablePlays.den LTablePlays.pure) (by decide)
noncomputable def LTableOrder_cx : Cx := { P := Tryd.prog, fn := Tryd.f3, G := tables, sigs := sigsOf 1 [(8, Grow.sig), (9, Awake22.sig), (10, TPutA.sig), (11, HOf.sig), (12, Cut.sig), (13, TBytes.sig), (14, TWithin.sig)], own := LTableOrder.sig.toSigR, anns := [{ key := 7, j := 0, watch := [], havoc := [0] }, { key := 999999, j := 0, watch := [], havoc := [] }] }
theorem LTableOrder_vc : vcOf' LTableOrder_cx = .ok LTableOrder.vc := by kernel_rfl
theorem LTableOrder_kept : Kept Tryd.prog tables 3 LTableOrder.sig := keeps (cx := LTableOrder_cx) (l := [(8, Grow.sig), (9, Awake22.sig), (10, TPutA.sig), (11, HOf.sig), (12, Cut.sig), (13, TBytes.sig), (14, TWithin.sig)]) (invs := [(LTableOrder.I0, LTableOrder.I0M)]) mixed Tryd.func3 (by kernel_rfl) rfl rfl (all_cons Grow_kept (all_cons Awake22_kept (all_cons TPutA_kept (all_cons HOf_kept (all_cons Cut_kept (all_cons TBytes_kept (all_cons TWithin_kept all_nil))))))) LTableOrder_vc (Eq.mpr LTableOrder.den LTableOrder.pure) (by decide)
noncomputable def PRead_cx : Cx := { P := Tryd.prog, fn := Tryd.f61, G := tables, sigs := sigsOf 1 [], own := PRead.sig.toSigR, anns := [] }
theorem PRead_vc : vcOf' PRead_cx = .ok PRead.vc := by kernel_rfl
theorem PRead_kept : Kept Tryd.prog tables 61 PRead.sig := keeps (cx := PRead_cx) (l := []) (invs := []) mixed Tryd.func61 (by kernel_rfl) rfl rfl all_nil PRead_vc (Eq.mpr PRead.den PRead.pure) (by decide)
noncomputable def PRaw_cx : Cx := { P := Tryd.prog, fn := Tryd.f62, G := tables, sigs := sigsOf 1 [], own := PRaw.sig.toSigR, anns := [] }
theorem PRaw_vc : vcOf' PRaw_cx = .ok PRaw.vc := by kernel_rfl
theorem PRaw_kept : Kept Tryd.prog tables 62 PRaw.sig := keeps (cx := PRaw_cx) (l := []) (invs := []) mixed Tryd.func62 (by kernel_rfl) rfl rfl all_nil PRaw_vc (Eq.mpr PRaw.den PRaw.pure) (by decide)
noncomputable def PFixed_cx : Cx := { P := Tryd.prog, fn := Tryd.f78, G := tables, sigs := sigsOf 1 [(62, PRaw.sig)], own := PFixed.sig.toSigR, anns := [{ key := 3, j := 0, watch := [], havoc := [] }] }
theorem PFixed_vc : vcOf' PFixed_cx = .ok PFixed.vc := by kernel_rfl
theorem PFixed_kept : Kept Tryd.prog tables 78 PFixed.sig := keeps (cx := PFixed_cx) (l := [(62, PRaw.sig)]) (invs := [(PFixed.I0, PFixed.I0M)]) mixed Tryd.func78 (by kernel_rfl) rfl rfl (all_cons PRaw_kept all_nil) PFixed_vc (Eq.mpr PFixed.den PFixed.pure) (by decide)
noncomputable def PNum_cx : Cx := { P := Tryd.prog, fn := Tryd.f64, G := tables, sigs := sigsOf 1 [(78, PFixed.sig), (54, Width.sig)], own := PNum.sig.toSigR, anns := [] }
theorem PNum_vc : vcOf' PNum_cx = .ok PNum.vc := by kernel_rfl
theorem PNum_kept : Kept Tryd.prog tables 64 PNum.sig := keeps (cx := PNum_cx) (l := [(78, PFixed.sig), (54, Width.sig)]) (invs := []) mixed Tryd.func64 (by kernel_rfl) rfl rfl (all_cons PFixed_kept (all_cons Width_kept all_nil)) PNum_vc (Eq.mpr PNum.den PNum.pure) (by decide)
noncomputable def PFail_cx : Cx := { P := Tryd.prog, fn := Tryd.f63, G := tables, sigs := sigsOf 1 [], own := PFail.sig.toSigR, anns := [] }
theorem PFail_vc : vcOf' PFail_cx = .ok PFail.vc := by kernel_rfl
theorem PFail_kept : Kept Tryd.prog tables 63 PFail.sig := keeps (cx := PFail_cx) (l := []) (invs := []) mixed Tryd.func63 (by kernel_rfl) rfl rfl all_nil PFail_vc (Eq.mpr PFail.den PFail.pure) (by decide)
noncomputable def PErr_cx : Cx := { P := Tryd.prog, fn := Tryd.f65, G := tables, sigs := sigsOf 1 [], own := PErr.sig.toSigR, anns := [] }
theorem PErr_vc : vcOf' PErr_cx = .ok PErr.vc := by kernel_rfl
theorem PErr_kept : Kept Tryd.prog tables 65 PErr.sig := keeps (cx := PErr_cx) (l := []) (invs := []) mixed Tryd.func65 (by kernel_rfl) rfl rfl all_nil PErr_vc (Eq.mpr PErr.den PErr.pure) (by decide)
noncomputable def PText_cx : Cx := { P := Tryd.prog, fn := Tryd.f66, G := tables, sigs := sigsOf 1 [(64, PNum.sig), (62, PRaw.sig)], own := PText.sig.toSigR, anns := [] }
theorem PText_vc : vcOf' PText_cx = .ok PText.vc := by kernel_rfl
theorem PText_kept : Kept Tryd.prog tables 66 PText.sig := keeps (cx := PText_cx) (l := [(64, PNum.sig), (62, PRaw.sig)]) (invs := []) mixed Tryd.func66 (by kernel_rfl) rfl rfl (all_cons PNum_kept (all_cons PRaw_kept all_nil)) PText_vc (Eq.mpr PText.den PText.pure) (by decide)
noncomputable def PDone_cx : Cx := { P := Tryd.prog, fn := Tryd.f67, G := tables, sigs := sigsOf 1 [(63, PFail.sig)], own := PDone.sig.toSigR, anns := [] }
theorem PDone_vc : vcOf' PDone_cx = .ok PDone.vc := by kernel_rfl
theorem PDone_kept : Kept Tryd.prog tables 67 PDone.sig := keeps (cx := PDone_cx) (l := [(63, PFail.sig)]) (invs := []) mixed Tryd.func67 (by kernel_rfl) rfl rfl (all_cons PFail_kept all_nil) PDone_vc (Eq.mpr PDone.den PDone.pure) (by decide)
noncomputable def TRead_cx : Cx := { P := Tryd.prog, fn := Tryd.f41, G := tables, sigs := sigsOf 1 [(61, PRead.sig), (62, PRaw.sig), (64, PNum.sig), (63, PFail.sig), (65, PErr.sig), (66, PText.sig), (48, HCmp.sig), (67, PDone.sig)], own := TRead.sig.toSigR, anns := [{ key := 6, j := 0, watch := [], havoc := [0, 1] }, { key := 6, j := 1, join := true, tmpl := some TRead.T }, { key := 999999, j := 0, watch := [], havoc := [] }] }
theorem TRead_vc : vcOf' TRead_cx = .ok TRead.vc := by kernel_rfl
theorem TRead_kept : Kept Tryd.prog tables 41 TRead.sig := keeps (cx := TRead_cx) (l := [(61, PRead.sig), (62, PRaw.sig), (64, PNum.sig), (63, PFail.sig), (65, PErr.sig), (66, PText.sig), (48, HCmp.sig), (67, PDone.sig)]) (invs := [(TRead.I0, TRead.I0M), (TRead.J0, TRead.J0M)]) mixed Tryd.func41 (by kernel_rfl) rfl rfl (all_cons PRead_kept (all_cons PRaw_kept (all_cons PNum_kept (all_cons PFail_kept (all_cons PErr_kept (all_cons PText_kept (all_cons HCmp_kept (all_cons PDone_kept all_nil)))))))) TRead_vc (Eq.mpr TRead.den TRead.pure) (by decide)
noncomputable def TParse_cx : Cx := { P := Tryd.prog, fn := Tryd.f22, G := tables, sigs := sigsOf 1 [(11, HOf.sig), (41, TRead.sig)], own := TParse.sig.toSigR, anns := [{ key := 999999, j := 0, watch := [], havoc := [] }] }
theorem TParse_vc : vcOf' TParse_cx = .ok TParse.vc := by kernel_rfl
theorem TParse_kept : Kept Tryd.prog tables 22 TParse.sig := keeps (cx := TParse_cx) (l := [(11, HOf.sig), (41, TRead.sig)]) (invs := []) mixed Tryd.func22 (by kernel_rfl) rfl rfl (all_cons HOf_kept (all_cons TRead_kept all_nil)) TParse_vc (Eq.mpr TParse.den TParse.pure) (by decide)
noncomputable def LTableBack_cx : Cx := { P := Tryd.prog, fn := Tryd.f7, G := tables, sigs := sigsOf 1 [(8, Grow.sig), (13, TBytes.sig), (22, TParse.sig), (15, TSame.sig), (9, Awake22.sig)], own := LTableBack.sig.toSigR, anns := [{ key := 999999, j := 0, watch := [], havoc := [] }] }
theorem LTableBack_vc : vcOf' LTableBack_cx = .ok LTableBack.vc := by kernel_rfl
theorem LTableBack_kept : Kept Tryd.prog tables 7 LTableBack.sig := keeps (cx := LTableBack_cx) (l := [(8, Grow.sig), (13, TBytes.sig), (22, TParse.sig), (15, TSame.sig), (9, Awake22.sig)]) (invs := []) mixed Tryd.func7 (by kernel_rfl) rfl rfl (all_cons Grow_kept (all_cons TBytes_kept (all_cons TParse_kept (all_cons TSame_kept (all_cons Awake22_kept all_nil))))) LTableBack_vc (Eq.mpr LTableBack.den LTableBack.pure) (by decide)
theorem tables_of {W : World} (h : laidMetH Tryd.prog [("ordeal/sha.rounds", tableData .u32 shaRounds), ("ordeal/sha.start", tableData .u32 shaStart)] W) : ∀ g ∈ tables, g.holds W := by
  rw [MakeChecks.laidMetH_plain _ _ _ (by kernel_rfl)] at h
  obtain ⟨ps, ⟨g0, t0, cs0, f0, p0, q0, hg0, ht0, hv0, hd0, ⟨g1, t1, cs1, f1, p1, q1, hg1, ht1, hv1, hd1, hend, e1⟩, e0⟩, _, _⟩ := h
  obtain rfl := Option.some.inj ((show Tryd.prog.globalNamed "ordeal/sha.rounds" = some 1 by kernel_rfl).symm.trans hg0)
  obtain rfl := Option.some.inj ((show (Tryd.prog.globals[1]?).map (·.type) = some 124 by kernel_rfl).symm.trans ht0)
  obtain rfl := Option.some.inj ((show Tryd.prog.globalNamed "ordeal/sha.start" = some 0 by kernel_rfl).symm.trans hg1)
  obtain rfl := Option.some.inj ((show (Tryd.prog.globals[0]?).map (·.type) = some 74 by kernel_rfl).symm.trans ht1)
  intro g hg
  simp only [tables, List.mem_cons, List.not_mem_nil, or_false] at hg
  rcases hg with rfl | rfl
  · exact glob_one (t := 124) (e := 73) hg0 (by kernel_rfl) (by kernel_rfl) (by kernel_rfl) (by kernel_rfl) hv0 hd0
  · exact glob_one (t := 74) (e := 73) hg1 (by kernel_rfl) (by kernel_rfl) (by kernel_rfl) (by kernel_rfl) hv1 hd1
end Go.Proofs.YtnnjpgenekgciaaDoor.TabcKeep
