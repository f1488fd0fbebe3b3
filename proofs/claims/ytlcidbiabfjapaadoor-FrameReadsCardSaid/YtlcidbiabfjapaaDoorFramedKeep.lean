/-
  Each of these functions keeps its contract, in the program of this seat.
-/
import Derived.Test.YtlcidbiabfjapaaDoorChecked
import Derived.Test.YtlcidbiabfjapaaDoorFramed
import Derived.LaidMore
import Derived.Stop.Joined
set_option linter.unusedVariables false
namespace Go.Proofs.YtlcidbiabfjapaaDoor.FramedKeep
open Go.Vc
theorem mixed : Tryd.prog.follows .mixedOrders = true := by kernel_rfl
theorem all_nil {p : FuncId × Sig → Prop} : ∀ x ∈ ([] : List (FuncId × Sig)), p x := by intro x hx; cases hx
theorem all_cons {p : FuncId × Sig → Prop} {a : FuncId × Sig} {l : List (FuncId × Sig)} (h : p a) (h' : ∀ x ∈ l, p x) : ∀ x ∈ a :: l, p x := by
  intro x hx
  rcases List.mem_cons.1 hx with rfl | hx
  · exact h
  · exact h' x hx
def tables : List Glob := [{ g := 2, k := .u32, l := crcHalf }]
noncomputable def Cut_cx : Cx := { P := Tryd.prog, fn := Tryd.f11, G := tables, sigs := sigsOf 1 [], own := Cut.sig.toSigR, anns := [] }
theorem Cut_vc : vcOf' Cut_cx = .ok Cut.vc := by kernel_rfl
theorem Cut_kept : Kept Tryd.prog tables 11 Cut.sig := keeps (cx := Cut_cx) (l := []) (invs := []) mixed Tryd.func11 (by kernel_rfl) rfl rfl all_nil Cut_vc (Eq.mpr Cut.den Cut.pure)
noncomputable def PRead_cx : Cx := { P := Tryd.prog, fn := Tryd.f37, G := tables, sigs := sigsOf 1 [], own := PRead.sig.toSigR, anns := [] }
theorem PRead_vc : vcOf' PRead_cx = .ok PRead.vc := by kernel_rfl
theorem PRead_kept : Kept Tryd.prog tables 37 PRead.sig := keeps (cx := PRead_cx) (l := []) (invs := []) mixed Tryd.func37 (by kernel_rfl) rfl rfl all_nil PRead_vc (Eq.mpr PRead.den PRead.pure)
noncomputable def PRaw_cx : Cx := { P := Tryd.prog, fn := Tryd.f38, G := tables, sigs := sigsOf 1 [], own := PRaw.sig.toSigR, anns := [] }
theorem PRaw_vc : vcOf' PRaw_cx = .ok PRaw.vc := by kernel_rfl
theorem PRaw_kept : Kept Tryd.prog tables 38 PRaw.sig := keeps (cx := PRaw_cx) (l := []) (invs := []) mixed Tryd.func38 (by kernel_rfl) rfl rfl all_nil PRaw_vc (Eq.mpr PRaw.den PRaw.pure)
noncomputable def PErr_cx : Cx := { P := Tryd.prog, fn := Tryd.f39, G := tables, sigs := sigsOf 1 [], own := PErr.sig.toSigR, anns := [] }
theorem PErr_vc : vcOf' PErr_cx = .ok PErr.vc := by kernel_rfl
theorem PErr_kept : Kept Tryd.prog tables 39 PErr.sig := keeps (cx := PErr_cx) (l := []) (invs := []) mixed Tryd.func39 (by kernel_rfl) rfl rfl all_nil PErr_vc (Eq.mpr PErr.den PErr.pure)
noncomputable def PFixed_cx : Cx := { P := Tryd.prog, fn := Tryd.f40, G := tables, sigs := sigsOf 1 [(38, PRaw.sig)], own := PFixed.sig.toSigR, anns := [{ key := 3, j := 0, watch := [], havoc := [] }] }
theorem PFixed_vc : vcOf' PFixed_cx = .ok PFixed.vc := by kernel_rfl
theorem PFixed_kept : Kept Tryd.prog tables 40 PFixed.sig := keeps (cx := PFixed_cx) (l := [(38, PRaw.sig)]) (invs := [(PFixed.I0, PFixed.I0M)]) mixed Tryd.func40 (by kernel_rfl) rfl rfl (all_cons PRaw_kept all_nil) PFixed_vc (Eq.mpr PFixed.den PFixed.pure)
noncomputable def PAt_cx : Cx := { P := Tryd.prog, fn := Tryd.f41, G := tables, sigs := sigsOf 1 [], own := PAt.sig.toSigR, anns := [] }
theorem PAt_vc : vcOf' PAt_cx = .ok PAt.vc := by kernel_rfl
theorem PAt_kept : Kept Tryd.prog tables 41 PAt.sig := keeps (cx := PAt_cx) (l := []) (invs := []) mixed Tryd.func41 (by kernel_rfl) rfl rfl all_nil PAt_vc (Eq.mpr PAt.den PAt.pure)
noncomputable def Low_cx : Cx := { P := Tryd.prog, fn := Tryd.f52, G := tables, sigs := sigsOf 1 [], own := Low.sig.toSigR, anns := [] }
theorem Low_vc : vcOf' Low_cx = .ok Low.vc := by kernel_rfl
theorem Low_kept : Kept Tryd.prog tables 52 Low.sig := keeps (cx := Low_cx) (l := []) (invs := []) mixed Tryd.func52 (by kernel_rfl) rfl rfl all_nil Low_vc (Eq.mpr Low.den Low.pure)
noncomputable def Field_cx : Cx := { P := Tryd.prog, fn := Tryd.f48, G := tables, sigs := sigsOf 1 [(52, Low.sig)], own := Field.sig.toSigR, anns := [] }
theorem Field_vc : vcOf' Field_cx = .ok Field.vc := by kernel_rfl
theorem Field_kept : Kept Tryd.prog tables 48 Field.sig := keeps (cx := Field_cx) (l := [(52, Low.sig)]) (invs := []) mixed Tryd.func48 (by kernel_rfl) rfl rfl (all_cons Low_kept all_nil) Field_vc (Eq.mpr Field.den Field.pure)
noncomputable def WFixed_cx : Cx := { P := Tryd.prog, fn := Tryd.f33, G := tables, sigs := sigsOf 1 [(48, Field.sig)], own := WFixed.sig.toSigR, anns := [{ key := 2, j := 0, watch := [], havoc := [0] }] }
theorem WFixed_vc : vcOf' WFixed_cx = .ok WFixed.vc := by kernel_rfl
theorem WFixed_kept : Kept Tryd.prog tables 33 WFixed.sig := keeps (cx := WFixed_cx) (l := [(48, Field.sig)]) (invs := [(WFixed.I0, WFixed.I0M)]) mixed Tryd.func33 (by kernel_rfl) rfl rfl (all_cons Field_kept all_nil) WFixed_vc (Eq.mpr WFixed.den WFixed.pure)
noncomputable def WBytes_cx : Cx := { P := Tryd.prog, fn := Tryd.f36, G := tables, sigs := sigsOf 1 [], own := WBytes.sig.toSigR, anns := [] }
theorem WBytes_vc : vcOf' WBytes_cx = .ok WBytes.vc := by kernel_rfl
theorem WBytes_kept : Kept Tryd.prog tables 36 WBytes.sig := keeps (cx := WBytes_cx) (l := []) (invs := []) mixed Tryd.func36 (by kernel_rfl) rfl rfl all_nil WBytes_vc (Eq.mpr WBytes.den WBytes.pure)
noncomputable def FCover_cx : Cx := { P := Tryd.prog, fn := Tryd.f31, G := tables, sigs := sigsOf 1 [(33, WFixed.sig), (36, WBytes.sig)], own := FCover.sig.toSigR, anns := [] }
theorem FCover_vc : vcOf' FCover_cx = .ok FCover.vc := by kernel_rfl
theorem FCover_kept : Kept Tryd.prog tables 31 FCover.sig := keeps (cx := FCover_cx) (l := [(33, WFixed.sig), (36, WBytes.sig)]) (invs := []) mixed Tryd.func31 (by kernel_rfl) rfl rfl (all_cons WFixed_kept (all_cons WBytes_kept all_nil)) FCover_vc (Eq.mpr FCover.den FCover.pure)
noncomputable def CMore_cx : Cx := { P := Tryd.prog, fn := Tryd.f34, G := tables, sigs := sigsOf 1 [], own := CMore.sig.toSigR, anns := [{ key := 3, j := 0, watch := [], havoc := [] }] }
theorem CMore_vc : vcOf' CMore_cx = .ok CMore.vc := by kernel_rfl
theorem CMore_kept : Kept Tryd.prog tables 34 CMore.sig := keeps (cx := CMore_cx) (l := []) (invs := [(CMore.I0, CMore.I0M)]) mixed Tryd.func34 (by kernel_rfl) rfl rfl all_nil CMore_vc (Eq.mpr CMore.den CMore.pure)
noncomputable def COf_cx : Cx := { P := Tryd.prog, fn := Tryd.f35, G := tables, sigs := sigsOf 1 [(34, CMore.sig)], own := COf.sig.toSigR, anns := [] }
theorem COf_vc : vcOf' COf_cx = .ok COf.vc := by kernel_rfl
theorem COf_kept : Kept Tryd.prog tables 35 COf.sig := keeps (cx := COf_cx) (l := [(34, CMore.sig)]) (invs := []) mixed Tryd.func35 (by kernel_rfl) rfl rfl (all_cons CMore_kept all_nil) COf_vc (Eq.mpr COf.den COf.pure)
noncomputable def FRead_cx : Cx := { P := Tryd.prog, fn := Tryd.f18, G := tables, sigs := sigsOf 1 [(37, PRead.sig), (38, PRaw.sig), (39, PErr.sig), (40, PFixed.sig), (41, PAt.sig), (31, FCover.sig), (35, COf.sig), (34, CMore.sig)], own := FRead.sig.toSigR, anns := [] }
theorem FRead_vc : vcOf' FRead_cx = .ok FRead.vc := by kernel_rfl
theorem FRead_kept : Kept Tryd.prog tables 18 FRead.sig := keeps (cx := FRead_cx) (l := [(37, PRead.sig), (38, PRaw.sig), (39, PErr.sig), (40, PFixed.sig), (41, PAt.sig), (31, FCover.sig), (35, COf.sig), (34, CMore.sig)]) (invs := []) mixed Tryd.func18 (by kernel_rfl) rfl rfl (all_cons PRead_kept (all_cons PRaw_kept (all_cons PErr_kept (all_cons PFixed_kept (all_cons PAt_kept (all_cons FCover_kept (all_cons COf_kept (all_cons CMore_kept all_nil)))))))) FRead_vc (Eq.mpr FRead.den FRead.pure)
noncomputable def FNumb_cx : Cx := { P := Tryd.prog, fn := Tryd.f42, G := tables, sigs := sigsOf 1 [], own := FNumb.sig.toSigR, anns := [{ key := 3, j := 0, watch := [], havoc := [] }] }
theorem FNumb_vc : vcOf' FNumb_cx = .ok FNumb.vc := by kernel_rfl
theorem FNumb_kept : Kept Tryd.prog tables 42 FNumb.sig := keeps (cx := FNumb_cx) (l := []) (invs := [(FNumb.I0, FNumb.I0M)]) mixed Tryd.func42 (by kernel_rfl) rfl rfl all_nil FNumb_vc (Eq.mpr FNumb.den FNumb.pure)
noncomputable def RBytes_cx : Cx := { P := Tryd.prog, fn := Tryd.f49, G := tables, sigs := sigsOf 1 [], own := RBytes.sig.toSigR, anns := [{ key := 3, j := 0, watch := [], havoc := [] }] }
theorem RBytes_vc : vcOf' RBytes_cx = .ok RBytes.vc := by kernel_rfl
theorem RBytes_kept : Kept Tryd.prog tables 49 RBytes.sig := keeps (cx := RBytes_cx) (l := []) (invs := [(RBytes.I0, RBytes.I0M)]) mixed Tryd.func49 (by kernel_rfl) rfl rfl all_nil RBytes_vc (Eq.mpr RBytes.den RBytes.pure)
noncomputable def RFixed_cx : Cx := { P := Tryd.prog, fn := Tryd.f43, G := tables, sigs := sigsOf 1 [(49, RBytes.sig)], own := RFixed.sig.toSigR, anns := [{ key := 3, j := 0, watch := [], havoc := [] }] }
theorem RFixed_vc : vcOf' RFixed_cx = .ok RFixed.vc := by kernel_rfl
theorem RFixed_kept : Kept Tryd.prog tables 43 RFixed.sig := keeps (cx := RFixed_cx) (l := [(49, RBytes.sig)]) (invs := [(RFixed.I0, RFixed.I0M)]) mixed Tryd.func43 (by kernel_rfl) rfl rfl (all_cons RBytes_kept all_nil) RFixed_vc (Eq.mpr RFixed.den RFixed.pure)
noncomputable def Step_cx : Cx := { P := Tryd.prog, fn := Tryd.f53, G := tables, sigs := sigsOf 1 [], own := Step.sig.toSigR, anns := [] }
theorem Step_vc : vcOf' Step_cx = .ok Step.vc := by kernel_rfl
theorem Step_kept : Kept Tryd.prog tables 53 Step.sig := keeps (cx := Step_cx) (l := []) (invs := []) mixed Tryd.func53 (by kernel_rfl) rfl rfl all_nil Step_vc (Eq.mpr Step.den Step.pure)
noncomputable def RByte_cx : Cx := { P := Tryd.prog, fn := Tryd.f50, G := tables, sigs := sigsOf 1 [(53, Step.sig)], own := RByte.sig.toSigR, anns := [{ key := 2, j := 0, watch := [], havoc := [] }] }
theorem RByte_vc : vcOf' RByte_cx = .ok RByte.vc := by kernel_rfl
theorem RByte_kept : Kept Tryd.prog tables 50 RByte.sig := keeps (cx := RByte_cx) (l := [(53, Step.sig)]) (invs := [(RByte.I0, RByte.I0M)]) mixed Tryd.func50 (by kernel_rfl) rfl rfl (all_cons Step_kept all_nil) RByte_vc (Eq.mpr RByte.den RByte.pure)
noncomputable def RMore_cx : Cx := { P := Tryd.prog, fn := Tryd.f44, G := tables, sigs := sigsOf 1 [(50, RByte.sig)], own := RMore.sig.toSigR, anns := [{ key := 3, j := 0, watch := [], havoc := [] }] }
theorem RMore_vc : vcOf' RMore_cx = .ok RMore.vc := by kernel_rfl
theorem RMore_kept : Kept Tryd.prog tables 44 RMore.sig := keeps (cx := RMore_cx) (l := [(50, RByte.sig)]) (invs := [(CMore.I0, CMore.I0M)]) mixed Tryd.func44 (by kernel_rfl) rfl rfl (all_cons RByte_kept all_nil) RMore_vc (Eq.mpr RMore.den RMore.pure)
noncomputable def RWr_cx : Cx := { P := Tryd.prog, fn := Tryd.f23, G := tables, sigs := sigsOf 1 [(43, RFixed.sig), (44, RMore.sig)], own := RWr.sig.toSigR, anns := [] }
theorem RWr_vc : vcOf' RWr_cx = .ok RWr.vc := by kernel_rfl
theorem RWr_kept : Kept Tryd.prog tables 23 RWr.sig := keeps (cx := RWr_cx) (l := [(43, RFixed.sig), (44, RMore.sig)]) (invs := []) mixed Tryd.func23 (by kernel_rfl) rfl rfl (all_cons RFixed_kept (all_cons RMore_kept all_nil)) RWr_vc (Eq.mpr RWr.den RWr.pure)
noncomputable def RRd_cx : Cx := { P := Tryd.prog, fn := Tryd.f19, G := tables, sigs := sigsOf 1 [(42, FNumb.sig), (23, RWr.sig)], own := RRd.sig.toSigR, anns := [] }
theorem RRd_vc : vcOf' RRd_cx = .ok RRd.vc := by kernel_rfl
theorem RRd_kept : Kept Tryd.prog tables 19 RRd.sig := keeps (cx := RRd_cx) (l := [(42, FNumb.sig), (23, RWr.sig)]) (invs := []) mixed Tryd.func19 (by kernel_rfl) rfl rfl (all_cons FNumb_kept (all_cons RWr_kept all_nil)) RRd_vc (Eq.mpr RRd.den RRd.pure)
noncomputable def FScan_cx : Cx := { P := Tryd.prog, fn := Tryd.f20, G := tables, sigs := sigsOf 1 [(18, FRead.sig)], own := FScan.sig.toSigR, anns := [{ key := 3, j := 0, watch := [], havoc := [] }] }
theorem FScan_vc : vcOf' FScan_cx = .ok FScan.vc := by kernel_rfl
theorem FScan_kept : Kept Tryd.prog tables 20 FScan.sig := keeps (cx := FScan_cx) (l := [(18, FRead.sig)]) (invs := [(FScan.I0, FScan.I0M)]) mixed Tryd.func20 (by kernel_rfl) rfl rfl (all_cons FRead_kept all_nil) FScan_vc (Eq.mpr FScan.den FScan.pure)
noncomputable def RScn_cx : Cx := { P := Tryd.prog, fn := Tryd.f21, G := tables, sigs := sigsOf 1 [(19, RRd.sig)], own := RScn.sig.toSigR, anns := [{ key := 3, j := 0, watch := [], havoc := [] }] }
theorem RScn_vc : vcOf' RScn_cx = .ok RScn.vc := by kernel_rfl
theorem RScn_kept : Kept Tryd.prog tables 21 RScn.sig := keeps (cx := RScn_cx) (l := [(19, RRd.sig)]) (invs := [(FScan.I0, FScan.I0M)]) mixed Tryd.func21 (by kernel_rfl) rfl rfl (all_cons RRd_kept all_nil) RScn_vc (Eq.mpr RScn.den RScn.pure)
noncomputable def WRaw_cx : Cx := { P := Tryd.prog, fn := Tryd.f32, G := tables, sigs := sigsOf 1 [], own := WRaw.sig.toSigR, anns := [] }
theorem WRaw_vc : vcOf' WRaw_cx = .ok WRaw.vc := by kernel_rfl
theorem WRaw_kept : Kept Tryd.prog tables 32 WRaw.sig := keeps (cx := WRaw_cx) (l := []) (invs := []) mixed Tryd.func32 (by kernel_rfl) rfl rfl all_nil WRaw_vc (Eq.mpr WRaw.den WRaw.pure)
noncomputable def FWrite_cx : Cx := { P := Tryd.prog, fn := Tryd.f17, G := tables, sigs := sigsOf 1 [(31, FCover.sig), (35, COf.sig), (34, CMore.sig), (32, WRaw.sig), (33, WFixed.sig), (36, WBytes.sig)], own := FWrite.sig.toSigR, anns := [] }
theorem FWrite_vc : vcOf' FWrite_cx = .ok FWrite.vc := by kernel_rfl
theorem FWrite_kept : Kept Tryd.prog tables 17 FWrite.sig := keeps (cx := FWrite_cx) (l := [(31, FCover.sig), (35, COf.sig), (34, CMore.sig), (32, WRaw.sig), (33, WFixed.sig), (36, WBytes.sig)]) (invs := []) mixed Tryd.func17 (by kernel_rfl) rfl rfl (all_cons FCover_kept (all_cons COf_kept (all_cons CMore_kept (all_cons WRaw_kept (all_cons WFixed_kept (all_cons WBytes_kept all_nil)))))) FWrite_vc (Eq.mpr FWrite.den FWrite.pure)
noncomputable def Awake06_cx : Cx := { P := Tryd.prog, fn := Tryd.f16, G := tables, sigs := sigsOf 1 [(17, FWrite.sig), (18, FRead.sig)], own := Awake06.sig.toSigR, anns := [] }
theorem Awake06_vc : vcOf' Awake06_cx = .ok Awake06.vc := by kernel_rfl
theorem Awake06_kept : Kept Tryd.prog tables 16 Awake06.sig := keeps (cx := Awake06_cx) (l := [(17, FWrite.sig), (18, FRead.sig)]) (invs := []) mixed Tryd.func16 (by kernel_rfl) rfl rfl (all_cons FWrite_kept (all_cons FRead_kept all_nil)) Awake06_vc (Eq.mpr Awake06.den Awake06.pure)
noncomputable def SameL_cx : Cx := { P := Tryd.prog, fn := Tryd.f22, G := tables, sigs := sigsOf 1 [], own := SameL.sig.toSigR, anns := [{ key := 4, j := 0, watch := [], havoc := [] }] }
theorem SameL_vc : vcOf' SameL_cx = .ok SameL.vc := by kernel_rfl
theorem SameL_kept : Kept Tryd.prog tables 22 SameL.sig := keeps (cx := SameL_cx) (l := []) (invs := [(SameL.I0, SameL.I0M)]) mixed Tryd.func22 (by kernel_rfl) rfl rfl all_nil SameL_vc (Eq.mpr SameL.den SameL.pure)
noncomputable def LFrameReads_cx : Cx := { P := Tryd.prog, fn := Tryd.f5, G := tables, sigs := sigsOf 1 [(11, Cut.sig), (18, FRead.sig), (19, RRd.sig), (20, FScan.sig), (21, RScn.sig), (17, FWrite.sig), (16, Awake06.sig), (22, SameL.sig), (23, RWr.sig)], own := LFrameReads.sig.toSigR, anns := [] }
theorem LFrameReads_vc : vcOf' LFrameReads_cx = .ok LFrameReads.vc := by kernel_rfl
theorem LFrameReads_kept : Kept Tryd.prog tables 5 LFrameReads.sig := keeps (cx := LFrameReads_cx) (l := [(11, Cut.sig), (18, FRead.sig), (19, RRd.sig), (20, FScan.sig), (21, RScn.sig), (17, FWrite.sig), (16, Awake06.sig), (22, SameL.sig), (23, RWr.sig)]) (invs := []) mixed Tryd.func5 (by kernel_rfl) rfl rfl (all_cons Cut_kept (all_cons FRead_kept (all_cons RRd_kept (all_cons FScan_kept (all_cons RScn_kept (all_cons FWrite_kept (all_cons Awake06_kept (all_cons SameL_kept (all_cons RWr_kept all_nil))))))))) LFrameReads_vc (Eq.mpr LFrameReads.den LFrameReads.pure)
theorem tables_of {W : World} (h : laidMetH Tryd.prog [("ordeal/crc.half", tableData .u32 crcHalf)] W) : ∀ g ∈ tables, g.holds W := by
  rw [MakeChecks.laidMetH_plain _ _ _ (by kernel_rfl)] at h
  obtain ⟨ps, ⟨g0, t0, cs0, f0, p0, q0, hg0, ht0, hv0, hd0, hend, e0⟩, _, _⟩ := h
  obtain rfl := Option.some.inj ((show Tryd.prog.globalNamed "ordeal/crc.half" = some 2 by kernel_rfl).symm.trans hg0)
  obtain rfl := Option.some.inj ((show (Tryd.prog.globals[2]?).map (·.type) = some 87 by kernel_rfl).symm.trans ht0)
  intro g hg
  simp only [tables, List.mem_cons, List.not_mem_nil, or_false] at hg
  rcases hg with rfl
  · exact glob_one (t := 87) (e := 23) hg0 (by kernel_rfl) (by kernel_rfl) (by kernel_rfl) (by kernel_rfl) hv0 hd0
end Go.Proofs.YtlcidbiabfjapaaDoor.FramedKeep
