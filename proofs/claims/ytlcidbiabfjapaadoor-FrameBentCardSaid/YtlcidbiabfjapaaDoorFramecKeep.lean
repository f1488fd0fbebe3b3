/-
  Each of these functions keeps its contract, in the program of this seat.
-/
import Derived.Test.YtlcidbiabfjapaaDoorChecked
import Derived.Test.YtlcidbiabfjapaaDoorFramec
import Derived.LaidMore
import Derived.Stop.Joined
set_option linter.unusedVariables false
namespace Go.Proofs.YtlcidbiabfjapaaDoor.FramecKeep
open Go.Vc
theorem mixed : Tryd.prog.follows .mixedOrders = true := by kernel_rfl
theorem all_nil {p : FuncId × Sig → Prop} : ∀ x ∈ ([] : List (FuncId × Sig)), p x := by intro x hx; cases hx
theorem all_cons {p : FuncId × Sig → Prop} {a : FuncId × Sig} {l : List (FuncId × Sig)} (h : p a) (h' : ∀ x ∈ l, p x) : ∀ x ∈ a :: l, p x := by
  intro x hx
  rcases List.mem_cons.1 hx with rfl | hx
  · exact h
  · exact h' x hx
def tables : List Glob := [{ g := 2, k := .u32, l := crcHalf }]
noncomputable def Cut_cx : Cx := { P := Tryd.prog, fn := Tryd.f11, G := tables, sigs := sigsOf 1 [], own := Cut.sig.toSigR, anns := [] }
theorem Cut_vc : vcOf' Cut_cx = .ok Cut.vc := by kernel_rfl
theorem Cut_kept : Kept Tryd.prog tables 11 Cut.sig := keeps (cx := Cut_cx) (l := []) (invs := []) mixed Tryd.func11 (by kernel_rfl) rfl rfl all_nil Cut_vc (Eq.mpr Cut.den Cut.pure)
noncomputable def Low_cx : Cx := { P := Tryd.prog, fn := Tryd.f52, G := tables, sigs := sigsOf 1 [], own := Low.sig.toSigR, anns := [] }
theorem Low_vc : vcOf' Low_cx = .ok Low.vc := by kernel_rfl
theorem Low_kept : Kept Tryd.prog tables 52 Low.sig := keeps (cx := Low_cx) (l := []) (invs := []) mixed Tryd.func52 (by kernel_rfl) rfl rfl all_nil Low_vc (Eq.mpr Low.den Low.pure)
noncomputable def Field_cx : Cx := { P := Tryd.prog, fn := Tryd.f48, G := tables, sigs := sigsOf 1 [(52, Low.sig)], own := Field.sig.toSigR, anns := [] }
theorem Field_vc : vcOf' Field_cx = .ok Field.vc := by kernel_rfl
theorem Field_kept : Kept Tryd.prog tables 48 Field.sig := keeps (cx := Field_cx) (l := [(52, Low.sig)]) (invs := []) mixed Tryd.func48 (by kernel_rfl) rfl rfl (all_cons Low_kept all_nil) Field_vc (Eq.mpr Field.den Field.pure)
noncomputable def WFixed_cx : Cx := { P := Tryd.prog, fn := Tryd.f33, G := tables, sigs := sigsOf 1 [(48, Field.sig)], own := WFixed.sig.toSigR, anns := [{ key := 2, j := 0, watch := [], havoc := [0] }] }
theorem WFixed_vc : vcOf' WFixed_cx = .ok WFixed.vc := by kernel_rfl
theorem WFixed_kept : Kept Tryd.prog tables 33 WFixed.sig := keeps (cx := WFixed_cx) (l := [(48, Field.sig)]) (invs := [(WFixed.I0, WFixed.I0M)]) mixed Tryd.func33 (by kernel_rfl) rfl rfl (all_cons Field_kept all_nil) WFixed_vc (Eq.mpr WFixed.den WFixed.pure)
noncomputable def WBytes_cx : Cx := { P := Tryd.prog, fn := Tryd.f36, G := tables, sigs := sigsOf 1 [], own := WBytes.sig.toSigR, anns := [] }
theorem WBytes_vc : vcOf' WBytes_cx = .ok WBytes.vc := by kernel_rfl
theorem WBytes_kept : Kept Tryd.prog tables 36 WBytes.sig := keeps (cx := WBytes_cx) (l := []) (invs := []) mixed Tryd.func36 (by kernel_rfl) rfl rfl all_nil WBytes_vc (Eq.mpr WBytes.den WBytes.pure)
noncomputable def FCover_cx : Cx := { P := Tryd.prog, fn := Tryd.f31, G := tables, sigs := sigsOf 1 [(33, WFixed.sig), (36, WBytes.sig)], own := FCover.sig.toSigR, anns := [] }
theorem FCover_vc : vcOf' FCover_cx = .ok FCover.vc := by kernel_rfl
theorem FCover_kept : Kept Tryd.prog tables 31 FCover.sig := keeps (cx := FCover_cx) (l := [(33, WFixed.sig), (36, WBytes.sig)]) (invs := []) mixed Tryd.func31 (by kernel_rfl) rfl rfl (all_cons WFixed_kept (all_cons WBytes_kept all_nil)) FCover_vc (Eq.mpr FCover.den FCover.pure)
noncomputable def CMore_cx : Cx := { P := Tryd.prog, fn := Tryd.f34, G := tables, sigs := sigsOf 1 [], own := CMore.sig.toSigR, anns := [{ key := 3, j := 0, watch := [], havoc := [] }] }
theorem CMore_vc : vcOf' CMore_cx = .ok CMore.vc := by kernel_rfl
theorem CMore_kept : Kept Tryd.prog tables 34 CMore.sig := keeps (cx := CMore_cx) (l := []) (invs := [(CMore.I0, CMore.I0M)]) mixed Tryd.func34 (by kernel_rfl) rfl rfl all_nil CMore_vc (Eq.mpr CMore.den CMore.pure)
noncomputable def COf_cx : Cx := { P := Tryd.prog, fn := Tryd.f35, G := tables, sigs := sigsOf 1 [(34, CMore.sig)], own := COf.sig.toSigR, anns := [] }
theorem COf_vc : vcOf' COf_cx = .ok COf.vc := by kernel_rfl
theorem COf_kept : Kept Tryd.prog tables 35 COf.sig := keeps (cx := COf_cx) (l := [(34, CMore.sig)]) (invs := []) mixed Tryd.func35 (by kernel_rfl) rfl rfl (all_cons CMore_kept all_nil) COf_vc (Eq.mpr COf.den COf.pure)
noncomputable def WRaw_cx : Cx := { P := Tryd.prog, fn := Tryd.f32, G := tables, sigs := sigsOf 1 [], own := WRaw.sig.toSigR, anns := [] }
theorem WRaw_vc : vcOf' WRaw_cx = .ok WRaw.vc := by kernel_rfl
theorem WRaw_kept : Kept Tryd.prog tables 32 WRaw.sig := keeps (cx := WRaw_cx) (l := []) (invs := []) mixed Tryd.func32 (by kernel_rfl) rfl rfl all_nil WRaw_vc (Eq.mpr WRaw.den WRaw.pure)
noncomputable def FWrite_cx : Cx := { P := Tryd.prog, fn := Tryd.f17, G := tables, sigs := sigsOf 1 [(31, FCover.sig), (35, COf.sig), (34, CMore.sig), (32, WRaw.sig), (33, WFixed.sig), (36, WBytes.sig)], own := FWrite.sig.toSigR, anns := [] }
theorem FWrite_vc : vcOf' FWrite_cx = .ok FWrite.vc := by kernel_rfl
theorem FWrite_kept : Kept Tryd.prog tables 17 FWrite.sig := keeps (cx := FWrite_cx) (l := [(31, FCover.sig), (35, COf.sig), (34, CMore.sig), (32, WRaw.sig), (33, WFixed.sig), (36, WBytes.sig)]) (invs := []) mixed Tryd.func17 (by kernel_rfl) rfl rfl (all_cons FCover_kept (all_cons COf_kept (all_cons CMore_kept (all_cons WRaw_kept (all_cons WFixed_kept (all_cons WBytes_kept all_nil)))))) FWrite_vc (Eq.mpr FWrite.den FWrite.pure)
noncomputable def Laid_cx : Cx := { P := Tryd.prog, fn := Tryd.f24, G := tables, sigs := sigsOf 1 [(11, Cut.sig), (17, FWrite.sig)], own := Laid.sig.toSigR, anns := [{ key := 4, j := 0, watch := [], havoc := [] }] }
theorem Laid_vc : vcOf' Laid_cx = .ok Laid.vc := by kernel_rfl
theorem Laid_kept : Kept Tryd.prog tables 24 Laid.sig := keeps (cx := Laid_cx) (l := [(11, Cut.sig), (17, FWrite.sig)]) (invs := [(Laid.I0, Laid.I0M)]) mixed Tryd.func24 (by kernel_rfl) rfl rfl (all_cons Cut_kept (all_cons FWrite_kept all_nil)) Laid_vc (Eq.mpr Laid.den Laid.pure)
noncomputable def PRead_cx : Cx := { P := Tryd.prog, fn := Tryd.f37, G := tables, sigs := sigsOf 1 [], own := PRead.sig.toSigR, anns := [] }
theorem PRead_vc : vcOf' PRead_cx = .ok PRead.vc := by kernel_rfl
theorem PRead_kept : Kept Tryd.prog tables 37 PRead.sig := keeps (cx := PRead_cx) (l := []) (invs := []) mixed Tryd.func37 (by kernel_rfl) rfl rfl all_nil PRead_vc (Eq.mpr PRead.den PRead.pure)
noncomputable def PRaw_cx : Cx := { P := Tryd.prog, fn := Tryd.f38, G := tables, sigs := sigsOf 1 [], own := PRaw.sig.toSigR, anns := [] }
theorem PRaw_vc : vcOf' PRaw_cx = .ok PRaw.vc := by kernel_rfl
theorem PRaw_kept : Kept Tryd.prog tables 38 PRaw.sig := keeps (cx := PRaw_cx) (l := []) (invs := []) mixed Tryd.func38 (by kernel_rfl) rfl rfl all_nil PRaw_vc (Eq.mpr PRaw.den PRaw.pure)
noncomputable def PErr_cx : Cx := { P := Tryd.prog, fn := Tryd.f39, G := tables, sigs := sigsOf 1 [], own := PErr.sig.toSigR, anns := [] }
theorem PErr_vc : vcOf' PErr_cx = .ok PErr.vc := by kernel_rfl
theorem PErr_kept : Kept Tryd.prog tables 39 PErr.sig := keeps (cx := PErr_cx) (l := []) (invs := []) mixed Tryd.func39 (by kernel_rfl) rfl rfl all_nil PErr_vc (Eq.mpr PErr.den PErr.pure)
noncomputable def PFixed_cx : Cx := { P := Tryd.prog, fn := Tryd.f40, G := tables, sigs := sigsOf 1 [(38, PRaw.sig)], own := PFixed.sig.toSigR, anns := [{ key := 3, j := 0, watch := [], havoc := [] }] }
theorem PFixed_vc : vcOf' PFixed_cx = .ok PFixed.vc := by kernel_rfl
theorem PFixed_kept : Kept Tryd.prog tables 40 PFixed.sig := keeps (cx := PFixed_cx) (l := [(38, PRaw.sig)]) (invs := [(PFixed.I0, PFixed.I0M)]) mixed Tryd.func40 (by kernel_rfl) rfl rfl (all_cons PRaw_kept all_nil) PFixed_vc (Eq.mpr PFixed.den PFixed.pure)
noncomputable def PAt_cx : Cx := { P := Tryd.prog, fn := Tryd.f41, G := tables, sigs := sigsOf 1 [], own := PAt.sig.toSigR, anns := [] }
theorem PAt_vc : vcOf' PAt_cx = .ok PAt.vc := by kernel_rfl
theorem PAt_kept : Kept Tryd.prog tables 41 PAt.sig := keeps (cx := PAt_cx) (l := []) (invs := []) mixed Tryd.func41 (by kernel_rfl) rfl rfl all_nil PAt_vc (Eq.mpr PAt.den PAt.pure)
noncomputable def FRead_cx : Cx := { P := Tryd.prog, fn := Tryd.f18, G := tables, sigs := sigsOf 1 [(37, PRead.sig), (38, PRaw.sig), (39, PErr.sig), (40, PFixed.sig), (41, PAt.sig), (31, FCover.sig), (35, COf.sig), (34, CMore.sig)], own := FRead.sig.toSigR, anns := [] }
theorem FRead_vc : vcOf' FRead_cx = .ok FRead.vc := by kernel_rfl
theorem FRead_kept : Kept Tryd.prog tables 18 FRead.sig := keeps (cx := FRead_cx) (l := [(37, PRead.sig), (38, PRaw.sig), (39, PErr.sig), (40, PFixed.sig), (41, PAt.sig), (31, FCover.sig), (35, COf.sig), (34, CMore.sig)]) (invs := []) mixed Tryd.func18 (by kernel_rfl) rfl rfl (all_cons PRead_kept (all_cons PRaw_kept (all_cons PErr_kept (all_cons PFixed_kept (all_cons PAt_kept (all_cons FCover_kept (all_cons COf_kept (all_cons CMore_kept all_nil)))))))) FRead_vc (Eq.mpr FRead.den FRead.pure)
noncomputable def Awake06_cx : Cx := { P := Tryd.prog, fn := Tryd.f16, G := tables, sigs := sigsOf 1 [(17, FWrite.sig), (18, FRead.sig)], own := Awake06.sig.toSigR, anns := [] }
theorem Awake06_vc : vcOf' Awake06_cx = .ok Awake06.vc := by kernel_rfl
theorem Awake06_kept : Kept Tryd.prog tables 16 Awake06.sig := keeps (cx := Awake06_cx) (l := [(17, FWrite.sig), (18, FRead.sig)]) (invs := []) mixed Tryd.func16 (by kernel_rfl) rfl rfl (all_cons FWrite_kept (all_cons FRead_kept all_nil)) Awake06_vc (Eq.mpr Awake06.den Awake06.pure)
noncomputable def FScan_cx : Cx := { P := Tryd.prog, fn := Tryd.f20, G := tables, sigs := sigsOf 1 [(18, FRead.sig)], own := FScan.sig.toSigR, anns := [{ key := 3, j := 0, watch := [], havoc := [] }] }
theorem FScan_vc : vcOf' FScan_cx = .ok FScan.vc := by kernel_rfl
theorem FScan_kept : Kept Tryd.prog tables 20 FScan.sig := keeps (cx := FScan_cx) (l := [(18, FRead.sig)]) (invs := [(FScan.I0, FScan.I0M)]) mixed Tryd.func20 (by kernel_rfl) rfl rfl (all_cons FRead_kept all_nil) FScan_vc (Eq.mpr FScan.den FScan.pure)
noncomputable def LFBent_cx : Cx := { P := Tryd.prog, fn := Tryd.f8, G := tables, sigs := sigsOf 1 [(24, Laid.sig), (16, Awake06.sig), (20, FScan.sig)], own := LFBent.sig.toSigR, anns := [{ key := 14, j := 0, watch := [], havoc := [0] }] }
theorem LFBent_vc : vcOf' LFBent_cx = .ok LFBent.vc := by kernel_rfl
theorem LFBent_kept : Kept Tryd.prog tables 8 LFBent.sig := keeps (cx := LFBent_cx) (l := [(24, Laid.sig), (16, Awake06.sig), (20, FScan.sig)]) (invs := [(LFBent.I0, LFBent.I0M)]) mixed Tryd.func8 (by kernel_rfl) rfl rfl (all_cons Laid_kept (all_cons Awake06_kept (all_cons FScan_kept all_nil))) LFBent_vc (Eq.mpr LFBent.den LFBent.pure)
theorem tables_of {W : World} (h : laidMetH Tryd.prog [("ordeal/crc.half", tableData .u32 crcHalf)] W) : ∀ g ∈ tables, g.holds W := by
  rw [MakeChecks.laidMetH_plain _ _ _ (by kernel_rfl)] at h
  obtain ⟨ps, ⟨g0, t0, cs0, f0, p0, q0, hg0, ht0, hv0, hd0, hend, e0⟩, _, _⟩ := h
  obtain rfl := Option.some.inj ((show Tryd.prog.globalNamed "ordeal/crc.half" = some 2 by kernel_rfl).symm.trans hg0)
  obtain rfl := Option.some.inj ((show (Tryd.prog.globals[2]?).map (·.type) = some 87 by kernel_rfl).symm.trans ht0)
  intro g hg
  simp only [tables, List.mem_cons, List.not_mem_nil, or_false] at hg
  rcases hg with rfl
  · exact glob_one (t := 87) (e := 23) hg0 (by kernel_rfl) (by kernel_rfl) (by kernel_rfl) (by kernel_rfl) hv0 hd0
end Go.Proofs.YtlcidbiabfjapaaDoor.FramecKeep
