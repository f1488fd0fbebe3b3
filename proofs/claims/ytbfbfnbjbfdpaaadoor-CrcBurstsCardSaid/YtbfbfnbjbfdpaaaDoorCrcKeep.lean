/-
  Each of these functions keeps its contract, in the program of this seat.
-/
import Derived.Test.YtbfbfnbjbfdpaaaDoorChecked
import Derived.Test.YtbfbfnbjbfdpaaaDoorCrc
import Derived.Test.YtbfbfnbjbfdpaaaDoorTab
import Derived.LaidMore
import Derived.Stop.Joined
set_option linter.unusedVariables false
namespace Go.Proofs.YtbfbfnbjbfdpaaaDoor.CrcKeep
open Go.Vc
theorem mixed : Tryd.prog.follows .mixedOrders = true := by kernel_rfl
theorem all_nil {p : FuncId × Sig → Prop} : ∀ x ∈ ([] : List (FuncId × Sig)), p x := by intro x hx; cases hx
theorem all_cons {p : FuncId × Sig → Prop} {a : FuncId × Sig} {l : List (FuncId × Sig)} (h : p a) (h' : ∀ x ∈ l, p x) : ∀ x ∈ a :: l, p x := by
  intro x hx
  rcases List.mem_cons.1 hx with rfl | hx
  · exact h
  · exact h' x hx
def tables : List Glob := [{ g := 0, k := .u32, l := crcHalf }]
noncomputable def Cut_cx : Cx := { P := Tryd.prog, fn := Tryd.f8, G := tables, sigs := sigsOf 1 [], own := Cut.sig.toSigR, anns := [] }
theorem Cut_vc : vcOf' Cut_cx = .ok Cut.vc := by kernel_rfl
theorem Cut_kept : Kept Tryd.prog tables 8 Cut.sig := keeps (cx := Cut_cx) (l := []) (invs := []) mixed Tryd.func8 (by kernel_rfl) rfl rfl all_nil Cut_vc (Eq.mpr Cut.den Cut.pure)
noncomputable def CMore_cx : Cx := { P := Tryd.prog, fn := Tryd.f12, G := tables, sigs := sigsOf 1 [], own := CMore.sig.toSigR, anns := [{ key := 3, j := 0, watch := [], havoc := [] }] }
theorem CMore_vc : vcOf' CMore_cx = .ok CMore.vc := by kernel_rfl
theorem CMore_kept : Kept Tryd.prog tables 12 CMore.sig := keeps (cx := CMore_cx) (l := []) (invs := [(CMore.I0, CMore.I0M)]) mixed Tryd.func12 (by kernel_rfl) rfl rfl all_nil CMore_vc (Eq.mpr CMore.den CMore.pure)
noncomputable def COf_cx : Cx := { P := Tryd.prog, fn := Tryd.f10, G := tables, sigs := sigsOf 1 [(12, CMore.sig)], own := COf.sig.toSigR, anns := [] }
theorem COf_vc : vcOf' COf_cx = .ok COf.vc := by kernel_rfl
theorem COf_kept : Kept Tryd.prog tables 10 COf.sig := keeps (cx := COf_cx) (l := [(12, CMore.sig)]) (invs := []) mixed Tryd.func10 (by kernel_rfl) rfl rfl (all_cons CMore_kept all_nil) COf_vc (Eq.mpr COf.den COf.pure)
noncomputable def Awake02_cx : Cx := { P := Tryd.prog, fn := Tryd.f9, G := tables, sigs := sigsOf 1 [(10, COf.sig)], own := Awake02.sig.toSigR, anns := [] }
theorem Awake02_vc : vcOf' Awake02_cx = .ok Awake02.vc := by kernel_rfl
theorem Awake02_kept : Kept Tryd.prog tables 9 Awake02.sig := keeps (cx := Awake02_cx) (l := [(10, COf.sig)]) (invs := []) mixed Tryd.func9 (by kernel_rfl) rfl rfl (all_cons COf_kept all_nil) Awake02_vc (Eq.mpr Awake02.den Awake02.pure)
noncomputable def LCrcBursts_cx : Cx := { P := Tryd.prog, fn := Tryd.f3, G := tables, sigs := sigsOf 1 [(8, Cut.sig), (9, Awake02.sig), (10, COf.sig)], own := LCrcBursts.sig.toSigR, anns := [{ key := 7, j := 0, watch := [], havoc := [0] }] }
theorem LCrcBursts_vc : vcOf' LCrcBursts_cx = .ok LCrcBursts.vc := by kernel_rfl
theorem LCrcBursts_kept : Kept Tryd.prog tables 3 LCrcBursts.sig := keeps (cx := LCrcBursts_cx) (l := [(8, Cut.sig), (9, Awake02.sig), (10, COf.sig)]) (invs := [(LCrcBursts.I0, LCrcBursts.I0M)]) mixed Tryd.func3 (by kernel_rfl) rfl rfl (all_cons Cut_kept (all_cons Awake02_kept (all_cons COf_kept all_nil))) LCrcBursts_vc (Eq.mpr LCrcBursts.den LCrcBursts.pure)
noncomputable def LCrcLinear_cx : Cx := { P := Tryd.prog, fn := Tryd.f4, G := tables, sigs := sigsOf 1 [(9, Awake02.sig), (10, COf.sig)], own := LCrcLinear.sig.toSigR, anns := [{ key := 4, j := 0, watch := [], havoc := [0] }] }
theorem LCrcLinear_vc : vcOf' LCrcLinear_cx = .ok LCrcLinear.vc := by kernel_rfl
theorem LCrcLinear_kept : Kept Tryd.prog tables 4 LCrcLinear.sig := keeps (cx := LCrcLinear_cx) (l := [(9, Awake02.sig), (10, COf.sig)]) (invs := [(LCrcLinear.I0, LCrcLinear.I0M)]) mixed Tryd.func4 (by kernel_rfl) rfl rfl (all_cons Awake02_kept (all_cons COf_kept all_nil)) LCrcLinear_vc (Eq.mpr LCrcLinear.den LCrcLinear.pure)
noncomputable def Step_cx : Cx := { P := Tryd.prog, fn := Tryd.f33, G := tables, sigs := sigsOf 1 [], own := Step.sig.toSigR, anns := [] }
theorem Step_vc : vcOf' Step_cx = .ok Step.vc := by kernel_rfl
theorem Step_kept : Kept Tryd.prog tables 33 Step.sig := keeps (cx := Step_cx) (l := []) (invs := []) mixed Tryd.func33 (by kernel_rfl) rfl rfl all_nil Step_vc (Eq.mpr Step.den Step.pure)
noncomputable def RByte_cx : Cx := { P := Tryd.prog, fn := Tryd.f22, G := tables, sigs := sigsOf 1 [(33, Step.sig)], own := RByte.sig.toSigR, anns := [{ key := 2, j := 0, watch := [], havoc := [] }] }
theorem RByte_vc : vcOf' RByte_cx = .ok RByte.vc := by kernel_rfl
theorem RByte_kept : Kept Tryd.prog tables 22 RByte.sig := keeps (cx := RByte_cx) (l := [(33, Step.sig)]) (invs := [(RByte.I0, RByte.I0M)]) mixed Tryd.func22 (by kernel_rfl) rfl rfl (all_cons Step_kept all_nil) RByte_vc (Eq.mpr RByte.den RByte.pure)
noncomputable def RMore_cx : Cx := { P := Tryd.prog, fn := Tryd.f11, G := tables, sigs := sigsOf 1 [(22, RByte.sig)], own := RMore.sig.toSigR, anns := [{ key := 3, j := 0, watch := [], havoc := [] }] }
theorem RMore_vc : vcOf' RMore_cx = .ok RMore.vc := by kernel_rfl
theorem RMore_kept : Kept Tryd.prog tables 11 RMore.sig := keeps (cx := RMore_cx) (l := [(22, RByte.sig)]) (invs := [(CMore.I0, CMore.I0M)]) mixed Tryd.func11 (by kernel_rfl) rfl rfl (all_cons RByte_kept all_nil) RMore_vc (Eq.mpr RMore.den RMore.pure)
noncomputable def Nought_cx : Cx := { P := Tryd.prog, fn := Tryd.f23, G := tables, sigs := sigsOf 1 [], own := Nought.sig.toSigR, anns := [{ key := 3, j := 0, watch := [], havoc := [0] }] }
theorem Nought_vc : vcOf' Nought_cx = .ok Nought.vc := by kernel_rfl
theorem Nought_kept : Kept Tryd.prog tables 23 Nought.sig := keeps (cx := Nought_cx) (l := []) (invs := [(Nought.I0, Nought.I0M)]) mixed Tryd.func23 (by kernel_rfl) rfl rfl all_nil Nought_vc (Eq.mpr Nought.den Nought.pure)
noncomputable def Times_cx : Cx := { P := Tryd.prog, fn := Tryd.f25, G := tables, sigs := sigsOf 1 [], own := Times.sig.toSigR, anns := [{ key := 3, j := 0, watch := [], havoc := [] }] }
theorem Times_vc : vcOf' Times_cx = .ok Times.vc := by kernel_rfl
theorem Times_kept : Kept Tryd.prog tables 25 Times.sig := keeps (cx := Times_cx) (l := []) (invs := [(Times.I0, Times.I0M)]) mixed Tryd.func25 (by kernel_rfl) rfl rfl all_nil Times_vc (Eq.mpr Times.den Times.pure)
noncomputable def Square_cx : Cx := { P := Tryd.prog, fn := Tryd.f24, G := tables, sigs := sigsOf 1 [(25, Times.sig)], own := Square.sig.toSigR, anns := [{ key := 3, j := 0, watch := [], havoc := [0] }] }
theorem Square_vc : vcOf' Square_cx = .ok Square.vc := by kernel_rfl
theorem Square_kept : Kept Tryd.prog tables 24 Square.sig := keeps (cx := Square_cx) (l := [(25, Times.sig)]) (invs := [(Square.I0, Square.I0M)]) mixed Tryd.func24 (by kernel_rfl) rfl rfl (all_cons Times_kept all_nil) Square_vc (Eq.mpr Square.den Square.pure)
noncomputable def CPass_cx : Cx := { P := Tryd.prog, fn := Tryd.f13, G := tables, sigs := sigsOf 1 [(23, Nought.sig), (24, Square.sig), (25, Times.sig)], own := CPass.sig.toSigR, anns := [{ key := 3, j := 0, watch := [], havoc := [0] }, { key := 6, j := 1, watch := [], havoc := [0] }] }
theorem CPass_vc : vcOf' CPass_cx = .ok CPass.vc := by kernel_rfl
theorem CPass_kept : Kept Tryd.prog tables 13 CPass.sig := keeps (cx := CPass_cx) (l := [(23, Nought.sig), (24, Square.sig), (25, Times.sig)]) (invs := [(CPass.I0, CPass.I0M), (CPass.I1, CPass.I1M)]) mixed Tryd.func13 (by kernel_rfl) rfl rfl (all_cons Nought_kept (all_cons Square_kept (all_cons Times_kept all_nil))) CPass_vc (Eq.mpr CPass.den CPass.pure)
noncomputable def RPass_cx : Cx := { P := Tryd.prog, fn := Tryd.f14, G := tables, sigs := sigsOf 1 [(22, RByte.sig)], own := RPass.sig.toSigR, anns := [{ key := 2, j := 0, watch := [], havoc := [] }] }
theorem RPass_vc : vcOf' RPass_cx = .ok RPass.vc := by kernel_rfl
theorem RPass_kept : Kept Tryd.prog tables 14 RPass.sig := keeps (cx := RPass_cx) (l := [(22, RByte.sig)]) (invs := [(RPass.I0, RPass.I0M)]) mixed Tryd.func14 (by kernel_rfl) rfl rfl (all_cons RByte_kept all_nil) RPass_vc (Eq.mpr RPass.den RPass.pure)
noncomputable def LCrcSums_cx : Cx := { P := Tryd.prog, fn := Tryd.f5, G := tables, sigs := sigsOf 1 [(8, Cut.sig), (9, Awake02.sig), (10, COf.sig), (11, RMore.sig), (12, CMore.sig), (13, CPass.sig), (14, RPass.sig)], own := LCrcSums.sig.toSigR, anns := [] }
theorem LCrcSums_vc : vcOf' LCrcSums_cx = .ok LCrcSums.vc := by kernel_rfl
theorem LCrcSums_kept : Kept Tryd.prog tables 5 LCrcSums.sig := keeps (cx := LCrcSums_cx) (l := [(8, Cut.sig), (9, Awake02.sig), (10, COf.sig), (11, RMore.sig), (12, CMore.sig), (13, CPass.sig), (14, RPass.sig)]) (invs := []) mixed Tryd.func5 (by kernel_rfl) rfl rfl (all_cons Cut_kept (all_cons Awake02_kept (all_cons COf_kept (all_cons RMore_kept (all_cons CMore_kept (all_cons CPass_kept (all_cons RPass_kept all_nil))))))) LCrcSums_vc (Eq.mpr LCrcSums.den LCrcSums.pure)
noncomputable def CJoin_cx : Cx := { P := Tryd.prog, fn := Tryd.f15, G := tables, sigs := sigsOf 1 [(13, CPass.sig)], own := CJoin.sig.toSigR, anns := [] }
theorem CJoin_vc : vcOf' CJoin_cx = .ok CJoin.vc := by kernel_rfl
theorem CJoin_kept : Kept Tryd.prog tables 15 CJoin.sig := keeps (cx := CJoin_cx) (l := [(13, CPass.sig)]) (invs := []) mixed Tryd.func15 (by kernel_rfl) rfl rfl (all_cons CPass_kept all_nil) CJoin_vc (Eq.mpr CJoin.den CJoin.pure)
noncomputable def LCrcJoins_cx : Cx := { P := Tryd.prog, fn := Tryd.f6, G := tables, sigs := sigsOf 1 [(8, Cut.sig), (10, COf.sig), (9, Awake02.sig), (15, CJoin.sig), (12, CMore.sig)], own := LCrcJoins.sig.toSigR, anns := [] }
theorem LCrcJoins_vc : vcOf' LCrcJoins_cx = .ok LCrcJoins.vc := by kernel_rfl
theorem LCrcJoins_kept : Kept Tryd.prog tables 6 LCrcJoins.sig := keeps (cx := LCrcJoins_cx) (l := [(8, Cut.sig), (10, COf.sig), (9, Awake02.sig), (15, CJoin.sig), (12, CMore.sig)]) (invs := []) mixed Tryd.func6 (by kernel_rfl) rfl rfl (all_cons Cut_kept (all_cons COf_kept (all_cons Awake02_kept (all_cons CJoin_kept (all_cons CMore_kept all_nil))))) LCrcJoins_vc (Eq.mpr LCrcJoins.den LCrcJoins.pure)
theorem tables_of {W : World} (h : laidMetH Tryd.prog [("ordeal/crc.half", tableData .u32 crcHalf)] W) : ∀ g ∈ tables, g.holds W := by
  rw [MakeChecks.laidMetH_plain _ _ _ (by kernel_rfl)] at h
  obtain ⟨ps, ⟨g0, t0, cs0, f0, p0, q0, hg0, ht0, hv0, hd0, hend, e0⟩, _, _⟩ := h
  obtain rfl := Option.some.inj ((show Tryd.prog.globalNamed "ordeal/crc.half" = some 0 by kernel_rfl).symm.trans hg0)
  obtain rfl := Option.some.inj ((show (Tryd.prog.globals[0]?).map (·.type) = some 52 by kernel_rfl).symm.trans ht0)
  intro g hg
  simp only [tables, List.mem_cons, List.not_mem_nil, or_false] at hg
  rcases hg with rfl
  · exact glob_one (t := 52) (e := 22) hg0 (by kernel_rfl) (by kernel_rfl) (by kernel_rfl) (by kernel_rfl) hv0 hd0
end Go.Proofs.YtbfbfnbjbfdpaaaDoor.CrcKeep
