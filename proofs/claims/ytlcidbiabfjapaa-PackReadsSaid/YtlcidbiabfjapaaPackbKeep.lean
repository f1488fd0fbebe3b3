/-
  Each of these functions keeps its contract, in the program of this seat.
-/
import Derived.Test.YtlcidbiabfjapaaChecked
import Derived.Test.YtlcidbiabfjapaaPackc
set_option linter.unusedVariables false
namespace Go.Proofs.Ytlcidbiabfjapaa.PackbKeep
open Go.Vc
theorem mixed : Try.prog.follows .mixedOrders = true := by kernel_rfl
theorem all_nil {p : FuncId × Sig → Prop} : ∀ x ∈ ([] : List (FuncId × Sig)), p x := by intro x hx; cases hx
theorem all_cons {p : FuncId × Sig → Prop} {a : FuncId × Sig} {l : List (FuncId × Sig)} (h : p a) (h' : ∀ x ∈ l, p x) : ∀ x ∈ a :: l, p x := by
  intro x hx
  rcases List.mem_cons.1 hx with rfl | hx
  · exact h
  · exact h' x hx
def tables : List Glob := []
noncomputable def Cut_cx : Cx := { P := Try.prog, fn := Try.f6, G := tables, sigs := sigsOf 1 [], own := Cut.sig.toSigR, anns := [] }
theorem Cut_vc : vcOf' Cut_cx = .ok Cut.vc := by kernel_rfl
theorem Cut_kept : Kept Try.prog tables 6 Cut.sig := keeps (cx := Cut_cx) (l := []) (invs := []) mixed Try.func6 (by kernel_rfl) rfl rfl all_nil Cut_vc (Eq.mpr Cut.den Cut.pure)
noncomputable def PRead_cx : Cx := { P := Try.prog, fn := Try.f7, G := tables, sigs := sigsOf 1 [], own := PRead.sig.toSigR, anns := [] }
theorem PRead_vc : vcOf' PRead_cx = .ok PRead.vc := by kernel_rfl
theorem PRead_kept : Kept Try.prog tables 7 PRead.sig := keeps (cx := PRead_cx) (l := []) (invs := []) mixed Try.func7 (by kernel_rfl) rfl rfl all_nil PRead_vc (Eq.mpr PRead.den PRead.pure)
noncomputable def Width_cx : Cx := { P := Try.prog, fn := Try.f29, G := tables, sigs := sigsOf 1 [], own := Width.sig.toSigR, anns := [{ key := 2, j := 0, watch := [], havoc := [] }] }
theorem Width_vc : vcOf' Width_cx = .ok Width.vc := by kernel_rfl
theorem Width_kept : Kept Try.prog tables 29 Width.sig := keeps (cx := Width_cx) (l := []) (invs := [(Width.I0, Width.I0M)]) mixed Try.func29 (by kernel_rfl) rfl rfl all_nil Width_vc (Eq.mpr Width.den Width.pure)
noncomputable def Low_cx : Cx := { P := Try.prog, fn := Try.f37, G := tables, sigs := sigsOf 1 [], own := Low.sig.toSigR, anns := [] }
theorem Low_vc : vcOf' Low_cx = .ok Low.vc := by kernel_rfl
theorem Low_kept : Kept Try.prog tables 37 Low.sig := keeps (cx := Low_cx) (l := []) (invs := []) mixed Try.func37 (by kernel_rfl) rfl rfl all_nil Low_vc (Eq.mpr Low.den Low.pure)
noncomputable def Field_cx : Cx := { P := Try.prog, fn := Try.f36, G := tables, sigs := sigsOf 1 [(37, Low.sig)], own := Field.sig.toSigR, anns := [] }
theorem Field_vc : vcOf' Field_cx = .ok Field.vc := by kernel_rfl
theorem Field_kept : Kept Try.prog tables 36 Field.sig := keeps (cx := Field_cx) (l := [(37, Low.sig)]) (invs := []) mixed Try.func36 (by kernel_rfl) rfl rfl (all_cons Low_kept all_nil) Field_vc (Eq.mpr Field.den Field.pure)
noncomputable def WFixed_cx : Cx := { P := Try.prog, fn := Try.f31, G := tables, sigs := sigsOf 1 [(36, Field.sig)], own := WFixed.sig.toSigR, anns := [{ key := 2, j := 0, watch := [], havoc := [0] }] }
theorem WFixed_vc : vcOf' WFixed_cx = .ok WFixed.vc := by kernel_rfl
theorem WFixed_kept : Kept Try.prog tables 31 WFixed.sig := keeps (cx := WFixed_cx) (l := [(36, Field.sig)]) (invs := [(WFixed.I0, WFixed.I0M)]) mixed Try.func31 (by kernel_rfl) rfl rfl (all_cons Field_kept all_nil) WFixed_vc (Eq.mpr WFixed.den WFixed.pure)
noncomputable def WNum_cx : Cx := { P := Try.prog, fn := Try.f27, G := tables, sigs := sigsOf 1 [(29, Width.sig), (31, WFixed.sig)], own := WNum.sig.toSigR, anns := [] }
theorem WNum_vc : vcOf' WNum_cx = .ok WNum.vc := by kernel_rfl
theorem WNum_kept : Kept Try.prog tables 27 WNum.sig := keeps (cx := WNum_cx) (l := [(29, Width.sig), (31, WFixed.sig)]) (invs := []) mixed Try.func27 (by kernel_rfl) rfl rfl (all_cons Width_kept (all_cons WFixed_kept all_nil)) WNum_vc (Eq.mpr WNum.den WNum.pure)
noncomputable def WText_cx : Cx := { P := Try.prog, fn := Try.f28, G := tables, sigs := sigsOf 1 [(27, WNum.sig)], own := WText.sig.toSigR, anns := [] }
theorem WText_vc : vcOf' WText_cx = .ok WText.vc := by kernel_rfl
theorem WText_kept : Kept Try.prog tables 28 WText.sig := keeps (cx := WText_cx) (l := [(27, WNum.sig)]) (invs := []) mixed Try.func28 (by kernel_rfl) rfl rfl (all_cons WNum_kept all_nil) WText_vc (Eq.mpr WText.den WText.pure)
noncomputable def PRaw_cx : Cx := { P := Try.prog, fn := Try.f16, G := tables, sigs := sigsOf 1 [], own := PRaw.sig.toSigR, anns := [] }
theorem PRaw_vc : vcOf' PRaw_cx = .ok PRaw.vc := by kernel_rfl
theorem PRaw_kept : Kept Try.prog tables 16 PRaw.sig := keeps (cx := PRaw_cx) (l := []) (invs := []) mixed Try.func16 (by kernel_rfl) rfl rfl all_nil PRaw_vc (Eq.mpr PRaw.den PRaw.pure)
noncomputable def PFixed_cx : Cx := { P := Try.prog, fn := Try.f10, G := tables, sigs := sigsOf 1 [(16, PRaw.sig)], own := PFixed.sig.toSigR, anns := [{ key := 3, j := 0, watch := [], havoc := [] }] }
theorem PFixed_vc : vcOf' PFixed_cx = .ok PFixed.vc := by kernel_rfl
theorem PFixed_kept : Kept Try.prog tables 10 PFixed.sig := keeps (cx := PFixed_cx) (l := [(16, PRaw.sig)]) (invs := [(PFixed.I0, PFixed.I0M)]) mixed Try.func10 (by kernel_rfl) rfl rfl (all_cons PRaw_kept all_nil) PFixed_vc (Eq.mpr PFixed.den PFixed.pure)
noncomputable def PNum_cx : Cx := { P := Try.prog, fn := Try.f12, G := tables, sigs := sigsOf 1 [(10, PFixed.sig), (29, Width.sig)], own := PNum.sig.toSigR, anns := [] }
theorem PNum_vc : vcOf' PNum_cx = .ok PNum.vc := by kernel_rfl
theorem PNum_kept : Kept Try.prog tables 12 PNum.sig := keeps (cx := PNum_cx) (l := [(10, PFixed.sig), (29, Width.sig)]) (invs := []) mixed Try.func12 (by kernel_rfl) rfl rfl (all_cons PFixed_kept (all_cons Width_kept all_nil)) PNum_vc (Eq.mpr PNum.den PNum.pure)
noncomputable def WBytes_cx : Cx := { P := Try.prog, fn := Try.f25, G := tables, sigs := sigsOf 1 [], own := WBytes.sig.toSigR, anns := [] }
theorem WBytes_vc : vcOf' WBytes_cx = .ok WBytes.vc := by kernel_rfl
theorem WBytes_kept : Kept Try.prog tables 25 WBytes.sig := keeps (cx := WBytes_cx) (l := []) (invs := []) mixed Try.func25 (by kernel_rfl) rfl rfl all_nil WBytes_vc (Eq.mpr WBytes.den WBytes.pure)
noncomputable def PErr_cx : Cx := { P := Try.prog, fn := Try.f18, G := tables, sigs := sigsOf 1 [], own := PErr.sig.toSigR, anns := [] }
theorem PErr_vc : vcOf' PErr_cx = .ok PErr.vc := by kernel_rfl
theorem PErr_kept : Kept Try.prog tables 18 PErr.sig := keeps (cx := PErr_cx) (l := []) (invs := []) mixed Try.func18 (by kernel_rfl) rfl rfl all_nil PErr_vc (Eq.mpr PErr.den PErr.pure)
noncomputable def PAt_cx : Cx := { P := Try.prog, fn := Try.f17, G := tables, sigs := sigsOf 1 [], own := PAt.sig.toSigR, anns := [] }
theorem PAt_vc : vcOf' PAt_cx = .ok PAt.vc := by kernel_rfl
theorem PAt_kept : Kept Try.prog tables 17 PAt.sig := keeps (cx := PAt_cx) (l := []) (invs := []) mixed Try.func17 (by kernel_rfl) rfl rfl all_nil PAt_vc (Eq.mpr PAt.den PAt.pure)
noncomputable def Awake04_cx : Cx := { P := Try.prog, fn := Try.f8, G := tables, sigs := sigsOf 1 [(27, WNum.sig), (28, WText.sig), (7, PRead.sig), (12, PNum.sig), (25, WBytes.sig), (18, PErr.sig), (17, PAt.sig)], own := Awake04.sig.toSigR, anns := [] }
theorem Awake04_vc : vcOf' Awake04_cx = .ok Awake04.vc := by kernel_rfl
theorem Awake04_kept : Kept Try.prog tables 8 Awake04.sig := keeps (cx := Awake04_cx) (l := [(27, WNum.sig), (28, WText.sig), (7, PRead.sig), (12, PNum.sig), (25, WBytes.sig), (18, PErr.sig), (17, PAt.sig)]) (invs := []) mixed Try.func8 (by kernel_rfl) rfl rfl (all_cons WNum_kept (all_cons WText_kept (all_cons PRead_kept (all_cons PNum_kept (all_cons WBytes_kept (all_cons PErr_kept (all_cons PAt_kept all_nil))))))) Awake04_vc (Eq.mpr Awake04.den Awake04.pure)
noncomputable def cRaw_cx : Cx := { P := Try.prog, fn := Try.f15, G := tables, sigs := sigsOf 1 [], own := cRaw.sig.toSigR, anns := [] }
theorem cRaw_vc : vcOf' cRaw_cx = .ok cRaw.vc := by kernel_rfl
theorem cRaw_kept : Kept Try.prog tables 15 cRaw.sig := keeps (cx := cRaw_cx) (l := []) (invs := []) mixed Try.func15 (by kernel_rfl) rfl rfl all_nil cRaw_vc (Eq.mpr cRaw.den cRaw.pure)
noncomputable def cFixed_cx : Cx := { P := Try.prog, fn := Try.f9, G := tables, sigs := sigsOf 1 [(15, cRaw.sig)], own := cFixed.sig.toSigR, anns := [{ key := 4, j := 0, watch := [], havoc := [] }] }
theorem cFixed_vc : vcOf' cFixed_cx = .ok cFixed.vc := by kernel_rfl
theorem cFixed_kept : Kept Try.prog tables 9 cFixed.sig := keeps (cx := cFixed_cx) (l := [(15, cRaw.sig)]) (invs := [(cFixed.I0, cFixed.I0M)]) mixed Try.func9 (by kernel_rfl) rfl rfl (all_cons cRaw_kept all_nil) cFixed_vc (Eq.mpr cFixed.den cFixed.pure)
noncomputable def RBits_cx : Cx := { P := Try.prog, fn := Try.f34, G := tables, sigs := sigsOf 1 [], own := RBits.sig.toSigR, anns := [{ key := 3, j := 0, watch := [], havoc := [] }] }
theorem RBits_vc : vcOf' RBits_cx = .ok RBits.vc := by kernel_rfl
theorem RBits_kept : Kept Try.prog tables 34 RBits.sig := keeps (cx := RBits_cx) (l := []) (invs := [(RBits.I0, RBits.I0M)]) mixed Try.func34 (by kernel_rfl) rfl rfl all_nil RBits_vc (Eq.mpr RBits.den RBits.pure)
noncomputable def RValue_cx : Cx := { P := Try.prog, fn := Try.f35, G := tables, sigs := sigsOf 1 [], own := RValue.sig.toSigR, anns := [{ key := 3, j := 0, watch := [], havoc := [] }] }
theorem RValue_vc : vcOf' RValue_cx = .ok RValue.vc := by kernel_rfl
theorem RValue_kept : Kept Try.prog tables 35 RValue.sig := keeps (cx := RValue_cx) (l := []) (invs := [(RValue.I0, RValue.I0M)]) mixed Try.func35 (by kernel_rfl) rfl rfl all_nil RValue_vc (Eq.mpr RValue.den RValue.pure)
noncomputable def RField_cx : Cx := { P := Try.prog, fn := Try.f30, G := tables, sigs := sigsOf 1 [(34, RBits.sig), (35, RValue.sig)], own := RField.sig.toSigR, anns := [] }
theorem RField_vc : vcOf' RField_cx = .ok RField.vc := by kernel_rfl
theorem RField_kept : Kept Try.prog tables 30 RField.sig := keeps (cx := RField_cx) (l := [(34, RBits.sig), (35, RValue.sig)]) (invs := []) mixed Try.func30 (by kernel_rfl) rfl rfl (all_cons RBits_kept (all_cons RValue_kept all_nil)) RField_vc (Eq.mpr RField.den RField.pure)
noncomputable def RBytes_cx : Cx := { P := Try.prog, fn := Try.f33, G := tables, sigs := sigsOf 1 [], own := RBytes.sig.toSigR, anns := [{ key := 3, j := 0, watch := [], havoc := [] }] }
theorem RBytes_vc : vcOf' RBytes_cx = .ok RBytes.vc := by kernel_rfl
theorem RBytes_kept : Kept Try.prog tables 33 RBytes.sig := keeps (cx := RBytes_cx) (l := []) (invs := [(RBytes.I0, RBytes.I0M)]) mixed Try.func33 (by kernel_rfl) rfl rfl all_nil RBytes_vc (Eq.mpr RBytes.den RBytes.pure)
noncomputable def RFixed_cx : Cx := { P := Try.prog, fn := Try.f26, G := tables, sigs := sigsOf 1 [(33, RBytes.sig)], own := RFixed.sig.toSigR, anns := [{ key := 3, j := 0, watch := [], havoc := [] }] }
theorem RFixed_vc : vcOf' RFixed_cx = .ok RFixed.vc := by kernel_rfl
theorem RFixed_kept : Kept Try.prog tables 26 RFixed.sig := keeps (cx := RFixed_cx) (l := [(33, RBytes.sig)]) (invs := [(RFixed.I0, RFixed.I0M)]) mixed Try.func26 (by kernel_rfl) rfl rfl (all_cons RBytes_kept all_nil) RFixed_vc (Eq.mpr RFixed.den RFixed.pure)
noncomputable def RNum_cx : Cx := { P := Try.prog, fn := Try.f21, G := tables, sigs := sigsOf 1 [(30, RField.sig), (26, RFixed.sig)], own := RNum.sig.toSigR, anns := [{ key := 5, j := 0, watch := [], havoc := [] }] }
theorem RNum_vc : vcOf' RNum_cx = .ok RNum.vc := by kernel_rfl
theorem RNum_kept : Kept Try.prog tables 21 RNum.sig := keeps (cx := RNum_cx) (l := [(30, RField.sig), (26, RFixed.sig)]) (invs := [(RNum.I0, RNum.I0M)]) mixed Try.func21 (by kernel_rfl) rfl rfl (all_cons RField_kept (all_cons RFixed_kept all_nil)) RNum_vc (Eq.mpr RNum.den RNum.pure)
noncomputable def cNum_cx : Cx := { P := Try.prog, fn := Try.f11, G := tables, sigs := sigsOf 1 [(9, cFixed.sig), (21, RNum.sig)], own := cNum.sig.toSigR, anns := [] }
theorem cNum_vc : vcOf' cNum_cx = .ok cNum.vc := by kernel_rfl
theorem cNum_kept : Kept Try.prog tables 11 cNum.sig := keeps (cx := cNum_cx) (l := [(9, cFixed.sig), (21, RNum.sig)]) (invs := []) mixed Try.func11 (by kernel_rfl) rfl rfl (all_cons cFixed_kept (all_cons RNum_kept all_nil)) cNum_vc (Eq.mpr cNum.den cNum.pure)
noncomputable def cText_cx : Cx := { P := Try.prog, fn := Try.f13, G := tables, sigs := sigsOf 1 [(11, cNum.sig), (15, cRaw.sig)], own := cText.sig.toSigR, anns := [] }
theorem cText_vc : vcOf' cText_cx = .ok cText.vc := by kernel_rfl
theorem cText_kept : Kept Try.prog tables 13 cText.sig := keeps (cx := cText_cx) (l := [(11, cNum.sig), (15, cRaw.sig)]) (invs := []) mixed Try.func13 (by kernel_rfl) rfl rfl (all_cons cNum_kept (all_cons cRaw_kept all_nil)) cText_vc (Eq.mpr cText.den cText.pure)
noncomputable def PText_cx : Cx := { P := Try.prog, fn := Try.f14, G := tables, sigs := sigsOf 1 [(12, PNum.sig), (16, PRaw.sig)], own := PText.sig.toSigR, anns := [] }
theorem PText_vc : vcOf' PText_cx = .ok PText.vc := by kernel_rfl
theorem PText_kept : Kept Try.prog tables 14 PText.sig := keeps (cx := PText_cx) (l := [(12, PNum.sig), (16, PRaw.sig)]) (invs := []) mixed Try.func14 (by kernel_rfl) rfl rfl (all_cons PNum_kept (all_cons PRaw_kept all_nil)) PText_vc (Eq.mpr PText.den PText.pure)
noncomputable def cDone_cx : Cx := { P := Try.prog, fn := Try.f19, G := tables, sigs := sigsOf 1 [], own := cDone.sig.toSigR, anns := [] }
theorem cDone_vc : vcOf' cDone_cx = .ok cDone.vc := by kernel_rfl
theorem cDone_kept : Kept Try.prog tables 19 cDone.sig := keeps (cx := cDone_cx) (l := []) (invs := []) mixed Try.func19 (by kernel_rfl) rfl rfl all_nil cDone_vc (Eq.mpr cDone.den cDone.pure)
noncomputable def PFail_cx : Cx := { P := Try.prog, fn := Try.f23, G := tables, sigs := sigsOf 1 [], own := PFail.sig.toSigR, anns := [] }
theorem PFail_vc : vcOf' PFail_cx = .ok PFail.vc := by kernel_rfl
theorem PFail_kept : Kept Try.prog tables 23 PFail.sig := keeps (cx := PFail_cx) (l := []) (invs := []) mixed Try.func23 (by kernel_rfl) rfl rfl all_nil PFail_vc (Eq.mpr PFail.den PFail.pure)
noncomputable def PDone_cx : Cx := { P := Try.prog, fn := Try.f20, G := tables, sigs := sigsOf 1 [(23, PFail.sig)], own := PDone.sig.toSigR, anns := [] }
theorem PDone_vc : vcOf' PDone_cx = .ok PDone.vc := by kernel_rfl
theorem PDone_kept : Kept Try.prog tables 20 PDone.sig := keeps (cx := PDone_cx) (l := [(23, PFail.sig)]) (invs := []) mixed Try.func20 (by kernel_rfl) rfl rfl (all_cons PFail_kept all_nil) PDone_vc (Eq.mpr PDone.den PDone.pure)
noncomputable def LPackReads_cx : Cx := { P := Try.prog, fn := Try.f3, G := tables, sigs := sigsOf 1 [(6, Cut.sig), (7, PRead.sig), (8, Awake04.sig), (9, cFixed.sig), (10, PFixed.sig), (11, cNum.sig), (12, PNum.sig), (13, cText.sig), (14, PText.sig), (15, cRaw.sig), (16, PRaw.sig), (17, PAt.sig), (18, PErr.sig), (19, cDone.sig), (20, PDone.sig)], own := LPackReads.sig.toSigR, anns := [{ key := 7, j := 0, watch := [], havoc := [0, 1] }] }
theorem LPackReads_vc : vcOf' LPackReads_cx = .ok LPackReads.vc := by kernel_rfl
theorem LPackReads_kept : Kept Try.prog tables 3 LPackReads.sig := keeps (cx := LPackReads_cx) (l := [(6, Cut.sig), (7, PRead.sig), (8, Awake04.sig), (9, cFixed.sig), (10, PFixed.sig), (11, cNum.sig), (12, PNum.sig), (13, cText.sig), (14, PText.sig), (15, cRaw.sig), (16, PRaw.sig), (17, PAt.sig), (18, PErr.sig), (19, cDone.sig), (20, PDone.sig)]) (invs := [(LPackReads.I0, LPackReads.I0M)]) mixed Try.func3 (by kernel_rfl) rfl rfl (all_cons Cut_kept (all_cons PRead_kept (all_cons Awake04_kept (all_cons cFixed_kept (all_cons PFixed_kept (all_cons cNum_kept (all_cons PNum_kept (all_cons cText_kept (all_cons PText_kept (all_cons cRaw_kept (all_cons PRaw_kept (all_cons PAt_kept (all_cons PErr_kept (all_cons cDone_kept (all_cons PDone_kept all_nil))))))))))))))) LPackReads_vc (Eq.mpr LPackReads.den LPackReads.pure)
noncomputable def RText_cx : Cx := { P := Try.prog, fn := Try.f22, G := tables, sigs := sigsOf 1 [(21, RNum.sig)], own := RText.sig.toSigR, anns := [] }
theorem RText_vc : vcOf' RText_cx = .ok RText.vc := by kernel_rfl
theorem RText_kept : Kept Try.prog tables 22 RText.sig := keeps (cx := RText_cx) (l := [(21, RNum.sig)]) (invs := []) mixed Try.func22 (by kernel_rfl) rfl rfl (all_cons RNum_kept all_nil) RText_vc (Eq.mpr RText.den RText.pure)
noncomputable def LPackOne_cx : Cx := { P := Try.prog, fn := Try.f4, G := tables, sigs := sigsOf 1 [(6, Cut.sig), (7, PRead.sig), (12, PNum.sig), (20, PDone.sig), (21, RNum.sig), (14, PText.sig), (22, RText.sig), (23, PFail.sig), (17, PAt.sig), (18, PErr.sig), (8, Awake04.sig)], own := LPackOne.sig.toSigR, anns := [] }
theorem LPackOne_vc : vcOf' LPackOne_cx = .ok LPackOne.vc := by kernel_rfl
theorem LPackOne_kept : Kept Try.prog tables 4 LPackOne.sig := keeps (cx := LPackOne_cx) (l := [(6, Cut.sig), (7, PRead.sig), (12, PNum.sig), (20, PDone.sig), (21, RNum.sig), (14, PText.sig), (22, RText.sig), (23, PFail.sig), (17, PAt.sig), (18, PErr.sig), (8, Awake04.sig)]) (invs := []) mixed Try.func4 (by kernel_rfl) rfl rfl (all_cons Cut_kept (all_cons PRead_kept (all_cons PNum_kept (all_cons PDone_kept (all_cons RNum_kept (all_cons PText_kept (all_cons RText_kept (all_cons PFail_kept (all_cons PAt_kept (all_cons PErr_kept (all_cons Awake04_kept all_nil))))))))))) LPackOne_vc (Eq.mpr LPackOne.den LPackOne.pure)
noncomputable def WRaw_cx : Cx := { P := Try.prog, fn := Try.f32, G := tables, sigs := sigsOf 1 [], own := WRaw.sig.toSigR, anns := [] }
theorem WRaw_vc : vcOf' WRaw_cx = .ok WRaw.vc := by kernel_rfl
theorem WRaw_kept : Kept Try.prog tables 32 WRaw.sig := keeps (cx := WRaw_cx) (l := []) (invs := []) mixed Try.func32 (by kernel_rfl) rfl rfl all_nil WRaw_vc (Eq.mpr WRaw.den WRaw.pure)
noncomputable def Put_cx : Cx := { P := Try.prog, fn := Try.f24, G := tables, sigs := sigsOf 1 [(6, Cut.sig), (31, WFixed.sig), (26, RFixed.sig), (27, WNum.sig), (21, RNum.sig), (28, WText.sig), (22, RText.sig), (32, WRaw.sig)], own := Put.sig.toSigR, anns := [] }
theorem Put_vc : vcOf' Put_cx = .ok Put.vc := by kernel_rfl
theorem Put_kept : Kept Try.prog tables 24 Put.sig := keeps (cx := Put_cx) (l := [(6, Cut.sig), (31, WFixed.sig), (26, RFixed.sig), (27, WNum.sig), (21, RNum.sig), (28, WText.sig), (22, RText.sig), (32, WRaw.sig)]) (invs := []) mixed Try.func24 (by kernel_rfl) rfl rfl (all_cons Cut_kept (all_cons WFixed_kept (all_cons RFixed_kept (all_cons WNum_kept (all_cons RNum_kept (all_cons WText_kept (all_cons RText_kept (all_cons WRaw_kept all_nil)))))))) Put_vc (Eq.mpr Put.den Put.pure)
noncomputable def LPackBack_cx : Cx := { P := Try.prog, fn := Try.f5, G := tables, sigs := sigsOf 1 [(24, Put.sig), (25, WBytes.sig), (7, PRead.sig), (6, Cut.sig), (10, PFixed.sig), (26, RFixed.sig), (12, PNum.sig), (14, PText.sig), (16, PRaw.sig), (8, Awake04.sig), (20, PDone.sig)], own := LPackBack.sig.toSigR, anns := [{ key := 3, j := 0, watch := [], havoc := [0] }, { key := 8, j := 1, watch := [], havoc := [0] }] }
theorem LPackBack_vc : vcOf' LPackBack_cx = .ok LPackBack.vc := by kernel_rfl
theorem LPackBack_kept : Kept Try.prog tables 5 LPackBack.sig := keeps (cx := LPackBack_cx) (l := [(24, Put.sig), (25, WBytes.sig), (7, PRead.sig), (6, Cut.sig), (10, PFixed.sig), (26, RFixed.sig), (12, PNum.sig), (14, PText.sig), (16, PRaw.sig), (8, Awake04.sig), (20, PDone.sig)]) (invs := [(LPackBack.I0, LPackBack.I0M), (LPackBack.I1, LPackBack.I1M)]) mixed Try.func5 (by kernel_rfl) rfl rfl (all_cons Put_kept (all_cons WBytes_kept (all_cons PRead_kept (all_cons Cut_kept (all_cons PFixed_kept (all_cons RFixed_kept (all_cons PNum_kept (all_cons PText_kept (all_cons PRaw_kept (all_cons Awake04_kept (all_cons PDone_kept all_nil))))))))))) LPackBack_vc (Eq.mpr LPackBack.den LPackBack.pure)
end Go.Proofs.Ytlcidbiabfjapaa.PackbKeep
