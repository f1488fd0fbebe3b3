/-
  Each of these functions keeps its contract, in the program of this seat.
-/
import Derived.Test.YtbfbfnbjbfdpaaaChecked
import Derived.Test.YtbfbfnbjbfdpaaaPack
set_option linter.unusedVariables false
namespace Go.Proofs.Ytbfbfnbjbfdpaaa.PackKeep
open Go.Vc
theorem mixed : Try.prog.follows .mixedOrders = true := by kernel_rfl
theorem all_nil {p : FuncId × Sig → Prop} : ∀ x ∈ ([] : List (FuncId × Sig)), p x := by intro x hx; cases hx
theorem all_cons {p : FuncId × Sig → Prop} {a : FuncId × Sig} {l : List (FuncId × Sig)} (h : p a) (h' : ∀ x ∈ l, p x) : ∀ x ∈ a :: l, p x := by
  intro x hx
  rcases List.mem_cons.1 hx with rfl | hx
  · exact h
  · exact h' x hx
def tables : List Glob := []
noncomputable def Width_cx : Cx := { P := Try.prog, fn := Try.f50, G := tables, sigs := sigsOf 1 [], own := Width.sig.toSigR, anns := [{ key := 2, j := 0, watch := [], havoc := [] }] }
theorem Width_vc : vcOf' Width_cx = .ok Width.vc := by kernel_rfl
theorem Width_kept : Kept Try.prog tables 50 Width.sig := keeps (cx := Width_cx) (l := []) (invs := [(Width.I0, Width.I0M)]) mixed Try.func50 (by kernel_rfl) rfl rfl all_nil Width_vc (Eq.mpr Width.den Width.pure)
noncomputable def Low_cx : Cx := { P := Try.prog, fn := Try.f24, G := tables, sigs := sigsOf 1 [], own := Low.sig.toSigR, anns := [] }
theorem Low_vc : vcOf' Low_cx = .ok Low.vc := by kernel_rfl
theorem Low_kept : Kept Try.prog tables 24 Low.sig := keeps (cx := Low_cx) (l := []) (invs := []) mixed Try.func24 (by kernel_rfl) rfl rfl all_nil Low_vc (Eq.mpr Low.den Low.pure)
noncomputable def Field_cx : Cx := { P := Try.prog, fn := Try.f23, G := tables, sigs := sigsOf 1 [(24, Low.sig)], own := Field.sig.toSigR, anns := [] }
theorem Field_vc : vcOf' Field_cx = .ok Field.vc := by kernel_rfl
theorem Field_kept : Kept Try.prog tables 23 Field.sig := keeps (cx := Field_cx) (l := [(24, Low.sig)]) (invs := []) mixed Try.func23 (by kernel_rfl) rfl rfl (all_cons Low_kept all_nil) Field_vc (Eq.mpr Field.den Field.pure)
noncomputable def WFixed_cx : Cx := { P := Try.prog, fn := Try.f51, G := tables, sigs := sigsOf 1 [(23, Field.sig)], own := WFixed.sig.toSigR, anns := [{ key := 2, j := 0, watch := [], havoc := [0] }] }
theorem WFixed_vc : vcOf' WFixed_cx = .ok WFixed.vc := by kernel_rfl
theorem WFixed_kept : Kept Try.prog tables 51 WFixed.sig := keeps (cx := WFixed_cx) (l := [(23, Field.sig)]) (invs := [(WFixed.I0, WFixed.I0M)]) mixed Try.func51 (by kernel_rfl) rfl rfl (all_cons Field_kept all_nil) WFixed_vc (Eq.mpr WFixed.den WFixed.pure)
noncomputable def WNum_cx : Cx := { P := Try.prog, fn := Try.f44, G := tables, sigs := sigsOf 1 [(50, Width.sig), (51, WFixed.sig)], own := WNum.sig.toSigR, anns := [] }
theorem WNum_vc : vcOf' WNum_cx = .ok WNum.vc := by kernel_rfl
theorem WNum_kept : Kept Try.prog tables 44 WNum.sig := keeps (cx := WNum_cx) (l := [(50, Width.sig), (51, WFixed.sig)]) (invs := []) mixed Try.func44 (by kernel_rfl) rfl rfl (all_cons Width_kept (all_cons WFixed_kept all_nil)) WNum_vc (Eq.mpr WNum.den WNum.pure)
noncomputable def WBytes_cx : Cx := { P := Try.prog, fn := Try.f45, G := tables, sigs := sigsOf 1 [], own := WBytes.sig.toSigR, anns := [] }
theorem WBytes_vc : vcOf' WBytes_cx = .ok WBytes.vc := by kernel_rfl
theorem WBytes_kept : Kept Try.prog tables 45 WBytes.sig := keeps (cx := WBytes_cx) (l := []) (invs := []) mixed Try.func45 (by kernel_rfl) rfl rfl all_nil WBytes_vc (Eq.mpr WBytes.den WBytes.pure)
noncomputable def WText_cx : Cx := { P := Try.prog, fn := Try.f52, G := tables, sigs := sigsOf 1 [(44, WNum.sig)], own := WText.sig.toSigR, anns := [] }
theorem WText_vc : vcOf' WText_cx = .ok WText.vc := by kernel_rfl
theorem WText_kept : Kept Try.prog tables 52 WText.sig := keeps (cx := WText_cx) (l := [(44, WNum.sig)]) (invs := []) mixed Try.func52 (by kernel_rfl) rfl rfl (all_cons WNum_kept all_nil) WText_vc (Eq.mpr WText.den WText.pure)
noncomputable def PRead_cx : Cx := { P := Try.prog, fn := Try.f53, G := tables, sigs := sigsOf 1 [], own := PRead.sig.toSigR, anns := [] }
theorem PRead_vc : vcOf' PRead_cx = .ok PRead.vc := by kernel_rfl
theorem PRead_kept : Kept Try.prog tables 53 PRead.sig := keeps (cx := PRead_cx) (l := []) (invs := []) mixed Try.func53 (by kernel_rfl) rfl rfl all_nil PRead_vc (Eq.mpr PRead.den PRead.pure)
noncomputable def PRaw_cx : Cx := { P := Try.prog, fn := Try.f62, G := tables, sigs := sigsOf 1 [], own := PRaw.sig.toSigR, anns := [] }
theorem PRaw_vc : vcOf' PRaw_cx = .ok PRaw.vc := by kernel_rfl
theorem PRaw_kept : Kept Try.prog tables 62 PRaw.sig := keeps (cx := PRaw_cx) (l := []) (invs := []) mixed Try.func62 (by kernel_rfl) rfl rfl all_nil PRaw_vc (Eq.mpr PRaw.den PRaw.pure)
noncomputable def PFixed_cx : Cx := { P := Try.prog, fn := Try.f61, G := tables, sigs := sigsOf 1 [(62, PRaw.sig)], own := PFixed.sig.toSigR, anns := [{ key := 3, j := 0, watch := [], havoc := [] }] }
theorem PFixed_vc : vcOf' PFixed_cx = .ok PFixed.vc := by kernel_rfl
theorem PFixed_kept : Kept Try.prog tables 61 PFixed.sig := keeps (cx := PFixed_cx) (l := [(62, PRaw.sig)]) (invs := [(PFixed.I0, PFixed.I0M)]) mixed Try.func61 (by kernel_rfl) rfl rfl (all_cons PRaw_kept all_nil) PFixed_vc (Eq.mpr PFixed.den PFixed.pure)
noncomputable def PNum_cx : Cx := { P := Try.prog, fn := Try.f54, G := tables, sigs := sigsOf 1 [(61, PFixed.sig), (50, Width.sig)], own := PNum.sig.toSigR, anns := [] }
theorem PNum_vc : vcOf' PNum_cx = .ok PNum.vc := by kernel_rfl
theorem PNum_kept : Kept Try.prog tables 54 PNum.sig := keeps (cx := PNum_cx) (l := [(61, PFixed.sig), (50, Width.sig)]) (invs := []) mixed Try.func54 (by kernel_rfl) rfl rfl (all_cons PFixed_kept (all_cons Width_kept all_nil)) PNum_vc (Eq.mpr PNum.den PNum.pure)
noncomputable def PErr_cx : Cx := { P := Try.prog, fn := Try.f55, G := tables, sigs := sigsOf 1 [], own := PErr.sig.toSigR, anns := [] }
theorem PErr_vc : vcOf' PErr_cx = .ok PErr.vc := by kernel_rfl
theorem PErr_kept : Kept Try.prog tables 55 PErr.sig := keeps (cx := PErr_cx) (l := []) (invs := []) mixed Try.func55 (by kernel_rfl) rfl rfl all_nil PErr_vc (Eq.mpr PErr.den PErr.pure)
noncomputable def PAt_cx : Cx := { P := Try.prog, fn := Try.f56, G := tables, sigs := sigsOf 1 [], own := PAt.sig.toSigR, anns := [] }
theorem PAt_vc : vcOf' PAt_cx = .ok PAt.vc := by kernel_rfl
theorem PAt_kept : Kept Try.prog tables 56 PAt.sig := keeps (cx := PAt_cx) (l := []) (invs := []) mixed Try.func56 (by kernel_rfl) rfl rfl all_nil PAt_vc (Eq.mpr PAt.den PAt.pure)
noncomputable def Awake04_cx : Cx := { P := Try.prog, fn := Try.f46, G := tables, sigs := sigsOf 1 [(44, WNum.sig), (52, WText.sig), (53, PRead.sig), (54, PNum.sig), (45, WBytes.sig), (55, PErr.sig), (56, PAt.sig)], own := Awake04.sig.toSigR, anns := [] }
theorem Awake04_vc : vcOf' Awake04_cx = .ok Awake04.vc := by kernel_rfl
theorem Awake04_kept : Kept Try.prog tables 46 Awake04.sig := keeps (cx := Awake04_cx) (l := [(44, WNum.sig), (52, WText.sig), (53, PRead.sig), (54, PNum.sig), (45, WBytes.sig), (55, PErr.sig), (56, PAt.sig)]) (invs := []) mixed Try.func46 (by kernel_rfl) rfl rfl (all_cons WNum_kept (all_cons WText_kept (all_cons PRead_kept (all_cons PNum_kept (all_cons WBytes_kept (all_cons PErr_kept (all_cons PAt_kept all_nil))))))) Awake04_vc (Eq.mpr Awake04.den Awake04.pure)
noncomputable def LPackOrder_cx : Cx := { P := Try.prog, fn := Try.f8, G := tables, sigs := sigsOf 1 [(44, WNum.sig), (45, WBytes.sig), (46, Awake04.sig)], own := LPackOrder.sig.toSigR, anns := [] }
theorem LPackOrder_vc : vcOf' LPackOrder_cx = .ok LPackOrder.vc := by kernel_rfl
theorem LPackOrder_kept : Kept Try.prog tables 8 LPackOrder.sig := keeps (cx := LPackOrder_cx) (l := [(44, WNum.sig), (45, WBytes.sig), (46, Awake04.sig)]) (invs := []) mixed Try.func8 (by kernel_rfl) rfl rfl (all_cons WNum_kept (all_cons WBytes_kept (all_cons Awake04_kept all_nil))) LPackOrder_vc (Eq.mpr LPackOrder.den LPackOrder.pure)
noncomputable def Cut_cx : Cx := { P := Try.prog, fn := Try.f38, G := tables, sigs := sigsOf 1 [], own := Cut.sig.toSigR, anns := [] }
theorem Cut_vc : vcOf' Cut_cx = .ok Cut.vc := by kernel_rfl
theorem Cut_kept : Kept Try.prog tables 38 Cut.sig := keeps (cx := Cut_cx) (l := []) (invs := []) mixed Try.func38 (by kernel_rfl) rfl rfl all_nil Cut_vc (Eq.mpr Cut.den Cut.pure)
noncomputable def RBytes_cx : Cx := { P := Try.prog, fn := Try.f40, G := tables, sigs := sigsOf 1 [], own := RBytes.sig.toSigR, anns := [{ key := 3, j := 0, watch := [], havoc := [] }] }
theorem RBytes_vc : vcOf' RBytes_cx = .ok RBytes.vc := by kernel_rfl
theorem RBytes_kept : Kept Try.prog tables 40 RBytes.sig := keeps (cx := RBytes_cx) (l := []) (invs := [(RBytes.I0, RBytes.I0M)]) mixed Try.func40 (by kernel_rfl) rfl rfl all_nil RBytes_vc (Eq.mpr RBytes.den RBytes.pure)
noncomputable def RFixed_cx : Cx := { P := Try.prog, fn := Try.f57, G := tables, sigs := sigsOf 1 [(40, RBytes.sig)], own := RFixed.sig.toSigR, anns := [{ key := 3, j := 0, watch := [], havoc := [] }] }
theorem RFixed_vc : vcOf' RFixed_cx = .ok RFixed.vc := by kernel_rfl
theorem RFixed_kept : Kept Try.prog tables 57 RFixed.sig := keeps (cx := RFixed_cx) (l := [(40, RBytes.sig)]) (invs := [(RFixed.I0, RFixed.I0M)]) mixed Try.func57 (by kernel_rfl) rfl rfl (all_cons RBytes_kept all_nil) RFixed_vc (Eq.mpr RFixed.den RFixed.pure)
noncomputable def RBits_cx : Cx := { P := Try.prog, fn := Try.f48, G := tables, sigs := sigsOf 1 [], own := RBits.sig.toSigR, anns := [{ key := 3, j := 0, watch := [], havoc := [] }] }
theorem RBits_vc : vcOf' RBits_cx = .ok RBits.vc := by kernel_rfl
theorem RBits_kept : Kept Try.prog tables 48 RBits.sig := keeps (cx := RBits_cx) (l := []) (invs := [(RBits.I0, RBits.I0M)]) mixed Try.func48 (by kernel_rfl) rfl rfl all_nil RBits_vc (Eq.mpr RBits.den RBits.pure)
noncomputable def RValue_cx : Cx := { P := Try.prog, fn := Try.f49, G := tables, sigs := sigsOf 1 [], own := RValue.sig.toSigR, anns := [{ key := 3, j := 0, watch := [], havoc := [] }] }
theorem RValue_vc : vcOf' RValue_cx = .ok RValue.vc := by kernel_rfl
theorem RValue_kept : Kept Try.prog tables 49 RValue.sig := keeps (cx := RValue_cx) (l := []) (invs := [(RValue.I0, RValue.I0M)]) mixed Try.func49 (by kernel_rfl) rfl rfl all_nil RValue_vc (Eq.mpr RValue.den RValue.pure)
noncomputable def RField_cx : Cx := { P := Try.prog, fn := Try.f31, G := tables, sigs := sigsOf 1 [(48, RBits.sig), (49, RValue.sig)], own := RField.sig.toSigR, anns := [] }
theorem RField_vc : vcOf' RField_cx = .ok RField.vc := by kernel_rfl
theorem RField_kept : Kept Try.prog tables 31 RField.sig := keeps (cx := RField_cx) (l := [(48, RBits.sig), (49, RValue.sig)]) (invs := []) mixed Try.func31 (by kernel_rfl) rfl rfl (all_cons RBits_kept (all_cons RValue_kept all_nil)) RField_vc (Eq.mpr RField.den RField.pure)
noncomputable def RNum_cx : Cx := { P := Try.prog, fn := Try.f58, G := tables, sigs := sigsOf 1 [(31, RField.sig), (57, RFixed.sig)], own := RNum.sig.toSigR, anns := [{ key := 5, j := 0, watch := [], havoc := [] }] }
theorem RNum_vc : vcOf' RNum_cx = .ok RNum.vc := by kernel_rfl
theorem RNum_kept : Kept Try.prog tables 58 RNum.sig := keeps (cx := RNum_cx) (l := [(31, RField.sig), (57, RFixed.sig)]) (invs := [(RNum.I0, RNum.I0M)]) mixed Try.func58 (by kernel_rfl) rfl rfl (all_cons RField_kept (all_cons RFixed_kept all_nil)) RNum_vc (Eq.mpr RNum.den RNum.pure)
noncomputable def RText_cx : Cx := { P := Try.prog, fn := Try.f59, G := tables, sigs := sigsOf 1 [(58, RNum.sig)], own := RText.sig.toSigR, anns := [] }
theorem RText_vc : vcOf' RText_cx = .ok RText.vc := by kernel_rfl
theorem RText_kept : Kept Try.prog tables 59 RText.sig := keeps (cx := RText_cx) (l := [(58, RNum.sig)]) (invs := []) mixed Try.func59 (by kernel_rfl) rfl rfl (all_cons RNum_kept all_nil) RText_vc (Eq.mpr RText.den RText.pure)
noncomputable def WRaw_cx : Cx := { P := Try.prog, fn := Try.f60, G := tables, sigs := sigsOf 1 [], own := WRaw.sig.toSigR, anns := [] }
theorem WRaw_vc : vcOf' WRaw_cx = .ok WRaw.vc := by kernel_rfl
theorem WRaw_kept : Kept Try.prog tables 60 WRaw.sig := keeps (cx := WRaw_cx) (l := []) (invs := []) mixed Try.func60 (by kernel_rfl) rfl rfl all_nil WRaw_vc (Eq.mpr WRaw.den WRaw.pure)
noncomputable def Put_cx : Cx := { P := Try.prog, fn := Try.f47, G := tables, sigs := sigsOf 1 [(38, Cut.sig), (51, WFixed.sig), (57, RFixed.sig), (44, WNum.sig), (58, RNum.sig), (52, WText.sig), (59, RText.sig), (60, WRaw.sig)], own := Put.sig.toSigR, anns := [] }
theorem Put_vc : vcOf' Put_cx = .ok Put.vc := by kernel_rfl
theorem Put_kept : Kept Try.prog tables 47 Put.sig := keeps (cx := Put_cx) (l := [(38, Cut.sig), (51, WFixed.sig), (57, RFixed.sig), (44, WNum.sig), (58, RNum.sig), (52, WText.sig), (59, RText.sig), (60, WRaw.sig)]) (invs := []) mixed Try.func47 (by kernel_rfl) rfl rfl (all_cons Cut_kept (all_cons WFixed_kept (all_cons RFixed_kept (all_cons WNum_kept (all_cons RNum_kept (all_cons WText_kept (all_cons RText_kept (all_cons WRaw_kept all_nil)))))))) Put_vc (Eq.mpr Put.den Put.pure)
noncomputable def LPackWrites_cx : Cx := { P := Try.prog, fn := Try.f9, G := tables, sigs := sigsOf 1 [(47, Put.sig), (46, Awake04.sig), (45, WBytes.sig)], own := LPackWrites.sig.toSigR, anns := [{ key := 4, j := 0, watch := [], havoc := [0] }] }
theorem LPackWrites_vc : vcOf' LPackWrites_cx = .ok LPackWrites.vc := by kernel_rfl
theorem LPackWrites_kept : Kept Try.prog tables 9 LPackWrites.sig := keeps (cx := LPackWrites_cx) (l := [(47, Put.sig), (46, Awake04.sig), (45, WBytes.sig)]) (invs := [(LPackWrites.I0, LPackWrites.I0M)]) mixed Try.func9 (by kernel_rfl) rfl rfl (all_cons Put_kept (all_cons Awake04_kept (all_cons WBytes_kept all_nil))) LPackWrites_vc (Eq.mpr LPackWrites.den LPackWrites.pure)
end Go.Proofs.Ytbfbfnbjbfdpaaa.PackKeep
