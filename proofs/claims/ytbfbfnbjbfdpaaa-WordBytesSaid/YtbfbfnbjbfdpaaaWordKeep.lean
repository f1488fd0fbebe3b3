/-
  Each of these functions keeps its contract, in the program of this seat.
-/
import Derived.Test.YtbfbfnbjbfdpaaaChecked
import Derived.Test.YtbfbfnbjbfdpaaaWord
set_option linter.unusedVariables false
namespace Go.Proofs.Ytbfbfnbjbfdpaaa.K
open Go.Vc
theorem mixed : Try.prog.follows .mixedOrders = true := by kernel_rfl
theorem all_nil {p : FuncId × Sig → Prop} : ∀ x ∈ ([] : List (FuncId × Sig)), p x := by intro x hx; cases hx
theorem all_cons {p : FuncId × Sig → Prop} {a : FuncId × Sig} {l : List (FuncId × Sig)} (h : p a) (h' : ∀ x ∈ l, p x) : ∀ x ∈ a :: l, p x := by
  intro x hx
  rcases List.mem_cons.1 hx with rfl | hx
  · exact h
  · exact h' x hx
noncomputable def Low_cx : Cx := { P := Try.prog, fn := Try.f24, G := [], sigs := sigsOf 1 [], own := Low.sig.toSigR, anns := [] }
theorem Low_vc : vcOf' Low_cx = .ok Low.vc := by kernel_rfl
theorem Low_kept : Kept Try.prog [] 24 Low.sig := keeps (cx := Low_cx) (l := []) (invs := []) mixed Try.func24 (by kernel_rfl) rfl rfl all_nil Low_vc (Eq.mpr Low.den Low.pure)
noncomputable def Signed_cx : Cx := { P := Try.prog, fn := Try.f26, G := [], sigs := sigsOf 1 [], own := Signed.sig.toSigR, anns := [] }
theorem Signed_vc : vcOf' Signed_cx = .ok Signed.vc := by kernel_rfl
theorem Signed_kept : Kept Try.prog [] 26 Signed.sig := keeps (cx := Signed_cx) (l := []) (invs := []) mixed Try.func26 (by kernel_rfl) rfl rfl all_nil Signed_vc (Eq.mpr Signed.den Signed.pure)
noncomputable def Bit_cx : Cx := { P := Try.prog, fn := Try.f22, G := [], sigs := sigsOf 1 [], own := Bit.sig.toSigR, anns := [] }
theorem Bit_vc : vcOf' Bit_cx = .ok Bit.vc := by kernel_rfl
theorem Bit_kept : Kept Try.prog [] 22 Bit.sig := keeps (cx := Bit_cx) (l := []) (invs := []) mixed Try.func22 (by kernel_rfl) rfl rfl all_nil Bit_vc (Eq.mpr Bit.den Bit.pure)
noncomputable def With_cx : Cx := { P := Try.prog, fn := Try.f29, G := [], sigs := sigsOf 1 [], own := With.sig.toSigR, anns := [] }
theorem With_vc : vcOf' With_cx = .ok With.vc := by kernel_rfl
theorem With_kept : Kept Try.prog [] 29 With.sig := keeps (cx := With_cx) (l := []) (invs := []) mixed Try.func29 (by kernel_rfl) rfl rfl all_nil With_vc (Eq.mpr With.den With.pure)
noncomputable def Field_cx : Cx := { P := Try.prog, fn := Try.f23, G := [], sigs := sigsOf 1 [(24, Low.sig)], own := Field.sig.toSigR, anns := [] }
theorem Field_vc : vcOf' Field_cx = .ok Field.vc := by kernel_rfl
theorem Field_kept : Kept Try.prog [] 23 Field.sig := keeps (cx := Field_cx) (l := [(24, Low.sig)]) (invs := []) mixed Try.func23 (by kernel_rfl) rfl rfl (all_cons Low_kept all_nil) Field_vc (Eq.mpr Field.den Field.pure)
noncomputable def Lay_cx : Cx := { P := Try.prog, fn := Try.f21, G := [], sigs := sigsOf 1 [(24, Low.sig)], own := Lay.sig.toSigR, anns := [] }
theorem Lay_vc : vcOf' Lay_cx = .ok Lay.vc := by kernel_rfl
theorem Lay_kept : Kept Try.prog [] 21 Lay.sig := keeps (cx := Lay_cx) (l := [(24, Low.sig)]) (invs := []) mixed Try.func21 (by kernel_rfl) rfl rfl (all_cons Low_kept all_nil) Lay_vc (Eq.mpr Lay.den Lay.pure)
noncomputable def Turn_cx : Cx := { P := Try.prog, fn := Try.f11, G := [], sigs := sigsOf 1 [], own := Turn.sig.toSigR, anns := [] }
theorem Turn_vc : vcOf' Turn_cx = .ok Turn.vc := by kernel_rfl
theorem Turn_kept : Kept Try.prog [] 11 Turn.sig := keeps (cx := Turn_cx) (l := []) (invs := []) mixed Try.func11 (by kernel_rfl) rfl rfl all_nil Turn_vc (Eq.mpr Turn.den Turn.pure)
noncomputable def Turn32_cx : Cx := { P := Try.prog, fn := Try.f13, G := [], sigs := sigsOf 1 [], own := Turn32.sig.toSigR, anns := [] }
theorem Turn32_vc : vcOf' Turn32_cx = .ok Turn32.vc := by kernel_rfl
theorem Turn32_kept : Kept Try.prog [] 13 Turn32.sig := keeps (cx := Turn32_cx) (l := []) (invs := []) mixed Try.func13 (by kernel_rfl) rfl rfl all_nil Turn32_vc (Eq.mpr Turn32.den Turn32.pure)
noncomputable def Left_cx : Cx := { P := Try.prog, fn := Try.f14, G := [], sigs := sigsOf 1 [], own := Left.sig.toSigR, anns := [] }
theorem Left_vc : vcOf' Left_cx = .ok Left.vc := by kernel_rfl
theorem Left_kept : Kept Try.prog [] 14 Left.sig := keeps (cx := Left_cx) (l := []) (invs := []) mixed Try.func14 (by kernel_rfl) rfl rfl all_nil Left_vc (Eq.mpr Left.den Left.pure)
noncomputable def Right_cx : Cx := { P := Try.prog, fn := Try.f16, G := [], sigs := sigsOf 1 [], own := Right.sig.toSigR, anns := [] }
theorem Right_vc : vcOf' Right_cx = .ok Right.vc := by kernel_rfl
theorem Right_kept : Kept Try.prog [] 16 Right.sig := keeps (cx := Right_cx) (l := []) (invs := []) mixed Try.func16 (by kernel_rfl) rfl rfl all_nil Right_vc (Eq.mpr Right.den Right.pure)
noncomputable def Count_cx : Cx := { P := Try.prog, fn := Try.f17, G := [], sigs := sigsOf 1 [], own := Count.sig.toSigR, anns := [{ key := 2, j := 0, watch := [], havoc := [] }] }
theorem Count_vc : vcOf' Count_cx = .ok Count.vc := by kernel_rfl
theorem Count_kept : Kept Try.prog [] 17 Count.sig := keeps (cx := Count_cx) (l := []) (invs := [(Count.I0, Count.I0M)]) mixed Try.func17 (by kernel_rfl) rfl rfl all_nil Count_vc (Eq.mpr Count.den Count.pure)
noncomputable def First_cx : Cx := { P := Try.prog, fn := Try.f19, G := [], sigs := sigsOf 1 [(17, Count.sig)], own := First.sig.toSigR, anns := [] }
theorem First_vc : vcOf' First_cx = .ok First.vc := by kernel_rfl
theorem First_kept : Kept Try.prog [] 19 First.sig := keeps (cx := First_cx) (l := [(17, Count.sig)]) (invs := []) mixed Try.func19 (by kernel_rfl) rfl rfl (all_cons Count_kept all_nil) First_vc (Eq.mpr First.den First.pure)
noncomputable def RBits_cx : Cx := { P := Try.prog, fn := Try.f48, G := [], sigs := sigsOf 1 [], own := RBits.sig.toSigR, anns := [{ key := 3, j := 0, watch := [], havoc := [] }] }
theorem RBits_vc : vcOf' RBits_cx = .ok RBits.vc := by kernel_rfl
theorem RBits_kept : Kept Try.prog [] 48 RBits.sig := keeps (cx := RBits_cx) (l := []) (invs := [(RBits.I0, RBits.I0M)]) mixed Try.func48 (by kernel_rfl) rfl rfl all_nil RBits_vc (Eq.mpr RBits.den RBits.pure)
noncomputable def RValue_cx : Cx := { P := Try.prog, fn := Try.f49, G := [], sigs := sigsOf 1 [], own := RValue.sig.toSigR, anns := [{ key := 3, j := 0, watch := [], havoc := [] }] }
theorem RValue_vc : vcOf' RValue_cx = .ok RValue.vc := by kernel_rfl
theorem RValue_kept : Kept Try.prog [] 49 RValue.sig := keeps (cx := RValue_cx) (l := []) (invs := [(RValue.I0, RValue.I0M)]) mixed Try.func49 (by kernel_rfl) rfl rfl all_nil RValue_vc (Eq.mpr RValue.den RValue.pure)
noncomputable def RTurn_cx : Cx := { P := Try.prog, fn := Try.f12, G := [], sigs := sigsOf 1 [(48, RBits.sig), (49, RValue.sig)], own := RTurn.sig.toSigR, anns := [{ key := 4, j := 0, watch := [], havoc := [0] }] }
theorem RTurn_vc : vcOf' RTurn_cx = .ok RTurn.vc := by kernel_rfl
theorem RTurn_kept : Kept Try.prog [] 12 RTurn.sig := keeps (cx := RTurn_cx) (l := [(48, RBits.sig), (49, RValue.sig)]) (invs := [(RTurn.I0, RTurn.I0M)]) mixed Try.func12 (by kernel_rfl) rfl rfl (all_cons RBits_kept (all_cons RValue_kept all_nil)) RTurn_vc (Eq.mpr RTurn.den RTurn.pure)
noncomputable def RMove_cx : Cx := { P := Try.prog, fn := Try.f15, G := [], sigs := sigsOf 1 [(48, RBits.sig), (49, RValue.sig)], own := RMove.sig.toSigR, anns := [{ key := 4, j := 0, watch := [], havoc := [0] }] }
theorem RMove_vc : vcOf' RMove_cx = .ok RMove.vc := by kernel_rfl
theorem RMove_kept : Kept Try.prog [] 15 RMove.sig := keeps (cx := RMove_cx) (l := [(48, RBits.sig), (49, RValue.sig)]) (invs := [(RMove.I0, RMove.I0M)]) mixed Try.func15 (by kernel_rfl) rfl rfl (all_cons RBits_kept (all_cons RValue_kept all_nil)) RMove_vc (Eq.mpr RMove.den RMove.pure)
noncomputable def RCount_cx : Cx := { P := Try.prog, fn := Try.f18, G := [], sigs := sigsOf 1 [(48, RBits.sig)], own := RCount.sig.toSigR, anns := [{ key := 3, j := 0, watch := [], havoc := [] }] }
theorem RCount_vc : vcOf' RCount_cx = .ok RCount.vc := by kernel_rfl
theorem RCount_kept : Kept Try.prog [] 18 RCount.sig := keeps (cx := RCount_cx) (l := [(48, RBits.sig)]) (invs := [(RCount.I0, RCount.I0M)]) mixed Try.func18 (by kernel_rfl) rfl rfl (all_cons RBits_kept all_nil) RCount_vc (Eq.mpr RCount.den RCount.pure)
noncomputable def RFirst_cx : Cx := { P := Try.prog, fn := Try.f20, G := [], sigs := sigsOf 1 [(48, RBits.sig)], own := RFirst.sig.toSigR, anns := [{ key := 2, j := 0, watch := [], havoc := [] }] }
theorem RFirst_vc : vcOf' RFirst_cx = .ok RFirst.vc := by kernel_rfl
theorem RFirst_kept : Kept Try.prog [] 20 RFirst.sig := keeps (cx := RFirst_cx) (l := [(48, RBits.sig)]) (invs := [(RFirst.I0, RFirst.I0M)]) mixed Try.func20 (by kernel_rfl) rfl rfl (all_cons RBits_kept all_nil) RFirst_vc (Eq.mpr RFirst.den RFirst.pure)
noncomputable def Swap_cx : Cx := { P := Try.prog, fn := Try.f33, G := [], sigs := sigsOf 1 [], own := Swap.sig.toSigR, anns := [] }
theorem Swap_vc : vcOf' Swap_cx = .ok Swap.vc := by kernel_rfl
theorem Swap_kept : Kept Try.prog [] 33 Swap.sig := keeps (cx := Swap_cx) (l := []) (invs := []) mixed Try.func33 (by kernel_rfl) rfl rfl all_nil Swap_vc (Eq.mpr Swap.den Swap.pure)
noncomputable def Bytes_cx : Cx := { P := Try.prog, fn := Try.f37, G := [], sigs := sigsOf 1 [], own := Bytes.sig.toSigR, anns := [{ key := 3, j := 0, watch := [], havoc := [0] }] }
theorem Bytes_vc : vcOf' Bytes_cx = .ok Bytes.vc := by kernel_rfl
theorem Bytes_kept : Kept Try.prog [] 37 Bytes.sig := keeps (cx := Bytes_cx) (l := []) (invs := [(Bytes.I0, Bytes.I0M)]) mixed Try.func37 (by kernel_rfl) rfl rfl all_nil Bytes_vc (Eq.mpr Bytes.den Bytes.pure)
noncomputable def RBytes_cx : Cx := { P := Try.prog, fn := Try.f40, G := [], sigs := sigsOf 1 [], own := RBytes.sig.toSigR, anns := [{ key := 3, j := 0, watch := [], havoc := [] }] }
theorem RBytes_vc : vcOf' RBytes_cx = .ok RBytes.vc := by kernel_rfl
theorem RBytes_kept : Kept Try.prog [] 40 RBytes.sig := keeps (cx := RBytes_cx) (l := []) (invs := [(RBytes.I0, RBytes.I0M)]) mixed Try.func40 (by kernel_rfl) rfl rfl all_nil RBytes_vc (Eq.mpr RBytes.den RBytes.pure)
noncomputable def Number_cx : Cx := { P := Try.prog, fn := Try.f36, G := [], sigs := sigsOf 1 [], own := Number.sig.toSigR, anns := [{ key := 3, j := 0, watch := [], havoc := [] }] }
theorem Number_vc : vcOf' Number_cx = .ok Number.vc := by kernel_rfl
theorem Number_kept : Kept Try.prog [] 36 Number.sig := keeps (cx := Number_cx) (l := []) (invs := [(Number.I0, Number.I0M)]) mixed Try.func36 (by kernel_rfl) rfl rfl all_nil Number_vc (Eq.mpr Number.den Number.pure)
noncomputable def RNumber_cx : Cx := { P := Try.prog, fn := Try.f41, G := [], sigs := sigsOf 1 [], own := RNumber.sig.toSigR, anns := [{ key := 3, j := 0, watch := [], havoc := [] }] }
theorem RNumber_vc : vcOf' RNumber_cx = .ok RNumber.vc := by kernel_rfl
theorem RNumber_kept : Kept Try.prog [] 41 RNumber.sig := keeps (cx := RNumber_cx) (l := []) (invs := [(RNumber.I0, RNumber.I0M)]) mixed Try.func41 (by kernel_rfl) rfl rfl all_nil RNumber_vc (Eq.mpr RNumber.den RNumber.pure)
noncomputable def RSwap_cx : Cx := { P := Try.prog, fn := Try.f42, G := [], sigs := sigsOf 1 [(40, RBytes.sig), (41, RNumber.sig)], own := RSwap.sig.toSigR, anns := [{ key := 3, j := 0, watch := [], havoc := [] }] }
theorem RSwap_vc : vcOf' RSwap_cx = .ok RSwap.vc := by kernel_rfl
theorem RSwap_kept : Kept Try.prog [] 42 RSwap.sig := keeps (cx := RSwap_cx) (l := [(40, RBytes.sig), (41, RNumber.sig)]) (invs := [(RSwap.I0, RSwap.I0M)]) mixed Try.func42 (by kernel_rfl) rfl rfl (all_cons RBytes_kept (all_cons RNumber_kept all_nil)) RSwap_vc (Eq.mpr RSwap.den RSwap.pure)
noncomputable def Narrow_cx : Cx := { P := Try.prog, fn := Try.f39, G := [], sigs := sigsOf 1 [], own := Narrow.sig.toSigR, anns := [] }
theorem Narrow_vc : vcOf' Narrow_cx = .ok Narrow.vc := by kernel_rfl
theorem Narrow_kept : Kept Try.prog [] 39 Narrow.sig := keeps (cx := Narrow_cx) (l := []) (invs := []) mixed Try.func39 (by kernel_rfl) rfl rfl all_nil Narrow_vc (Eq.mpr Narrow.den Narrow.pure)
noncomputable def Fold_cx : Cx := { P := Try.prog, fn := Try.f35, G := [], sigs := sigsOf 1 [], own := Fold.sig.toSigR, anns := [] }
theorem Fold_vc : vcOf' Fold_cx = .ok Fold.vc := by kernel_rfl
theorem Fold_kept : Kept Try.prog [] 35 Fold.sig := keeps (cx := Fold_cx) (l := []) (invs := []) mixed Try.func35 (by kernel_rfl) rfl rfl all_nil Fold_vc (Eq.mpr Fold.den Fold.pure)
noncomputable def RFold_cx : Cx := { P := Try.prog, fn := Try.f43, G := [], sigs := sigsOf 1 [], own := RFold.sig.toSigR, anns := [] }
theorem RFold_vc : vcOf' RFold_cx = .ok RFold.vc := by kernel_rfl
theorem RFold_kept : Kept Try.prog [] 43 RFold.sig := keeps (cx := RFold_cx) (l := []) (invs := []) mixed Try.func43 (by kernel_rfl) rfl rfl all_nil RFold_vc (Eq.mpr RFold.den RFold.pure)
noncomputable def Unfold_cx : Cx := { P := Try.prog, fn := Try.f34, G := [], sigs := sigsOf 1 [], own := Unfold.sig.toSigR, anns := [] }
theorem Unfold_vc : vcOf' Unfold_cx = .ok Unfold.vc := by kernel_rfl
theorem Unfold_kept : Kept Try.prog [] 34 Unfold.sig := keeps (cx := Unfold_cx) (l := []) (invs := []) mixed Try.func34 (by kernel_rfl) rfl rfl all_nil Unfold_vc (Eq.mpr Unfold.den Unfold.pure)
noncomputable def RLow_cx : Cx := { P := Try.prog, fn := Try.f25, G := [], sigs := sigsOf 1 [(48, RBits.sig), (49, RValue.sig)], own := RLow.sig.toSigR, anns := [] }
theorem RLow_vc : vcOf' RLow_cx = .ok RLow.vc := by kernel_rfl
theorem RLow_kept : Kept Try.prog [] 25 RLow.sig := keeps (cx := RLow_cx) (l := [(48, RBits.sig), (49, RValue.sig)]) (invs := []) mixed Try.func25 (by kernel_rfl) rfl rfl (all_cons RBits_kept (all_cons RValue_kept all_nil)) RLow_vc (Eq.mpr RLow.den RLow.pure)
noncomputable def RBit_cx : Cx := { P := Try.prog, fn := Try.f28, G := [], sigs := sigsOf 1 [(48, RBits.sig)], own := RBit.sig.toSigR, anns := [] }
theorem RBit_vc : vcOf' RBit_cx = .ok RBit.vc := by kernel_rfl
theorem RBit_kept : Kept Try.prog [] 28 RBit.sig := keeps (cx := RBit_cx) (l := [(48, RBits.sig)]) (invs := []) mixed Try.func28 (by kernel_rfl) rfl rfl (all_cons RBits_kept all_nil) RBit_vc (Eq.mpr RBit.den RBit.pure)
noncomputable def RWith_cx : Cx := { P := Try.prog, fn := Try.f30, G := [], sigs := sigsOf 1 [(48, RBits.sig), (49, RValue.sig)], own := RWith.sig.toSigR, anns := [] }
theorem RWith_vc : vcOf' RWith_cx = .ok RWith.vc := by kernel_rfl
theorem RWith_kept : Kept Try.prog [] 30 RWith.sig := keeps (cx := RWith_cx) (l := [(48, RBits.sig), (49, RValue.sig)]) (invs := []) mixed Try.func30 (by kernel_rfl) rfl rfl (all_cons RBits_kept (all_cons RValue_kept all_nil)) RWith_vc (Eq.mpr RWith.den RWith.pure)
noncomputable def RField_cx : Cx := { P := Try.prog, fn := Try.f31, G := [], sigs := sigsOf 1 [(48, RBits.sig), (49, RValue.sig)], own := RField.sig.toSigR, anns := [] }
theorem RField_vc : vcOf' RField_cx = .ok RField.vc := by kernel_rfl
theorem RField_kept : Kept Try.prog [] 31 RField.sig := keeps (cx := RField_cx) (l := [(48, RBits.sig), (49, RValue.sig)]) (invs := []) mixed Try.func31 (by kernel_rfl) rfl rfl (all_cons RBits_kept (all_cons RValue_kept all_nil)) RField_vc (Eq.mpr RField.den RField.pure)
noncomputable def RLay_cx : Cx := { P := Try.prog, fn := Try.f32, G := [], sigs := sigsOf 1 [(48, RBits.sig), (49, RValue.sig)], own := RLay.sig.toSigR, anns := [{ key := 3, j := 0, watch := [], havoc := [1] }] }
theorem RLay_vc : vcOf' RLay_cx = .ok RLay.vc := by kernel_rfl
theorem RLay_kept : Kept Try.prog [] 32 RLay.sig := keeps (cx := RLay_cx) (l := [(48, RBits.sig), (49, RValue.sig)]) (invs := [(RLay.I0, RLay.I0M)]) mixed Try.func32 (by kernel_rfl) rfl rfl (all_cons RBits_kept (all_cons RValue_kept all_nil)) RLay_vc (Eq.mpr RLay.den RLay.pure)
noncomputable def RSigned_cx : Cx := { P := Try.prog, fn := Try.f27, G := [], sigs := sigsOf 1 [(48, RBits.sig), (49, RValue.sig)], own := RSigned.sig.toSigR, anns := [{ key := 5, j := 0, watch := [], havoc := [0] }, { key := 11, j := 1, watch := [], havoc := [0] }] }
theorem RSigned_vc : vcOf' RSigned_cx = .ok RSigned.vc := by kernel_rfl
theorem RSigned_kept : Kept Try.prog [] 27 RSigned.sig := keeps (cx := RSigned_cx) (l := [(48, RBits.sig), (49, RValue.sig)]) (invs := [(RSigned.I0, RSigned.I0M), (RSigned.I1, RSigned.I1M)]) mixed Try.func27 (by kernel_rfl) rfl rfl (all_cons RBits_kept (all_cons RValue_kept all_nil)) RSigned_vc (Eq.mpr RSigned.den RSigned.pure)
noncomputable def Cut_cx : Cx := { P := Try.prog, fn := Try.f38, G := [], sigs := sigsOf 1 [], own := Cut.sig.toSigR, anns := [] }
theorem Cut_vc : vcOf' Cut_cx = .ok Cut.vc := by kernel_rfl
theorem Cut_kept : Kept Try.prog [] 38 Cut.sig := keeps (cx := Cut_cx) (l := []) (invs := []) mixed Try.func38 (by kernel_rfl) rfl rfl all_nil Cut_vc (Eq.mpr Cut.den Cut.pure)
noncomputable def Awake01_cx : Cx := { P := Try.prog, fn := Try.f10, G := [], sigs := sigsOf 1 [(26, Signed.sig), (11, Turn.sig), (21, Lay.sig), (19, First.sig), (33, Swap.sig)], own := Awake01.sig.toSigR, anns := [] }
theorem Awake01_vc : vcOf' Awake01_cx = .ok Awake01.vc := by kernel_rfl
theorem Awake01_kept : Kept Try.prog [] 10 Awake01.sig := keeps (cx := Awake01_cx) (l := [(26, Signed.sig), (11, Turn.sig), (21, Lay.sig), (19, First.sig), (33, Swap.sig)]) (invs := []) mixed Try.func10 (by kernel_rfl) rfl rfl (all_cons Signed_kept (all_cons Turn_kept (all_cons Lay_kept (all_cons First_kept (all_cons Swap_kept all_nil))))) Awake01_vc (Eq.mpr Awake01.den Awake01.pure)
noncomputable def LMoves_cx : Cx := { P := Try.prog, fn := Try.f3, G := [], sigs := sigsOf 1 [(10, Awake01.sig), (11, Turn.sig), (12, RTurn.sig), (13, Turn32.sig), (14, Left.sig), (16, Right.sig), (15, RMove.sig), (17, Count.sig), (18, RCount.sig), (19, First.sig), (20, RFirst.sig)], own := LMoves.sig.toSigR, anns := [] }
theorem LMoves_vc : vcOf' LMoves_cx = .ok LMoves.vc := by kernel_rfl
theorem LMoves_kept : Kept Try.prog [] 3 LMoves.sig := keeps (cx := LMoves_cx) (l := [(10, Awake01.sig), (11, Turn.sig), (12, RTurn.sig), (13, Turn32.sig), (14, Left.sig), (16, Right.sig), (15, RMove.sig), (17, Count.sig), (18, RCount.sig), (19, First.sig), (20, RFirst.sig)]) (invs := []) mixed Try.func3 (by kernel_rfl) rfl rfl (all_cons Awake01_kept (all_cons Turn_kept (all_cons RTurn_kept (all_cons Turn32_kept (all_cons Left_kept (all_cons Right_kept (all_cons RMove_kept (all_cons Count_kept (all_cons RCount_kept (all_cons First_kept (all_cons RFirst_kept all_nil))))))))))) LMoves_vc (Eq.mpr LMoves.den LMoves.pure)
noncomputable def LParts_cx : Cx := { P := Try.prog, fn := Try.f5, G := [], sigs := sigsOf 1 [(10, Awake01.sig), (24, Low.sig), (25, RLow.sig), (26, Signed.sig), (27, RSigned.sig), (22, Bit.sig), (28, RBit.sig), (29, With.sig), (30, RWith.sig), (23, Field.sig), (31, RField.sig), (21, Lay.sig), (32, RLay.sig)], own := LParts.sig.toSigR, anns := [] }
theorem LParts_vc : vcOf' LParts_cx = .ok LParts.vc := by kernel_rfl
theorem LParts_kept : Kept Try.prog [] 5 LParts.sig := keeps (cx := LParts_cx) (l := [(10, Awake01.sig), (24, Low.sig), (25, RLow.sig), (26, Signed.sig), (27, RSigned.sig), (22, Bit.sig), (28, RBit.sig), (29, With.sig), (30, RWith.sig), (23, Field.sig), (31, RField.sig), (21, Lay.sig), (32, RLay.sig)]) (invs := []) mixed Try.func5 (by kernel_rfl) rfl rfl (all_cons Awake01_kept (all_cons Low_kept (all_cons RLow_kept (all_cons Signed_kept (all_cons RSigned_kept (all_cons Bit_kept (all_cons RBit_kept (all_cons With_kept (all_cons RWith_kept (all_cons Field_kept (all_cons RField_kept (all_cons Lay_kept (all_cons RLay_kept all_nil))))))))))))) LParts_vc (Eq.mpr LParts.den LParts.pure)
noncomputable def LBytes_cx : Cx := { P := Try.prog, fn := Try.f7, G := [], sigs := sigsOf 1 [(10, Awake01.sig), (38, Cut.sig), (39, Narrow.sig), (37, Bytes.sig), (40, RBytes.sig), (36, Number.sig), (41, RNumber.sig), (33, Swap.sig), (42, RSwap.sig), (25, RLow.sig), (27, RSigned.sig), (35, Fold.sig), (43, RFold.sig)], own := LBytes.sig.toSigR, anns := [] }
theorem LBytes_vc : vcOf' LBytes_cx = .ok LBytes.vc := by kernel_rfl
theorem LBytes_kept : Kept Try.prog [] 7 LBytes.sig := keeps (cx := LBytes_cx) (l := [(10, Awake01.sig), (38, Cut.sig), (39, Narrow.sig), (37, Bytes.sig), (40, RBytes.sig), (36, Number.sig), (41, RNumber.sig), (33, Swap.sig), (42, RSwap.sig), (25, RLow.sig), (27, RSigned.sig), (35, Fold.sig), (43, RFold.sig)]) (invs := []) mixed Try.func7 (by kernel_rfl) rfl rfl (all_cons Awake01_kept (all_cons Cut_kept (all_cons Narrow_kept (all_cons Bytes_kept (all_cons RBytes_kept (all_cons Number_kept (all_cons RNumber_kept (all_cons Swap_kept (all_cons RSwap_kept (all_cons RLow_kept (all_cons RSigned_kept (all_cons Fold_kept (all_cons RFold_kept all_nil))))))))))))) LBytes_vc (Eq.mpr LBytes.den LBytes.pure)
noncomputable def LBack_cx : Cx := { P := Try.prog, fn := Try.f6, G := [], sigs := sigsOf 1 [(10, Awake01.sig), (11, Turn.sig), (33, Swap.sig), (35, Fold.sig), (34, Unfold.sig), (36, Number.sig), (37, Bytes.sig)], own := LBack.sig.toSigR, anns := [] }
theorem LBack_vc : vcOf' LBack_cx = .ok LBack.vc := by kernel_rfl
theorem LBack_kept : Kept Try.prog [] 6 LBack.sig := keeps (cx := LBack_cx) (l := [(10, Awake01.sig), (11, Turn.sig), (33, Swap.sig), (35, Fold.sig), (34, Unfold.sig), (36, Number.sig), (37, Bytes.sig)]) (invs := []) mixed Try.func6 (by kernel_rfl) rfl rfl (all_cons Awake01_kept (all_cons Turn_kept (all_cons Swap_kept (all_cons Fold_kept (all_cons Unfold_kept (all_cons Number_kept (all_cons Bytes_kept all_nil))))))) LBack_vc (Eq.mpr LBack.den LBack.pure)
noncomputable def LLaid_cx : Cx := { P := Try.prog, fn := Try.f4, G := [], sigs := sigsOf 1 [(10, Awake01.sig), (21, Lay.sig), (22, Bit.sig), (23, Field.sig), (24, Low.sig)], own := LLaid.sig.toSigR, anns := [{ key := 5, j := 0, watch := [], havoc := [] }] }
theorem LLaid_vc : vcOf' LLaid_cx = .ok LLaid.vc := by kernel_rfl
theorem LLaid_kept : Kept Try.prog [] 4 LLaid.sig := keeps (cx := LLaid_cx) (l := [(10, Awake01.sig), (21, Lay.sig), (22, Bit.sig), (23, Field.sig), (24, Low.sig)]) (invs := [(LLaid.I0, LLaid.I0M)]) mixed Try.func4 (by kernel_rfl) rfl rfl (all_cons Awake01_kept (all_cons Lay_kept (all_cons Bit_kept (all_cons Field_kept (all_cons Low_kept all_nil))))) LLaid_vc (Eq.mpr LLaid.den LLaid.pure)
end Go.Proofs.Ytbfbfnbjbfdpaaa.K
