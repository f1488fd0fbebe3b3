/-
  Each of these functions keeps its contract, in the program of this seat.
-/
import Derived.Test.YtmgeaephkagdiaaGreatDoorChecked
import Derived.Test.YtmgeaephkagdiaaGreatDoorSlm
import Derived.Test.YtmgeaephkagdiaaGreatDoorIxb
import Derived.Test.YtmgeaephkagdiaaGreatDoorWale
import Derived.Test.YtmgeaephkagdiaaGreatDoorTab
import Derived.LaidMore
import Derived.Stop.Joined
set_option linter.unusedVariables false
set_option maxRecDepth 100000
namespace Go.Proofs.YtmgeaephkagdiaaGreatDoor.WalpKeep
open Go.Vc
theorem mixed : Tryz.prog.follows .mixedOrders = true := by kernel_rfl
theorem all_nil {p : FuncId × Sig → Prop} : ∀ x ∈ ([] : List (FuncId × Sig)), p x := by intro x hx; cases hx
theorem all_cons {p : FuncId × Sig → Prop} {a : FuncId × Sig} {l : List (FuncId × Sig)} (h : p a) (h' : ∀ x ∈ l, p x) : ∀ x ∈ a :: l, p x := by
  intro x hx
  rcases List.mem_cons.1 hx with rfl | hx
  · exact h
  · exact h' x hx
def tables : List Glob := [{ g := 0, k := .u32, l := crcHalf }]
noncomputable def dNew_cx : Cx := { P := Tryz.prog, fn := Tryz.f12, G := tables, sigs := sigsOf 1 [], own := dNew.sig.toSigR, anns := [{ key := 999999, j := 0, watch := [], havoc := [] }] }
theorem dNew_den : denT dNew_cx (mkEnv dNew.sig [] []) = dNew.Pure := by kernel_rfl
theorem dNew_kept : Kept Tryz.prog tables 12 dNew.sig := keep_t (cx := dNew_cx) (l := []) (invs := []) mixed Tryz.func12 (by kernel_rfl) rfl rfl all_nil rfl dNew_den dNew.pure (by decide)
theorem qNew_kept : Kept Tryz.prog tables 12 qNew.sig := qNew_of dNew_kept
noncomputable def dKeysS_cx : Cx := { P := Tryz.prog, fn := Tryz.f49, G := tables, sigs := sigsOf 1 [], own := (dKeysS.sig 86).toSigR, anns := [{ key := 999999, j := 0, watch := [], havoc := [] }] }
theorem dKeysS_den : denT dKeysS_cx (mkEnv (dKeysS.sig 86) [] []) = dKeysS.Pure := by kernel_rfl
theorem dKeysS_kept : Kept Tryz.prog tables 49 (dKeysS.sig 86) := keep_t (cx := dKeysS_cx) (l := []) (invs := []) mixed Tryz.func49 (by kernel_rfl) rfl rfl all_nil rfl dKeysS_den dKeysS.pure (by decide)
theorem dSortS_kept : Kept Tryz.prog tables 48 (dSortS.sig 86) := kept_sort Tryz.func48 (by kernel_rfl) rfl (fun _ => ⟨_, rfl⟩) (.inl ⟨_, _, rfl⟩) Tryz.runSortS
noncomputable def dNames_cx : Cx := { P := Tryz.prog, fn := Tryz.f17, G := tables, sigs := sigsOf 1 [(49, (dKeysS.sig 86)), (48, (dSortS.sig 86))], own := dNames.sig.toSigR, anns := [{ key := 999999, j := 0, watch := [], havoc := [] }] }
theorem dNames_den : denT dNames_cx (mkEnv dNames.sig [(dKeysS.sig 86), (dSortS.sig 86)] []) = dNames.Pure := by kernel_rfl
theorem dNames_kept : Kept Tryz.prog tables 17 dNames.sig := keep_t (cx := dNames_cx) (l := [(49, (dKeysS.sig 86)), (48, (dSortS.sig 86))]) (invs := []) mixed Tryz.func17 (by kernel_rfl) rfl rfl (all_cons dKeysS_kept (all_cons dSortS_kept all_nil)) rfl dNames_den dNames.pure (by decide)
theorem qNames_kept : Kept Tryz.prog tables 17 qNames.sig := qNames_of dNames_kept
noncomputable def wHas_cx : Cx := { P := Tryz.prog, fn := Tryz.f196, G := tables, sigs := sigsOf 1 [], own := wHas.sig.toSigR, anns := [{ key := 999999, j := 0, watch := [], havoc := [] }] }
theorem wHas_den : denS wHas_cx (mkEnv wHas.sig [] []) = wHas.Pure := by kernel_rfl
theorem wHas_kept : Kept Tryz.prog tables 196 wHas.sig := keep_s (cx := wHas_cx) (l := []) (invs := []) mixed Tryz.func196 (by kernel_rfl) rfl rfl all_nil rfl wHas_den wHas.pure (by decide)
noncomputable def wCutSL_cx : Cx := { P := Tryz.prog, fn := Tryz.f164, G := tables, sigs := sigsOf 1 [(196, wHas.sig)], own := wCutSL.sig.toSigR, anns := [{ key := 999999, j := 0, watch := [], havoc := [] }] }
theorem wCutSL_den : denS wCutSL_cx (mkEnv wCutSL.sig [wHas.sig] []) = wCutSL.Pure := by kernel_rfl
theorem wCutSL_kept : Kept Tryz.prog tables 164 wCutSL.sig := keep_s (cx := wCutSL_cx) (l := [(196, wHas.sig)]) (invs := []) mixed Tryz.func164 (by kernel_rfl) rfl rfl (all_cons wHas_kept all_nil) rfl wCutSL_den wCutSL.pure (by decide)
noncomputable def wCutP_cx : Cx := { P := Tryz.prog, fn := Tryz.f126, G := tables, sigs := sigsOf 1 [(164, wCutSL.sig)], own := wCutP.sig.toSigR, anns := [{ key := 999999, j := 0, watch := [], havoc := [] }] }
theorem wCutP_den : denS wCutP_cx (mkEnv wCutP.sig [wCutSL.sig] []) = wCutP.Pure := by kernel_rfl
theorem wCutP_kept : Kept Tryz.prog tables 126 wCutP.sig := keep_s (cx := wCutP_cx) (l := [(164, wCutSL.sig)]) (invs := []) mixed Tryz.func126 (by kernel_rfl) rfl rfl (all_cons wCutSL_kept all_nil) rfl wCutP_den wCutP.pure (by decide)
theorem IxB_kept : Kept Tryz.prog tables 127 IxB.sig := kept_ix Tryz.func127 (by kernel_rfl) (by kernel_rfl) (fun s c w => Tryz.strings_IndexByte s c w)
noncomputable def wFirst_cx : Cx := { P := Tryz.prog, fn := Tryz.f87, G := tables, sigs := sigsOf 1 [(126, wCutP.sig), (127, IxB.sig)], own := wFirst.sig.toSigR, anns := [{ key := 6, j := 0, watch := [], havoc := [] }, { key := 999999, j := 0, watch := [], havoc := [] }] }
theorem wFirst_den : denS wFirst_cx (mkEnv wFirst.sig [wCutP.sig, IxB.sig] [(wFirst.I0, wFirst.I0M)]) = wFirst.Pure := by kernel_rfl
theorem wFirst_kept : Kept Tryz.prog tables 87 wFirst.sig := keep_s (cx := wFirst_cx) (l := [(126, wCutP.sig), (127, IxB.sig)]) (invs := [(wFirst.I0, wFirst.I0M)]) mixed Tryz.func87 (by kernel_rfl) rfl rfl (all_cons wCutP_kept (all_cons IxB_kept all_nil)) rfl wFirst_den wFirst.pure (by decide)
noncomputable def uLen64_cx : Cx := { P := Tryz.prog, fn := Tryz.f163, G := tables, sigs := sigsOf 1 [], own := uLen64.sig.toSigR, anns := [{ key := 2000002, j := 0, join := true }, { key := 2000005, j := 0, join := true }, { key := 999999, j := 0, watch := [], havoc := [] }] }
theorem uLen64_den : denS uLen64_cx (mkEnv uLen64.sig [] []) = uLen64.Pure := by kernel_rfl
theorem uLen64_kept : Kept Tryz.prog tables 163 uLen64.sig := keep_s (cx := uLen64_cx) (l := []) (invs := []) mixed Tryz.func163 (by kernel_rfl) rfl rfl all_nil rfl uLen64_den uLen64.pure (by decide)
noncomputable def uLen_cx : Cx := { P := Tryz.prog, fn := Tryz.f125, G := tables, sigs := sigsOf 1 [(163, uLen64.sig)], own := uLen.sig.toSigR, anns := [{ key := 999999, j := 0, watch := [], havoc := [] }] }
theorem uLen_den : denS uLen_cx (mkEnv uLen.sig [uLen64.sig] []) = uLen.Pure := by kernel_rfl
theorem uLen_kept : Kept Tryz.prog tables 125 uLen.sig := keep_s (cx := uLen_cx) (l := [(163, uLen64.sig)]) (invs := []) mixed Tryz.func125 (by kernel_rfl) rfl rfl (all_cons uLen64_kept all_nil) rfl uLen_den uLen.pure (by decide)
noncomputable def uNaN_cx : Cx := { P := Tryz.prog, fn := Tryz.f201, G := tables, sigs := sigsOf 1 [], own := uNaN.sig.toSigR, anns := [{ key := 999999, j := 0, watch := [], havoc := [] }] }
theorem uNaN_den : denS uNaN_cx (mkEnv uNaN.sig [] []) = uNaN.Pure := by kernel_rfl
theorem uNaN_kept : Kept Tryz.prog tables 201 uNaN.sig := keep_s (cx := uNaN_cx) (l := []) (invs := []) mixed Tryz.func201 (by kernel_rfl) rfl rfl all_nil rfl uNaN_den uNaN.pure (by decide)
noncomputable def uLess_cx : Cx := { P := Tryz.prog, fn := Tryz.f172, G := tables, sigs := sigsOf 1 [(201, uNaN.sig)], own := uLess.sig.toSigR, anns := [{ key := 999999, j := 0, watch := [], havoc := [] }] }
theorem uLess_den : denS uLess_cx (mkEnv uLess.sig [uNaN.sig] []) = uLess.Pure := by kernel_rfl
theorem uLess_kept : Kept Tryz.prog tables 172 uLess.sig := keep_s (cx := uLess_cx) (l := [(201, uNaN.sig)]) (invs := []) mixed Tryz.func172 (by kernel_rfl) rfl rfl (all_cons uNaN_kept all_nil) rfl uLess_den uLess.pure (by decide)
noncomputable def uIns_cx : Cx := { P := Tryz.prog, fn := Tryz.f166, G := tables, sigs := sigsOf 1 [(172, uLess.sig)], own := uIns.sig.toSigR, anns := [{ key := 1, j := 0, watch := [], havoc := [] }, { key := 4, j := 1, watch := [6], havoc := [] }, { key := 2000006, j := 0, join := true }, { key := 999999, j := 0, watch := [], havoc := [] }] }
theorem uIns_den : denS uIns_cx (mkEnv uIns.sig [uLess.sig] [(uIns.I0, uIns.I0M), (uIns.I1, uIns.I1M)]) = uIns.Pure := by kernel_rfl
theorem uIns_kept : Kept Tryz.prog tables 166 uIns.sig := keep_s (cx := uIns_cx) (l := [(172, uLess.sig)]) (invs := [(uIns.I0, uIns.I0M), (uIns.I1, uIns.I1M)]) mixed Tryz.func166 (by kernel_rfl) rfl rfl (all_cons uLess_kept all_nil) rfl uIns_den uIns.pure (by decide)
noncomputable def uOrd2_cx : Cx := { P := Tryz.prog, fn := Tryz.f212, G := tables, sigs := sigsOf 1 [(172, uLess.sig)], own := uOrd2.sig.toSigR, anns := [{ key := 2000002, j := 0, join := true }, { key := 999999, j := 0, watch := [], havoc := [] }] }
theorem uOrd2_den : denS uOrd2_cx (mkEnv uOrd2.sig [uLess.sig] []) = uOrd2.Pure := by kernel_rfl
theorem uOrd2_kept : Kept Tryz.prog tables 212 uOrd2.sig := keep_s (cx := uOrd2_cx) (l := [(172, uLess.sig)]) (invs := []) mixed Tryz.func212 (by kernel_rfl) rfl rfl (all_cons uLess_kept all_nil) rfl uOrd2_den uOrd2.pure (by decide)
noncomputable def uMed_cx : Cx := { P := Tryz.prog, fn := Tryz.f200, G := tables, sigs := sigsOf 1 [(212, uOrd2.sig)], own := uMed.sig.toSigR, anns := [{ key := 999999, j := 0, watch := [], havoc := [] }] }
theorem uMed_den : denS uMed_cx (mkEnv uMed.sig [uOrd2.sig] []) = uMed.Pure := by kernel_rfl
theorem uMed_kept : Kept Tryz.prog tables 200 uMed.sig := keep_s (cx := uMed_cx) (l := [(212, uOrd2.sig)]) (invs := []) mixed Tryz.func200 (by kernel_rfl) rfl rfl (all_cons uOrd2_kept all_nil) rfl uMed_den uMed.pure (by decide)
noncomputable def uMedA_cx : Cx := { P := Tryz.prog, fn := Tryz.f199, G := tables, sigs := sigsOf 1 [(200, uMed.sig)], own := uMedA.sig.toSigR, anns := [{ key := 999999, j := 0, watch := [], havoc := [] }] }
theorem uMedA_den : denS uMedA_cx (mkEnv uMedA.sig [uMed.sig] []) = uMedA.Pure := by kernel_rfl
theorem uMedA_kept : Kept Tryz.prog tables 199 uMedA.sig := keep_s (cx := uMedA_cx) (l := [(200, uMed.sig)]) (invs := []) mixed Tryz.func199 (by kernel_rfl) rfl rfl (all_cons uMed_kept all_nil) rfl uMedA_den uMedA.pure (by decide)
noncomputable def uPiv_cx : Cx := { P := Tryz.prog, fn := Tryz.f169, G := tables, sigs := sigsOf 1 [(200, uMed.sig), (199, uMedA.sig)], own := uPiv.sig.toSigR, anns := [{ key := 999999, j := 0, watch := [], havoc := [] }] }
theorem uPiv_den : denS uPiv_cx (mkEnv uPiv.sig [uMed.sig, uMedA.sig] []) = uPiv.Pure := by kernel_rfl
theorem uPiv_kept : Kept Tryz.prog tables 169 uPiv.sig := keep_s (cx := uPiv_cx) (l := [(200, uMed.sig), (199, uMedA.sig)]) (invs := []) mixed Tryz.func169 (by kernel_rfl) rfl rfl (all_cons uMed_kept (all_cons uMedA_kept all_nil)) rfl uPiv_den uPiv.pure (by decide)
noncomputable def uPart_cx : Cx := { P := Tryz.prog, fn := Tryz.f171, G := tables, sigs := sigsOf 1 [(172, uLess.sig)], own := uPart.sig.toSigR, anns := [{ key := 3, j := 0, watch := [], havoc := [] }, { key := 5, j := 1, watch := [], havoc := [] }, { key := 2000009, j := 0, join := true }, { key := 999999, j := 0, watch := [], havoc := [] }] }
theorem uPart_den : denS uPart_cx (mkEnv uPart.sig [uLess.sig] [(uPart.I0, uPart.I0M), (uPart.I1, uPart.I1M)]) = uPart.Pure := by kernel_rfl
theorem uPart_kept : Kept Tryz.prog tables 171 uPart.sig := keep_s (cx := uPart_cx) (l := [(172, uLess.sig)]) (invs := [(uPart.I0, uPart.I0M), (uPart.I1, uPart.I1M)]) mixed Tryz.func171 (by kernel_rfl) rfl rfl (all_cons uLess_kept all_nil) rfl uPart_den uPart.pure (by decide)
noncomputable def uPdq_cx : Cx := { P := Tryz.prog, fn := Tryz.f128, G := tables, sigs := sigsOf 1 [(166, uIns.sig), (169, uPiv.sig), (171, uPart.sig)], own := uPdq.sig.toSigR, anns := [{ key := 2, j := 0, watch := [], havoc := [] }, { key := 2000006, j := 0, join := true }, { key := 2000008, j := 0, join := true }, { key := 2000012, j := 0, join := true }, { key := 2000017, j := 0, join := true }, { key := 999999, j := 0, watch := [], havoc := [] }] }
theorem uPdq_den : denS uPdq_cx (mkEnv uPdq.sig [uIns.sig, uPiv.sig, uPart.sig] [(uPdq.I0, uPdq.I0M)]) = uPdq.Pure := by kernel_rfl
theorem uPdq_kept : Kept Tryz.prog tables 128 uPdq.sig := keep_s (cx := uPdq_cx) (l := [(166, uIns.sig), (169, uPiv.sig), (171, uPart.sig)]) (invs := [(uPdq.I0, uPdq.I0M)]) mixed Tryz.func128 (by kernel_rfl) rfl rfl (all_cons uIns_kept (all_cons uPiv_kept (all_cons uPart_kept all_nil))) rfl uPdq_den uPdq.pure (by decide)
noncomputable def uSort_cx : Cx := { P := Tryz.prog, fn := Tryz.f88, G := tables, sigs := sigsOf 1 [(125, uLen.sig), (128, uPdq.sig)], own := uSort.sig.toSigR, anns := [{ key := 999999, j := 0, watch := [], havoc := [] }] }
theorem uSort_den : denS uSort_cx (mkEnv uSort.sig [uLen.sig, uPdq.sig] []) = uSort.Pure := by kernel_rfl
theorem uSort_kept : Kept Tryz.prog tables 88 uSort.sig := keep_s (cx := uSort_cx) (l := [(125, uLen.sig), (128, uPdq.sig)]) (invs := []) mixed Tryz.func88 (by kernel_rfl) rfl rfl (all_cons uLen_kept (all_cons uPdq_kept all_nil)) rfl uSort_den uSort.pure (by decide)
noncomputable def wFiles_cx : Cx := { P := Tryz.prog, fn := Tryz.f50, G := tables, sigs := sigsOf 1 [(17, qNames.sig), (87, wFirst.sig), (88, uSort.sig)], own := wFiles.sig.toSigR, anns := [{ key := 6, j := 0, watch := [], havoc := [] }, { key := 999999, j := 0, watch := [], havoc := [] }] }
theorem wFiles_den : denS wFiles_cx (mkEnv wFiles.sig [qNames.sig, wFirst.sig, uSort.sig] [(wFiles.I0, wFiles.I0M)]) = wFiles.Pure := by kernel_rfl
theorem wFiles_kept : Kept Tryz.prog tables 50 wFiles.sig := keep_s (cx := wFiles_cx) (l := [(17, qNames.sig), (87, wFirst.sig), (88, uSort.sig)]) (invs := [(wFiles.I0, wFiles.I0M)]) mixed Tryz.func50 (by kernel_rfl) rfl rfl (all_cons qNames_kept (all_cons wFirst_kept (all_cons uSort_kept all_nil))) rfl wFiles_den wFiles.pure (by decide)
noncomputable def dFind_cx : Cx := { P := Tryz.prog, fn := Tryz.f46, G := tables, sigs := sigsOf 1 [], own := dFind.sig.toSigR, anns := [{ key := 999999, j := 0, watch := [], havoc := [] }] }
theorem dFind_den : denT dFind_cx (mkEnv dFind.sig [] []) = dFind.Pure := by kernel_rfl
theorem dFind_kept : Kept Tryz.prog tables 46 dFind.sig := keep_t (cx := dFind_cx) (l := []) (invs := []) mixed Tryz.func46 (by kernel_rfl) rfl rfl all_nil rfl dFind_den dFind.pure (by decide)
noncomputable def dRead_cx : Cx := { P := Tryz.prog, fn := Tryz.f18, G := tables, sigs := sigsOf 1 [(46, dFind.sig)], own := dRead.sig.toSigR, anns := [{ key := 999999, j := 0, watch := [], havoc := [] }] }
theorem dRead_den : denT dRead_cx (mkEnv dRead.sig [dFind.sig] []) = dRead.Pure := by kernel_rfl
theorem dRead_kept : Kept Tryz.prog tables 18 dRead.sig := keep_t (cx := dRead_cx) (l := [(46, dFind.sig)]) (invs := []) mixed Tryz.func18 (by kernel_rfl) rfl rfl (all_cons dFind_kept all_nil) rfl dRead_den dRead.pure (by decide)
theorem qRead_kept : Kept Tryz.prog tables 18 qRead.sig := qRead_of dRead_kept
noncomputable def Low_cx : Cx := { P := Tryz.prog, fn := Tryz.f122, G := tables, sigs := sigsOf 1 [], own := Low.sig.toSigR, anns := [] }
theorem Low_den : denT Low_cx (mkEnv Low.sig [] []) = Low.Pure := by kernel_rfl
theorem Low_kept : Kept Tryz.prog tables 122 Low.sig := keep_t (cx := Low_cx) (l := []) (invs := []) mixed Tryz.func122 (by kernel_rfl) rfl rfl all_nil rfl Low_den Low.pure (by decide)
noncomputable def Field_cx : Cx := { P := Tryz.prog, fn := Tryz.f82, G := tables, sigs := sigsOf 1 [(122, Low.sig)], own := Field.sig.toSigR, anns := [] }
theorem Field_den : denT Field_cx (mkEnv Field.sig [Low.sig] []) = Field.Pure := by kernel_rfl
theorem Field_kept : Kept Tryz.prog tables 82 Field.sig := keep_t (cx := Field_cx) (l := [(122, Low.sig)]) (invs := []) mixed Tryz.func82 (by kernel_rfl) rfl rfl (all_cons Low_kept all_nil) rfl Field_den Field.pure (by decide)
noncomputable def wName_cx : Cx := { P := Tryz.prog, fn := Tryz.f42, G := tables, sigs := sigsOf 1 [(82, Field.sig)], own := wName.sig.toSigR, anns := [{ key := 3, j := 0, watch := [], havoc := [] }, { key := 999999, j := 0, watch := [], havoc := [] }] }
theorem wName_den : denS wName_cx (mkEnv wName.sig [Field.sig] [(wName.I0, wName.I0M)]) = wName.Pure := by kernel_rfl
theorem wName_kept : Kept Tryz.prog tables 42 wName.sig := keep_s (cx := wName_cx) (l := [(82, Field.sig)]) (invs := [(wName.I0, wName.I0M)]) mixed Tryz.func42 (by kernel_rfl) rfl rfl (all_cons Field_kept all_nil) rfl wName_den wName.pure (by decide)
noncomputable def PRead_cx : Cx := { P := Tryz.prog, fn := Tryz.f129, G := tables, sigs := sigsOf 1 [], own := PRead.sig.toSigR, anns := [] }
theorem PRead_den : denT PRead_cx (mkEnv PRead.sig [] []) = PRead.Pure := by kernel_rfl
theorem PRead_kept : Kept Tryz.prog tables 129 PRead.sig := keep_t (cx := PRead_cx) (l := []) (invs := []) mixed Tryz.func129 (by kernel_rfl) rfl rfl all_nil rfl PRead_den PRead.pure (by decide)
noncomputable def PRaw_cx : Cx := { P := Tryz.prog, fn := Tryz.f130, G := tables, sigs := sigsOf 1 [], own := PRaw.sig.toSigR, anns := [] }
theorem PRaw_den : denT PRaw_cx (mkEnv PRaw.sig [] []) = PRaw.Pure := by kernel_rfl
theorem PRaw_kept : Kept Tryz.prog tables 130 PRaw.sig := keep_t (cx := PRaw_cx) (l := []) (invs := []) mixed Tryz.func130 (by kernel_rfl) rfl rfl all_nil rfl PRaw_den PRaw.pure (by decide)
noncomputable def PErr_cx : Cx := { P := Tryz.prog, fn := Tryz.f131, G := tables, sigs := sigsOf 1 [], own := PErr.sig.toSigR, anns := [] }
theorem PErr_den : denT PErr_cx (mkEnv PErr.sig [] []) = PErr.Pure := by kernel_rfl
theorem PErr_kept : Kept Tryz.prog tables 131 PErr.sig := keep_t (cx := PErr_cx) (l := []) (invs := []) mixed Tryz.func131 (by kernel_rfl) rfl rfl all_nil rfl PErr_den PErr.pure (by decide)
noncomputable def PFixed_cx : Cx := { P := Tryz.prog, fn := Tryz.f132, G := tables, sigs := sigsOf 1 [(130, PRaw.sig)], own := PFixed.sig.toSigR, anns := [{ key := 3, j := 0, watch := [], havoc := [] }] }
theorem PFixed_den : denT PFixed_cx (mkEnv PFixed.sig [PRaw.sig] [(PFixed.I0, PFixed.I0M)]) = PFixed.Pure := by kernel_rfl
theorem PFixed_kept : Kept Tryz.prog tables 132 PFixed.sig := keep_t (cx := PFixed_cx) (l := [(130, PRaw.sig)]) (invs := [(PFixed.I0, PFixed.I0M)]) mixed Tryz.func132 (by kernel_rfl) rfl rfl (all_cons PRaw_kept all_nil) rfl PFixed_den PFixed.pure (by decide)
noncomputable def PAt_cx : Cx := { P := Tryz.prog, fn := Tryz.f133, G := tables, sigs := sigsOf 1 [], own := PAt.sig.toSigR, anns := [] }
theorem PAt_den : denT PAt_cx (mkEnv PAt.sig [] []) = PAt.Pure := by kernel_rfl
theorem PAt_kept : Kept Tryz.prog tables 133 PAt.sig := keep_t (cx := PAt_cx) (l := []) (invs := []) mixed Tryz.func133 (by kernel_rfl) rfl rfl all_nil rfl PAt_den PAt.pure (by decide)
noncomputable def WFixed_cx : Cx := { P := Tryz.prog, fn := Tryz.f94, G := tables, sigs := sigsOf 1 [(82, Field.sig)], own := WFixed.sig.toSigR, anns := [{ key := 2, j := 0, watch := [], havoc := [0] }] }
theorem WFixed_den : denT WFixed_cx (mkEnv WFixed.sig [Field.sig] [(WFixed.I0, WFixed.I0M)]) = WFixed.Pure := by kernel_rfl
theorem WFixed_kept : Kept Tryz.prog tables 94 WFixed.sig := keep_t (cx := WFixed_cx) (l := [(82, Field.sig)]) (invs := [(WFixed.I0, WFixed.I0M)]) mixed Tryz.func94 (by kernel_rfl) rfl rfl (all_cons Field_kept all_nil) rfl WFixed_den WFixed.pure (by decide)
noncomputable def WBytes_cx : Cx := { P := Tryz.prog, fn := Tryz.f97, G := tables, sigs := sigsOf 1 [], own := WBytes.sig.toSigR, anns := [] }
theorem WBytes_den : denT WBytes_cx (mkEnv WBytes.sig [] []) = WBytes.Pure := by kernel_rfl
theorem WBytes_kept : Kept Tryz.prog tables 97 WBytes.sig := keep_t (cx := WBytes_cx) (l := []) (invs := []) mixed Tryz.func97 (by kernel_rfl) rfl rfl all_nil rfl WBytes_den WBytes.pure (by decide)
noncomputable def FCover_cx : Cx := { P := Tryz.prog, fn := Tryz.f92, G := tables, sigs := sigsOf 1 [(94, WFixed.sig), (97, WBytes.sig)], own := FCover.sig.toSigR, anns := [] }
theorem FCover_den : denT FCover_cx (mkEnv FCover.sig [WFixed.sig, WBytes.sig] []) = FCover.Pure := by kernel_rfl
theorem FCover_kept : Kept Tryz.prog tables 92 FCover.sig := keep_t (cx := FCover_cx) (l := [(94, WFixed.sig), (97, WBytes.sig)]) (invs := []) mixed Tryz.func92 (by kernel_rfl) rfl rfl (all_cons WFixed_kept (all_cons WBytes_kept all_nil)) rfl FCover_den FCover.pure (by decide)
noncomputable def CMore_cx : Cx := { P := Tryz.prog, fn := Tryz.f95, G := tables, sigs := sigsOf 1 [], own := CMore.sig.toSigR, anns := [{ key := 3, j := 0, watch := [], havoc := [] }] }
theorem CMore_den : denT CMore_cx (mkEnv CMore.sig [] [(CMore.I0, CMore.I0M)]) = CMore.Pure := by kernel_rfl
theorem CMore_kept : Kept Tryz.prog tables 95 CMore.sig := keep_t (cx := CMore_cx) (l := []) (invs := [(CMore.I0, CMore.I0M)]) mixed Tryz.func95 (by kernel_rfl) rfl rfl all_nil rfl CMore_den CMore.pure (by decide)
noncomputable def COf_cx : Cx := { P := Tryz.prog, fn := Tryz.f96, G := tables, sigs := sigsOf 1 [(95, CMore.sig)], own := COf.sig.toSigR, anns := [] }
theorem COf_den : denT COf_cx (mkEnv COf.sig [CMore.sig] []) = COf.Pure := by kernel_rfl
theorem COf_kept : Kept Tryz.prog tables 96 COf.sig := keep_t (cx := COf_cx) (l := [(95, CMore.sig)]) (invs := []) mixed Tryz.func96 (by kernel_rfl) rfl rfl (all_cons CMore_kept all_nil) rfl COf_den COf.pure (by decide)
noncomputable def FRead_cx : Cx := { P := Tryz.prog, fn := Tryz.f89, G := tables, sigs := sigsOf 1 [(129, PRead.sig), (130, PRaw.sig), (131, PErr.sig), (132, PFixed.sig), (133, PAt.sig), (92, FCover.sig), (96, COf.sig), (95, CMore.sig)], own := FRead.sig.toSigR, anns := [] }
theorem FRead_den : denT FRead_cx (mkEnv FRead.sig [PRead.sig, PRaw.sig, PErr.sig, PFixed.sig, PAt.sig, FCover.sig, COf.sig, CMore.sig] []) = FRead.Pure := by kernel_rfl
theorem FRead_kept : Kept Tryz.prog tables 89 FRead.sig := keep_t (cx := FRead_cx) (l := [(129, PRead.sig), (130, PRaw.sig), (131, PErr.sig), (132, PFixed.sig), (133, PAt.sig), (92, FCover.sig), (96, COf.sig), (95, CMore.sig)]) (invs := []) mixed Tryz.func89 (by kernel_rfl) rfl rfl (all_cons PRead_kept (all_cons PRaw_kept (all_cons PErr_kept (all_cons PFixed_kept (all_cons PAt_kept (all_cons FCover_kept (all_cons COf_kept (all_cons CMore_kept all_nil)))))))) rfl FRead_den FRead.pure (by decide)
noncomputable def FScan_cx : Cx := { P := Tryz.prog, fn := Tryz.f51, G := tables, sigs := sigsOf 1 [(89, FRead.sig)], own := FScan.sig.toSigR, anns := [{ key := 3, j := 0, watch := [], havoc := [] }] }
theorem FScan_den : denT FScan_cx (mkEnv FScan.sig [FRead.sig] [(FScan.I0, FScan.I0M)]) = FScan.Pure := by kernel_rfl
theorem FScan_kept : Kept Tryz.prog tables 51 FScan.sig := keep_t (cx := FScan_cx) (l := [(89, FRead.sig)]) (invs := [(FScan.I0, FScan.I0M)]) mixed Tryz.func51 (by kernel_rfl) rfl rfl (all_cons FRead_kept all_nil) rfl FScan_den FScan.pure (by decide)
noncomputable def wOpen_cx : Cx := { P := Tryz.prog, fn := Tryz.f19, G := tables, sigs := sigsOf 1 [(50, wFiles.sig), (18, qRead.sig), (42, wName.sig), (51, FScan.sig)], own := wOpen.sig.toSigR, anns := [{ key := 7, j := 0, watch := [], havoc := [1] }, { key := 999999, j := 0, watch := [], havoc := [] }] }
theorem wOpen_den : denS wOpen_cx (mkEnv wOpen.sig [wFiles.sig, qRead.sig, wName.sig, FScan.sig] [(wOpen.I0, wOpen.I0M)]) = wOpen.Pure := by kernel_rfl
theorem wOpen_kept : Kept Tryz.prog tables 19 wOpen.sig := keep_s (cx := wOpen_cx) (l := [(50, wFiles.sig), (18, qRead.sig), (42, wName.sig), (51, FScan.sig)]) (invs := [(wOpen.I0, wOpen.I0M)]) mixed Tryz.func19 (by kernel_rfl) rfl rfl (all_cons wFiles_kept (all_cons qRead_kept (all_cons wName_kept (all_cons FScan_kept all_nil)))) rfl wOpen_den wOpen.pure (by decide)
theorem pOpen_kept : Kept Tryz.prog tables 19 pOpen.sig := pOpen_of wOpen_kept
noncomputable def dCut_cx : Cx := { P := Tryz.prog, fn := Tryz.f14, G := tables, sigs := sigsOf 1 [], own := dCut.sig.toSigR, anns := [{ key := 999999, j := 0, watch := [], havoc := [] }] }
theorem dCut_den : denT dCut_cx (mkEnv dCut.sig [] []) = dCut.Pure := by kernel_rfl
theorem dCut_kept : Kept Tryz.prog tables 14 dCut.sig := keep_t (cx := dCut_cx) (l := []) (invs := []) mixed Tryz.func14 (by kernel_rfl) rfl rfl all_nil rfl dCut_den dCut.pure (by decide)
noncomputable def WRaw_cx : Cx := { P := Tryz.prog, fn := Tryz.f93, G := tables, sigs := sigsOf 1 [], own := WRaw.sig.toSigR, anns := [] }
theorem WRaw_den : denT WRaw_cx (mkEnv WRaw.sig [] []) = WRaw.Pure := by kernel_rfl
theorem WRaw_kept : Kept Tryz.prog tables 93 WRaw.sig := keep_t (cx := WRaw_cx) (l := []) (invs := []) mixed Tryz.func93 (by kernel_rfl) rfl rfl all_nil rfl WRaw_den WRaw.pure (by decide)
noncomputable def FWrite_cx : Cx := { P := Tryz.prog, fn := Tryz.f54, G := tables, sigs := sigsOf 1 [(92, FCover.sig), (96, COf.sig), (95, CMore.sig), (93, WRaw.sig), (94, WFixed.sig), (97, WBytes.sig)], own := FWrite.sig.toSigR, anns := [] }
theorem FWrite_den : denT FWrite_cx (mkEnv FWrite.sig [FCover.sig, COf.sig, CMore.sig, WRaw.sig, WFixed.sig, WBytes.sig] []) = FWrite.Pure := by kernel_rfl
theorem FWrite_kept : Kept Tryz.prog tables 54 FWrite.sig := keep_t (cx := FWrite_cx) (l := [(92, FCover.sig), (96, COf.sig), (95, CMore.sig), (93, WRaw.sig), (94, WFixed.sig), (97, WBytes.sig)]) (invs := []) mixed Tryz.func54 (by kernel_rfl) rfl rfl (all_cons FCover_kept (all_cons COf_kept (all_cons CMore_kept (all_cons WRaw_kept (all_cons WFixed_kept (all_cons WBytes_kept all_nil)))))) rfl FWrite_den FWrite.pure (by decide)
noncomputable def dBegin_cx : Cx := { P := Tryz.prog, fn := Tryz.f43, G := tables, sigs := sigsOf 1 [], own := dBegin.sig.toSigR, anns := [{ key := 999999, j := 0, watch := [], havoc := [] }] }
theorem dBegin_den : denT dBegin_cx (mkEnv dBegin.sig [] []) = dBegin.Pure := by kernel_rfl
theorem dBegin_kept : Kept Tryz.prog tables 43 dBegin.sig := keep_t (cx := dBegin_cx) (l := []) (invs := []) mixed Tryz.func43 (by kernel_rfl) rfl rfl all_nil rfl dBegin_den dBegin.pure (by decide)
noncomputable def dEnd_cx : Cx := { P := Tryz.prog, fn := Tryz.f45, G := tables, sigs := sigsOf 1 [], own := dEnd.sig.toSigR, anns := [{ key := 999999, j := 0, watch := [], havoc := [] }] }
theorem dEnd_den : denT dEnd_cx (mkEnv dEnd.sig [] []) = dEnd.Pure := by kernel_rfl
theorem dEnd_kept : Kept Tryz.prog tables 45 dEnd.sig := keep_t (cx := dEnd_cx) (l := []) (invs := []) mixed Tryz.func45 (by kernel_rfl) rfl rfl all_nil rfl dEnd_den dEnd.pure (by decide)
noncomputable def dSync_cx : Cx := { P := Tryz.prog, fn := Tryz.f56, G := tables, sigs := sigsOf 1 [(46, dFind.sig), (43, dBegin.sig), (45, dEnd.sig)], own := dSync.sig.toSigR, anns := [{ key := 999999, j := 0, watch := [], havoc := [] }] }
theorem dSync_den : denT dSync_cx (mkEnv dSync.sig [dFind.sig, dBegin.sig, dEnd.sig] []) = dSync.Pure := by kernel_rfl
theorem dSync_kept : Kept Tryz.prog tables 56 dSync.sig := keep_t (cx := dSync_cx) (l := [(46, dFind.sig), (43, dBegin.sig), (45, dEnd.sig)]) (invs := []) mixed Tryz.func56 (by kernel_rfl) rfl rfl (all_cons dFind_kept (all_cons dBegin_kept (all_cons dEnd_kept all_nil))) rfl dSync_den dSync.pure (by decide)
theorem qSync_kept : Kept Tryz.prog tables 56 qSync.sig := qSync_of dSync_kept
noncomputable def wSync_cx : Cx := { P := Tryz.prog, fn := Tryz.f25, G := tables, sigs := sigsOf 1 [(56, qSync.sig)], own := wSync.sig.toSigR, anns := [{ key := 1, j := 0, watch := [], havoc := [0, 2] }, { key := 999999, j := 0, watch := [], havoc := [] }] }
theorem wSync_den : denS wSync_cx (mkEnv wSync.sig [qSync.sig] [(wSync.I0, wSync.I0M)]) = wSync.Pure := by kernel_rfl
theorem wSync_kept : Kept Tryz.prog tables 25 wSync.sig := keep_s (cx := wSync_cx) (l := [(56, qSync.sig)]) (invs := [(wSync.I0, wSync.I0M)]) mixed Tryz.func25 (by kernel_rfl) rfl rfl (all_cons qSync_kept all_nil) rfl wSync_den wSync.pure (by decide)
noncomputable def wIndex_cx : Cx := { P := Tryz.prog, fn := Tryz.f121, G := tables, sigs := sigsOf 1 [], own := wIndex.sig.toSigR, anns := [{ key := 2, j := 0, watch := [], havoc := [] }, { key := 999999, j := 0, watch := [], havoc := [] }] }
theorem wIndex_den : denS wIndex_cx (mkEnv wIndex.sig [] [(wIndex.I0, wIndex.I0M)]) = wIndex.Pure := by kernel_rfl
theorem wIndex_kept : Kept Tryz.prog tables 121 wIndex.sig := keep_s (cx := wIndex_cx) (l := []) (invs := [(wIndex.I0, wIndex.I0M)]) mixed Tryz.func121 (by kernel_rfl) rfl rfl all_nil rfl wIndex_den wIndex.pure (by decide)
noncomputable def wContains_cx : Cx := { P := Tryz.prog, fn := Tryz.f81, G := tables, sigs := sigsOf 1 [(121, wIndex.sig)], own := wContains.sig.toSigR, anns := [{ key := 999999, j := 0, watch := [], havoc := [] }] }
theorem wContains_den : denS wContains_cx (mkEnv wContains.sig [wIndex.sig] []) = wContains.Pure := by kernel_rfl
theorem wContains_kept : Kept Tryz.prog tables 81 wContains.sig := keep_s (cx := wContains_cx) (l := [(121, wIndex.sig)]) (invs := []) mixed Tryz.func81 (by kernel_rfl) rfl rfl (all_cons wIndex_kept all_nil) rfl wContains_den wContains.pure (by decide)
noncomputable def dApply_cx : Cx := { P := Tryz.prog, fn := Tryz.f58, G := tables, sigs := sigsOf 1 [], own := dApply.sig.toSigR, anns := [{ key := 999999, j := 0, watch := [], havoc := [] }] }
theorem dApply_den : denT dApply_cx (mkEnv dApply.sig [] []) = dApply.Pure := by kernel_rfl
theorem dApply_kept : Kept Tryz.prog tables 58 dApply.sig := keep_t (cx := dApply_cx) (l := []) (invs := []) mixed Tryz.func58 (by kernel_rfl) rfl rfl all_nil rfl dApply_den dApply.pure (by decide)
noncomputable def dTurn_cx : Cx := { P := Tryz.prog, fn := Tryz.f44, G := tables, sigs := sigsOf 1 [(58, dApply.sig)], own := dTurn.sig.toSigR, anns := [{ key := 999999, j := 0, watch := [], havoc := [] }] }
theorem dTurn_den : denT dTurn_cx (mkEnv dTurn.sig [dApply.sig] []) = dTurn.Pure := by kernel_rfl
theorem dTurn_kept : Kept Tryz.prog tables 44 dTurn.sig := keep_t (cx := dTurn_cx) (l := [(58, dApply.sig)]) (invs := []) mixed Tryz.func44 (by kernel_rfl) rfl rfl (all_cons dApply_kept all_nil) rfl dTurn_den dTurn.pure (by decide)
noncomputable def dRemove_cx : Cx := { P := Tryz.prog, fn := Tryz.f63, G := tables, sigs := sigsOf 1 [(46, dFind.sig), (43, dBegin.sig), (44, dTurn.sig), (45, dEnd.sig)], own := dRemove.sig.toSigR, anns := [{ key := 999999, j := 0, watch := [], havoc := [] }] }
theorem dRemove_den : denT dRemove_cx (mkEnv dRemove.sig [dFind.sig, dBegin.sig, dTurn.sig, dEnd.sig] []) = dRemove.Pure := by kernel_rfl
theorem dRemove_kept : Kept Tryz.prog tables 63 dRemove.sig := keep_t (cx := dRemove_cx) (l := [(46, dFind.sig), (43, dBegin.sig), (44, dTurn.sig), (45, dEnd.sig)]) (invs := []) mixed Tryz.func63 (by kernel_rfl) rfl rfl (all_cons dFind_kept (all_cons dBegin_kept (all_cons dTurn_kept (all_cons dEnd_kept all_nil)))) rfl dRemove_den dRemove.pure (by decide)
theorem qRemove_kept : Kept Tryz.prog tables 63 qRemove.sig := qRemove_of dRemove_kept
noncomputable def dCreate_cx : Cx := { P := Tryz.prog, fn := Tryz.f15, G := tables, sigs := sigsOf 1 [(43, dBegin.sig), (44, dTurn.sig), (45, dEnd.sig)], own := dCreate.sig.toSigR, anns := [{ key := 999999, j := 0, watch := [], havoc := [] }] }
theorem dCreate_den : denT dCreate_cx (mkEnv dCreate.sig [dBegin.sig, dTurn.sig, dEnd.sig] []) = dCreate.Pure := by kernel_rfl
theorem dCreate_kept : Kept Tryz.prog tables 15 dCreate.sig := keep_t (cx := dCreate_cx) (l := [(43, dBegin.sig), (44, dTurn.sig), (45, dEnd.sig)]) (invs := []) mixed Tryz.func15 (by kernel_rfl) rfl rfl (all_cons dBegin_kept (all_cons dTurn_kept (all_cons dEnd_kept all_nil))) rfl dCreate_den dCreate.pure (by decide)
theorem qCreate_kept : Kept Tryz.prog tables 15 qCreate.sig := qCreate_of dCreate_kept
theorem dClone_kept : Kept Tryz.prog tables 59 dClone.sig := kept_clone Tryz.func59 (by kernel_rfl) rfl Tryz.runClone
theorem dDel_kept : Kept Tryz.prog tables 99 (dDel.sig 100) := kept_del Tryz.func99 (by kernel_rfl) rfl (by kernel_rfl) Tryz.runDel
noncomputable def dSweep_cx : Cx := { P := Tryz.prog, fn := Tryz.f60, G := tables, sigs := sigsOf 1 [(99, (dDel.sig 100))], own := dSweep.sig.toSigR, anns := [{ key := 2, j := 0, watch := [], havoc := [1, 4] }, { key := 6, j := 1, watch := [], havoc := [1, 5] }, { key := 10, j := 2, watch := [], havoc := [1] }, { key := 999999, j := 0, watch := [], havoc := [] }] }
theorem dSweep_den : denT dSweep_cx (mkEnv dSweep.sig [(dDel.sig 100)] [(dSweep.I0, dSweep.I0M), (dSweep.I1, dSweep.I1M), (dSweep.I2, dSweep.I2M)]) = dSweep.Pure := by kernel_rfl
theorem dSweep_kept : Kept Tryz.prog tables 60 dSweep.sig := keep_t (cx := dSweep_cx) (l := [(99, (dDel.sig 100))]) (invs := [(dSweep.I0, dSweep.I0M), (dSweep.I1, dSweep.I1M), (dSweep.I2, dSweep.I2M)]) mixed Tryz.func60 (by kernel_rfl) rfl rfl (all_cons dDel_kept all_nil) rfl dSweep_den dSweep.pure (by decide)
noncomputable def dSyncNames_cx : Cx := { P := Tryz.prog, fn := Tryz.f64, G := tables, sigs := sigsOf 1 [(43, dBegin.sig), (45, dEnd.sig), (59, dClone.sig), (60, dSweep.sig)], own := dSyncNames.sig.toSigR, anns := [{ key := 999999, j := 0, watch := [], havoc := [] }] }
theorem dSyncNames_den : denT dSyncNames_cx (mkEnv dSyncNames.sig [dBegin.sig, dEnd.sig, dClone.sig, dSweep.sig] []) = dSyncNames.Pure := by kernel_rfl
theorem dSyncNames_kept : Kept Tryz.prog tables 64 dSyncNames.sig := keep_t (cx := dSyncNames_cx) (l := [(43, dBegin.sig), (45, dEnd.sig), (59, dClone.sig), (60, dSweep.sig)]) (invs := []) mixed Tryz.func64 (by kernel_rfl) rfl rfl (all_cons dBegin_kept (all_cons dEnd_kept (all_cons dClone_kept (all_cons dSweep_kept all_nil)))) rfl dSyncNames_den dSyncNames.pure (by decide)
theorem qSyncNames_kept : Kept Tryz.prog tables 64 qSyncNames.sig := qSyncNames_of dSyncNames_kept
noncomputable def wTurn_cx : Cx := { P := Tryz.prog, fn := Tryz.f55, G := tables, sigs := sigsOf 1 [(25, wSync.sig), (42, wName.sig), (17, qNames.sig), (81, wContains.sig), (63, qRemove.sig), (15, qCreate.sig), (64, qSyncNames.sig)], own := wTurn.sig.toSigR, anns := [{ key := 999999, j := 0, watch := [], havoc := [] }] }
theorem wTurn_den : denS wTurn_cx (mkEnv wTurn.sig [wSync.sig, wName.sig, qNames.sig, wContains.sig, qRemove.sig, qCreate.sig, qSyncNames.sig] []) = wTurn.Pure := by kernel_rfl
theorem wTurn_kept : Kept Tryz.prog tables 55 wTurn.sig := keep_s (cx := wTurn_cx) (l := [(25, wSync.sig), (42, wName.sig), (17, qNames.sig), (81, wContains.sig), (63, qRemove.sig), (15, qCreate.sig), (64, qSyncNames.sig)]) (invs := []) mixed Tryz.func55 (by kernel_rfl) rfl rfl (all_cons wSync_kept (all_cons wName_kept (all_cons qNames_kept (all_cons wContains_kept (all_cons qRemove_kept (all_cons qCreate_kept (all_cons qSyncNames_kept all_nil))))))) rfl wTurn_den wTurn.pure (by decide)
noncomputable def dUsed_cx : Cx := { P := Tryz.prog, fn := Tryz.f83, G := tables, sigs := sigsOf 1 [], own := dUsed.sig.toSigR, anns := [{ key := 3, j := 0, watch := [], havoc := [1] }, { key := 999999, j := 0, watch := [], havoc := [] }] }
theorem dUsed_den : denT dUsed_cx (mkEnv dUsed.sig [] [(dUsed.I0, dUsed.I0M)]) = dUsed.Pure := by kernel_rfl
theorem dUsed_kept : Kept Tryz.prog tables 83 dUsed.sig := keep_t (cx := dUsed_cx) (l := []) (invs := [(dUsed.I0, dUsed.I0M)]) mixed Tryz.func83 (by kernel_rfl) rfl rfl all_nil rfl dUsed_den dUsed.pure (by decide)
noncomputable def dFree_cx : Cx := { P := Tryz.prog, fn := Tryz.f47, G := tables, sigs := sigsOf 1 [(83, dUsed.sig)], own := dFree.sig.toSigR, anns := [{ key := 999999, j := 0, watch := [], havoc := [] }] }
theorem dFree_den : denT dFree_cx (mkEnv dFree.sig [dUsed.sig] []) = dFree.Pure := by kernel_rfl
theorem dFree_kept : Kept Tryz.prog tables 47 dFree.sig := keep_t (cx := dFree_cx) (l := [(83, dUsed.sig)]) (invs := []) mixed Tryz.func47 (by kernel_rfl) rfl rfl (all_cons dUsed_kept all_nil) rfl dFree_den dFree.pure (by decide)
noncomputable def dAppend_cx : Cx := { P := Tryz.prog, fn := Tryz.f16, G := tables, sigs := sigsOf 1 [(46, dFind.sig), (47, dFree.sig), (43, dBegin.sig), (45, dEnd.sig)], own := dAppend.sig.toSigR, anns := [{ key := 999999, j := 0, watch := [], havoc := [] }] }
theorem dAppend_den : denT dAppend_cx (mkEnv dAppend.sig [dFind.sig, dFree.sig, dBegin.sig, dEnd.sig] []) = dAppend.Pure := by kernel_rfl
theorem dAppend_kept : Kept Tryz.prog tables 16 dAppend.sig := keep_t (cx := dAppend_cx) (l := [(46, dFind.sig), (47, dFree.sig), (43, dBegin.sig), (45, dEnd.sig)]) (invs := []) mixed Tryz.func16 (by kernel_rfl) rfl rfl (all_cons dFind_kept (all_cons dFree_kept (all_cons dBegin_kept (all_cons dEnd_kept all_nil)))) rfl dAppend_den dAppend.pure (by decide)
theorem qAppend_kept : Kept Tryz.prog tables 16 qAppend.sig := qAppend_of dAppend_kept
noncomputable def wAppend_cx : Cx := { P := Tryz.prog, fn := Tryz.f23, G := tables, sigs := sigsOf 1 [(54, FWrite.sig), (55, wTurn.sig), (16, qAppend.sig)], own := wAppend.sig.toSigR, anns := [{ key := 999999, j := 0, watch := [], havoc := [] }] }
theorem wAppend_den : denS wAppend_cx (mkEnv wAppend.sig [FWrite.sig, wTurn.sig, qAppend.sig] []) = wAppend.Pure := by kernel_rfl
theorem wAppend_kept : Kept Tryz.prog tables 23 wAppend.sig := keep_s (cx := wAppend_cx) (l := [(54, FWrite.sig), (55, wTurn.sig), (16, qAppend.sig)]) (invs := []) mixed Tryz.func23 (by kernel_rfl) rfl rfl (all_cons FWrite_kept (all_cons wTurn_kept (all_cons qAppend_kept all_nil))) rfl wAppend_den wAppend.pure (by decide)
theorem pAppend_kept : Kept Tryz.prog tables 23 pAppend.sig := pAppend_of wAppend_kept
theorem pSync_kept : Kept Tryz.prog tables 25 pSync.sig := pSync_of wSync_kept
noncomputable def wRetire_cx : Cx := { P := Tryz.prog, fn := Tryz.f28, G := tables, sigs := sigsOf 1 [(50, wFiles.sig), (42, wName.sig), (63, qRemove.sig), (64, qSyncNames.sig)], own := wRetire.sig.toSigR, anns := [{ key := 6, j := 0, watch := [], havoc := [2] }, { key := 999999, j := 0, watch := [], havoc := [] }] }
theorem wRetire_den : denS wRetire_cx (mkEnv wRetire.sig [wFiles.sig, wName.sig, qRemove.sig, qSyncNames.sig] [(wRetire.I0, wRetire.I0M)]) = wRetire.Pure := by kernel_rfl
theorem wRetire_kept : Kept Tryz.prog tables 28 wRetire.sig := keep_s (cx := wRetire_cx) (l := [(50, wFiles.sig), (42, wName.sig), (63, qRemove.sig), (64, qSyncNames.sig)]) (invs := [(wRetire.I0, wRetire.I0M)]) mixed Tryz.func28 (by kernel_rfl) rfl rfl (all_cons wFiles_kept (all_cons wName_kept (all_cons qRemove_kept (all_cons qSyncNames_kept all_nil)))) rfl wRetire_den wRetire.pure (by decide)
theorem pRetire_kept : Kept Tryz.prog tables 28 pRetire.sig := pRetire_of wRetire_kept
noncomputable def dPick_cx : Cx := { P := Tryz.prog, fn := Tryz.f57, G := tables, sigs := sigsOf 1 [], own := dPick.sig.toSigR, anns := [{ key := 999999, j := 0, watch := [], havoc := [] }] }
theorem dPick_den : denT dPick_cx (mkEnv dPick.sig [] []) = dPick.Pure := by kernel_rfl
theorem dPick_kept : Kept Tryz.prog tables 57 dPick.sig := keep_t (cx := dPick_cx) (l := []) (invs := []) mixed Tryz.func57 (by kernel_rfl) rfl rfl all_nil rfl dPick_den dPick.pure (by decide)
noncomputable def dKeysI_cx : Cx := { P := Tryz.prog, fn := Tryz.f62, G := tables, sigs := sigsOf 1 [], own := (dKeysI.sig 103).toSigR, anns := [{ key := 999999, j := 0, watch := [], havoc := [] }] }
theorem dKeysI_den : denT dKeysI_cx (mkEnv (dKeysI.sig 103) [] []) = dKeysI.Pure := by kernel_rfl
theorem dKeysI_kept : Kept Tryz.prog tables 62 (dKeysI.sig 103) := keep_t (cx := dKeysI_cx) (l := []) (invs := []) mixed Tryz.func62 (by kernel_rfl) rfl rfl all_nil rfl dKeysI_den dKeysI.pure (by decide)
theorem dSortI_kept : Kept Tryz.prog tables 61 (dSortI.sig 103) := kept_sort Tryz.func61 (by kernel_rfl) rfl (fun _ => ⟨_, rfl⟩) (.inr ⟨_, _, rfl⟩) (Tryz.runSortI rfl)
noncomputable def dRestart_cx : Cx := { P := Tryz.prog, fn := Tryz.f26, G := tables, sigs := sigsOf 1 [(57, dPick.sig), (58, dApply.sig), (59, dClone.sig), (60, dSweep.sig), (62, (dKeysI.sig 103)), (61, (dSortI.sig 103))], own := dRestart.sig.toSigR, anns := [{ key := 2, j := 0, watch := [], havoc := [4] }, { key := 11, j := 1, watch := [], havoc := [2] }, { key := 999999, j := 0, watch := [], havoc := [] }] }
theorem dRestart_den : denT dRestart_cx (mkEnv dRestart.sig [dPick.sig, dApply.sig, dClone.sig, dSweep.sig, (dKeysI.sig 103), (dSortI.sig 103)] [(dRestart.I0, dRestart.I0M), (dRestart.I1, dRestart.I1M)]) = dRestart.Pure := by kernel_rfl
theorem dRestart_kept : Kept Tryz.prog tables 26 dRestart.sig := keep_t (cx := dRestart_cx) (l := [(57, dPick.sig), (58, dApply.sig), (59, dClone.sig), (60, dSweep.sig), (62, (dKeysI.sig 103)), (61, (dSortI.sig 103))]) (invs := [(dRestart.I0, dRestart.I0M), (dRestart.I1, dRestart.I1M)]) mixed Tryz.func26 (by kernel_rfl) rfl rfl (all_cons dPick_kept (all_cons dApply_kept (all_cons dClone_kept (all_cons dSweep_kept (all_cons dKeysI_kept (all_cons dSortI_kept all_nil)))))) rfl dRestart_den dRestart.pure (by decide)
theorem qRestart_kept : Kept Tryz.prog tables 26 qRestart.sig := qRestart_of dRestart_kept
noncomputable def eDead_cx : Cx := { P := Tryz.prog, fn := Tryz.f29, G := tables, sigs := sigsOf 1 [], own := eDead.sig.toSigR, anns := [{ key := 999999, j := 0, watch := [], havoc := [] }] }
theorem eDead_den : denT eDead_cx (mkEnv eDead.sig [] []) = eDead.Pure := by kernel_rfl
theorem eDead_kept : Kept Tryz.prog tables 29 eDead.sig := keep_t (cx := eDead_cx) (l := []) (invs := []) mixed Tryz.func29 (by kernel_rfl) rfl rfl all_nil rfl eDead_den eDead.pure (by decide)
theorem qDead_kept : Kept Tryz.prog tables 29 qDead.sig := qDead_of eDead_kept
noncomputable def SameL_cx : Cx := { P := Tryz.prog, fn := Tryz.f22, G := tables, sigs := sigsOf 1 [], own := SameL.sig.toSigR, anns := [{ key := 4, j := 0, watch := [], havoc := [] }] }
theorem SameL_den : denT SameL_cx (mkEnv SameL.sig [] [(SameL.I0, SameL.I0M)]) = SameL.Pure := by kernel_rfl
theorem SameL_kept : Kept Tryz.prog tables 22 SameL.sig := keep_t (cx := SameL_cx) (l := []) (invs := [(SameL.I0, SameL.I0M)]) mixed Tryz.func22 (by kernel_rfl) rfl rfl all_nil rfl SameL_den SameL.pure (by decide)
noncomputable def fits7_cx : Cx := { P := Tryz.prog, fn := Tryz.f27, G := tables, sigs := sigsOf 1 [(22, SameL.sig)], own := fits7.sig.toSigR, anns := [{ key := 999999, j := 0, watch := [], havoc := [] }] }
theorem fits7_den : denS fits7_cx (mkEnv fits7.sig [SameL.sig] []) = fits7.Pure := by kernel_rfl
theorem fits7_kept : Kept Tryz.prog tables 27 fits7.sig := keep_s (cx := fits7_cx) (l := [(22, SameL.sig)]) (invs := []) mixed Tryz.func27 (by kernel_rfl) rfl rfl (all_cons SameL_kept all_nil) rfl fits7_den fits7.pure (by decide)
noncomputable def eCrash_cx : Cx := { P := Tryz.prog, fn := Tryz.f24, G := tables, sigs := sigsOf 1 [], own := eCrash.sig.toSigR, anns := [{ key := 999999, j := 0, watch := [], havoc := [] }] }
theorem eCrash_den : denT eCrash_cx (mkEnv eCrash.sig [] []) = eCrash.Pure := by kernel_rfl
theorem eCrash_kept : Kept Tryz.prog tables 24 eCrash.sig := keep_t (cx := eCrash_cx) (l := []) (invs := []) mixed Tryz.func24 (by kernel_rfl) rfl rfl all_nil rfl eCrash_den eCrash.pure (by decide)
theorem qCrash_kept : Kept Tryz.prog tables 24 qCrash.sig := qCrash_of eCrash_kept
noncomputable def eFail_cx : Cx := { P := Tryz.prog, fn := Tryz.f30, G := tables, sigs := sigsOf 1 [], own := eFail.sig.toSigR, anns := [{ key := 999999, j := 0, watch := [], havoc := [] }] }
theorem eFail_den : denT eFail_cx (mkEnv eFail.sig [] []) = eFail.Pure := by kernel_rfl
theorem eFail_kept : Kept Tryz.prog tables 30 eFail.sig := keep_t (cx := eFail_cx) (l := []) (invs := []) mixed Tryz.func30 (by kernel_rfl) rfl rfl all_nil rfl eFail_den eFail.pure (by decide)
theorem qFail_kept : Kept Tryz.prog tables 30 qFail.sig := qFail_of eFail_kept
noncomputable def eRoom_cx : Cx := { P := Tryz.prog, fn := Tryz.f31, G := tables, sigs := sigsOf 1 [], own := eRoom.sig.toSigR, anns := [{ key := 999999, j := 0, watch := [], havoc := [] }] }
theorem eRoom_den : denT eRoom_cx (mkEnv eRoom.sig [] []) = eRoom.Pure := by kernel_rfl
theorem eRoom_kept : Kept Tryz.prog tables 31 eRoom.sig := keep_t (cx := eRoom_cx) (l := []) (invs := []) mixed Tryz.func31 (by kernel_rfl) rfl rfl all_nil rfl eRoom_den eRoom.pure (by decide)
theorem qRoom_kept : Kept Tryz.prog tables 31 qRoom.sig := qRoom_of eRoom_kept
noncomputable def wNext_cx : Cx := { P := Tryz.prog, fn := Tryz.f21, G := tables, sigs := sigsOf 1 [], own := wNext.sig.toSigR, anns := [{ key := 999999, j := 0, watch := [], havoc := [] }] }
theorem wNext_den : denS wNext_cx (mkEnv wNext.sig [] []) = wNext.Pure := by kernel_rfl
theorem wNext_kept : Kept Tryz.prog tables 21 wNext.sig := keep_s (cx := wNext_cx) (l := []) (invs := []) mixed Tryz.func21 (by kernel_rfl) rfl rfl all_nil rfl wNext_den wNext.pure (by decide)
theorem pNext_kept : Kept Tryz.prog tables 21 pNext.sig := pNext_of wNext_kept
noncomputable def aw7_cx : Cx := { P := Tryz.prog, fn := Tryz.f13, G := tables, sigs := sigsOf 1 [(12, qNew.sig), (19, pOpen.sig), (23, pAppend.sig), (25, pSync.sig), (26, qRestart.sig), (21, pNext.sig), (42, wName.sig)], own := aw7.sig.toSigR, anns := [{ key := 999999, j := 0, watch := [], havoc := [] }] }
theorem aw7_den : denS aw7_cx (mkEnv aw7.sig [qNew.sig, pOpen.sig, pAppend.sig, pSync.sig, qRestart.sig, pNext.sig, wName.sig] []) = aw7.Pure := by kernel_rfl
theorem aw7_kept : Kept Tryz.prog tables 13 aw7.sig := keep_s (cx := aw7_cx) (l := [(12, qNew.sig), (19, pOpen.sig), (23, pAppend.sig), (25, pSync.sig), (26, qRestart.sig), (21, pNext.sig), (42, wName.sig)]) (invs := []) mixed Tryz.func13 (by kernel_rfl) rfl rfl (all_cons qNew_kept (all_cons pOpen_kept (all_cons pAppend_kept (all_cons pSync_kept (all_cons qRestart_kept (all_cons pNext_kept (all_cons wName_kept all_nil))))))) rfl aw7_den aw7.pure (by decide)
theorem tables_of {W : World} (h : laidMetH Tryz.prog [("ordeal/crc.half", tableData .u32 crcHalf)] W) : ∀ g ∈ tables, g.holds W := by
  rw [MakeChecks.laidMetH_plain _ _ _ (by kernel_rfl)] at h
  obtain ⟨ps, ⟨g0, t0, cs0, f0, p0, q0, hg0, ht0, hv0, hd0, hend, e0⟩, _, _⟩ := h
  obtain rfl := Option.some.inj ((show Tryz.prog.globalNamed "ordeal/crc.half" = some 0 by kernel_rfl).symm.trans hg0)
  obtain rfl := Option.some.inj ((show (Tryz.prog.globals[0]?).map (·.type) = some 209 by kernel_rfl).symm.trans ht0)
  intro g hg
  simp only [tables, List.mem_cons, List.not_mem_nil, or_false] at hg
  rcases hg with rfl
  · exact glob_one (t := 209) (e := 127) hg0 (by kernel_rfl) (by kernel_rfl) (by kernel_rfl) (by kernel_rfl) hv0 hd0
end Go.Proofs.YtmgeaephkagdiaaGreatDoor.WalpKeep
