/-
  Each of these functions keeps its contract, in the program of this seat.
-/
import Derived.Test.YtgdkackabmhhhaaDoorChecked
import Derived.Test.YtgdkackabmhhhaaDoorShab
import Derived.Test.YtgdkackabmhhhaaDoorTab
import Derived.Test.YtgdkackabmhhhaaDoorIxb
import Derived.LaidMore
import Derived.Stop.Joined
set_option linter.unusedVariables false
namespace Go.Proofs.YtgdkackabmhhhaaDoor.ShabKeep
open Go.Vc
theorem mixed : Tryd.prog.follows .mixedOrders = true := by kernel_rfl
theorem all_nil {p : FuncId × Sig → Prop} : ∀ x ∈ ([] : List (FuncId × Sig)), p x := by intro x hx; cases hx
theorem all_cons {p : FuncId × Sig → Prop} {a : FuncId × Sig} {l : List (FuncId × Sig)} (h : p a) (h' : ∀ x ∈ l, p x) : ∀ x ∈ a :: l, p x := by
  intro x hx
  rcases List.mem_cons.1 hx with rfl | hx
  · exact h
  · exact h' x hx
def tables : List Glob := [{ g := 1, k := .u32, l := shaRounds }, { g := 0, k := .u32, l := shaStart }]
noncomputable def HText_cx : Cx := { P := Tryd.prog, fn := Tryd.f14, G := tables, sigs := sigsOf 1 [], own := HText.sig.toSigR, anns := [{ key := 3, j := 0, watch := [], havoc := [] }, { key := 999999, j := 0, watch := [], havoc := [] }] }
theorem HText_vc : vcOf' HText_cx = .ok HText.vc := by kernel_rfl
theorem HText_kept : Kept Tryd.prog tables 14 HText.sig := keeps (cx := HText_cx) (l := []) (invs := [(HText.I0, HText.I0M)]) mixed Tryd.func14 (by kernel_rfl) rfl rfl all_nil HText_vc (Eq.mpr HText.den HText.pure)
theorem IxB_kept : Kept Tryd.prog tables 22 IxB.sig := kept_ix Tryd.func22 (by kernel_rfl) (by kernel_rfl) (fun s c w => Tryd.strings_IndexByte s c w)
noncomputable def HParse_cx : Cx := { P := Tryd.prog, fn := Tryd.f13, G := tables, sigs := sigsOf 1 [(22, IxB.sig)], own := HParse.sig.toSigR, anns := [{ key := 5, j := 0, watch := [], havoc := [0] }, { key := 999999, j := 0, watch := [], havoc := [] }] }
theorem HParse_vc : vcOf' HParse_cx = .ok HParse.vc := by kernel_rfl
theorem HParse_kept : Kept Tryd.prog tables 13 HParse.sig := keeps (cx := HParse_cx) (l := [(22, IxB.sig)]) (invs := [(HParse.I0, HParse.I0M)]) mixed Tryd.func13 (by kernel_rfl) rfl rfl (all_cons IxB_kept all_nil) HParse_vc (Eq.mpr HParse.den HParse.pure)
noncomputable def HCmp_cx : Cx := { P := Tryd.prog, fn := Tryd.f15, G := tables, sigs := sigsOf 1 [], own := HCmp.sig.toSigR, anns := [{ key := 2, j := 0, watch := [], havoc := [] }, { key := 999999, j := 0, watch := [], havoc := [] }] }
theorem HCmp_vc : vcOf' HCmp_cx = .ok HCmp.vc := by kernel_rfl
theorem HCmp_kept : Kept Tryd.prog tables 15 HCmp.sig := keeps (cx := HCmp_cx) (l := []) (invs := [(HCmp.I0, HCmp.I0M)]) mixed Tryd.func15 (by kernel_rfl) rfl rfl all_nil HCmp_vc (Eq.mpr HCmp.den HCmp.pure)
noncomputable def T32_cx : Cx := { P := Tryd.prog, fn := Tryd.f26, G := tables, sigs := sigsOf 1 [], own := T32.sig.toSigR, anns := [] }
theorem T32_vc : vcOf' T32_cx = .ok T32.vc := by kernel_rfl
theorem T32_kept : Kept Tryd.prog tables 26 T32.sig := keeps (cx := T32_cx) (l := []) (invs := []) mixed Tryd.func26 (by kernel_rfl) rfl rfl all_nil T32_vc (Eq.mpr T32.den T32.pure)
noncomputable def SSched_cx : Cx := { P := Tryd.prog, fn := Tryd.f25, G := tables, sigs := sigsOf 1 [(26, T32.sig)], own := SSched.sig.toSigR, anns := [{ key := 3, j := 0, watch := [], havoc := [0] }, { key := 8, j := 1, watch := [], havoc := [0] }, { key := 999999, j := 0, watch := [], havoc := [] }] }
theorem SSched_vc : vcOf' SSched_cx = .ok SSched.vc := by kernel_rfl
theorem SSched_kept : Kept Tryd.prog tables 25 SSched.sig := keeps (cx := SSched_cx) (l := [(26, T32.sig)]) (invs := [(SSched.I0, SSched.I0M), (SSched.I1, SSched.I1M)]) mixed Tryd.func25 (by kernel_rfl) rfl rfl (all_cons T32_kept all_nil) SSched_vc (Eq.mpr SSched.den SSched.pure)
noncomputable def SMix_cx : Cx := { P := Tryd.prog, fn := Tryd.f18, G := tables, sigs := sigsOf 1 [(25, SSched.sig), (26, T32.sig)], own := SMix.sig.toSigR, anns := [{ key := 3, j := 0, watch := [], havoc := [0] }, { key := 11, j := 1, watch := [], havoc := [0] }, { key := 3, j := 2, join := true, tmpl := some SMix.T }, { key := 999999, j := 0, watch := [], havoc := [] }] }
theorem SMix_vc : vcOf' SMix_cx = .ok SMix.vc := by kernel_rfl
theorem SMix_kept : Kept Tryd.prog tables 18 SMix.sig := keeps (cx := SMix_cx) (l := [(25, SSched.sig), (26, T32.sig)]) (invs := [(SMix.I0, SMix.I0M), (SMix.I1, SMix.I1M), (SMix.J0, SMix.J0M)]) mixed Tryd.func18 (by kernel_rfl) rfl rfl (all_cons SSched_kept (all_cons T32_kept all_nil)) SMix_vc (Eq.mpr SMix.den SMix.pure)
noncomputable def HWrite_cx : Cx := { P := Tryd.prog, fn := Tryd.f8, G := tables, sigs := sigsOf 1 [(18, SMix.sig)], own := HWrite.sig.toSigR, anns := [{ key := 4, j := 0, watch := [], havoc := [1] }, { key := 999999, j := 0, watch := [], havoc := [] }] }
theorem HWrite_vc : vcOf' HWrite_cx = .ok HWrite.vc := by kernel_rfl
theorem HWrite_kept : Kept Tryd.prog tables 8 HWrite.sig := keeps (cx := HWrite_cx) (l := [(18, SMix.sig)]) (invs := [(HWrite.I0, HWrite.I0M)]) mixed Tryd.func8 (by kernel_rfl) rfl rfl (all_cons SMix_kept all_nil) HWrite_vc (Eq.mpr HWrite.den HWrite.pure)
noncomputable def Bytes_cx : Cx := { P := Tryd.prog, fn := Tryd.f19, G := tables, sigs := sigsOf 1 [], own := Bytes.sig.toSigR, anns := [{ key := 3, j := 0, watch := [], havoc := [0] }] }
theorem Bytes_vc : vcOf' Bytes_cx = .ok Bytes.vc := by kernel_rfl
theorem Bytes_kept : Kept Tryd.prog tables 19 Bytes.sig := keeps (cx := Bytes_cx) (l := []) (invs := [(Bytes.I0, Bytes.I0M)]) mixed Tryd.func19 (by kernel_rfl) rfl rfl all_nil Bytes_vc (Eq.mpr Bytes.den Bytes.pure)
noncomputable def Swap_cx : Cx := { P := Tryd.prog, fn := Tryd.f20, G := tables, sigs := sigsOf 1 [], own := Swap.sig.toSigR, anns := [] }
theorem Swap_vc : vcOf' Swap_cx = .ok Swap.vc := by kernel_rfl
theorem Swap_kept : Kept Tryd.prog tables 20 Swap.sig := keeps (cx := Swap_cx) (l := []) (invs := []) mixed Tryd.func20 (by kernel_rfl) rfl rfl all_nil Swap_vc (Eq.mpr Swap.den Swap.pure)
noncomputable def HSum_cx : Cx := { P := Tryd.prog, fn := Tryd.f9, G := tables, sigs := sigsOf 1 [(18, SMix.sig), (19, Bytes.sig), (20, Swap.sig)], own := HSum.sig.toSigR, anns := [{ key := 5, j := 0, watch := [], havoc := [] }, { key := 8, j := 1, watch := [], havoc := [2], frz := true }, { key := 13, j := 2, watch := [], havoc := [0] }, { key := 999999, j := 0, watch := [], havoc := [] }] }
theorem HSum_vc : vcOf' HSum_cx = .ok HSum.vc := by kernel_rfl
theorem HSum_kept : Kept Tryd.prog tables 9 HSum.sig := keeps (cx := HSum_cx) (l := [(18, SMix.sig), (19, Bytes.sig), (20, Swap.sig)]) (invs := [(HSum.I0, HSum.I0M), (HSum.I1, HSum.I1M), (HSum.I2, HSum.I2M)]) mixed Tryd.func9 (by kernel_rfl) rfl rfl (all_cons SMix_kept (all_cons Bytes_kept (all_cons Swap_kept all_nil))) HSum_vc (Eq.mpr HSum.den HSum.pure)
noncomputable def HOf_cx : Cx := { P := Tryd.prog, fn := Tryd.f11, G := tables, sigs := sigsOf 1 [(8, HWrite.sig), (9, HSum.sig)], own := HOf.sig.toSigR, anns := [] }
theorem HOf_vc : vcOf' HOf_cx = .ok HOf.vc := by kernel_rfl
theorem HOf_kept : Kept Tryd.prog tables 11 HOf.sig := keeps (cx := HOf_cx) (l := [(8, HWrite.sig), (9, HSum.sig)]) (invs := []) mixed Tryd.func11 (by kernel_rfl) rfl rfl (all_cons HWrite_kept (all_cons HSum_kept all_nil)) HOf_vc (Eq.mpr HOf.den HOf.pure)
noncomputable def Awake03_cx : Cx := { P := Tryd.prog, fn := Tryd.f12, G := tables, sigs := sigsOf 1 [(11, HOf.sig), (14, HText.sig)], own := Awake03.sig.toSigR, anns := [] }
theorem Awake03_vc : vcOf' Awake03_cx = .ok Awake03.vc := by kernel_rfl
theorem Awake03_kept : Kept Tryd.prog tables 12 Awake03.sig := keeps (cx := Awake03_cx) (l := [(11, HOf.sig), (14, HText.sig)]) (invs := []) mixed Tryd.func12 (by kernel_rfl) rfl rfl (all_cons HOf_kept (all_cons HText_kept all_nil)) Awake03_vc (Eq.mpr Awake03.den Awake03.pure)
noncomputable def LShaBack_cx : Cx := { P := Tryd.prog, fn := Tryd.f5, G := tables, sigs := sigsOf 1 [(14, HText.sig), (13, HParse.sig), (15, HCmp.sig), (12, Awake03.sig)], own := LShaBack.sig.toSigR, anns := [] }
theorem LShaBack_vc : vcOf' LShaBack_cx = .ok LShaBack.vc := by kernel_rfl
theorem LShaBack_kept : Kept Tryd.prog tables 5 LShaBack.sig := keeps (cx := LShaBack_cx) (l := [(14, HText.sig), (13, HParse.sig), (15, HCmp.sig), (12, Awake03.sig)]) (invs := []) mixed Tryd.func5 (by kernel_rfl) rfl rfl (all_cons HText_kept (all_cons HParse_kept (all_cons HCmp_kept (all_cons Awake03_kept all_nil)))) LShaBack_vc (Eq.mpr LShaBack.den LShaBack.pure)
theorem tables_of {W : World} (h : laidMetH Tryd.prog [("ordeal/sha.rounds", tableData .u32 shaRounds), ("ordeal/sha.start", tableData .u32 shaStart)] W) : ∀ g ∈ tables, g.holds W := by
  rw [MakeChecks.laidMetH_plain _ _ _ (by kernel_rfl)] at h
  obtain ⟨ps, ⟨g0, t0, cs0, f0, p0, q0, hg0, ht0, hv0, hd0, ⟨g1, t1, cs1, f1, p1, q1, hg1, ht1, hv1, hd1, hend, e1⟩, e0⟩, _, _⟩ := h
  obtain rfl := Option.some.inj ((show Tryd.prog.globalNamed "ordeal/sha.rounds" = some 1 by kernel_rfl).symm.trans hg0)
  obtain rfl := Option.some.inj ((show (Tryd.prog.globals[1]?).map (·.type) = some 62 by kernel_rfl).symm.trans ht0)
  obtain rfl := Option.some.inj ((show Tryd.prog.globalNamed "ordeal/sha.start" = some 0 by kernel_rfl).symm.trans hg1)
  obtain rfl := Option.some.inj ((show (Tryd.prog.globals[0]?).map (·.type) = some 28 by kernel_rfl).symm.trans ht1)
  intro g hg
  simp only [tables, List.mem_cons, List.not_mem_nil, or_false] at hg
  rcases hg with rfl | rfl
  · exact glob_one (t := 62) (e := 27) hg0 (by kernel_rfl) (by kernel_rfl) (by kernel_rfl) (by kernel_rfl) hv0 hd0
  · exact glob_one (t := 28) (e := 27) hg1 (by kernel_rfl) (by kernel_rfl) (by kernel_rfl) (by kernel_rfl) hv1 hd1
end Go.Proofs.YtgdkackabmhhhaaDoor.ShabKeep
