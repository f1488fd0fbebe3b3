/-
  Each of these functions keeps its contract, in the program of this seat.
-/
import Derived.Test.YtgdkackabmhhhaaDoorChecked
import Derived.Test.YtgdkackabmhhhaaDoorShad
import Derived.Test.YtgdkackabmhhhaaDoorTab
import Derived.LaidMore
import Derived.Stop.Joined
set_option linter.unusedVariables false
namespace Go.Proofs.YtgdkackabmhhhaaDoor.ShacKeep
open Go.Vc
theorem mixed : Tryd.prog.follows .mixedOrders = true := by kernel_rfl
theorem all_nil {p : FuncId × Sig → Prop} : ∀ x ∈ ([] : List (FuncId × Sig)), p x := by intro x hx; cases hx
theorem all_cons {p : FuncId × Sig → Prop} {a : FuncId × Sig} {l : List (FuncId × Sig)} (h : p a) (h' : ∀ x ∈ l, p x) : ∀ x ∈ a :: l, p x := by
  intro x hx
  rcases List.mem_cons.1 hx with rfl | hx
  · exact h
  · exact h' x hx
def tables : List Glob := [{ g := 1, k := .u32, l := shaRounds }, { g := 0, k := .u32, l := shaStart }]
noncomputable def Cut_cx : Cx := { P := Tryd.prog, fn := Tryd.f6, G := tables, sigs := sigsOf 1 [], own := Cut.sig.toSigR, anns := [] }
theorem Cut_vc : vcOf' Cut_cx = .ok Cut.vc := by kernel_rfl
theorem Cut_kept : Kept Tryd.prog tables 6 Cut.sig := keeps (cx := Cut_cx) (l := []) (invs := []) mixed Tryd.func6 (by kernel_rfl) rfl rfl all_nil Cut_vc (Eq.mpr Cut.den Cut.pure)
noncomputable def rPrimes_cx : Cx := { P := Tryd.prog, fn := Tryd.f16, G := tables, sigs := sigsOf 1 [], own := rPrimes.sig.toSigR, anns := [{ key := 3, j := 0, watch := [], havoc := [] }, { key := 7, j := 1, watch := [3, 4], havoc := [] }, { key := 999999, j := 0, watch := [], havoc := [] }] }
theorem rPrimes_vc : vcOf' rPrimes_cx = .ok rPrimes.vc := by kernel_rfl
theorem rPrimes_kept : Kept Tryd.prog tables 16 rPrimes.sig := keeps (cx := rPrimes_cx) (l := []) (invs := [(rPrimes.I0, rPrimes.I0M), (rPrimes.I1, rPrimes.I1M)]) mixed Tryd.func16 (by kernel_rfl) rfl rfl all_nil rPrimes_vc (Eq.mpr rPrimes.den rPrimes.pure)
noncomputable def rTimes_cx : Cx := { P := Tryd.prog, fn := Tryd.f23, G := tables, sigs := sigsOf 1 [], own := rTimes.sig.toSigR, anns := [{ key := 3, j := 0, watch := [], havoc := [0] }, { key := 6, j := 1, watch := [6], havoc := [1] }, { key := 10, j := 2, watch := [6, 8], havoc := [1] }, { key := 999999, j := 0, watch := [], havoc := [] }] }
theorem rTimes_vc : vcOf' rTimes_cx = .ok rTimes.vc := by kernel_rfl
theorem rTimes_kept : Kept Tryd.prog tables 23 rTimes.sig := keeps (cx := rTimes_cx) (l := []) (invs := [(rTimes.I0, rTimes.I0M), (rTimes.I1, rTimes.I1M), (rTimes.I2, rTimes.I2M)]) mixed Tryd.func23 (by kernel_rfl) rfl rfl all_nil rTimes_vc (Eq.mpr rTimes.den rTimes.pure)
noncomputable def rOver_cx : Cx := { P := Tryd.prog, fn := Tryd.f24, G := tables, sigs := sigsOf 1 [], own := rOver.sig.toSigR, anns := [{ key := 4, j := 0, watch := [], havoc := [] }, { key := 999999, j := 0, watch := [], havoc := [] }] }
theorem rOver_vc : vcOf' rOver_cx = .ok rOver.vc := by kernel_rfl
theorem rOver_kept : Kept Tryd.prog tables 24 rOver.sig := keeps (cx := rOver_cx) (l := []) (invs := [(rOver.I0, rOver.I0M)]) mixed Tryd.func24 (by kernel_rfl) rfl rfl all_nil rOver_vc (Eq.mpr rOver.den rOver.pure)
noncomputable def rRoot_cx : Cx := { P := Tryd.prog, fn := Tryd.f17, G := tables, sigs := sigsOf 1 [(23, rTimes.sig), (24, rOver.sig)], own := rRoot.sig.toSigR, anns := [{ key := 3, j := 0, watch := [], havoc := [] }, { key := 7, j := 1, watch := [5, 6], havoc := [0] }, { key := 999999, j := 0, watch := [], havoc := [] }] }
theorem rRoot_vc : vcOf' rRoot_cx = .ok rRoot.vc := by kernel_rfl
theorem rRoot_kept : Kept Tryd.prog tables 17 rRoot.sig := keeps (cx := rRoot_cx) (l := [(23, rTimes.sig), (24, rOver.sig)]) (invs := [(rRoot.I0, rRoot.I0M), (rRoot.I1, rRoot.I1M)]) mixed Tryd.func17 (by kernel_rfl) rfl rfl (all_cons rTimes_kept (all_cons rOver_kept all_nil)) rRoot_vc (Eq.mpr rRoot.den rRoot.pure)
noncomputable def rMade_cx : Cx := { P := Tryd.prog, fn := Tryd.f7, G := tables, sigs := sigsOf 1 [(16, rPrimes.sig), (17, rRoot.sig)], own := rMade.sig.toSigR, anns := [{ key := 3, j := 0, watch := [], havoc := [3] }, { key := 8, j := 1, watch := [], havoc := [4] }, { key := 999999, j := 0, watch := [], havoc := [] }] }
theorem rMade_vc : vcOf' rMade_cx = .ok rMade.vc := by kernel_rfl
theorem rMade_kept : Kept Tryd.prog tables 7 rMade.sig := keeps (cx := rMade_cx) (l := [(16, rPrimes.sig), (17, rRoot.sig)]) (invs := [(rMade.I0, rMade.I0M), (rMade.I1, rMade.I1M)]) mixed Tryd.func7 (by kernel_rfl) rfl rfl (all_cons rPrimes_kept (all_cons rRoot_kept all_nil)) rMade_vc (Eq.mpr rMade.den rMade.pure)
noncomputable def T32_cx : Cx := { P := Tryd.prog, fn := Tryd.f26, G := tables, sigs := sigsOf 1 [], own := T32.sig.toSigR, anns := [] }
theorem T32_vc : vcOf' T32_cx = .ok T32.vc := by kernel_rfl
theorem T32_kept : Kept Tryd.prog tables 26 T32.sig := keeps (cx := T32_cx) (l := []) (invs := []) mixed Tryd.func26 (by kernel_rfl) rfl rfl all_nil T32_vc (Eq.mpr T32.den T32.pure)
noncomputable def SSched_cx : Cx := { P := Tryd.prog, fn := Tryd.f25, G := tables, sigs := sigsOf 1 [(26, T32.sig)], own := SSched.sig.toSigR, anns := [{ key := 3, j := 0, watch := [], havoc := [0] }, { key := 8, j := 1, watch := [], havoc := [0] }, { key := 999999, j := 0, watch := [], havoc := [] }] }
theorem SSched_vc : vcOf' SSched_cx = .ok SSched.vc := by kernel_rfl
theorem SSched_kept : Kept Tryd.prog tables 25 SSched.sig := keeps (cx := SSched_cx) (l := [(26, T32.sig)]) (invs := [(SSched.I0, SSched.I0M), (SSched.I1, SSched.I1M)]) mixed Tryd.func25 (by kernel_rfl) rfl rfl (all_cons T32_kept all_nil) SSched_vc (Eq.mpr SSched.den SSched.pure)
noncomputable def SMix_cx : Cx := { P := Tryd.prog, fn := Tryd.f18, G := tables, sigs := sigsOf 1 [(25, SSched.sig), (26, T32.sig)], own := SMix.sig.toSigR, anns := [{ key := 3, j := 0, watch := [], havoc := [0] }, { key := 11, j := 1, watch := [], havoc := [0] }, { key := 3, j := 2, join := true, tmpl := some SMix.T }, { key := 999999, j := 0, watch := [], havoc := [] }] }
theorem SMix_vc : vcOf' SMix_cx = .ok SMix.vc := by kernel_rfl
theorem SMix_kept : Kept Tryd.prog tables 18 SMix.sig := keeps (cx := SMix_cx) (l := [(25, SSched.sig), (26, T32.sig)]) (invs := [(SMix.I0, SMix.I0M), (SMix.I1, SMix.I1M), (SMix.J0, SMix.J0M)]) mixed Tryd.func18 (by kernel_rfl) rfl rfl (all_cons SSched_kept (all_cons T32_kept all_nil)) SMix_vc (Eq.mpr SMix.den SMix.pure)
noncomputable def HWrite_cx : Cx := { P := Tryd.prog, fn := Tryd.f8, G := tables, sigs := sigsOf 1 [(18, SMix.sig)], own := HWrite.sig.toSigR, anns := [{ key := 4, j := 0, watch := [], havoc := [1] }, { key := 999999, j := 0, watch := [], havoc := [] }] }
theorem HWrite_vc : vcOf' HWrite_cx = .ok HWrite.vc := by kernel_rfl
theorem HWrite_kept : Kept Tryd.prog tables 8 HWrite.sig := keeps (cx := HWrite_cx) (l := [(18, SMix.sig)]) (invs := [(HWrite.I0, HWrite.I0M)]) mixed Tryd.func8 (by kernel_rfl) rfl rfl (all_cons SMix_kept all_nil) HWrite_vc (Eq.mpr HWrite.den HWrite.pure)
noncomputable def Bytes_cx : Cx := { P := Tryd.prog, fn := Tryd.f19, G := tables, sigs := sigsOf 1 [], own := Bytes.sig.toSigR, anns := [{ key := 3, j := 0, watch := [], havoc := [0] }] }
theorem Bytes_vc : vcOf' Bytes_cx = .ok Bytes.vc := by kernel_rfl
theorem Bytes_kept : Kept Tryd.prog tables 19 Bytes.sig := keeps (cx := Bytes_cx) (l := []) (invs := [(Bytes.I0, Bytes.I0M)]) mixed Tryd.func19 (by kernel_rfl) rfl rfl all_nil Bytes_vc (Eq.mpr Bytes.den Bytes.pure)
noncomputable def Swap_cx : Cx := { P := Tryd.prog, fn := Tryd.f20, G := tables, sigs := sigsOf 1 [], own := Swap.sig.toSigR, anns := [] }
theorem Swap_vc : vcOf' Swap_cx = .ok Swap.vc := by kernel_rfl
theorem Swap_kept : Kept Tryd.prog tables 20 Swap.sig := keeps (cx := Swap_cx) (l := []) (invs := []) mixed Tryd.func20 (by kernel_rfl) rfl rfl all_nil Swap_vc (Eq.mpr Swap.den Swap.pure)
noncomputable def HSum_cx : Cx := { P := Tryd.prog, fn := Tryd.f9, G := tables, sigs := sigsOf 1 [(18, SMix.sig), (19, Bytes.sig), (20, Swap.sig)], own := HSum.sig.toSigR, anns := [{ key := 5, j := 0, watch := [], havoc := [] }, { key := 8, j := 1, watch := [], havoc := [2], frz := true }, { key := 13, j := 2, watch := [], havoc := [0] }, { key := 999999, j := 0, watch := [], havoc := [] }] }
theorem HSum_vc : vcOf' HSum_cx = .ok HSum.vc := by kernel_rfl
theorem HSum_kept : Kept Tryd.prog tables 9 HSum.sig := keeps (cx := HSum_cx) (l := [(18, SMix.sig), (19, Bytes.sig), (20, Swap.sig)]) (invs := [(HSum.I0, HSum.I0M), (HSum.I1, HSum.I1M), (HSum.I2, HSum.I2M)]) mixed Tryd.func9 (by kernel_rfl) rfl rfl (all_cons SMix_kept (all_cons Bytes_kept (all_cons Swap_kept all_nil))) HSum_vc (Eq.mpr HSum.den HSum.pure)
noncomputable def rTurn_cx : Cx := { P := Tryd.prog, fn := Tryd.f27, G := tables, sigs := sigsOf 1 [], own := rTurn.sig.toSigR, anns := [{ key := 2, j := 0, watch := [], havoc := [] }] }
theorem rTurn_vc : vcOf' rTurn_cx = .ok rTurn.vc := by kernel_rfl
theorem rTurn_kept : Kept Tryd.prog tables 27 rTurn.sig := keeps (cx := rTurn_cx) (l := []) (invs := [(rTurn.I0, rTurn.I0M)]) mixed Tryd.func27 (by kernel_rfl) rfl rfl all_nil rTurn_vc (Eq.mpr rTurn.den rTurn.pure)
noncomputable def rNot_cx : Cx := { P := Tryd.prog, fn := Tryd.f28, G := tables, sigs := sigsOf 1 [], own := rNot.sig.toSigR, anns := [] }
theorem rNot_vc : vcOf' rNot_cx = .ok rNot.vc := by kernel_rfl
theorem rNot_kept : Kept Tryd.prog tables 28 rNot.sig := keeps (cx := rNot_cx) (l := []) (invs := []) mixed Tryd.func28 (by kernel_rfl) rfl rfl all_nil rNot_vc (Eq.mpr rNot.den rNot.pure)
noncomputable def rMix_cx : Cx := { P := Tryd.prog, fn := Tryd.f21, G := tables, sigs := sigsOf 1 [(27, rTurn.sig), (28, rNot.sig)], own := rMix.sig.toSigR, anns := [{ key := 3, j := 0, watch := [], havoc := [] }, { key := 7, j := 1, watch := [], havoc := [] }, { key := 13, j := 2, watch := [], havoc := [] }, { key := 20, j := 3, watch := [], havoc := [0] }, { key := 999999, j := 0, watch := [], havoc := [] }] }
theorem rMix_vc : vcOf' rMix_cx = .ok rMix.vc := by kernel_rfl
theorem rMix_kept : Kept Tryd.prog tables 21 rMix.sig := keeps (cx := rMix_cx) (l := [(27, rTurn.sig), (28, rNot.sig)]) (invs := [(rMix.I0, rMix.I0M), (rMix.I1, rMix.I1M), (rMix.I2, rMix.I2M), (rMix.I3, rMix.I3M)]) mixed Tryd.func21 (by kernel_rfl) rfl rfl (all_cons rTurn_kept (all_cons rNot_kept all_nil)) rMix_vc (Eq.mpr rMix.den rMix.pure)
noncomputable def rOf_cx : Cx := { P := Tryd.prog, fn := Tryd.f10, G := tables, sigs := sigsOf 1 [(21, rMix.sig)], own := rOf.sig.toSigR, anns := [{ key := 4, j := 0, watch := [], havoc := [] }, { key := 9, j := 1, watch := [], havoc := [] }, { key := 16, j := 2, watch := [], havoc := [] }, { key := 21, j := 3, watch := [], havoc := [] }, { key := 999999, j := 0, watch := [], havoc := [] }] }
theorem rOf_vc : vcOf' rOf_cx = .ok rOf.vc := by kernel_rfl
theorem rOf_kept : Kept Tryd.prog tables 10 rOf.sig := keeps (cx := rOf_cx) (l := [(21, rMix.sig)]) (invs := [(rOf.I0, rOf.I0M), (rOf.I1, rOf.I1M), (rOf.I2, rOf.I2M), (rOf.I3, rOf.I3M)]) mixed Tryd.func10 (by kernel_rfl) rfl rfl (all_cons rMix_kept all_nil) rOf_vc (Eq.mpr rOf.den rOf.pure)
noncomputable def HOf_cx : Cx := { P := Tryd.prog, fn := Tryd.f11, G := tables, sigs := sigsOf 1 [(8, HWrite.sig), (9, HSum.sig)], own := HOf.sig.toSigR, anns := [] }
theorem HOf_vc : vcOf' HOf_cx = .ok HOf.vc := by kernel_rfl
theorem HOf_kept : Kept Tryd.prog tables 11 HOf.sig := keeps (cx := HOf_cx) (l := [(8, HWrite.sig), (9, HSum.sig)]) (invs := []) mixed Tryd.func11 (by kernel_rfl) rfl rfl (all_cons HWrite_kept (all_cons HSum_kept all_nil)) HOf_vc (Eq.mpr HOf.den HOf.pure)
noncomputable def HText_cx : Cx := { P := Tryd.prog, fn := Tryd.f14, G := tables, sigs := sigsOf 1 [], own := HText.sig.toSigR, anns := [{ key := 3, j := 0, watch := [], havoc := [] }, { key := 999999, j := 0, watch := [], havoc := [] }] }
theorem HText_vc : vcOf' HText_cx = .ok HText.vc := by kernel_rfl
theorem HText_kept : Kept Tryd.prog tables 14 HText.sig := keeps (cx := HText_cx) (l := []) (invs := [(HText.I0, HText.I0M)]) mixed Tryd.func14 (by kernel_rfl) rfl rfl all_nil HText_vc (Eq.mpr HText.den HText.pure)
noncomputable def Awake03_cx : Cx := { P := Tryd.prog, fn := Tryd.f12, G := tables, sigs := sigsOf 1 [(11, HOf.sig), (14, HText.sig)], own := Awake03.sig.toSigR, anns := [] }
theorem Awake03_vc : vcOf' Awake03_cx = .ok Awake03.vc := by kernel_rfl
theorem Awake03_kept : Kept Tryd.prog tables 12 Awake03.sig := keeps (cx := Awake03_cx) (l := [(11, HOf.sig), (14, HText.sig)]) (invs := []) mixed Tryd.func12 (by kernel_rfl) rfl rfl (all_cons HOf_kept (all_cons HText_kept all_nil)) Awake03_vc (Eq.mpr Awake03.den Awake03.pure)
noncomputable def LShaSums_cx : Cx := { P := Tryd.prog, fn := Tryd.f3, G := tables, sigs := sigsOf 1 [(6, Cut.sig), (7, rMade.sig), (8, HWrite.sig), (9, HSum.sig), (10, rOf.sig), (11, HOf.sig), (12, Awake03.sig)], own := LShaSums.sig.toSigR, anns := [{ key := 6, j := 0, watch := [], havoc := [1] }, { key := 999999, j := 0, watch := [], havoc := [] }] }
theorem LShaSums_vc : vcOf' LShaSums_cx = .ok LShaSums.vc := by kernel_rfl
theorem LShaSums_kept : Kept Tryd.prog tables 3 LShaSums.sig := keeps (cx := LShaSums_cx) (l := [(6, Cut.sig), (7, rMade.sig), (8, HWrite.sig), (9, HSum.sig), (10, rOf.sig), (11, HOf.sig), (12, Awake03.sig)]) (invs := [(LShaSums.I0, LShaSums.I0M)]) mixed Tryd.func3 (by kernel_rfl) rfl rfl (all_cons Cut_kept (all_cons rMade_kept (all_cons HWrite_kept (all_cons HSum_kept (all_cons rOf_kept (all_cons HOf_kept (all_cons Awake03_kept all_nil))))))) LShaSums_vc (Eq.mpr LShaSums.den LShaSums.pure)
theorem tables_of {W : World} (h : laidMetH Tryd.prog [("ordeal/sha.rounds", tableData .u32 shaRounds), ("ordeal/sha.start", tableData .u32 shaStart)] W) : ∀ g ∈ tables, g.holds W := by
  rw [MakeChecks.laidMetH_plain _ _ _ (by kernel_rfl)] at h
  obtain ⟨ps, ⟨g0, t0, cs0, f0, p0, q0, hg0, ht0, hv0, hd0, ⟨g1, t1, cs1, f1, p1, q1, hg1, ht1, hv1, hd1, hend, e1⟩, e0⟩, _, _⟩ := h
  obtain rfl := Option.some.inj ((show Tryd.prog.globalNamed "ordeal/sha.rounds" = some 1 by kernel_rfl).symm.trans hg0)
  obtain rfl := Option.some.inj ((show (Tryd.prog.globals[1]?).map (·.type) = some 62 by kernel_rfl).symm.trans ht0)
  obtain rfl := Option.some.inj ((show Tryd.prog.globalNamed "ordeal/sha.start" = some 0 by kernel_rfl).symm.trans hg1)
  obtain rfl := Option.some.inj ((show (Tryd.prog.globals[0]?).map (·.type) = some 28 by kernel_rfl).symm.trans ht1)
  intro g hg
  simp only [tables, List.mem_cons, List.not_mem_nil, or_false] at hg
  rcases hg with rfl | rfl
  · exact glob_one (t := 62) (e := 27) hg0 (by kernel_rfl) (by kernel_rfl) (by kernel_rfl) (by kernel_rfl) hv0 hd0
  · exact glob_one (t := 28) (e := 27) hg1 (by kernel_rfl) (by kernel_rfl) (by kernel_rfl) (by kernel_rfl) hv1 hd1
end Go.Proofs.YtgdkackabmhhhaaDoor.ShacKeep
