/-
  .. and these.
-/
import Derived.Test.YtmgeaephkagdiaaGreatDoorWalpKeep
set_option linter.unusedVariables false
set_option maxRecDepth 100000
namespace Go.Proofs.YtmgeaephkagdiaaGreatDoor.WalpKeep
open Go.Vc
noncomputable def LWalPlays_cx : Cx := { P := Tryz.prog, fn := Tryz.f7, G := tables, sigs := sigsOf 1 [(12, qNew.sig), (19, pOpen.sig), (14, dCut.sig), (23, pAppend.sig), (25, pSync.sig), (28, pRetire.sig), (26, qRestart.sig), (29, qDead.sig), (27, fits7.sig), (24, qCrash.sig), (30, qFail.sig), (31, qRoom.sig), (13, aw7.sig)], own := LWalPlays.sig.toSigR, anns := [{ key := 12, j := 0, watch := [], havoc := [1008, 1, 4], frz := true }, { key := 1000018, j := 1, join := true, tmpl := some LWalPlays.T }, { key := 999999, j := 0, watch := [], havoc := [] }] }
theorem LWalPlays_den : denS LWalPlays_cx (mkEnv LWalPlays.sig [qNew.sig, pOpen.sig, dCut.sig, pAppend.sig, pSync.sig, pRetire.sig, qRestart.sig, qDead.sig, fits7.sig, qCrash.sig, qFail.sig, qRoom.sig, aw7.sig] [(LWalPlays.I0, LWalPlays.I0M), (LWalPlays.J0, LWalPlays.J0M)]) = LWalPlays.Pure := by kernel_rfl
theorem LWalPlays_kept : Kept Tryz.prog tables 7 LWalPlays.sig := keep_s (cx := LWalPlays_cx) (l := [(12, qNew.sig), (19, pOpen.sig), (14, dCut.sig), (23, pAppend.sig), (25, pSync.sig), (28, pRetire.sig), (26, qRestart.sig), (29, qDead.sig), (27, fits7.sig), (24, qCrash.sig), (30, qFail.sig), (31, qRoom.sig), (13, aw7.sig)]) (invs := [(LWalPlays.I0, LWalPlays.I0M), (LWalPlays.J0, LWalPlays.J0M)]) mixed Tryz.func7 (by kernel_rfl) rfl rfl (all_cons qNew_kept (all_cons pOpen_kept (all_cons dCut_kept (all_cons pAppend_kept (all_cons pSync_kept (all_cons pRetire_kept (all_cons qRestart_kept (all_cons qDead_kept (all_cons fits7_kept (all_cons qCrash_kept (all_cons qFail_kept (all_cons qRoom_kept (all_cons aw7_kept all_nil))))))))))))) rfl LWalPlays_den LWalPlays.pure (by decide)
end Go.Proofs.YtmgeaephkagdiaaGreatDoor.WalpKeep
