/-
 Soundness: running through the code.
 Use: contracts by list, what is kept.
-/
import Derived.Test.YtdppcnngoclehaaDoorVcf
import GoSem.Claim
set_option linter.unusedVariables false
set_option linter.unusedSimpArgs false
open _root_.Go.IntKind (wrap)
namespace Go.Vc
section
variable {E : Env} {G : List Glob} {w0 : World} {D0 R0 : List Nat} {ρ0 ρ τ : LD} {S T : St} {a : Act} {w : World} {cx : Cx} {vc : VC} {K : List KI}
theorem aX9 {all : Array Oper} {i : Nat} {next : St → M} {Q : Exit → Act → World → Prop} {KK : Act → World → Prop} (hG : cx.G = G) (hsig : kH cx E) (hr : Rel G w0 D0 R0 ρ S a w)
  (h : iV cx all i S next = .ok vc) (hd : vc.den E ρ) (hK : ∀ a' w', Nx E G w0 D0 R0 ρ next a' w' → KK a' w') : wpOp cx.P all Q i KK a w := by
 unfold iV at h
 unfold wpOp
 split at h
 ·cases h
 ·rename_i o ho
  rw [ho]
  dsimp only
  split at h
  ·cases h
  ·rename_i hg
   rw [if_pos (gZ hr hg)]
   exact .inl (step_ok hG hsig hr (lS h) hd hK).wp
  ·rename_i hg
   rw [if_neg (by rw [gZ hr hg]; simp)]
   exact hK _ _ ⟨[], _, vc, h, by simpa using hd, by simpa using hr.put (x := .one (.lf .undef)) rfl⟩
  ·cases h
theorem wP {all : Array Oper} : ∀ {rs : List Nat} {i : Nat}, oD cx all S rs = some i → i ∈ rs ∧ ∃ o, all[i]? = some o ∧ (guardOf all S o = .ok (.inl true) → zC cx S o = true)
 | [], i, h => by simp [oD] at h
 | j :: r, i, h => by
  simp only [oD] at h
  split at h
  ·rename_i o ho
   split at h
   ·rename_i hg
    cases h
    exact ⟨by simp, o, ho, fun hg' => by rw [hg] at hg'; cases hg'⟩
   ·split at h
    ·rename_i hc
     cases h
     exact ⟨by simp, o, ho, fun _ => hc⟩
    ·obtain ⟨h1, h2⟩ := wP h
     exact ⟨List.mem_cons_of_mem _ h1, h2⟩
   ·obtain ⟨h1, h2⟩ := wP h
    exact ⟨List.mem_cons_of_mem _ h1, h2⟩
  ·obtain ⟨h1, h2⟩ := wP h
   exact ⟨List.mem_cons_of_mem _ h1, h2⟩
theorem bM5 {all : Array Oper} {i : Nat} {next : St → M} {Q : Exit → Act → World → Prop} {KK : Act → World → Prop} (hG : cx.G = G) (hsig : kH cx E) (hr : Rel G w0 D0 R0 ρ S a w)
  (hq : ∀ o, all[i]? = some o → quietIn cx S o = true)
  (h : iV cx all i S next = .ok vc) (hd : vc.den E ρ) (hK : ∀ a' w', Nx E G w0 D0 R0 ρ next a' w' → Same w w' → KK a' w') : wpOp cx.P all Q i KK a w := by
 unfold iV at h
 unfold wpOp
 split at h
 ·cases h
 ·rename_i o ho
  rw [ho]
  dsimp only
  split at h
  ·cases h
  ·rename_i hg
   rw [if_pos (gZ hr hg)]
   exact .inl (bJ8 hG hsig hr (hq o ho) (lS h) hd hK).wp
  ·rename_i hg
   rw [if_neg (by rw [gZ hr hg]; simp)]
   exact hK _ _ ⟨[], _, vc, h, by simpa using hd, by simpa using hr.put (x := .one (.lf .undef)) rfl⟩ (Same.refl w)
  ·cases h
theorem aT1 {x : M} {y : Unit → M} (h : orElse x y = .ok vc) : x = .ok vc ∨ y () = .ok vc := by
 unfold orElse at h
 split at h
 ·exact .inl h
 ·exact .inr h
theorem wO {all : Array Oper} : ∀ {rs : List Nat} {i : Nat}, oC cx all S rs = some i → i ∈ rs ∧ ∃ o, all[i]? = some o ∧ (guardOf all S o = .ok (.inl true) → nC cx S o = true)
 | [], i, h => by simp [oC] at h
 | j :: r, i, h => by
  simp only [oC] at h
  split at h
  ·rename_i o ho
   split at h
   ·rename_i hg
    cases h
    exact ⟨by simp, o, ho, fun hg' => by rw [hg] at hg'; cases hg'⟩
   ·split at h
    ·rename_i hc
     cases h
     exact ⟨by simp, o, ho, fun _ => hc⟩
    ·obtain ⟨h1, h2⟩ := wO h
     exact ⟨List.mem_cons_of_mem _ h1, h2⟩
   ·obtain ⟨h1, h2⟩ := wO h
    exact ⟨List.mem_cons_of_mem _ h1, h2⟩
  ·obtain ⟨h1, h2⟩ := wO h
   exact ⟨List.mem_cons_of_mem _ h1, h2⟩
theorem lU {G : List Glob} {ρ σ : LD} {n : Nat} : ∀ {K : List KI} {B : List (Act → World → Prop)}, qY K ≤ n → bOk E G w0 D0 R0 ρ K B → bOk E G w0 D0 R0 (ρ.take n ++ σ) K B
 | [], _, _, _ => trivial
 | .lp j T n0 fix :: K, B, hn, h => by
  obtain ⟨⟨b, B', ρb, τb, rfl, he, hl, h1⟩, h2⟩ := h
  simp only [qY] at hn
  refine ⟨⟨b, B', ρb, τb.take (n - ρb.length) ++ σ, rfl, ?_, hl, h1⟩, lU (by omega) h2⟩
  rw [he, List.take_append, List.take_of_length_le (by omega), List.append_assoc]
 | .code c :: K, B, hn, h => lU (K := K) hn h
 | .ops .. :: K, B, hn, h => lU (K := K) hn h
 | .any .. :: K, B, hn, h => lU (K := K) hn h
 | .still .. :: K, B, hn, h => lU (K := K) hn h
 | .blk .. :: K, B, hn, h => lU (K := K) hn h
 | .wait :: K, B, hn, h => lU (K := K) hn h
theorem aX0 : ∀ {n : Nat} {ss : List Srt} {ds : LD}, bC ss ds → bC (ss.take n) (ds.take n)
 | 0, _, _, _ => by simp [bC]
 | _ + 1, [], [], _ => by simp [bC]
 | _ + 1, [], _ :: _, h => h.elim
 | _ + 1, _ :: _, [], h => h.elim
 | n + 1, s :: ss, d :: ds, h => ⟨h.1, aX0 h.2⟩
theorem aP8 {c : Code} {K : List KI} {jn : Ann} {rule : St → M} {τ : LD} {B : List (Act → World → Prop)} (hn : cx.own.aA.length = ρ0.length) (hr : Rel G w0 D0 R0 (ρ0 ++ τ) S a w) (hb : bOk E G w0 D0 R0 (ρ0 ++ τ) K B)
  (h : xA cx c K S jn rule = .ok vc) (hd : vc.den E (ρ0 ++ τ)) : ∃ T σ v, rule T = .ok v ∧ v.den E (ρ0 ++ σ) ∧ Rel G w0 D0 R0 (ρ0 ++ σ) T a w ∧ bOk E G w0 D0 R0 (ρ0 ++ σ) K B := by
 unfold xA at h
 dsimp only at h
 generalize hn0 : max cx.own.aA.length (qY K) = n0 at h
 split at h
 ·cases h
 ·rename_i T _
  split at h
  ·rename_i hc
   obtain ⟨hT, hS⟩ := hc
   split at h
   ·cases h
   ·rename_i θ hθ
    split at h
    ·rename_i v hv
     cases h
     obtain ⟨hinv, hdv⟩ := hd
     have hlen := bH hr.aA
     obtain ⟨ρ1, τ1, he, hl1, hpre⟩ : ∃ ρ1 τ1, ρ0 ++ τ = ρ1 ++ τ1 ∧ n0 = ρ1.length ∧ ∃ x, ρ1 = ρ0 ++ x := by
      refine ⟨(ρ0 ++ τ).take n0, (ρ0 ++ τ).drop n0, (List.take_append_drop _ _).symm, by rw [List.length_take]; omega, τ.take (n0 - ρ0.length), ?_⟩
      rw [List.take_append, List.take_of_length_le (by omega)]
     obtain ⟨x, rfl⟩ := hpre
     have hs0 : bC (T.aA.take n0) (ρ0 ++ x) := by
      have := aX0 (n := n0) hr.aA
      rw [he, List.take_left' hl1.symm] at this
      rw [hT]; exact this
     rw [he] at hr hdv hinv hb
     obtain ⟨hσ, hr0⟩ := qM hr hl1 hs0 hθ
     simp only [VC.den] at hdv
     rw [List.take_left' hl1.symm] at hdv
     obtain ⟨v1, e1, d1⟩ := sS hv hdv hσ
     obtain ⟨v2, e2, d2⟩ := qU e1 d1 (zB hr0)
     split at e2
     ·rename_i v3 hv3
      cases e2
      have hbt := lU (n := n0) (σ := θ.map (Tm.den (ρ0 ++ x ++ τ1))) (by omega) hb
      rw [List.take_left' hl1.symm, List.append_assoc] at hbt
      refine ⟨T, x ++ θ.map (Tm.den (ρ0 ++ x ++ τ1)), v3, hv3, ?_, by rw [← List.append_assoc]; exact hr0, hbt⟩
      rw [← List.append_assoc]
      apply d2
      have hσl := bH hσ
      rw [List.map_append, jR, hl1, vZ] at hinv
      rw [List.map_append, jR, hl1, vZ, ← hl1, ← hσl, hl1]
      have := vY (ρ0 ++ x) (θ.map (Tm.den (ρ0 ++ x ++ τ1))) []
      rw [List.append_nil] at this
      rw [this, ← hl1]
      rw [← hl1] at hinv
      exact hinv
     ·cases e2
    ·cases h
  ·cases h
theorem bG9 {Q : Exit → Act → World → Prop} {c : Code} {ann : Ann} {f : Nat} {K : List KI} {B : List (Act → World → Prop)} {a : Act} {w : World} 
  (IH : ∀ (K : List KI) (S : St) (vc : VC) (τ : LD) (a : Act) (w : World) (B : List (Act → World → Prop)), run cx f K S = .ok vc → vc.den E (ρ0 ++ τ) →
   Rel G w0 (owns ρ0 cx.own.heap) (ros ρ0 cx.own.heap) (ρ0 ++ τ) S a w → bOk E G w0 (owns ρ0 cx.own.heap) (ros ρ0 cx.own.heap) (ρ0 ++ τ) K B → sem cx.P (Q) K B .normal a w) :
  ∀ (S : St) (vc : VC) (τ : LD), (let T := template cx S c ann; let fix := atoms cx.own.aA.length ++ ann.watch.flatMap (vS T); general S T (ann.j, fix) (run cx f (.code c :: .lp ann.j T S.aA.length fix :: K) T)) = .ok vc →
      vc.den E (ρ0 ++ τ) → Rel G w0 (owns ρ0 cx.own.heap) (ros ρ0 cx.own.heap) (ρ0 ++ τ) S a w → bOk E G w0 (owns ρ0 cx.own.heap) (ros ρ0 cx.own.heap) (ρ0 ++ τ) K B → (Code.loop c).wp cx.P (sem cx.P (Q) K B) a w := by
 intro S vc τ h hd hr hb
 dsimp only at h
 generalize template cx S c ann = T at h
 generalize atoms cx.own.aA.length ++ ann.watch.flatMap (vS T) = fix at h
 generalize ann.j = j at h
 unfold general at h
 dsimp only at h
 split at h
 ·rename_i hc
  obtain ⟨hT, hTu, hfix⟩ := hc
  have hlen := bH hr.aA
  split at h
  ·cases h
  ·rename_i θ hθ
   split at h
   ·rename_i v hv
    cases h
    obtain ⟨hinv, hdv⟩ := hd
    obtain ⟨hσ0, hr0⟩ := qM (ρ := ρ0 ++ τ) (τ := []) (by simpa using hr) hlen.symm (by rw [hT]; exact hr.aA) hθ
    simp only [List.append_nil] at hσ0 hr0
    -- the pattern's words in a longer payload
    have hfixE : ∀ σ, fix.map (Tm.den (ρ0 ++ τ ++ σ)) = fix.map (Tm.den (ρ0 ++ τ)) := fun σ => wK (by rw [hlen]; exact hfix)
    refine wp_loop_ghost (fun n a w => ∃ σ, bC (T.aA.drop S.aA.length) σ ∧ Rel G w0 (owns ρ0 cx.own.heap) (ros ρ0 cx.own.heap) (ρ0 ++ τ ++ σ) T a w ∧
     E.inv j (fix.map (Tm.den (ρ0 ++ τ)) ++ keepD σ (T.aA.drop S.aA.length)) ∧ n = E.meas j (fix.map (Tm.den (ρ0 ++ τ)) ++ keepD σ (T.aA.drop S.aA.length))) _
     ⟨_, hσ0, hr0, by rw [List.map_append, jR] at hinv; exact hinv, rfl⟩ ?_
    rintro n a1 w1 ⟨σ, hσ, hr1, hi1, rfl⟩
    obtain ⟨v1, e1, d1⟩ := sS hv hdv hσ
    obtain ⟨v2, e2, d2⟩ := qU e1 d1 (zB hr1)
    split at e2
    ·rename_i v3 hv3
     cases e2
     have hσl := bH hσ
     have hw : (fix ++ keep (jJ S.aA.length (T.aA.drop S.aA.length).length) (T.aA.drop S.aA.length)).map (Tm.den (ρ0 ++ τ ++ σ)) = fix.map (Tm.den (ρ0 ++ τ)) ++ keepD σ (T.aA.drop S.aA.length) := by
      rw [List.map_append, hfixE, jR, ← hσl, ← hlen]
      have := vY (ρ0 ++ τ) σ []
      rw [List.append_nil] at this
      rw [this]
     have d3 := d2 (by rw [hw]; exact hi1)
     have hh := IH (.code c :: .lp j T S.aA.length fix :: K) T v3 (τ ++ σ) a1 w1
      ((fun a' w' => ∃ n', n' < E.meas j (fix.map (Tm.den (ρ0 ++ τ)) ++ keepD σ (T.aA.drop S.aA.length)) ∧ ∃ σ, bC (T.aA.drop S.aA.length) σ ∧ Rel G w0 (owns ρ0 cx.own.heap) (ros ρ0 cx.own.heap) (ρ0 ++ τ ++ σ) T a' w' ∧
        E.inv j (fix.map (Tm.den (ρ0 ++ τ)) ++ keepD σ (T.aA.drop S.aA.length)) ∧ n' = E.meas j (fix.map (Tm.den (ρ0 ++ τ)) ++ keepD σ (T.aA.drop S.aA.length))) :: B)
      hv3 (by rw [← List.append_assoc]; exact d3) (by rw [← List.append_assoc]; exact hr1) ?_
     ·exact hh
     ·refine ⟨⟨_, B, ρ0 ++ (τ ++ σ), [], rfl, (List.append_nil _).symm, ?_, fun τ' S' a' w' θ' hr' hf' hi' hm' => ?_⟩, ?_⟩
      ·rw [← List.append_assoc]; exact bF3 hT hσ hlen
      ·obtain ⟨g1, g2⟩ := qM (ρ := ρ0 ++ τ) (τ := σ ++ τ') (by simpa using hr') hlen.symm (by rw [hT]; exact hr.aA) hf'
       have hdrop : ∀ {x : LD}, ρ0 ++ (τ ++ σ) ++ τ' = ρ0 ++ τ ++ (σ ++ τ') := by simp
       rw [@hdrop []] at hi' hm'
       rw [List.map_append, hfixE, jR] at hi' hm'
       have hold : (fix ++ keep (jJ S.aA.length (T.aA.drop S.aA.length).length) (T.aA.drop S.aA.length)).map (Tm.den (ρ0 ++ τ ++ (σ ++ τ'))) = fix.map (Tm.den (ρ0 ++ τ)) ++ keepD σ (T.aA.drop S.aA.length) := by
        rw [List.map_append, hfixE, jR, ← hσl, ← hlen, ← List.append_assoc (ρ0 ++ τ), vY]
       rw [hold] at hm'
       exact ⟨_, hm', _, g1, g2, hi', rfl⟩
      ·rw [← List.append_assoc]; exact jK (K := K) hb
    ·cases e2
   ·cases h
 ·cases h
theorem pK {Q : Exit → Act → World → Prop} (hG : cx.G = G) (hsig : kH cx E) (hm : cx.P.follows .mixedOrders = true) (hn : cx.own.aA.length = ρ0.length) (hit : ∀ g ∈ cx.iters, jH cx.P g)
  (hpan : ∀ {ch a w a'}, Q (.panic ch) a w → Q (.panic ch) a' w)
  (hQ0 : ∀ (S' : St) (τ' : LD) (vc' : VC) (a' : Act) (W : World), fF cx S' = .ok vc' → vc'.den E (ρ0 ++ τ') → Rel G w0 (owns ρ0 cx.own.heap) (ros ρ0 cx.own.heap) (ρ0 ++ τ') S' a' W → Q .ret a' W ∧ Q .normal a' W)
  (hQm : ∀ (S' : St) (τ' : LD) (vc' : VC) (a' : Act) (W : World) (d : Nat), fF cx S' = .ok vc' → vc'.den E (ρ0 ++ τ') → W.heap[d]? = some (.deferred (some [])) → Rel G w0 (owns ρ0 cx.own.heap) (ros ρ0 cx.own.heap) (ρ0 ++ τ') S' a' (W.putObj d (.deferred none)) →
   Q .ret (bZ a' [mark d]) W ∧ Q .normal (bZ a' [mark d]) W) :
  ∀ (f : Nat) (K : List KI) (S : St) (vc : VC) (τ : LD) (a : Act) (w : World) (B : List (Act → World → Prop)), run cx f K S = .ok vc → vc.den E (ρ0 ++ τ) →
   Rel G w0 (owns ρ0 cx.own.heap) (ros ρ0 cx.own.heap) (ρ0 ++ τ) S a w → bOk E G w0 (owns ρ0 cx.own.heap) (ros ρ0 cx.own.heap) (ρ0 ++ τ) K B → sem cx.P (Q) K B .normal a w
 | 0, K, S, vc, τ, a, w, B, h, _, _, _ => by simp [run] at h
 | f + 1, [], S, vc, τ, a, w, B, h, hd, hr, _ => by
  simp only [run] at h
  exact (hQ0 S τ vc a w h hd hr).2
 | f + 1, .still all fuel listed oth :: K, S, vc, τ, a, w, B, h, hd, hr, hb => by
  have IH := pK hG hsig hm hn hit hpan hQ0 hQm f
  simp only [run] at h
  show kQ cx.P all (sem cx.P (Q) K B) oth fuel listed a w
  split at h
  ·rename_i hrs
   exact bN9 hrs (IH K S vc τ a w B h hd hr hb) _
  ·cases h
  ·rename_i fuel hne
   have hnx : ∀ i a' w', Nx E G w0 (owns ρ0 cx.own.heap) (ros ρ0 cx.own.heap) (ρ0 ++ τ) (fun S => run cx f (.still all fuel (listed.setIfInBounds i true) oth :: K) S) a' w' →
     kQ cx.P all (sem cx.P (Q) K B) oth fuel (listed.setIfInBounds i true) a' w' := by
    rintro i a' w' ⟨σ, S', vc', h1, h2, h3⟩
    rw [List.append_assoc] at h2 h3
    exact IH (.still all fuel (listed.setIfInBounds i true) oth :: K) S' vc' (τ ++ σ) a' w' B h1 h2 h3 (by rw [← List.append_assoc]; exact jK (K := K) hb)
   split at h
   ·rename_i i hft
    obtain ⟨hmem, o, ho, hstill⟩ := wP hft
    replace hmem := (List.mem_filter.1 hmem).1
    split at h
    ·rename_i hc
     simp only [Bool.and_eq_true] at hc
     obtain ⟨⟨hns, hfree⟩, hcase⟩ := hc
     have hQ : ∀ z, ∀ c a' w', sem cx.P (Q) K B (.panic c) (a'.put o.dst z) w' → sem cx.P (Q) K B (.panic c) a' w' := by
      intro z c a' w' hq
      rw [lM] at hq ⊢
      exact hpan hq
     have first : ∀ {z : Value} {T : World → Prop}, (∀ w w', T w → Same w w' → T w') → YieldsIf cx.P all T o z a → T w → ((∀ w, T w) ∨ yE all listed oth i = true) →
       kQ cx.P all (sem cx.P (Q) K B) oth fuel (listed.setIfInBounds i true) (a.put o.dst z) w → kQ cx.P all (sem cx.P (Q) K B) oth (fuel + 1) listed a w := by
      intro z T hTs hy hT hor H
      refine bO0 (n := all.size) ho (Region.noSelect_spec hns) (hQ z) hTs fuel listed a w (Region.free_spec ho hfree) hmem hy hT (hor.imp id fun hw j hj hun hji => ?_) H
      have := List.all_eq_true.1 hw j hj
      simp only [hun, Bool.false_or, Bool.or_eq_true, beq_iff_eq] at this
      exact this.resolve_left hji
     simp only [Bool.or_eq_true] at hcase
     have hp := hcase.imp_left (fun hp => by simpa [aI1, ho] using hp)
     unfold iV at h
     rw [ho] at h
     dsimp only at h
     split at h
     ·cases h
     ·rename_i hg
      have hcase : nC cx S o = true ∨ yE all listed oth i = true := by
       refine hp.imp (fun hp => ?_) id
       rcases hp with hp | hp
       ·exact hp
       ·rw [hg] at hp; simp at hp
      rcases hcase with hpu | hw
      ·obtain ⟨z, hz, hy⟩ := aI2 hr hpu (lS h) hd
       exact first (T := fun _ => True) (fun _ _ _ _ => trivial) (.inl ⟨gZ hr hg, fun w' _ => hy w'⟩) trivial (.inl fun _ => trivial) (hnx i _ _ hz)
      ·obtain ⟨z, hz, hy⟩ := bM1 hG hr (hstill hg) (lS h) hd
       exact first (T := Same w) (fun _ _ h1 h2 => h1.trans h2) (.inl ⟨gZ hr hg, hy⟩) (Same.refl w) (.inr hw) (hnx i _ _ hz)
     ·rename_i hg
      exact first (T := fun _ => True) (fun _ _ _ _ => trivial) (.inr ⟨gZ hr hg, rfl⟩) trivial (.inl fun _ => trivial)
       (hnx i _ _ ⟨[], _, vc, h, by simpa using hd, by simpa using hr.put (x := .one (.lf .undef)) rfl⟩)
     ·cases h
    ·cases h
   ·split at h
    ·rename_i d t hfo
     have he := tZ hr hfo
     obtain ⟨⟨v1, e1, d1⟩, v2, e2, d2⟩ := both_ok h hd
     cases hb' : (t.den (ρ0 ++ τ)).toB with
     | true =>
      obtain ⟨v, e3, d3⟩ := eF e1 d1 hb'
      exact IH (.still all (fuel + 1) listed oth :: K) _ v τ a w B e3 d3 (iP hr he hb') hb
     | false =>
      obtain ⟨v, e3, d3⟩ := eF e2 d2 hb'
      exact IH (.still all (fuel + 1) listed oth :: K) _ v τ a w B e3 d3 (iP hr he hb') hb
    ·split at h
     ·rename_i hquiet
      refine ⟨fun hh => absurd hh hne, fun i hi => ?_⟩
      obtain ⟨v, h1, h2⟩ := wS h hd i hi
      have hq := List.all_eq_true.1 hquiet i hi
      cases hc : oth.contains i with
      | true => exact aX9 hG hsig hr h1 h2 (fun a' w' hn => ⟨fun hf => Bool.noConfusion hf, hnx i a' w' hn⟩)
      | false =>
       rw [hc, Bool.false_or] at hq
       refine bM5 hG hsig hr (fun o ho => ?_) h1 h2 (fun a' w' hn hs => ⟨fun _ => hs, hnx i a' w' hn⟩)
       rw [ho] at hq; exact hq
     ·cases h
 | f + 1, .blk id :: K, S, vc, τ, a, w, B, h, hd, hr, hb => by
  simp only [run] at h
  exact pK hG hsig hm hn hit hpan hQ0 hQm f K S vc τ a w B h hd hr hb
 | f + 1, .wait :: K, S, vc, τ, a, w, B, h, hd, hr, hb => by
  have IH := pK hG hsig hm hn hit hpan hQ0 hQm f
  simp only [run] at h
  split at h
  ·exact IH K S vc τ a w B h hd hr hb
  ·exact IH (.wait :: K) S vc τ a w B h hd hr hb
 | f + 1, .lp j T n0 fix :: K, S, vc, τ, a, w, B, h, hd, hr, hb => by
  simp only [run] at h
  split at h
  ·rename_i θ hθ
   cases h
   obtain ⟨⟨b, B', ρb, τb, hB, he, _, h1⟩, _⟩ := hb
   subst hB
   simp only [VC.den] at hd
   rw [he] at hr hd
   exact h1 τb S a w θ hr hθ hd.1 hd.2
  ·cases h
 | f + 1, .ops all rest :: K, S, vc, τ, a, w, B, h, hd, hr, hb => by
  have IH := pK hG hsig hm hn hit hpan hQ0 hQm f
  simp only [run] at h
  show wpList cx.P all (sem cx.P (Q) K B) rest a w
  split at h
  ·exact IH K S vc τ a w B h hd hr hb
  ·rename_i o rest
   have hnx : ∀ a' w', Nx E G w0 (owns ρ0 cx.own.heap) (ros ρ0 cx.own.heap) (ρ0 ++ τ) (fun S => run cx f (.ops all rest :: K) S) a' w' → wpList cx.P all (sem cx.P (Q) K B) rest a' w' := by
    rintro a' w' ⟨σ, S', vc', h1, h2, h3⟩
    rw [List.append_assoc] at h2 h3
    exact IH (.ops all rest :: K) S' vc' (τ ++ σ) a' w' B h1 h2 h3 (by rw [← List.append_assoc]; exact jK (K := K) hb)
   unfold wpList
   split at h
   ·cases h
   ·rename_i hg
    rw [if_pos (gZ hr hg)]
    exact .inl (step_ok hG hsig hr (lS h) hd hnx).wp
   ·rename_i hg
    rw [if_neg (by rw [gZ hr hg]; simp)]
    exact hnx _ _ ⟨[], _, vc, h, by simpa using hd, by simpa using hr.put (x := .one (.lf .undef)) rfl⟩
   ·rename_i d t want hg
    have he := aE3 hr hg
    obtain ⟨⟨v1, e1, d1⟩, v2, e2, d2⟩ := both_ok h hd
    cases hb' : (t.den (ρ0 ++ τ)).toB with
    | true =>
     obtain ⟨v, e3, d3⟩ := eF e1 d1 hb'
     exact IH (.ops all (o :: rest) :: K) _ v τ a w B e3 d3 (iP hr he hb') hb
    | false =>
     obtain ⟨v, e3, d3⟩ := eF e2 d2 hb'
     exact IH (.ops all (o :: rest) :: K) _ v τ a w B e3 d3 (iP hr he hb') hb
 | f + 1, .any all fuel listed :: K, S, vc, τ, a, w, B, h, hd, hr, hb => by
  have IH := pK hG hsig hm hn hit hpan hQ0 hQm f
  simp only [run] at h
  show wpAny cx.P .any all (sem cx.P (Q) K B) fuel listed a w
  split at h
  ·rename_i hrs
   exact wpAny_done hrs (IH K S vc τ a w B h hd hr hb) _
  ·cases h
  ·rename_i fuel hne
   have hnx : ∀ i a' w', Nx E G w0 (owns ρ0 cx.own.heap) (ros ρ0 cx.own.heap) (ρ0 ++ τ) (fun S => run cx f (.any all fuel (listed.setIfInBounds i true) :: K) S) a' w' →
     wpAny cx.P .any all (sem cx.P (Q) K B) fuel (listed.setIfInBounds i true) a' w' := by
    rintro i a' w' ⟨σ, S', vc', h1, h2, h3⟩
    rw [List.append_assoc] at h2 h3
    exact IH (.any all fuel (listed.setIfInBounds i true) :: K) S' vc' (τ ++ σ) a' w' B h1 h2 h3 (by rw [← List.append_assoc]; exact jK (K := K) hb)
   have every : ∀ {vc : VC}, forEach (fun i => iV cx all i S (fun S => run cx f (.any all fuel (listed.setIfInBounds i true) :: K) S)) (Region.ready .any all listed) = .ok vc → vc.den E (ρ0 ++ τ) →
     wpAny cx.P .any all (sem cx.P (Q) K B) (fuel + 1) listed a w := by
    intro vc h hd
    refine wpAny_all rfl (fun hh => hne hh) (fun i hi => ?_)
    obtain ⟨v, h1, h2⟩ := wS h hd i hi
    exact aX9 hG hsig hr h1 h2 (hnx i)
   split at h
   ·exact zS _ _ _ _ (IH (.still all (fuel + 1) listed (yD cx all) :: K) S vc τ a w B h hd hr hb)
   rcases aT1 h with hst | h
   ·split at hst
    ·exact zS _ _ _ _ (IH (.still all (fuel + 1) listed (yD cx all) :: K) S vc τ a w B hst hd hr hb)
    ·cases hst
   rcases aT1 h with hst | h
   ·split at hst
    ·exact zS _ _ _ _ (IH (.still all (fuel + 1) listed [] :: K) S vc τ a w B hst hd hr hb)
    ·cases hst
   split at h
   ·rename_i i hfp
    obtain ⟨hmem, o, ho, hpure⟩ := wO hfp
    split at h
    ·rename_i hc
     simp only [Bool.and_eq_true] at hc
     have hQ : ∀ z, ∀ c a' w', sem cx.P (Q) K B (.panic c) (a'.put o.dst z) w' → sem cx.P (Q) K B (.panic c) a' w' := by
      intro z c a' w' hq
      rw [lM] at hq ⊢
      exact hpan hq
     unfold iV at h
     rw [ho] at h
     dsimp only at h
     split at h
     ·cases h
     ·rename_i hg
      obtain ⟨z, hz, hy⟩ := aI2 hr (hpure hg) (lS h) hd
      exact wpAny_take ho hc.1 hc.2 (by simpa using hmem) (hQ z) (.inl ⟨gZ hr hg, hy⟩) (hnx i _ _ hz)
     ·rename_i hg
      exact wpAny_take ho hc.1 hc.2 (by simpa using hmem) (hQ undef) (.inr ⟨gZ hr hg, rfl⟩)
       (hnx i _ _ ⟨[], _, vc, h, by simpa using hd, by simpa using hr.put (x := .one (.lf .undef)) rfl⟩)
     ·cases h
    ·exact every h hd
   ·split at h
    ·rename_i d t hfo
     have he := tZ hr hfo
     obtain ⟨⟨v1, e1, d1⟩, v2, e2, d2⟩ := both_ok h hd
     cases hb' : (t.den (ρ0 ++ τ)).toB with
     | true =>
      obtain ⟨v, e3, d3⟩ := eF e1 d1 hb'
      exact IH (.any all (fuel + 1) listed :: K) _ v τ a w B e3 d3 (iP hr he hb') hb
     | false =>
      obtain ⟨v, e3, d3⟩ := eF e2 d2 hb'
      exact IH (.any all (fuel + 1) listed :: K) _ v τ a w B e3 d3 (iP hr he hb') hb
    ·exact every h hd
 | f + 1, .code c :: K, S, vc, τ, a, w, B, h, hd, hr, hb => by
  have IH := pK hG hsig hm hn hit hpan hQ0 hQm f
  simp only [run] at h
  show c.wp cx.P (sem cx.P (Q) K B) a w
  split at h
  ·exact wp_skip (IH K S vc τ a w B h hd hr hb)
  ·exact wp_label (IH K S vc τ a w B h hd hr hb)
  ·rename_i x y
   exact wp_seq (IH (.code x :: .code y :: K) S vc τ a w B h hd hr hb)
  ·rename_i id c
   exact wp_block (IH (.code c :: .blk id :: K) S vc τ a w B h hd hr hb)
  ·rename_i x y z
   split at h
   ·cases h
   ·rename_i v hv
    have hx := aO hr hv
    split at h
    ·exact wp_cond_true hx (IH (.code y :: K) S vc τ a w B h hd hr hb)
    ·exact wp_cond_false hx (IH (.code z :: K) S vc τ a w B h hd hr hb)
    ·rename_i t _ _
     obtain ⟨⟨v1, e1, d1⟩, v2, e2, d2⟩ := both_ok h hd
     refine wp_cond_split (t := (t.den (ρ0 ++ τ)).toB) hx (fun hb' => ?_) (fun hb' => ?_)
     ·obtain ⟨v, e3, d3⟩ := eF e1 d1 hb'
      exact IH (.code y :: K) _ v τ a w B e3 d3 (iP hr hx hb') hb
     ·obtain ⟨v, e3, d3⟩ := eF e2 d2 hb'
      exact IH (.code z :: K) _ v τ a w B e3 d3 (iP hr hx hb') hb
    ·cases h
  ·rename_i c
   split at h
   ·rename_i ann hann
    have rule := fun (S : St) (vc : VC) (τ : LD) => bG9 (c := c) (ann := ann) (K := K) (B := B) (a := a) (w := w) IH S vc τ
    split at h
    ·obtain ⟨T, σ, v, h1, h2, h3, h4⟩ := aP8 (K := K) (B := B) hn hr hb h hd
     exact rule T v σ h1 h2 h3 h4
    ·exact rule S vc τ h hd hr hb
   ·cases h
  ·rename_i id
   split at h
   ·rename_i K' hbh
    obtain ⟨B', hb', hsem⟩ := lW (P := cx.P) (Q := Q) hbh hb
    exact wp_exit (hsem a w (IH K' S vc τ a w B' h hd hr hb'))
   ·cases h
  ·refine wp_ret ?_
   rw [lN]
   exact (hQ0 S τ vc a w h hd hr).1
  ·rename_i id all draw
   have rule : ∀ (S : St) (vc : VC) (τ : LD), (if draw then run cx f (.any all all.size (Array.replicate all.size false) :: K) S else run cx f (.ops all all.toList :: K) S) = .ok vc →
     vc.den E (ρ0 ++ τ) → Rel G w0 (owns ρ0 cx.own.heap) (ros ρ0 cx.own.heap) (ρ0 ++ τ) S a w → bOk E G w0 (owns ρ0 cx.own.heap) (ros ρ0 cx.own.heap) (ρ0 ++ τ) K B → (Code.region id all draw).wp cx.P (sem cx.P (Q) K B) a w := by
    intro S1 vc1 τ1 g1 g2 g3 g4
    split at g1
    ·rename_i hdraw
     clear h
     subst hdraw
     exact wp_region_any hm (IH (.any all all.size (Array.replicate all.size false) :: K) S1 vc1 τ1 a _ B g1 g2 (g3.ext (aC8 w)) g4)
    ·rename_i hdraw
     have hdraw : draw = false := by simpa using hdraw
     clear h
     subst hdraw
     exact wp_region_list (IH (.ops all all.toList :: K) S1 vc1 τ1 a w B g1 g2 g3 g4)
   split at h
   ·cases h
    exact absurd hd.1 (by simp [Tm.den])
   split at h
   ·obtain ⟨T, σ, v, h1, h2, h3, h4⟩ := aP8 (K := K) (B := B) hn hr hb h hd
    cases draw with
    | true => exact wp_region_any hm (IH (.wait :: .any all all.size (Array.replicate all.size false) :: K) T v σ a _ B h1 h2 (h3.ext (aC8 w)) h4)
    | false => exact wp_region_list (IH (.wait :: .ops all all.toList :: K) T v σ a w B h1 h2 h3 h4)
   ·exact rule S vc τ h hd hr hb
  ·rename_i g ps asg body
   split at h
   ·rename_i p hps
    have : ps = #[p] := by cases ps; simp at hps; rw [hps]
    subst this
    exact bI6 hG hsig hm hit hQm h hd hr
   ·cases h
  ·cases h
  ·cases h
def QM (P : Program) (fn : Func) (R : Ending → World → Prop) : Exit → Act → World → Prop
 | .normal, a, w | .ret, a, w => LeavesInM Fence.wide 0 P fn a.tmps R a.defers .returning w
 | _, _, _ => False
theorem bN5 {f : FuncId} {s : Sig} (hit : ∀ g ∈ cx.iters, jH cx.P g) (hsig : kH cx E) (hm : cx.P.follows .mixedOrders = true) (hf : cx.P.funcs[f]? = some cx.fn) (hs : s.toSigR = cx.own) (hpre : s.pre = E.post 0) (hpost : s.post = E.ret) (hpost2 : s.post2 = E.pre 200)
  (h : vO cx = .ok vc) (hd : vc.den E []) : s.Holds cx.P cx.G f := by
 obtain ⟨R, pre, post, post2⟩ := s
 dsimp only at hs hpre hpost hpost2
 subst hs hpre hpost hpost2
 intro w args ρ hρ hp ha hh hg
 dsimp only at hρ hp ha hh hg
 unfold vO at h
 split at h
 ·cases h
 rename_i c hc
 dsimp only at h
 split at h
 ·rename_i hu
  obtain ⟨v1, e1, d1⟩ := sS (ρ := []) h hd hρ
  simp only [List.nil_append] at d1
  have hargs : args.size = cx.own.args.length := by rw [← aX5 ha]; simp
  have hlen := bH hρ
  have hr : Rel cx.G w (owns ρ cx.own.heap) (ros ρ cx.own.heap) ρ (entry cx) { tmps := args ++ Array.replicate (cx.fn.ntmps - args.size) undef, defers := [] } w := by
   refine ⟨hρ, ?_, rfl, hh, hg, ⟨rfl, rfl, rfl, Nat.le_refl _, fun _ _ _ => rfl⟩, fun b hb => .inl hb, fun b hb => .inr (.inr hb)⟩
   simp only [entry, Array.toList_append, Array.toList_replicate]
   refine zG ha ?_
   have := aX4 (ρ := ρ) (List.replicate (cx.fn.ntmps - args.size) undef)
   rw [List.length_replicate, hargs] at this
   rw [hargs]; exact this
  obtain ⟨v2, e2, d2⟩ := qU e1 d1 (zB hr)
  split at e2
  ·rename_i v3 hv3
   cases e2
   have hat : (atoms cx.own.aA.length).map (Tm.den ρ) = ρ := by
    have := vZ ρ []
    rw [List.append_nil, hlen] at this; exact this
   have d3 := d2 (by rw [hat]; exact hp)
   have hret : ∀ (S' : St) (τ' : LD) (vc' : VC) (a' : Act) (W : World), fF cx S' = .ok vc' → vc'.den E (ρ ++ τ') → Rel cx.G w (owns ρ cx.own.heap) (ros ρ cx.own.heap) (ρ ++ τ') S' a' W →
     LeavesInM Fence.wide 0 cx.P cx.fn a'.tmps (fun e w' => ∃ v, e = .returned v ∧ Good cx E w ρ v w') [] .returning W := fun S' τ' vc' a' W g1 g2 g3 => by
    obtain ⟨_, v, h2, h3⟩ := bK3 rfl g3 hlen.symm g1 g2
    exact ⟨v, h2, v, rfl, h3⟩
   have := pK (ρ0 := ρ) (w0 := w) (Q := QM cx.P cx.fn fun e w' => ∃ v, e = .returned v ∧ Good cx E w ρ v w') rfl hsig hm hlen.symm hit (fun h => h.elim)
    (fun S' τ' vc' a' W g1 g2 g3 => by
     have := hret S' τ' vc' a' W g1 g2 g3
     have hd : a'.defers = [] := g3.defers
     constructor <;> (show LeavesInM _ _ _ _ _ _ a'.defers _ _; rw [hd]; exact this))
    (fun S' τ' vc' a' W d g1 g2 gd g3 => by
     have := hret S' τ' vc' a' _ g1 g2 g3
     constructor <;> exact ⟨by simp, .inl ⟨d, _, rfl, run_takeDeferred gd, this⟩⟩)
    100000 [.code c] (entry cx) v3 [] _ w [] hv3 (by simpa using d3) (by simpa using hr) trivial
   refine Calls.mono (callsIn_wide.1 (callsIn_of_wp_marks (F := Fence.wide) (n := 0) (R := fun e w' => ∃ v, e = .returned v ∧ Good cx E w ρ v w') hf hc trivial (wpIn_wide.2 (wp_mono this fun e a w q => by cases e <;> first | exact q | exact q.elim)))) ?_
   rintro e w' ⟨v, rfl, g | g⟩
   ·exact ⟨v, rfl, .inl g⟩
   ·exact ⟨v, rfl, .inr g⟩
  ·cases e2
 ·cases h
end
end Go.Vc
namespace Go.Vc
def Sig.none : Sig := { args := [], heap := [], aA := [], res := .tup [], heap' := [], news := [], pre := fun _ => False, post := fun _ => True }
def dS (own : Sig) (cs : List Sig) (invs : List ((LD → Prop) × (LD → Nat))) : Env where
 pre c := if c < 200 then (match c with | 0 => fun _ => False | c + 1 => (cs.getD c Sig.none).pre) else (match c - 200 with | 0 => own.post2 | c + 1 => (cs.getD c Sig.none).pre)
 post c := if c < 200 then (match c with | 0 => own.pre | c + 1 => (cs.getD c Sig.none).post) else (match c - 200 with | 0 => fun _ => True | c + 1 => (cs.getD c Sig.none).post2)
 inv j := (invs.getD j (fun _ => True, fun _ => 0)).1
 meas j := (invs.getD j (fun _ => True, fun _ => 0)).2
 ret := own.post
theorem bH3 {own : Sig} {cs : List Sig} {invs : List ((LD → Prop) × (LD → Nat))} : own.pre = (dS own cs invs).post 0 := by
 simp only [dS]
 rw [if_pos (by decide)]
theorem bH4 {own : Sig} {cs : List Sig} {invs : List ((LD → Prop) × (LD → Nat))} : own.post2 = (dS own cs invs).pre 200 := by
 simp only [dS]
 rw [if_neg (by decide)]
 rfl
def jT : Nat → List (FuncId × Sig) → List (FuncId × Nat × SigR)
 | _, [] => []
 | n, (f, s) :: r => (f, n, s.toSigR) :: jT (n + 1) r
structure Kept (P : Program) (G : List Glob) (f : FuncId) (s : Sig) : Prop where
 holds : s.Holds P G f
 body : ∃ fn b, P.funcs[f]? = some fn ∧ (fn.name == "runtime.NumGoroutine") = false ∧ fn.body = some b
theorem aN6 {f c : Nat} {R : SigR} : ∀ {l : List (FuncId × Sig)} {n : Nat}, nZ f (jT n l) = some (c, R) → ∃ i s, l[i]? = some (f, s) ∧ c = n + i ∧ s.toSigR = R
 | [], n, h => by simp [jT, nZ] at h
 | (g, s) :: l, n, h => by
  simp only [jT, nZ] at h
  split at h
  ·rename_i e; cases h; subst e; exact ⟨0, s, rfl, rfl, rfl⟩
  ·obtain ⟨i, s', h1, h2, h3⟩ := aN6 h
   exact ⟨i + 1, s', h1, by omega, h3⟩
theorem aQ0 {cx : Cx} {vc : VC} {f : FuncId} {own : Sig} {l : List (FuncId × Sig)} {invs : List ((LD → Prop) × (LD → Nat))} (hm : cx.P.follows .mixedOrders = true) (hf : cx.P.funcs[f]? = some cx.fn)
  (hname : (cx.fn.name == "runtime.NumGoroutine") = false) (hown : own.toSigR = cx.own) (hs : cx.sigs = jT 1 l) (hl : ∀ x ∈ l, Kept cx.P cx.G x.1 x.2) (h : vO cx = .ok vc)
  (hd : vc.den (dS own (l.map (·.2)) invs) []) (hlen : l.length < 199) (hit : ∀ g ∈ cx.iters, jH cx.P g := by intro g h; cases h) : Kept cx.P cx.G f own := by
 have e0 : own.pre = (dS own (l.map (·.2)) invs).post 0 := bH3
 have e1 : own.post = (dS own (l.map (·.2)) invs).ret := rfl
 have e2 : own.post2 = (dS own (l.map (·.2)) invs).pre 200 := bH4
 generalize hE : dS own (l.map (·.2)) invs = E at *
 refine ⟨bN5 (E := E) hit (fun g c R hg => ?_) hm hf hown e0 e1 e2 h hd, ?_⟩
 ·rw [hs] at hg
  obtain ⟨i, s, h1, h2, h3⟩ := aN6 hg
  have hk := hl _ (List.mem_of_getElem? h1)
  have hi : (l.map (·.2)).getD i Sig.none = s := by simp [List.getD, h1]
  have hil : i < l.length := (List.getElem?_eq_some_iff.1 h1).1
  refine ⟨s, h3, ?_, ?_, ?_, hk.holds, hk.body⟩
  ·rw [h2, Nat.add_comm]
   rw [← hE]
   simp only [dS]
   rw [if_pos (by omega), hi]
  ·rw [h2, Nat.add_comm]
   rw [← hE]
   simp only [dS]
   rw [if_pos (by omega), hi]
  ·rw [h2, ← hE]
   simp only [dS]
   rw [if_neg (by omega), show 1 + i + 200 - 200 = i + 1 from by omega]
   show s.post2 = ((l.map (·.2)).getD i Sig.none).post2
   rw [hi]
 ·unfold vO at h
  split at h
  ·cases h
  ·rename_i c hc
   exact ⟨cx.fn, c, hf, hname, hc⟩
theorem dJ.below {w w' : World} (h : dJ w [] w') : RowKit.Below w.heap.size w w' := ⟨h.os, h.tape, h.output, h.size, fun b hb => h.block b hb (by simp)⟩
end Go.Vc