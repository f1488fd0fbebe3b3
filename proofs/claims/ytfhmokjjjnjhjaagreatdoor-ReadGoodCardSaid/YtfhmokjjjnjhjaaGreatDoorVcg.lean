/-
 Soundness: running through the code.
 Use: contracts by list, what is kept.
-/
import Derived.Test.YtfhmokjjjnjhjaaGreatDoorVcf
import GoSem.Claim
set_option linter.unusedVariables false
set_option linter.unusedSimpArgs false
open _root_.Go.IntKind (wrap)
namespace Go.Vc
section
variable {E : Env} {G : List Glob} {w0 : World} {D0 R0 : List Nat} {ρ0 ρ τ : LD} {S T : St} {a : Act} {w : World} {cx : Cx} {vc : VC} {K : List KI}
theorem aY3 {all : Array Oper} {i : Nat} {next : St → M} {Q : Exit → Act → World → Prop} {KK : Act → World → Prop} (hG : cx.G = G) (hsig : mZ cx E) (hr : Rel G w0 D0 R0 ρ S a w)
  (h : kC cx all i S next = .ok vc) (hd : vc.den E ρ) (hK : ∀ a' w', Nx E G w0 D0 R0 ρ next a' w' → KK a' w') : wpOp cx.P all Q i KK a w := by
 unfold kC at h
 unfold wpOp
 split at h
 ·cases h
 ·rename_i o ho
  rw [ho]
  dsimp only
  split at h
  ·cases h
  ·rename_i hg
   rw [if_pos (jG hr hg)]
   exact .inl (step_ok hG hsig hr (qI h) hd hK).wp
  ·rename_i hg
   rw [if_neg (by rw [jG hr hg]; simp)]
   exact hK _ _ ⟨[], _, vc, h, by simpa using hd, by simpa using hr.put (x := .one (.lf .undef)) rfl⟩
  ·cases h
theorem aF0 {all : Array Oper} : ∀ {rs : List Nat} {i : Nat}, uG cx all S rs = some i → i ∈ rs ∧ ∃ o, all[i]? = some o ∧ (guardOf all S o = .ok (.inl true) → aK8 cx S o = true)
 | [], i, h => by simp [uG] at h
 | j :: r, i, h => by
  simp only [uG] at h
  split at h
  ·rename_i o ho
   split at h
   ·rename_i hg
    cases h
    exact ⟨by simp, o, ho, fun hg' => by rw [hg] at hg'; cases hg'⟩
   ·split at h
    ·rename_i hc
     cases h
     exact ⟨by simp, o, ho, fun _ => hc⟩
    ·obtain ⟨h1, h2⟩ := aF0 h
     exact ⟨List.mem_cons_of_mem _ h1, h2⟩
   ·obtain ⟨h1, h2⟩ := aF0 h
    exact ⟨List.mem_cons_of_mem _ h1, h2⟩
  ·obtain ⟨h1, h2⟩ := aF0 h
   exact ⟨List.mem_cons_of_mem _ h1, h2⟩
theorem cI3 {all : Array Oper} {i : Nat} {next : St → M} {Q : Exit → Act → World → Prop} {KK : Act → World → Prop} (hG : cx.G = G) (hsig : mZ cx E) (hr : Rel G w0 D0 R0 ρ S a w)
  (hq : ∀ o, all[i]? = some o → quietIn cx S o = true)
  (h : kC cx all i S next = .ok vc) (hd : vc.den E ρ) (hK : ∀ a' w', Nx E G w0 D0 R0 ρ next a' w' → Same w w' → KK a' w') : wpOp cx.P all Q i KK a w := by
 unfold kC at h
 unfold wpOp
 split at h
 ·cases h
 ·rename_i o ho
  rw [ho]
  dsimp only
  split at h
  ·cases h
  ·rename_i hg
   rw [if_pos (jG hr hg)]
   exact .inl (cE9 hG hsig hr (hq o ho) (qI h) hd hK).wp
  ·rename_i hg
   rw [if_neg (by rw [jG hr hg]; simp)]
   exact hK _ _ ⟨[], _, vc, h, by simpa using hd, by simpa using hr.put (x := .one (.lf .undef)) rfl⟩ (Same.refl w)
  ·cases h
theorem bJ8 {x : M} {y : Unit → M} (h : orElse x y = .ok vc) : x = .ok vc ∨ y () = .ok vc := by
 unfold orElse at h
 split at h
 ·exact .inl h
 ·exact .inr h
theorem zD {all : Array Oper} : ∀ {rs : List Nat} {i : Nat}, rH cx all S rs = some i → i ∈ rs ∧ ∃ o, all[i]? = some o ∧ (guardOf all S o = .ok (.inl true) → sD cx S o = true)
 | [], i, h => by simp [rH] at h
 | j :: r, i, h => by
  simp only [rH] at h
  split at h
  ·rename_i o ho
   split at h
   ·rename_i hg
    cases h
    exact ⟨by simp, o, ho, fun hg' => by rw [hg] at hg'; cases hg'⟩
   ·split at h
    ·rename_i hc
     cases h
     exact ⟨by simp, o, ho, fun _ => hc⟩
    ·obtain ⟨h1, h2⟩ := zD h
     exact ⟨List.mem_cons_of_mem _ h1, h2⟩
   ·obtain ⟨h1, h2⟩ := zD h
    exact ⟨List.mem_cons_of_mem _ h1, h2⟩
  ·obtain ⟨h1, h2⟩ := zD h
   exact ⟨List.mem_cons_of_mem _ h1, h2⟩
theorem rC {G : List Glob} {ρ σ : LD} {n : Nat} : ∀ {K : List KI} {B : List (Act → World → Prop)}, wX K ≤ n → bOk E G w0 D0 R0 ρ K B → bOk E G w0 D0 R0 (ρ.take n ++ σ) K B
 | [], _, _, _ => trivial
 | .lp j T n0 fix :: K, B, hn, h => by
  obtain ⟨⟨b, B', ρb, τb, rfl, he, hl, h1⟩, h2⟩ := h
  simp only [wX] at hn
  refine ⟨⟨b, B', ρb, τb.take (n - ρb.length) ++ σ, rfl, ?_, hl, h1⟩, rC (by omega) h2⟩
  rw [he, List.take_append, List.take_of_length_le (by omega), List.append_assoc]
 | .code c :: K, B, hn, h => rC (K := K) hn h
 | .ops .. :: K, B, hn, h => rC (K := K) hn h
 | .any .. :: K, B, hn, h => rC (K := K) hn h
 | .still .. :: K, B, hn, h => rC (K := K) hn h
 | .blk .. :: K, B, hn, h => rC (K := K) hn h
 | .wait :: K, B, hn, h => rC (K := K) hn h
theorem bN9 : ∀ {n : Nat} {ss : List Srt} {ds : LD}, bY ss ds → bY (ss.take n) (ds.take n)
 | 0, _, _, _ => by simp [bY]
 | _ + 1, [], [], _ => by simp [bY]
 | _ + 1, [], _ :: _, h => h.elim
 | _ + 1, _ :: _, [], h => h.elim
 | n + 1, s :: ss, d :: ds, h => ⟨h.1, bN9 h.2⟩
theorem bG0 {c : Code} {K : List KI} {jn : Ann} {rule : St → M} {τ : LD} {B : List (Act → World → Prop)} (hn : cx.own.aB.length = ρ0.length) (hr : Rel G w0 D0 R0 (ρ0 ++ τ) S a w) (hb : bOk E G w0 D0 R0 (ρ0 ++ τ) K B)
  (h : aG4 cx c K S jn rule = .ok vc) (hd : vc.den E (ρ0 ++ τ)) : ∃ T σ v, rule T = .ok v ∧ v.den E (ρ0 ++ σ) ∧ Rel G w0 D0 R0 (ρ0 ++ σ) T a w ∧ bOk E G w0 D0 R0 (ρ0 ++ σ) K B := by
 unfold aG4 at h
 dsimp only at h
 generalize hn0 : max cx.own.aB.length (wX K) = n0 at h
 split at h
 ·cases h
 ·rename_i T _
  split at h
  ·rename_i hc
   obtain ⟨hT, hS⟩ := hc
   split at h
   ·cases h
   ·rename_i θ hθ
    split at h
    ·rename_i v hv
     cases h
     obtain ⟨hinv, hdv⟩ := hd
     have hlen := cO hr.aB
     obtain ⟨ρ1, τ1, he, hl1, hpre⟩ : ∃ ρ1 τ1, ρ0 ++ τ = ρ1 ++ τ1 ∧ n0 = ρ1.length ∧ ∃ x, ρ1 = ρ0 ++ x := by
      refine ⟨(ρ0 ++ τ).take n0, (ρ0 ++ τ).drop n0, (List.take_append_drop _ _).symm, by rw [List.length_take]; omega, τ.take (n0 - ρ0.length), ?_⟩
      rw [List.take_append, List.take_of_length_le (by omega)]
     obtain ⟨x, rfl⟩ := hpre
     have hs0 : bY (T.aB.take n0) (ρ0 ++ x) := by
      have := bN9 (n := n0) hr.aB
      rw [he, List.take_left' hl1.symm] at this
      rw [hT]; exact this
     rw [he] at hr hdv hinv hb
     obtain ⟨hσ, hr0⟩ := wL hr hl1 hs0 hθ
     simp only [VC.den] at hdv
     rw [List.take_left' hl1.symm] at hdv
     obtain ⟨v1, e1, d1⟩ := yI hv hdv hσ
     obtain ⟨v2, e2, d2⟩ := wR e1 d1 (aK7 hr0)
     split at e2
     ·rename_i v3 hv3
      cases e2
      have hbt := rC (n := n0) (σ := θ.map (Tm.den (ρ0 ++ x ++ τ1))) (by omega) hb
      rw [List.take_left' hl1.symm, List.append_assoc] at hbt
      refine ⟨T, x ++ θ.map (Tm.den (ρ0 ++ x ++ τ1)), v3, hv3, ?_, by rw [← List.append_assoc]; exact hr0, hbt⟩
      rw [← List.append_assoc]
      apply d2
      have hσl := cO hσ
      rw [List.map_append, nN, hl1, aD1] at hinv
      rw [List.map_append, nN, hl1, aD1, ← hl1, ← hσl, hl1]
      have := aD0 (ρ0 ++ x) (θ.map (Tm.den (ρ0 ++ x ++ τ1))) []
      rw [List.append_nil] at this
      rw [this, ← hl1]
      rw [← hl1] at hinv
      exact hinv
     ·cases e2
    ·cases h
  ·cases h
theorem cA9 {Q : Exit → Act → World → Prop} {c : Code} {ann : Ann} {f : Nat} {K : List KI} {B : List (Act → World → Prop)} {a : Act} {w : World} 
  (IH : ∀ (K : List KI) (S : St) (vc : VC) (τ : LD) (a : Act) (w : World) (B : List (Act → World → Prop)), run cx f K S = .ok vc → vc.den E (ρ0 ++ τ) →
   Rel G w0 (owns ρ0 cx.own.heap) (ros ρ0 cx.own.heap) (ρ0 ++ τ) S a w → bOk E G w0 (owns ρ0 cx.own.heap) (ros ρ0 cx.own.heap) (ρ0 ++ τ) K B → sem cx.P (Q) K B .normal a w) :
  ∀ (S : St) (vc : VC) (τ : LD), (let T := template cx S c ann; let fix := atoms cx.own.aB.length ++ ann.watch.flatMap (aC4 T); general S T (ann.j, fix) (run cx f (.code c :: .lp ann.j T S.aB.length fix :: K) T)) = .ok vc →
      vc.den E (ρ0 ++ τ) → Rel G w0 (owns ρ0 cx.own.heap) (ros ρ0 cx.own.heap) (ρ0 ++ τ) S a w → bOk E G w0 (owns ρ0 cx.own.heap) (ros ρ0 cx.own.heap) (ρ0 ++ τ) K B → (Code.loop c).wp cx.P (sem cx.P (Q) K B) a w := by
 intro S vc τ h hd hr hb
 dsimp only at h
 generalize template cx S c ann = T at h
 generalize atoms cx.own.aB.length ++ ann.watch.flatMap (aC4 T) = fix at h
 generalize ann.j = j at h
 unfold general at h
 dsimp only at h
 split at h
 ·rename_i hc
  obtain ⟨hT, hTu, hfix⟩ := hc
  have hlen := cO hr.aB
  split at h
  ·cases h
  ·rename_i θ hθ
   split at h
   ·rename_i v hv
    cases h
    obtain ⟨hinv, hdv⟩ := hd
    obtain ⟨hσ0, hr0⟩ := wL (ρ := ρ0 ++ τ) (τ := []) (by simpa using hr) hlen.symm (by rw [hT]; exact hr.aB) hθ
    simp only [List.append_nil] at hσ0 hr0
    -- the pattern's words in a longer payload
    have hfixE : ∀ σ, fix.map (Tm.den (ρ0 ++ τ ++ σ)) = fix.map (Tm.den (ρ0 ++ τ)) := fun σ => aE5 (by rw [hlen]; exact hfix)
    refine wp_loop_ghost (fun n a w => ∃ σ, bY (T.aB.drop S.aB.length) σ ∧ Rel G w0 (owns ρ0 cx.own.heap) (ros ρ0 cx.own.heap) (ρ0 ++ τ ++ σ) T a w ∧
     E.inv j (fix.map (Tm.den (ρ0 ++ τ)) ++ keepD σ (sel T S.aB.length)) ∧ n = E.meas j (fix.map (Tm.den (ρ0 ++ τ)) ++ keepD σ (sel T S.aB.length))) _
     ⟨_, hσ0, hr0, by rw [List.map_append, nN] at hinv; exact hinv, rfl⟩ ?_
    rintro n a1 w1 ⟨σ, hσ, hr1, hi1, rfl⟩
    obtain ⟨v1, e1, d1⟩ := yI hv hdv hσ
    obtain ⟨v2, e2, d2⟩ := wR e1 d1 (aK7 hr1)
    split at e2
    ·rename_i v3 hv3
     cases e2
     have hσl := cO hσ
     have hw : (fix ++ keep (nD S.aB.length (T.aB.drop S.aB.length).length) (sel T S.aB.length)).map (Tm.den (ρ0 ++ τ ++ σ)) = fix.map (Tm.den (ρ0 ++ τ)) ++ keepD σ (sel T S.aB.length) := by
      rw [List.map_append, hfixE, nN, ← hσl, ← hlen]
      have := aD0 (ρ0 ++ τ) σ []
      rw [List.append_nil] at this
      rw [this]
     have d3 := d2 (by rw [hw]; exact hi1)
     have hh := IH (.code c :: .lp j T S.aB.length fix :: K) T v3 (τ ++ σ) a1 w1
      ((fun a' w' => ∃ n', n' < E.meas j (fix.map (Tm.den (ρ0 ++ τ)) ++ keepD σ (sel T S.aB.length)) ∧ ∃ σ, bY (T.aB.drop S.aB.length) σ ∧ Rel G w0 (owns ρ0 cx.own.heap) (ros ρ0 cx.own.heap) (ρ0 ++ τ ++ σ) T a' w' ∧
        E.inv j (fix.map (Tm.den (ρ0 ++ τ)) ++ keepD σ (sel T S.aB.length)) ∧ n' = E.meas j (fix.map (Tm.den (ρ0 ++ τ)) ++ keepD σ (sel T S.aB.length))) :: B)
      hv3 (by rw [← List.append_assoc]; exact d3) (by rw [← List.append_assoc]; exact hr1) ?_
     ·exact hh
     ·refine ⟨⟨_, B, ρ0 ++ (τ ++ σ), [], rfl, (List.append_nil _).symm, ?_, fun τ' S' a' w' θ' hr' hf' hi' hm' => ?_⟩, ?_⟩
      ·rw [← List.append_assoc]; exact bY0 hT hσ hlen
      ·obtain ⟨g1, g2⟩ := wL (ρ := ρ0 ++ τ) (τ := σ ++ τ') (by simpa using hr') hlen.symm (by rw [hT]; exact hr.aB) hf'
       have hdrop : ∀ {x : LD}, ρ0 ++ (τ ++ σ) ++ τ' = ρ0 ++ τ ++ (σ ++ τ') := by simp
       rw [@hdrop []] at hi' hm'
       rw [List.map_append, hfixE, nN] at hi' hm'
       have hold : (fix ++ keep (nD S.aB.length (T.aB.drop S.aB.length).length) (sel T S.aB.length)).map (Tm.den (ρ0 ++ τ ++ (σ ++ τ'))) = fix.map (Tm.den (ρ0 ++ τ)) ++ keepD σ (sel T S.aB.length) := by
        rw [List.map_append, hfixE, nN, ← hσl, ← hlen, ← List.append_assoc (ρ0 ++ τ), aD0]
       rw [hold] at hm'
       exact ⟨_, hm', _, g1, g2, hi', rfl⟩
      ·rw [← List.append_assoc]; exact mD (K := K) hb
    ·cases e2
   ·cases h
 ·cases h
theorem cH6 {id : Nat} {k : St → M} (hr : Rel G w0 D0 R0 ρ S a w) (h : aX3 cx id S k = .ok vc) (hd : vc.den E ρ) : ∃ σ S' vc', k S' = .ok vc' ∧ vc'.den E (ρ ++ σ) ∧ Rel G w0 D0 R0 (ρ ++ σ) S' a w := by
 unfold aX3 at h
 split at h
 ·rename_i lk _ _
  obtain ⟨σ, qs, S', vc', h1, h2, _, h4, _⟩ := aH3 (vs := [.slice none 0 0]) hr h hd rfl ⟨_, _, rfl, rfl, rfl, rfl⟩
  exact ⟨σ, _, vc', h1, h2, h4.deep (fun x hx => by cases hx) (fun b hb => by cases hb)⟩
 ·exact ⟨[], S, vc, h, by simpa using hd, by simpa using hr⟩
theorem cG5 {all : Array Oper} {Q : Exit → Act → World → Prop} (hG : cx.G = G) (hsig : mZ cx E) (hpan : ∀ {ch a w a'}, Q (.panic ch) a w → Q (.panic ch) a' w) :
  ∀ (fuel : Nat) (listed : Array Bool) (S : St) (vc : VC) (ρ : LD) (a : Act) (w : World), sN cx all T fuel listed S = .ok vc → vc.den E ρ → Rel G w0 D0 R0 ρ S a w →
   (∀ σ a' w', Rel G w0 D0 R0 (ρ ++ σ) T a' w' → Q .normal a' w') → wpAny cx.P .any all Q fuel listed a w := by
 have fin : ∀ {fuel : Nat} {listed : Array Bool} {S : St} {vc : VC} {ρ : LD} {a : Act} {w : World}, Region.ready .any all listed = [] → aK1 T S = .ok vc → Rel G w0 D0 R0 ρ S a w →
   (∀ σ a' w', Rel G w0 D0 R0 (ρ ++ σ) T a' w' → Q .normal a' w') → wpAny cx.P .any all Q fuel listed a w := by
  intro fuel listed S vc ρ a w hrs h hr hq
  unfold aK1 at h
  split at h
  ·rename_i hc
   refine wpAny_done hrs (hq [] a w ?_) _
   rw [List.append_nil]
   exact ⟨hc.2.1 ▸ hr.aB, aX7 hc.2.2 hr.tmps, hr.defers, hc.1 ▸ hr.heap, hc.1 ▸ hr.globs, hr.frame, hc.1 ▸ hr.within, hc.1 ▸ hr.within'⟩
  ·cases h
 intro fuel
 induction fuel with
 | zero =>
  intro listed S vc ρ a w h hd hr hq
  unfold sN at h
  split at h
  ·rename_i hrs
   exact fin hrs h hr hq
  ·cases h
 | succ fuel IH =>
  intro listed S vc ρ a w h hd hr hq
  unfold sN at h
  split at h
  ·rename_i hrs
   exact fin hrs h hr hq
  ·rename_i hne
   have hnx : ∀ i a' w', Nx E G w0 D0 R0 ρ (fun S => sN cx all T fuel (listed.setIfInBounds i true) S) a' w' → wpAny cx.P .any all Q fuel (listed.setIfInBounds i true) a' w' := by
    rintro i a' w' ⟨σ, S', vc', h1, h2, h3⟩
    exact IH _ S' vc' _ a' w' h1 h2 h3 fun σ' a1 w1 h => hq (σ ++ σ') a1 w1 (by rw [← List.append_assoc]; exact h)
   have every : ∀ {vc : VC}, forEach (fun i => kC cx all i S (fun S => sN cx all T fuel (listed.setIfInBounds i true) S)) (Region.ready .any all listed) = .ok vc → vc.den E ρ →
     wpAny cx.P .any all Q (fuel + 1) listed a w := by
    intro vc h hd
    refine wpAny_all rfl (fun hh => hne hh) (fun i hi => ?_)
    obtain ⟨v, h1, h2⟩ := zJ h hd i hi
    exact aY3 hG hsig hr h1 h2 (hnx i)
   split at h
   ·rename_i i hfp
    obtain ⟨hmem, o, ho, hpure⟩ := zD hfp
    split at h
    ·rename_i hc
     simp only [Bool.and_eq_true] at hc
     dsimp only at h
     unfold kC at h
     rw [ho] at h
     dsimp only at h
     split at h
     ·cases h
     ·rename_i hg
      obtain ⟨z, hz, hy⟩ := aI8 hr (hpure hg) (qI h) hd
      exact wpAny_take ho hc.1 hc.2 (by simpa using hmem) (fun _ _ _ h => hpan h) (.inl ⟨jG hr hg, hy⟩) (hnx i _ _ hz)
     ·rename_i hg
      exact wpAny_take ho hc.1 hc.2 (by simpa using hmem) (fun _ _ _ h => hpan h) (.inr ⟨jG hr hg, rfl⟩)
       (hnx i _ _ ⟨[], _, vc, h, by simpa using hd, by simpa using hr.put (x := .one (.lf .undef)) rfl⟩)
     ·cases h
    ·exact every h hd
   ·exact every h hd
theorem vJ {Q : Exit → Act → World → Prop} (hG : cx.G = G) (hsig : mZ cx E) (hm : cx.P.follows .mixedOrders = true) (hn : cx.own.aB.length = ρ0.length) (hit : ∀ g ∈ cx.iters, nC cx.P g)
  (hpan : ∀ {ch a w a'}, Q (.panic ch) a w → Q (.panic ch) a' w)
  (hQ0 : ∀ (S' : St) (τ' : LD) (vc' : VC) (a' : Act) (W : World), iZ cx S' = .ok vc' → vc'.den E (ρ0 ++ τ') → Rel G w0 (owns ρ0 cx.own.heap) (ros ρ0 cx.own.heap) (ρ0 ++ τ') S' a' W → Q .ret a' W ∧ Q .normal a' W)
  (hQm : ∀ (S' : St) (τ' : LD) (vc' : VC) (a' : Act) (W : World) (d : Nat), iZ cx S' = .ok vc' → vc'.den E (ρ0 ++ τ') → W.heap[d]? = some (.deferred (some [])) → Rel G w0 (owns ρ0 cx.own.heap) (ros ρ0 cx.own.heap) (ρ0 ++ τ') S' a' (W.putObj d (.deferred none)) →
   Q .ret (dS a' [mark d]) W ∧ Q .normal (dS a' [mark d]) W) :
  ∀ (f : Nat) (K : List KI) (S : St) (vc : VC) (τ : LD) (a : Act) (w : World) (B : List (Act → World → Prop)), run cx f K S = .ok vc → vc.den E (ρ0 ++ τ) →
   Rel G w0 (owns ρ0 cx.own.heap) (ros ρ0 cx.own.heap) (ρ0 ++ τ) S a w → bOk E G w0 (owns ρ0 cx.own.heap) (ros ρ0 cx.own.heap) (ρ0 ++ τ) K B → sem cx.P (Q) K B .normal a w
 | 0, K, S, vc, τ, a, w, B, h, _, _, _ => by simp [run] at h
 | f + 1, [], S, vc, τ, a, w, B, h, hd, hr, _ => by
  simp only [run] at h
  exact (hQ0 S τ vc a w h hd hr).2
 | f + 1, .still all fuel listed oth :: K, S, vc, τ, a, w, B, h, hd, hr, hb => by
  have IH := vJ hG hsig hm hn hit hpan hQ0 hQm f
  simp only [run] at h
  show pV cx.P all (sem cx.P (Q) K B) oth fuel listed a w
  split at h
  ·rename_i hrs
   exact cK2 hrs (IH K S vc τ a w B h hd hr hb) _
  ·cases h
  ·rename_i fuel hne
   have hnx : ∀ i a' w', Nx E G w0 (owns ρ0 cx.own.heap) (ros ρ0 cx.own.heap) (ρ0 ++ τ) (fun S => run cx f (.still all fuel (listed.setIfInBounds i true) oth :: K) S) a' w' →
     pV cx.P all (sem cx.P (Q) K B) oth fuel (listed.setIfInBounds i true) a' w' := by
    rintro i a' w' ⟨σ, S', vc', h1, h2, h3⟩
    rw [List.append_assoc] at h2 h3
    exact IH (.still all fuel (listed.setIfInBounds i true) oth :: K) S' vc' (τ ++ σ) a' w' B h1 h2 h3 (by rw [← List.append_assoc]; exact mD (K := K) hb)
   split at h
   ·rename_i i hft
    obtain ⟨hmem, o, ho, hstill⟩ := aF0 hft
    replace hmem := (List.mem_filter.1 hmem).1
    split at h
    ·rename_i hc
     simp only [Bool.and_eq_true] at hc
     obtain ⟨⟨hns, hfree⟩, hcase⟩ := hc
     have hQ : ∀ z, ∀ c a' w', sem cx.P (Q) K B (.panic c) (a'.put o.dst z) w' → sem cx.P (Q) K B (.panic c) a' w' := by
      intro z c a' w' hq
      rw [pJ] at hq ⊢
      exact hpan hq
     have first : ∀ {z : Value} {T : World → Prop}, (∀ w w', T w → Same w w' → T w') → YieldsIf cx.P all T o z a → T w → ((∀ w, T w) ∨ aI2 all listed oth i = true) →
       pV cx.P all (sem cx.P (Q) K B) oth fuel (listed.setIfInBounds i true) (a.put o.dst z) w → pV cx.P all (sem cx.P (Q) K B) oth (fuel + 1) listed a w := by
      intro z T hTs hy hT hor H
      refine cK3 (n := all.size) ho (Region.noSelect_spec hns) (hQ z) hTs fuel listed a w (Region.free_spec ho hfree) hmem hy hT (hor.imp id fun hw j hj hun hji => ?_) H
      have := List.all_eq_true.1 hw j hj
      simp only [hun, Bool.false_or, Bool.or_eq_true, beq_iff_eq] at this
      exact this.resolve_left hji
     simp only [Bool.or_eq_true] at hcase
     have hp := hcase.imp_left (fun hp => by simpa [aV9, ho] using hp)
     unfold kC at h
     rw [ho] at h
     dsimp only at h
     split at h
     ·cases h
     ·rename_i hg
      have hcase : sD cx S o = true ∨ aI2 all listed oth i = true := by
       refine hp.imp (fun hp => ?_) id
       rcases hp with hp | hp
       ·exact hp
       ·rw [hg] at hp; simp at hp
      rcases hcase with hpu | hw
      ·obtain ⟨z, hz, hy⟩ := aI8 hr hpu (qI h) hd
       exact first (T := fun _ => True) (fun _ _ _ _ => trivial) (.inl ⟨jG hr hg, fun w' _ => hy w'⟩) trivial (.inl fun _ => trivial) (hnx i _ _ hz)
      ·obtain ⟨z, hz, hy⟩ := cH7 hG hr (hstill hg) (qI h) hd
       exact first (T := Same w) (fun _ _ h1 h2 => h1.trans h2) (.inl ⟨jG hr hg, hy⟩) (Same.refl w) (.inr hw) (hnx i _ _ hz)
     ·rename_i hg
      exact first (T := fun _ => True) (fun _ _ _ _ => trivial) (.inr ⟨jG hr hg, rfl⟩) trivial (.inl fun _ => trivial)
       (hnx i _ _ ⟨[], _, vc, h, by simpa using hd, by simpa using hr.put (x := .one (.lf .undef)) rfl⟩)
     ·cases h
    ·cases h
   ·split at h
    ·rename_i d t hfo
     have he := zC hr hfo
     obtain ⟨⟨v1, e1, d1⟩, v2, e2, d2⟩ := both_ok h hd
     cases hb' : (t.den (ρ0 ++ τ)).toB with
     | true =>
      obtain ⟨v, e3, d3⟩ := iH e1 d1 hb'
      exact IH (.still all (fuel + 1) listed oth :: K) _ v τ a w B e3 d3 (lI hr he hb') hb
     | false =>
      obtain ⟨v, e3, d3⟩ := iH e2 d2 hb'
      exact IH (.still all (fuel + 1) listed oth :: K) _ v τ a w B e3 d3 (lI hr he hb') hb
    ·split at h
     ·rename_i hquiet
      refine ⟨fun hh => absurd hh hne, fun i hi => ?_⟩
      obtain ⟨v, h1, h2⟩ := zJ h hd i hi
      have hq := List.all_eq_true.1 hquiet i hi
      cases hc : oth.contains i with
      | true => exact aY3 hG hsig hr h1 h2 (fun a' w' hn => ⟨fun hf => Bool.noConfusion hf, hnx i a' w' hn⟩)
      | false =>
       rw [hc, Bool.false_or] at hq
       refine cI3 hG hsig hr (fun o ho => ?_) h1 h2 (fun a' w' hn hs => ⟨fun _ => hs, hnx i a' w' hn⟩)
       rw [ho] at hq; exact hq
     ·cases h
 | f + 1, .blk id :: K, S, vc, τ, a, w, B, h, hd, hr, hb => by
  simp only [run] at h
  exact vJ hG hsig hm hn hit hpan hQ0 hQm f K S vc τ a w B h hd hr hb
 | f + 1, .wait :: K, S, vc, τ, a, w, B, h, hd, hr, hb => by
  have IH := vJ hG hsig hm hn hit hpan hQ0 hQm f
  simp only [run] at h
  split at h
  ·exact IH K S vc τ a w B h hd hr hb
  ·exact IH (.wait :: K) S vc τ a w B h hd hr hb
 | f + 1, .lp j T n0 fix :: K, S, vc, τ, a, w, B, h, hd, hr, hb => by
  simp only [run] at h
  split at h
  ·rename_i θ hθ
   cases h
   obtain ⟨⟨b, B', ρb, τb, hB, he, _, h1⟩, _⟩ := hb
   subst hB
   simp only [VC.den] at hd
   rw [he] at hr hd
   exact h1 τb S a w θ hr hθ hd.1 hd.2
  ·cases h
 | f + 1, .ops all rest :: K, S, vc, τ, a, w, B, h, hd, hr, hb => by
  have IH := vJ hG hsig hm hn hit hpan hQ0 hQm f
  simp only [run] at h
  show wpList cx.P all (sem cx.P (Q) K B) rest a w
  split at h
  ·exact IH K S vc τ a w B h hd hr hb
  ·rename_i o rest
   have hnx : ∀ a' w', Nx E G w0 (owns ρ0 cx.own.heap) (ros ρ0 cx.own.heap) (ρ0 ++ τ) (fun S => run cx f (.ops all rest :: K) S) a' w' → wpList cx.P all (sem cx.P (Q) K B) rest a' w' := by
    rintro a' w' ⟨σ, S', vc', h1, h2, h3⟩
    rw [List.append_assoc] at h2 h3
    exact IH (.ops all rest :: K) S' vc' (τ ++ σ) a' w' B h1 h2 h3 (by rw [← List.append_assoc]; exact mD (K := K) hb)
   unfold wpList
   split at h
   ·cases h
   ·rename_i hg
    rw [if_pos (jG hr hg)]
    exact .inl (step_ok hG hsig hr (qI h) hd hnx).wp
   ·rename_i hg
    rw [if_neg (by rw [jG hr hg]; simp)]
    exact hnx _ _ ⟨[], _, vc, h, by simpa using hd, by simpa using hr.put (x := .one (.lf .undef)) rfl⟩
   ·rename_i d t want hg
    have he := aR4 hr hg
    obtain ⟨⟨v1, e1, d1⟩, v2, e2, d2⟩ := both_ok h hd
    cases hb' : (t.den (ρ0 ++ τ)).toB with
    | true =>
     obtain ⟨v, e3, d3⟩ := iH e1 d1 hb'
     exact IH (.ops all (o :: rest) :: K) _ v τ a w B e3 d3 (lI hr he hb') hb
    | false =>
     obtain ⟨v, e3, d3⟩ := iH e2 d2 hb'
     exact IH (.ops all (o :: rest) :: K) _ v τ a w B e3 d3 (lI hr he hb') hb
 | f + 1, .any all fuel listed :: K, S, vc, τ, a, w, B, h, hd, hr, hb => by
  have IH := vJ hG hsig hm hn hit hpan hQ0 hQm f
  simp only [run] at h
  show wpAny cx.P .any all (sem cx.P (Q) K B) fuel listed a w
  split at h
  ·rename_i hrs
   exact wpAny_done hrs (IH K S vc τ a w B h hd hr hb) _
  ·cases h
  ·rename_i fuel hne
   have hnx : ∀ i a' w', Nx E G w0 (owns ρ0 cx.own.heap) (ros ρ0 cx.own.heap) (ρ0 ++ τ) (fun S => run cx f (.any all fuel (listed.setIfInBounds i true) :: K) S) a' w' →
     wpAny cx.P .any all (sem cx.P (Q) K B) fuel (listed.setIfInBounds i true) a' w' := by
    rintro i a' w' ⟨σ, S', vc', h1, h2, h3⟩
    rw [List.append_assoc] at h2 h3
    exact IH (.any all fuel (listed.setIfInBounds i true) :: K) S' vc' (τ ++ σ) a' w' B h1 h2 h3 (by rw [← List.append_assoc]; exact mD (K := K) hb)
   have every : ∀ {vc : VC}, forEach (fun i => kC cx all i S (fun S => run cx f (.any all fuel (listed.setIfInBounds i true) :: K) S)) (Region.ready .any all listed) = .ok vc → vc.den E (ρ0 ++ τ) →
     wpAny cx.P .any all (sem cx.P (Q) K B) (fuel + 1) listed a w := by
    intro vc h hd
    refine wpAny_all rfl (fun hh => hne hh) (fun i hi => ?_)
    obtain ⟨v, h1, h2⟩ := zJ h hd i hi
    exact aY3 hG hsig hr h1 h2 (hnx i)
   split at h
   ·exact aM1 _ _ _ _ (IH (.still all (fuel + 1) listed (aI1 cx all) :: K) S vc τ a w B h hd hr hb)
   rcases bJ8 h with hst | h
   ·split at hst
    ·exact aM1 _ _ _ _ (IH (.still all (fuel + 1) listed (aI1 cx all) :: K) S vc τ a w B hst hd hr hb)
    ·cases hst
   rcases bJ8 h with hst | h
   ·split at hst
    ·exact aM1 _ _ _ _ (IH (.still all (fuel + 1) listed [] :: K) S vc τ a w B hst hd hr hb)
    ·cases hst
   split at h
   ·rename_i i hfp
    obtain ⟨hmem, o, ho, hpure⟩ := zD hfp
    split at h
    ·rename_i hc
     simp only [Bool.and_eq_true] at hc
     have hQ : ∀ z, ∀ c a' w', sem cx.P (Q) K B (.panic c) (a'.put o.dst z) w' → sem cx.P (Q) K B (.panic c) a' w' := by
      intro z c a' w' hq
      rw [pJ] at hq ⊢
      exact hpan hq
     unfold kC at h
     rw [ho] at h
     dsimp only at h
     split at h
     ·cases h
     ·rename_i hg
      obtain ⟨z, hz, hy⟩ := aI8 hr (hpure hg) (qI h) hd
      exact wpAny_take ho hc.1 hc.2 (by simpa using hmem) (hQ z) (.inl ⟨jG hr hg, hy⟩) (hnx i _ _ hz)
     ·rename_i hg
      exact wpAny_take ho hc.1 hc.2 (by simpa using hmem) (hQ undef) (.inr ⟨jG hr hg, rfl⟩)
       (hnx i _ _ ⟨[], _, vc, h, by simpa using hd, by simpa using hr.put (x := .one (.lf .undef)) rfl⟩)
     ·cases h
    ·exact every h hd
   ·split at h
    ·rename_i d t hfo
     have he := zC hr hfo
     obtain ⟨⟨v1, e1, d1⟩, v2, e2, d2⟩ := both_ok h hd
     cases hb' : (t.den (ρ0 ++ τ)).toB with
     | true =>
      obtain ⟨v, e3, d3⟩ := iH e1 d1 hb'
      exact IH (.any all (fuel + 1) listed :: K) _ v τ a w B e3 d3 (lI hr he hb') hb
     | false =>
      obtain ⟨v, e3, d3⟩ := iH e2 d2 hb'
      exact IH (.any all (fuel + 1) listed :: K) _ v τ a w B e3 d3 (lI hr he hb') hb
    ·exact every h hd
 | f + 1, .code c :: K, S, vc, τ, a, w, B, h, hd, hr, hb => by
  have IH := vJ hG hsig hm hn hit hpan hQ0 hQm f
  simp only [run] at h
  show c.wp cx.P (sem cx.P (Q) K B) a w
  split at h
  ·exact wp_skip (IH K S vc τ a w B h hd hr hb)
  ·exact wp_label (IH K S vc τ a w B h hd hr hb)
  ·rename_i x y
   exact wp_seq (IH (.code x :: .code y :: K) S vc τ a w B h hd hr hb)
  ·rename_i id c
   exact wp_block (IH (.code c :: .blk id :: K) S vc τ a w B h hd hr hb)
  ·rename_i x y z
   split at h
   ·cases h
   ·rename_i v hv
    have hx := aX hr hv
    split at h
    ·exact wp_cond_true hx (IH (.code y :: K) S vc τ a w B h hd hr hb)
    ·exact wp_cond_false hx (IH (.code z :: K) S vc τ a w B h hd hr hb)
    ·rename_i t _ _
     obtain ⟨⟨v1, e1, d1⟩, v2, e2, d2⟩ := both_ok h hd
     refine wp_cond_split (t := (t.den (ρ0 ++ τ)).toB) hx (fun hb' => ?_) (fun hb' => ?_)
     ·obtain ⟨v, e3, d3⟩ := iH e1 d1 hb'
      exact IH (.code y :: K) _ v τ a w B e3 d3 (lI hr hx hb') hb
     ·obtain ⟨v, e3, d3⟩ := iH e2 d2 hb'
      exact IH (.code z :: K) _ v τ a w B e3 d3 (lI hr hx hb') hb
    ·cases h
  ·rename_i c
   split at h
   ·rename_i ann hann
    have rule := fun (S : St) (vc : VC) (τ : LD) => cA9 (c := c) (ann := ann) (K := K) (B := B) (a := a) (w := w) IH S vc τ
    split at h
    ·obtain ⟨T, σ, v, h1, h2, h3, h4⟩ := bG0 (K := K) (B := B) hn hr hb h hd
     exact rule T v σ h1 h2 h3 h4
    ·exact rule S vc τ h hd hr hb
   ·cases h
  ·rename_i id
   split at h
   ·rename_i K' hbh
    obtain ⟨B', hb', hsem⟩ := rE (P := cx.P) (Q := Q) hbh hb
    exact wp_exit (hsem a w (IH K' S vc τ a w B' h hd hr hb'))
   ·cases h
  ·refine wp_ret ?_
   rw [qY]
   exact (hQ0 S τ vc a w h hd hr).1
  ·rename_i id all draw
   have rule : ∀ (S : St) (vc : VC) (τ : LD), (if draw then match (qN (id + 6000000) true cx.anns).bind (·.tmpl) with
      | some T => if T.aB.length = S.aB.length then both (sN cx all T all.size (Array.replicate all.size false) S) (run cx f K T) else .error "orders that end alike: a pattern"
      | none => run cx f (.any all all.size (Array.replicate all.size false) :: K) S
     else run cx f (.ops all all.toList :: K) S) = .ok vc →
     vc.den E (ρ0 ++ τ) → Rel G w0 (owns ρ0 cx.own.heap) (ros ρ0 cx.own.heap) (ρ0 ++ τ) S a w → bOk E G w0 (owns ρ0 cx.own.heap) (ros ρ0 cx.own.heap) (ρ0 ++ τ) K B → (Code.region id all draw).wp cx.P (sem cx.P (Q) K B) a w := by
    intro S1 vc1 τ1 g1 g2 g3 g4
    split at g1
    ·rename_i hdraw
     clear h
     subst hdraw
     split at g1
     ·rename_i T1 _
      split at g1
      ·rename_i hlen
       obtain ⟨⟨v1, e1, d1⟩, v2, e2, d2⟩ := both_ok g1 g2
       refine wp_region_any hm (cG5 hG hsig (fun {ch a w a'} hq => by rw [pJ] at hq ⊢; exact hpan hq) _ _ S1 v1 _ a _ e1 d1 (g3.ext (aE9 w)) fun σ a1 w1 h1 => ?_)
       have hl := cO h1.aB
       have hl2 := cO g3.aB
       rw [List.length_append] at hl
       have : σ = [] := List.eq_nil_of_length_eq_zero (by omega)
       subst this
       rw [List.append_nil] at h1
       exact IH K T1 v2 τ1 a1 w1 B e2 d2 h1 g4
      ·cases g1
     ·exact wp_region_any hm (IH (.any all all.size (Array.replicate all.size false) :: K) S1 vc1 τ1 a _ B g1 g2 (g3.ext (aE9 w)) g4)
    ·rename_i hdraw
     have hdraw : draw = false := by simpa using hdraw
     clear h
     subst hdraw
     exact wp_region_list (IH (.ops all all.toList :: K) S1 vc1 τ1 a w B g1 g2 g3 g4)
   split at h
   ·cases h
    exact absurd hd.1 (by simp [Tm.den])
   split at h
   ·obtain ⟨T, σ, v, h1, h2, h3, h4⟩ := bG0 (K := K) (B := B) hn hr hb h hd
    cases draw with
    | true => exact wp_region_any hm (IH (.wait :: .any all all.size (Array.replicate all.size false) :: K) T v σ a _ B h1 h2 (h3.ext (aE9 w)) h4)
    | false => exact wp_region_list (IH (.wait :: .ops all all.toList :: K) T v σ a w B h1 h2 h3 h4)
   ·obtain ⟨σ, S', vc', h1, h2, h3⟩ := cH6 hr h hd
    rw [List.append_assoc] at h2 h3
    exact rule S' vc' (τ ++ σ) h1 h2 h3 (by rw [← List.append_assoc]; exact mD hb)
  ·rename_i g ps asg body
   split at h
   ·rename_i p hps
    have : ps = #[p] := by cases ps; simp at hps; rw [hps]
    subst this
    exact cD4 hG hsig hm hit hQm h hd hr
   ·cases h
  ·cases h
  ·cases h
def QM (P : Program) (fn : Func) (R : Ending → World → Prop) : Exit → Act → World → Prop
 | .normal, a, w | .ret, a, w => LeavesInM Fence.wide 0 P fn a.tmps R a.defers .returning w
 | _, _, _ => False
theorem cK0 {f : FuncId} {s : Sig} (hit : ∀ g ∈ cx.iters, nC cx.P g) (hsig : mZ cx E) (hm : cx.P.follows .mixedOrders = true) (hf : cx.P.funcs[f]? = some cx.fn) (hs : s.toSigR = cx.own) (hpre : s.pre = E.post 0) (hpost : s.post = E.ret) (hpost2 : s.post2 = E.pre 200)
  (h : aC2 cx = .ok vc) (hd : vc.den E []) : s.Holds cx.P cx.G f := by
 obtain ⟨R, pre, post, post2⟩ := s
 dsimp only at hs hpre hpost hpost2
 subst hs hpre hpost hpost2
 intro w args ρ hρ hp ha hh hg
 dsimp only at hρ hp ha hh hg
 unfold aC2 at h
 split at h
 ·cases h
 rename_i c hc
 dsimp only at h
 split at h
 ·rename_i hu
  obtain ⟨v1, e1, d1⟩ := yI (ρ := []) h hd hρ
  simp only [List.nil_append] at d1
  have hargs : args.size = cx.own.args.length := by rw [← bO5 ha]; simp
  have hlen := cO hρ
  have hr : Rel cx.G w (owns ρ cx.own.heap) (ros ρ cx.own.heap) ρ (entry cx) { tmps := args ++ Array.replicate (cx.fn.ntmps - args.size) undef, defers := [] } w := by
   refine ⟨hρ, ?_, rfl, hh, hg, ⟨rfl, rfl, rfl, Nat.le_refl _, fun _ _ _ => rfl⟩, fun b hb => .inl hb, fun b hb => .inr (.inr hb)⟩
   simp only [entry, Array.toList_append, Array.toList_replicate]
   refine aL1 ha ?_
   have := bO4 (ρ := ρ) (List.replicate (cx.fn.ntmps - args.size) undef)
   rw [List.length_replicate, hargs] at this
   rw [hargs]; exact this
  obtain ⟨v2, e2, d2⟩ := wR e1 d1 (aK7 hr)
  split at e2
  ·rename_i v3 hv3
   cases e2
   have hat : (atoms cx.own.aB.length).map (Tm.den ρ) = ρ := by
    have := aD1 ρ []
    rw [List.append_nil, hlen] at this; exact this
   have d3 := d2 (by rw [hat]; exact hp)
   have hret : ∀ (S' : St) (τ' : LD) (vc' : VC) (a' : Act) (W : World), iZ cx S' = .ok vc' → vc'.den E (ρ ++ τ') → Rel cx.G w (owns ρ cx.own.heap) (ros ρ cx.own.heap) (ρ ++ τ') S' a' W →
     LeavesInM Fence.wide 0 cx.P cx.fn a'.tmps (fun e w' => ∃ v, e = .returned v ∧ Good cx E w ρ v w') [] .returning W := fun S' τ' vc' a' W g1 g2 g3 => by
    obtain ⟨_, v, h2, h3⟩ := cF5 rfl g3 hlen.symm g1 g2
    exact ⟨v, h2, v, rfl, h3⟩
   have := vJ (ρ0 := ρ) (w0 := w) (Q := QM cx.P cx.fn fun e w' => ∃ v, e = .returned v ∧ Good cx E w ρ v w') rfl hsig hm hlen.symm hit (fun h => h.elim)
    (fun S' τ' vc' a' W g1 g2 g3 => by
     have := hret S' τ' vc' a' W g1 g2 g3
     have hd : a'.defers = [] := g3.defers
     constructor <;> (show LeavesInM _ _ _ _ _ _ a'.defers _ _; rw [hd]; exact this))
    (fun S' τ' vc' a' W d g1 g2 gd g3 => by
     have := hret S' τ' vc' a' _ g1 g2 g3
     constructor <;> exact ⟨by simp, .inl ⟨d, _, rfl, run_takeDeferred gd, this⟩⟩)
    100000 [.code c] (entry cx) v3 [] _ w [] hv3 (by simpa using d3) (by simpa using hr) trivial
   refine Calls.mono (callsIn_wide.1 (callsIn_of_wp_marks (F := Fence.wide) (n := 0) (R := fun e w' => ∃ v, e = .returned v ∧ Good cx E w ρ v w') hf hc trivial (wpIn_wide.2 (wp_mono this fun e a w q => by cases e <;> first | exact q | exact q.elim)))) ?_
   rintro e w' ⟨v, rfl, g | g⟩
   ·exact ⟨v, rfl, .inl g⟩
   ·exact ⟨v, rfl, .inr g⟩
  ·cases e2
 ·cases h
end
end Go.Vc
namespace Go.Vc
def Sig.none : Sig := { args := [], heap := [], aB := [], res := .tup [], heap' := [], news := [], pre := fun _ => False, post := fun _ => True }
def gB (own : Sig) (cs : List Sig) (invs : List ((LD → Prop) × (LD → Nat))) : Env where
 pre c := if c < 200 then (match c with | 0 => fun _ => False | c + 1 => (cs.getD c Sig.none).pre) else (match c - 200 with | 0 => own.post2 | c + 1 => (cs.getD c Sig.none).pre)
 post c := if c < 200 then (match c with | 0 => own.pre | c + 1 => (cs.getD c Sig.none).post) else (match c - 200 with | 0 => fun _ => True | c + 1 => (cs.getD c Sig.none).post2)
 inv j := bif Nat.beq j 900 then sameD else (invs.getD j (fun _ => True, fun _ => 0)).1
 same := fun _ _ h => h
 meas j := (invs.getD j (fun _ => True, fun _ => 0)).2
 ret := own.post
theorem cB7 {own : Sig} {cs : List Sig} {invs : List ((LD → Prop) × (LD → Nat))} : own.pre = (gB own cs invs).post 0 := by
 simp only [gB]
 rw [if_pos (by decide)]
theorem cB8 {own : Sig} {cs : List Sig} {invs : List ((LD → Prop) × (LD → Nat))} : own.post2 = (gB own cs invs).pre 200 := by
 simp only [gB]
 rw [if_neg (by decide)]
 rfl
def nU : Nat → List (FuncId × Sig) → List (FuncId × Nat × SigR)
 | _, [] => []
 | n, (f, s) :: r => (f, n, s.toSigR) :: nU (n + 1) r
structure Kept (P : Program) (G : List Glob) (f : FuncId) (s : Sig) : Prop where
 holds : s.Holds P G f
 body : ∃ fn b, P.funcs[f]? = some fn ∧ (fn.name == "runtime.NumGoroutine") = false ∧ fn.body = some b
theorem bD0 {f c : Nat} {R : SigR} : ∀ {l : List (FuncId × Sig)} {n : Nat}, uF f (nU n l) = some (c, R) → ∃ i s, l[i]? = some (f, s) ∧ c = n + i ∧ s.toSigR = R
 | [], n, h => by simp [nU, uF] at h
 | (g, s) :: l, n, h => by
  simp only [nU, uF] at h
  split at h
  ·rename_i e; cases h; subst e; exact ⟨0, s, rfl, rfl, rfl⟩
  ·obtain ⟨i, s', h1, h2, h3⟩ := bD0 h
   exact ⟨i + 1, s', h1, by omega, h3⟩
theorem bG2 {cx : Cx} {vc : VC} {f : FuncId} {own : Sig} {l : List (FuncId × Sig)} {invs : List ((LD → Prop) × (LD → Nat))} (hm : cx.P.follows .mixedOrders = true) (hf : cx.P.funcs[f]? = some cx.fn)
  (hname : (cx.fn.name == "runtime.NumGoroutine") = false) (hown : own.toSigR = cx.own) (hs : cx.sigs = nU 1 l) (hl : ∀ x ∈ l, Kept cx.P cx.G x.1 x.2) (h : aC2 cx = .ok vc)
  (hd : vc.den (gB own (l.map (·.2)) invs) []) (hlen : l.length < 199) (hit : ∀ g ∈ cx.iters, nC cx.P g := by intro g h; cases h) : Kept cx.P cx.G f own := by
 have e0 : own.pre = (gB own (l.map (·.2)) invs).post 0 := cB7
 have e1 : own.post = (gB own (l.map (·.2)) invs).ret := rfl
 have e2 : own.post2 = (gB own (l.map (·.2)) invs).pre 200 := cB8
 generalize hE : gB own (l.map (·.2)) invs = E at *
 refine ⟨cK0 (E := E) hit (fun g c R hg => ?_) hm hf hown e0 e1 e2 h hd, ?_⟩
 ·rw [hs] at hg
  obtain ⟨i, s, h1, h2, h3⟩ := bD0 hg
  have hk := hl _ (List.mem_of_getElem? h1)
  have hi : (l.map (·.2)).getD i Sig.none = s := by simp [List.getD, h1]
  have hil : i < l.length := (List.getElem?_eq_some_iff.1 h1).1
  refine ⟨s, h3, ?_, ?_, ?_, hk.holds, hk.body⟩
  ·rw [h2, Nat.add_comm]
   rw [← hE]
   simp only [gB]
   rw [if_pos (by omega), hi]
  ·rw [h2, Nat.add_comm]
   rw [← hE]
   simp only [gB]
   rw [if_pos (by omega), hi]
  ·rw [h2, ← hE]
   simp only [gB]
   rw [if_neg (by omega), show 1 + i + 200 - 200 = i + 1 from by omega]
   show s.post2 = ((l.map (·.2)).getD i Sig.none).post2
   rw [hi]
 ·unfold aC2 at h
  split at h
  ·cases h
  ·rename_i c hc
   exact ⟨cx.fn, c, hf, hname, hc⟩
theorem eY.below {w w' : World} (h : eY w [] w') : RowKit.Below w.heap.size w w' := ⟨h.os, h.tape, h.output, h.size, fun b hb => h.block b hb (by simp)⟩
def fC (a b : Int) : Int := if b < a then b else a
def kZ (a b : Int) : Int := if b > a then b else a
theorem cR5 {k : IntKind} {n : Int} (h : (Lit.int k n).wf = true) : k.has n := by
 simp only [Lit.wf, Bool.and_eq_true, decide_eq_true_eq] at h
 exact h
end Go.Vc