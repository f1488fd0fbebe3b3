/-
  Soundness: parts of texts and slices, conversions, append, copy, make.
  Soundness: make, len, min, max, append, copy, literals.
  Soundness: append, copy, make, literals.
  Soundness: make, literals.
  Soundness: facts, covers, calls by contract.
  Soundness: one operation.
  Soundness: the whole.
  Soundness: running through the code.
  Use: contracts by list, what is kept.
-/
import Derived.Test.YtnnjpgenekgciaaDoorVcb
import Derived.Laws.Cover3
import Derived.Laws.OwnMore
import Derived.Great.BuildSlice
import Derived.Lib.AppendStr
import Derived.OrdersHeld
import GoSem.Claim
set_option linter.unusedVariables false
set_option linter.unusedSimpArgs false
namespace Go.Vc
theorem maxLen_eq : (maxLen : Int) = int64max := by decide

section
variable {E : Env} {G : List Glob} {w0 : World} {D0 R0 : List Nat} {ρ : List D} {S : St} {a : Act} {w : World} {cx : Cx} {vc : VC} {ret : SV → M} {k : SV → St → M}
def optHold (ρ : List D) : Option SV → Option Value → Prop
  | none, none => True
  | some x, some v => x.holds ρ v
  | _, _ => False

theorem optInt_ok {x : Option SV} {d t : Tm} {v : Option Value} (h : optInt x d = .ok t) (hx : optHold ρ x v) : (v = none ∧ t = d) ∨ ∃ kk, v = some (.int kk (t.den ρ).toI) := by
  unfold optInt at h
  split at h
  · cases v with
    | none => cases h; exact .inl ⟨rfl, rfl⟩
    | some v => exact hx.elim
  · cases v with
    | none => exact hx.elim
    | some v => obtain ⟨rfl, _⟩ := hx; cases h; exact .inr ⟨_, rfl⟩
  · cases h

theorem run_bounds {P : Program} {isSl : Bool} {len cap : Nat} {lo hi : Option Value} {l h : Int} (w : World) (hl : (lo = none ∧ l = 0) ∨ ∃ kk, lo = some (.int kk l)) (hh : (hi = none ∧ h = len) ∨ ∃ kk, hi = some (.int kk h))
    (h0 : 0 ≤ l) (h1 : l ≤ h) (h2 : h ≤ cap) : (Instr.sliceBounds isSl len cap lo hi none).run P w = .ok (l.toNat, h.toNat, cap) w := by
  have g1 : 0 ≤ h := by omega
  have g2 : l ≤ ((h.toNat : Nat) : Int) := by omega
  rcases hl with ⟨rfl, rfl⟩ | ⟨kk, rfl⟩ <;> rcases hh with ⟨rfl, rfl⟩ | ⟨kk', rfl⟩
  · simp [Instr.sliceBounds]
  · simp [Instr.sliceBounds, Instr.sliceBound, asIntOf, g1, h2]
  · have : l ≤ (len : Int) := h1
    simp [Instr.sliceBounds, Instr.sliceBound, asIntOf, h0, this]
  · have g3 : l ≤ max h 0 := by omega
    simp [Instr.sliceBounds, Instr.sliceBound, asIntOf, g1, h2, h0, g3]

theorem newRsl_ok {ek : EK} {L : Tm} {v : Value} (hr : Rel G w0 D0 R0 ρ S a w) (h : newRsl S ek L k = .ok vc) (hd : vc.den E ρ)
    (ho : RdSl w v ek.width (ek.len (L.den ρ)) (ek.cells (L.den ρ))) (hk : ek.ok (L.den ρ)) (hb : ∀ b, v.ownBlock = some b → b ∈ ros ρ S.heap) : Out E G w0 D0 R0 ρ a k (.ok v w) := by
  unfold newRsl at h
  split at h
  · rename_i hu
    have hn := srtsOk_length hr.srts
    rw [← hn] at hu
    have hund : S.under = true := by
      unfold fresh at h; split at h
      · assumption
      · cases h
    obtain ⟨vc2, g1, g2, g3, g4⟩ := fresh_ok hr h hd (d := .V v) ⟨_, rfl⟩
    refine ⟨[.V v], _, _, vc2, v, w, g1, g2, ?_, ?_, rfl⟩
    · simp only [SV.holds, S0.holds, Lf.holds, g4]; rfl
    · refine g3.new (Ext.refl w) (c := .rsl (.at S.srts.length) ek L) ⟨?_, ?_⟩ (fun b hb' => by cases hb') (fun b hb' => ?_)
      · rw [g4, Tm.den_below hu]; exact ho
      · rw [Tm.den_below hu]; exact hk
      · rw [Ch.ro, g4] at hb'
        simp only [St.under, Bool.and_eq_true, ← hn] at hund
        right
        show b ∈ ros (ρ ++ [.V v]) S.heap
        rw [ros_under hund.2]; exact hb b hb'
  · cases h

theorem sliceS_ok {t : TypeId} {x : SV} {lo hi : Option SV} {mx : Option Value} {drop : Bool} {u : Value} {lv hv : Option Value} (hr : Rel G w0 D0 R0 ρ S a w) (h : sliceS cx S t x lo hi mx.isSome drop k = .ok vc) (hd : vc.den E ρ)
    (hx : x.holds ρ u) (hlo : optHold ρ lo lv) (hhi : optHold ρ hi hv) : Out E G w0 D0 R0 ρ a k ((Instr.sliceAt t u lv hv mx).run cx.P w) := by
  unfold sliceS at h
  split at h
  · cases h
  rename_i hmx
  have hmx : mx = none := by simpa using hmx
  subst hmx
  split at h
  · rename_i s
    split at h
    · rename_i hu
      split at h
      · rename_i l hh hl hhh
        obtain ⟨rfl, hsz⟩ := hx
        obtain ⟨e1, vc1, h1, d1⟩ := oblLe_ok h hd
        obtain ⟨e2, vc2, h2, d2⟩ := oblLe_ok h1 d1
        obtain ⟨e3, vc3, h3, d3⟩ := oblLe_ok h2 d2
        have e2 : 0 ≤ (l.den ρ).toI := e2
        have e3 : (hh.den ρ).toI ≤ ((s.den ρ).toS.size : Int) := e3
        have hb := run_bounds (P := cx.P) (isSl := false) (len := (s.den ρ).toS.size) (cap := (s.den ρ).toS.size) (l := (l.den ρ).toI) (h := (hh.den ρ).toI) w
          ((optInt_ok hl hlo).imp (fun h => ⟨h.1, by rw [h.2]; rfl⟩) id) ((optInt_ok hhh hhi).imp (fun h => ⟨h.1, by rw [h.2]; rfl⟩) id) e2 e1 e3
        refine ⟨[], _, S, vc3, .string ((s.den ρ).toS.extract (l.den ρ).toI.toNat (hh.den ρ).toI.toNat), w, h3, by simpa using d3, ?_, by simpa using hr, ?_⟩
        · rw [List.append_nil]
          refine ⟨rfl, ?_⟩
          have : ((s.den ρ).toS.extract (l.den ρ).toI.toNat (hh.den ρ).toI.toNat).size ≤ (s.den ρ).toS.size := by rw [ByteArray.size_extract]; omega
          show (((s.den ρ).toS.extract (l.den ρ).toI.toNat (hh.den ρ).toI.toNat).size : Int) ≤ int64max
          omega
        · simp [Instr.sliceAt, Instr.slice, run_underlying hu, hb]
      · cases h
      · cases h
    · cases h
  · rename_i ta
    split at h
    · rename_i e own ek L hu hf
      split at h
      · rename_i l hh hl hhh
        split at h
        · rename_i hw
          obtain ⟨hw, hc⟩ := hw
          simp only [SV.holds, S0.holds, Lf.holds] at hx
          subst hx
          obtain ⟨e1, vc1, h1, d1⟩ := oblLe_ok h hd
          obtain ⟨e2, vc2, h2, d2⟩ := oblLe_ok h1 d1
          obtain ⟨e3, vc3, h3, d3⟩ := oblLe_ok h2 d2
          have e2 : 0 ≤ (l.den ρ).toI := e2
          rw [ekLen_den] at e3
          obtain ⟨hrd, hok⟩ := sl_cells hr.heap hf
          obtain ⟨hfr, hmem⟩ := freeze_ok hr hf
          obtain ⟨x0, n, c, hval⟩ : ∃ x0 n c, (ta.den ρ).toV = .slice x0 n c := by
            rcases hrd with ⟨h, _⟩ | ⟨ad, cap, h, _⟩
            · exact ⟨_, _, _, h⟩
            · exact ⟨_, _, _, h⟩
          obtain ⟨v', hv', hrd', hok', hown', hn, hcap⟩ := hrd.cut (l := (l.den ρ).toI.toNat) (h := (hh.den ρ).toI.toNat) hok (by omega) (by omega) (ekCut_elems (ek := ek) (L := L) (l := l) (h := hh) e2 e1 e3) x0 n c hval
          have hb := run_bounds (P := cx.P) (isSl := true) (len := n) (cap := c) (l := (l.den ρ).toI) (h := (hh.den ρ).toI) w
            ((optInt_ok hl hlo).imp (fun h => ⟨h.1, by rw [h.2]; rfl⟩) id) ((optInt_ok hhh hhi).imp (fun h => ⟨h.1, by rw [h.2, ekLen_den, hn]⟩) id) e2 e1 (by omega)
          split at h3
          · refine ⟨[], _, S, _, v', w, h3, by simpa using d3, trivial, by simpa using hr, ?_⟩
            rw [hval, hv']
            simp [Instr.sliceAt, Instr.slice, run_underlying hu, hb, run_sizeOf' hc, hw]
          obtain ⟨σ, x', S', vc', v2, w', g1, g2, g3, g4, g5⟩ := newRsl_ok hfr h3 d3 hrd' hok' (fun b hb => hmem b (by rw [← hown']; exact hb))
          cases g5
          refine ⟨σ, x', S', vc', v', w, g1, g2, g3, g4, ?_⟩
          rw [hval, hv']
          simp [Instr.sliceAt, Instr.slice, run_underlying hu, hb, run_sizeOf' hc, hw]
        · cases h
      · cases h
      · cases h
    · cases h
  · rename_i b o
    split at h
    · rename_i n e hu
      split at h
      · rename_i hc
        simp only [SV.holds, S0.holds, Lf.holds] at hx
        subst hx
        cases lv with
        | some _ => exact hlo.elim
        | none =>
          cases hv with
          | some _ => exact hhi.elim
          | none =>
            have hs : (sizeOf e).run cx.P w = .ok 1 w := by rw [run_sizeOf' (by omega), hc]
            refine ⟨[], _, S, vc, .slice (some ⟨(b.den ρ).toN, o, none⟩) n n, w, h, by simpa using hd, ?_, by simpa using hr, ?_⟩
            · rw [List.append_nil]; exact ⟨n, rfl, Nat.le_refl _⟩
            · simp [Instr.sliceAt, run_underlying hu, Instr.sureAddr, Instr.sliceBounds, hs, Addr.add_plain]
      · cases h
    · cases h
  · cases h

theorem foldl_push (ns : List Int) : ∀ s : ByteArray, ns.foldl (fun r n => r.push (UInt8.ofNat n.toNat)) s = s ++ textOf ns := by
  induction ns with
  | nil => intro s; apply ByteArray.ext; simp [textOf]
  | cons n ns ih =>
    intro s
    rw [List.foldl_cons, ih]
    apply ByteArray.ext
    simp [textOf]

theorem run_toText {P : Program} {ad : Addr} {n c : Nat} {ns : List Int} (h : ∀ j u, (ns.map (Value.int .u8))[j]? = some u → w.cell? (ad.add j) = some u) (hl : ns.length = n) :
    (Conv.bytesToString (.slice (some ad) n c)).run P w = .ok (.string (textOf ns)) w := by
  have := run_loadCells_list (P := P) (w := w) ad (ns.map (Value.int .u8)) h
  rw [List.length_map, hl] at this
  rw [run_bytesToString w ad n c ns this, foldl_push]
  rw [ByteArray.empty_append]

theorem textOf_size (l : List Int) : (textOf l).size = l.length := by
  show (l.map fun x => UInt8.ofNat x.toNat).toArray.size = _
  simp

theorem wrap_id {k : IntKind} {n : Int} (h : k.has n) : k.wrap n = n := by
  cases k <;> simp [IntKind.has, IntKind.wrap, IntKind.min, IntKind.max, IntKind.signed, IntKind.bits] at h ⊢ <;> (try split) <;> omega

theorem ok_bytes (s : ByteArray) : (EK.ok [.int .u8] (.Z (bytesOf s))) := by
  intro x hx
  simp only [D.toLi_Z, bytesOf, List.mem_map] at hx
  obtain ⟨b, _, rfl⟩ := hx
  have := b.toNat_lt
  have h2 : IntKind.u8.min = 0 ∧ IntKind.u8.max = 255 := by decide
  unfold IntKind.has
  rw [h2.1, h2.2]
  omega

theorem bytesOf_length (s : ByteArray) : (bytesOf s).length = s.size := by simp [bytesOf]

theorem convS_ok {src dst : TypeId} {x : SV} {u : Value} (hr : Rel G w0 D0 R0 ρ S a w) (h : convS cx S src dst x k = .ok vc) (hd : vc.den E ρ) (hx : x.holds ρ u) :
    Out E G w0 D0 R0 ρ a k ((convert src dst u).run cx.P w) := by
  unfold convS at h
  split at h
  · rename_i d k1 k0 t hs hdst
    obtain ⟨rfl, hk⟩ := hx
    have hrun : (convert src dst (.int k0 (t.den ρ).toI)).run cx.P w = .ok (.int k1 (k1.wrap (t.den ρ).toI)) w := by
      simp only [convert, Sem.run_bind, run_underlying hs, run_underlying hdst, Result.andThen_ok]
      cases d <;> rfl
    refine ⟨[], _, S, vc, _, w, h, by simpa using hd, ?_, by simpa using hr, hrun⟩
    rw [List.append_nil]
    split
    · rename_i e; subst e; rw [wrap_id hk]; exact ⟨rfl, hk⟩
    · exact ⟨rfl, has_wrap _ _⟩
  · rename_i d s hs hdst
    obtain ⟨rfl, hk⟩ := hx
    have hrun : (convert src dst (.string (s.den ρ).toS)).run cx.P w = .ok (.string (s.den ρ).toS) w := by
      simp only [convert, Sem.run_bind, run_underlying hs, run_underlying hdst, Result.andThen_ok]
      cases d <;> rfl
    exact ⟨[], _, S, vc, _, w, h, by simpa using hd, by rw [List.append_nil]; exact ⟨rfl, hk⟩, by simpa using hr, hrun⟩
  · rename_i d e s hs hdst
    obtain ⟨rfl, hk⟩ := hx
    split at h
    · rename_i he
      have hrun := Lib.run_convert_string_bytes w src dst e (s.den ρ).toS hs hdst he
      have hnew := Lib.bytesWorld_at_new w e (s.den ρ).toS
      have hml : (s.den ρ).toS.size ≤ maxLen := by have := maxLen_eq; omega
      have hcap1 := grownCap_ge w (s.den ρ).toS.size 0 e
      have hcap2 := grownCap_le_maxLen w (s.den ρ).toS.size 0 e hml
      have hbs : (Lib.bytesCells w e (s.den ρ).toS).size = grownCap w (s.den ρ).toS.size 0 e := by
        have : (s.den ρ).toS.data.size = (s.den ρ).toS.size := rfl
        simp only [Lib.bytesCells, Array.size_append, Array.size_map, Array.size_replicate, this]; omega
      rw [hrun]
      refine newOsl_ok hr h hd ⟨by rw [Lib.bytesWorld_size]; omega, fun b hb => Lib.bytesWorld_at_old w e _ b hb, rfl, rfl, rfl⟩ ?_ (ok_bytes _) (fun b hb => by cases hb; exact Nat.le_refl _)
      refine .inr ⟨_, _, _, _, _, ?_, hnew, fun j hj => by rw [if_pos (show EK.width [CK.int IntKind.u8] = 1 from rfl)] at hj; simp only; omega, ?_, hcap2, by rw [hbs]; simp [EK.width, CK.width], ?_, ?_⟩
      · simp [EK.len, Tm.den, O1.den, bytesOf_length]
      · simp [EK.len, Tm.den, O1.den, bytesOf_length]; exact hcap1
      · simp [EK.len, EK.cells, EK.width, CK.width, Tm.den, O1.den]
      · have h1 : (EK.width [.int .u8]) = 1 := rfl
        have h2 : EK.len [.int .u8] ((Tm.o1 .toLi s).den ρ) = (s.den ρ).toS.size := by simp [EK.len, Tm.den, O1.den, bytesOf_length]
        rw [h1, h2, Nat.mul_one]
        have h3 : ((s.den ρ).toS.data.map fun b => Value.int .u8 (b.toNat : Int)).toList = (bytesOf (s.den ρ).toS).map (Value.int .u8) := by simp [bytesOf]
        have h4 : ((s.den ρ).toS.data.map fun b => Value.int .u8 (b.toNat : Int)).toList.length = (s.den ρ).toS.size := by rw [h3, List.length_map, bytesOf_length]
        rw [Lib.bytesCells, Array.toList_append, ← h4, List.take_left, h3]
        rfl
    · cases h
  · rename_i e ta hs hdst
    split at h
    · rename_i own ek L he hf
      split at h
      · rename_i hek
        subst hek
        simp only [SV.holds, S0.holds, Lf.holds] at hx
        subst hx
        obtain ⟨hrd, hok⟩ := sl_cells hr.heap hf
        have hlen : EK.len [.int .u8] (L.den ρ) = (L.den ρ).toLi.length := rfl
        refine ⟨[], _, S, vc, .string (textOf (L.den ρ).toLi), w, h, by simpa using hd, ?_, by simpa using hr, ?_⟩
        · rw [List.append_nil]
          refine ⟨rfl, ?_⟩
          show ((textOf (L.den ρ).toLi).size : Int) ≤ int64max
          rw [textOf_size, ← hlen]
          rcases hrd with ⟨_, h2, _⟩ | ⟨ad, cap, _, _, _, h4, h5, _⟩
          · rw [h2]; decide
          · have := maxLen_eq; omega
        · rcases hrd with ⟨h1, h2, _⟩ | ⟨ad, cap, h1, _, _, h4, h5, h6, h7⟩
          · rw [h1, run_convert_bytes_string w src dst e _ _ _ hs he hdst]
            have : (L.den ρ).toLi = [] := List.eq_nil_of_length_eq_zero h2
            rw [this]; rfl
          · rw [h1, run_convert_bytes_string w src dst e _ _ _ hs he hdst]
            exact run_toText (ns := (L.den ρ).toLi) h7 rfl
      · cases h
    · cases h
  · rename_i e b o n hs hdst
    split at h
    · rename_i ps he hf
      split at h
      · rename_i kk L hL
        split at h
        · rename_i hk
          obtain ⟨rfl, hn⟩ := hk
          obtain ⟨c, rfl, hnc⟩ := hx
          obtain ⟨cs, e', fz, hg, hfz, hv⟩ := box_cells hr.heap hf
          obtain ⟨pre, r, e1, e2, e3, e4, _⟩ := intsAt_ok hL hv
          refine ⟨[], _, S, vc, .string (textOf (L.den ρ).toLi), w, h, by simpa using hd, ?_, by simpa using hr, ?_⟩
          · rw [List.append_nil]
            refine ⟨rfl, ?_⟩
            show ((textOf (L.den ρ).toLi).size : Int) ≤ int64max
            rw [textOf_size, e3]; exact hn
          · rw [run_convert_bytes_string w src dst e _ _ _ hs he hdst]
            refine run_toText (ns := (L.den ρ).toLi) (fun j u hj => ?_) e3
            rw [Addr.add_plain, cell?_block hg, ← Array.getElem?_toList, e1, ← e2, List.getElem?_mid j (List.getElem?_eq_some_iff.1 hj).1]
            exact hj
        · cases h
      · cases h
    · cases h
  · cases h
/-- Conversions that read no memory. -/
theorem convPure_ok {k : SV → St → M} {src dst : TypeId} {x : SV} {u : Value} (h : convS cx S src dst x k = .ok vc) (hd : vc.den E ρ) (hx : x.holds ρ u)
    (hp : (∃ kk t, x = .one (.lf (.int kk t))) ∨ (∃ s, x = .one (.lf (.str s)) ∧ cx.P.underlying dst = some .string)) :
    ∃ z, Met E ρ (fun v => k v S) z ∧ ∀ w, (convert src dst u).run cx.P w = .ok z w := by
  unfold convS at h
  rcases hp with ⟨kk, t, rfl⟩ | ⟨s, rfl, hdst⟩
  · split at h
    · rename_i d k1 k0 t0 hs hdst heq
      cases heq
      obtain ⟨rfl, hk⟩ := hx
      refine ⟨.int k1 (k1.wrap (t.den ρ).toI), ⟨_, vc, h, hd, ?_⟩, fun w => ?_⟩
      · split
        · rename_i e; subst e; rw [wrap_id hk]; exact ⟨rfl, hk⟩
        · exact ⟨rfl, has_wrap _ _⟩
      · simp only [convert, Sem.run_bind, run_underlying hs, run_underlying hdst, Result.andThen_ok]
        cases d <;> rfl
    all_goals first | (cases h; done) | (simp_all; done)
  · rw [hdst] at h
    split at h
    · rename_i heq; cases heq
    · rename_i d s' hs _ heq
      cases heq
      obtain ⟨rfl, hk⟩ := hx
      refine ⟨_, ⟨_, vc, h, hd, rfl, hk⟩, fun w => ?_⟩
      simp only [convert, Sem.run_bind, run_underlying hs, run_underlying hdst, Result.andThen_ok]
      cases d <;> rfl
    all_goals first | (cases h; done) | (simp_all; done)

/-- A text's part. -/
theorem slicePure_ok {k : SV → St → M} {t : TypeId} {s : Tm} {lo hi : Option SV} {mx : Option Value} {drop : Bool} {u : Value} {lv hv : Option Value} (h : sliceS cx S t (.one (.lf (.str s))) lo hi mx.isSome drop k = .ok vc) (hd : vc.den E ρ)
    (hx : (SV.one (.lf (.str s))).holds ρ u) (hlo : optHold ρ lo lv) (hhi : optHold ρ hi hv) :
    ∃ z, Met E ρ (fun v => k v S) z ∧ ∀ w, (Instr.sliceAt t u lv hv mx).run cx.P w = .ok z w := by
  unfold sliceS at h
  split at h
  · cases h
  rename_i hmx
  have hmx : mx = none := by simpa using hmx
  subst hmx
  dsimp only at h
  split at h
  · rename_i hu
    split at h
    · rename_i l hh hl hhh
      obtain ⟨rfl, hsz⟩ := hx
      obtain ⟨e1, vc1, h1, d1⟩ := oblLe_ok h hd
      obtain ⟨e2, vc2, h2, d2⟩ := oblLe_ok h1 d1
      obtain ⟨e3, vc3, h3, d3⟩ := oblLe_ok h2 d2
      have e2 : 0 ≤ (l.den ρ).toI := e2
      have e3 : (hh.den ρ).toI ≤ ((s.den ρ).toS.size : Int) := e3
      refine ⟨.string ((s.den ρ).toS.extract (l.den ρ).toI.toNat (hh.den ρ).toI.toNat), ⟨_, vc3, h3, d3, rfl, ?_⟩, fun w => ?_⟩
      · have : ((s.den ρ).toS.extract (l.den ρ).toI.toNat (hh.den ρ).toI.toNat).size ≤ (s.den ρ).toS.size := by rw [ByteArray.size_extract]; omega
        show (((s.den ρ).toS.extract (l.den ρ).toI.toNat (hh.den ρ).toI.toNat).size : Int) ≤ int64max
        omega
      · have hb := run_bounds (P := cx.P) (isSl := false) (len := (s.den ρ).toS.size) (cap := (s.den ρ).toS.size) (l := (l.den ρ).toI) (h := (hh.den ρ).toI) w
          ((optInt_ok hl hlo).imp (fun h => ⟨h.1, by rw [h.2]; rfl⟩) id) ((optInt_ok hhh hhi).imp (fun h => ⟨h.1, by rw [h.2]; rfl⟩) id) e2 e1 e3
        simp [Instr.sliceAt, Instr.slice, run_underlying hu, hb]
    · cases h
    · cases h
  · cases h


end
end Go.Vc
namespace Go.Vc
section
variable {E : Env} {G : List Glob} {w0 : World} {D0 R0 : List Nat} {ρ : List D} {S : St} {a : Act} {w : World} {cx : Cx} {vc : VC} {ret : SV → M} {k : SV → St → M}
theorem zeroPts_ok {t : TypeId} {ps : List Pt} (h : zeroPts cx t = some ps) : ∃ i z, cx.P.info? t = some i ∧ i.zero = some z ∧ ptsHold ρ ps z.cells.toList := by
  unfold zeroPts at h
  split at h
  · rename_i i lay hi hl
    split at h
    · rename_i z hz
      exact ⟨i, z, hi, hz, ptsOf_ok h⟩
    · cases h
  · cases h

theorem binNil_ok {o : BinOp} {t : TypeId} {x y : SV} {u v : Value} (hr : Rel G w0 D0 R0 ρ S a w) (h : binNil cx S o t x y ret = .ok vc) (hd : vc.den E ρ) (hx : x.holds ρ u) (hy : y.holds ρ v) (xo yo : Operand) :
    ∃ z, Met E ρ ret z ∧ ∀ w, (do eqGuard o t xo yo u v; binOp o t u v : Sem Value).run cx.P w = .ok z w := by
  unfold binNil at h
  split at h
  · rename_i ta
    simp only [SV.holds, S0.holds, Lf.holds] at hx hy
    subst hx hy
    split at h
    · rename_i own ek L hf
      split at h
      · rename_i ht
        obtain ⟨el, ht⟩ : ∃ el, cx.P.underlying t = some (.slice el) := by
          unfold isSlT at ht; split at ht
          · exact ⟨_, by assumption⟩
          · cases ht
        obtain ⟨hrd, hok⟩ := sl_cells hr.heap hf
        have hnil : ∃ b : Bool, (b = true → ek.len (L.den ρ) = 0) ∧ (∀ w, (Op.equal t (ta.den ρ).toV (.slice none 0 0)).run cx.P w = .ok b w) ∧ (∀ c, (ta.den ρ).toV ≠ .agg c) ∧ (ta.den ρ).toV ≠ .nilIface := by
          rcases hrd with ⟨h1, h2, _⟩ | ⟨ad, cap, h1, _⟩
          · exact ⟨true, fun _ => h2, fun w => by rw [h1]; exact run_equal_slice_nil w t el none 0 0 ht, fun c => by rw [h1]; exact (fun e => by cases e), by rw [h1]; exact (fun e => by cases e)⟩
          · exact ⟨false, (fun e => by cases e), fun w => by rw [h1]; exact run_equal_slice_nil w t el (some ad) _ _ ht, fun c => by rw [h1]; exact (fun e => by cases e), by rw [h1]; exact (fun e => by cases e)⟩
        obtain ⟨b, hb, hrun, g1, g2⟩ := hnil
        have run1 : ∀ w, (do eqGuard .eql t xo yo (ta.den ρ).toV (.slice none 0 0); binOp .eql t (ta.den ρ).toV (.slice none 0 0) : Sem Value).run cx.P w = .ok (.bool b) w := fun w => by
          simp [run_guard .eql t xo yo _ _ w g1 g2, binOp, hrun]
        have run2 : ∀ w, (do eqGuard .neq t xo yo (ta.den ρ).toV (.slice none 0 0); binOp .neq t (ta.den ρ).toV (.slice none 0 0) : Sem Value).run cx.P w = .ok (.bool (!b)) w := fun w => by
          simp [run_guard .neq t xo yo _ _ w g1 g2, binOp, hrun]
        have he : b = true → ((Tm.o2 .eq (ekLen ek L) (.int 0)).den ρ).toB = true := fun hbt => by
          simp [Tm.den, O2.den, ekLen_den, hb hbt]
        split at h
        · split at h
          · rename_i v1 v2 e1 e2
            cases h
            cases b with
            | true => exact ⟨_, Met.bool e1 (hd.1 (he rfl)) rfl, run1⟩
            | false => exact ⟨_, Met.bool e2 hd.2 rfl, run1⟩
          · cases h
          · cases h
        · split at h
          · rename_i v1 v2 e1 e2
            cases h
            cases b with
            | true => exact ⟨_, Met.bool e1 (hd.1 (he rfl)) rfl, run2⟩
            | false => exact ⟨_, Met.bool e2 hd.2 rfl, run2⟩
          · cases h
          · cases h
        · cases h
      · cases h
    · cases h
  · exact binS_ok h hd hx hy xo yo

theorem lenS_ok {t : TypeId} {x : SV} {u : Value} (hr : Rel G w0 D0 R0 ρ S a w) (h : lenS cx S t x ret = .ok vc) (hd : vc.den E ρ) (hx : x.holds ρ u) (ty : TypeId) :
    ∃ z, Met E ρ ret z ∧ ∀ w, (Builtin.len_ #[t] ty #[u]).run cx.P w = .ok z w := by
  have hm : IntKind.i64.max = int64max := by decide
  have hmin : IntKind.i64.min ≤ 0 := by decide
  have has (n : Nat) (h : (n : Int) ≤ int64max) : IntKind.i64.has (n : Int) := ⟨by omega, by rw [hm]; exact h⟩
  unfold lenS at h
  split at h
  · rename_i s hu
    obtain ⟨rfl, hk⟩ := hx
    exact ⟨_, Met.int h hd rfl (has _ hk), fun w => by simp [Builtin.len_, run_underlying hu, goInt, Tm.den, O1.den]⟩
  · rename_i n e hu
    split at h
    · rename_i hn
      exact ⟨_, Met.int h hd rfl (has n hn), fun w => by simp [Builtin.len_, run_underlying hu, goInt, Tm.den]⟩
    · cases h
  · rename_i e ta hu
    simp only [SV.holds, S0.holds, Lf.holds] at hx
    subst hx
    split at h
    · rename_i own ek L hf
      obtain ⟨hrd, hok⟩ := sl_cells hr.heap hf
      have hl : (ek.len (L.den ρ) : Int) ≤ int64max := by
        rcases hrd with ⟨_, h2, _⟩ | ⟨ad, cap, _, _, _, h4, h5, _⟩
        · rw [h2]; decide
        · have := maxLen_eq; omega
      refine ⟨_, Met.int h hd (ekLen_den ek L ρ) (has _ hl), ?_⟩
      rcases hrd with ⟨h1, h2, _⟩ | ⟨ad, cap, h1, _⟩
      · intro w; rw [h1]; simp [Builtin.len_, run_underlying hu, goInt, h2]
      · intro w; rw [h1]; simp [Builtin.len_, run_underlying hu, goInt]
    · cases h
  · rename_i e b o n hu
    split at h
    · rename_i hn
      obtain ⟨c, rfl, _⟩ := hx
      exact ⟨_, Met.int h hd rfl (has n hn), fun w => by simp [Builtin.len_, run_underlying hu, goInt, Tm.den]⟩
    · cases h
  · rename_i e hu
    split at h
    · rename_i n e' hu'
      split at h
      · rename_i hn
        refine ⟨_, Met.int h hd rfl (has n hn), ?_⟩
        intro w
        simp [Builtin.len_, run_underlying hu, run_underlying hu', goInt, Tm.den]
      · cases h
    · cases h
  · cases h

theorem has_min {k : IntKind} {x y : Int} (hx : k.has x) (hy : k.has y) : k.has (if y < x then y else x) := by split <;> assumption
theorem has_max {k : IntKind} {x y : Int} (hx : k.has x) (hy : k.has y) : k.has (if y > x then y else x) := by split <;> assumption

theorem foldMin_ok {k : IntKind} : ∀ {args : List SV} {vs : List Value} {t u : Tm}, foldInt .min k t args = some u → svsHold ρ args vs → k.has (t.den ρ).toI →
    (vs.foldlM Builtin.min2 (.int k (t.den ρ).toI) : Sem Value).run cx.P w = .ok (.int k (u.den ρ).toI) w ∧ k.has (u.den ρ).toI
  | [], vs, t, u, h, hv, hk => by simp only [svsHold] at hv; subst hv; simp [foldInt] at h; subst h; exact ⟨rfl, hk⟩
  | x :: args, vs, t, u, h, hv, hk => by
    obtain ⟨v, r, rfl, hx, hv⟩ := hv
    unfold foldInt at h
    split at h
    · rename_i heq; cases heq
    · rename_i _ k' u' r' heq
      cases heq
      split at h
      · rename_i hkk
        subst hkk
        obtain ⟨rfl, hu⟩ := hx
        have := foldMin_ok h hv (has_min hk hu)
        simpa [List.foldlM_cons, Builtin.min2, Tm.den, O2.den] using this
      · cases h
    · cases h

theorem foldMax_ok {k : IntKind} : ∀ {args : List SV} {vs : List Value} {t u : Tm}, foldInt .max k t args = some u → svsHold ρ args vs → k.has (t.den ρ).toI →
    (vs.foldlM Builtin.max2 (.int k (t.den ρ).toI) : Sem Value).run cx.P w = .ok (.int k (u.den ρ).toI) w ∧ k.has (u.den ρ).toI
  | [], vs, t, u, h, hv, hk => by simp only [svsHold] at hv; subst hv; simp [foldInt] at h; subst h; exact ⟨rfl, hk⟩
  | x :: args, vs, t, u, h, hv, hk => by
    obtain ⟨v, r, rfl, hx, hv⟩ := hv
    unfold foldInt at h
    split at h
    · rename_i heq; cases heq
    · rename_i _ k' u' r' heq
      cases heq
      split at h
      · rename_i hkk
        subst hkk
        obtain ⟨rfl, hu⟩ := hx
        have := foldMax_ok h hv (has_max hk hu)
        simpa [List.foldlM_cons, Builtin.max2, Tm.den, O2.den] using this
      · cases h
    · cases h

theorem min_ok (w : World) {args : List SV} {vs : List Value} (h : minmaxS .min args ret = .ok vc) (hd : vc.den E ρ) (hv : svsHold ρ args vs) (ts : Array TypeId) (ty : TypeId) :
    ∃ z, Met E ρ ret z ∧ ∀ w, (Builtin.min_ ts ty vs.toArray).run cx.P w = .ok z w := by
  unfold minmaxS at h
  split at h
  · rename_i k t r
    obtain ⟨v, rs, rfl, ⟨rfl, hk⟩, hv⟩ := hv
    split at h
    · rename_i u hu
      exact ⟨_, Met.int h hd rfl (foldMin_ok (cx := cx) (w := w) hu hv hk).2, fun w' => by simpa [Builtin.min_] using (foldMin_ok (cx := cx) (w := w') hu hv hk).1⟩
    · cases h
  · cases h

theorem max_ok (w : World) {args : List SV} {vs : List Value} (h : minmaxS .max args ret = .ok vc) (hd : vc.den E ρ) (hv : svsHold ρ args vs) (ts : Array TypeId) (ty : TypeId) :
    ∃ z, Met E ρ ret z ∧ ∀ w, (Builtin.max_ ts ty vs.toArray).run cx.P w = .ok z w := by
  unfold minmaxS at h
  split at h
  · rename_i k t r
    obtain ⟨v, rs, rfl, ⟨rfl, hk⟩, hv⟩ := hv
    split at h
    · rename_i u hu
      exact ⟨_, Met.int h hd rfl (foldMax_ok (cx := cx) (w := w) hu hv hk).2, fun w' => by simpa [Builtin.max_] using (foldMax_ok (cx := cx) (w := w') hu hv hk).1⟩
    · cases h
  · cases h

theorem run_append {P : Program} {w : World} {t tx e ty : TypeId} {i : TypeInfo} {z : Value} {v x : Value} {m n : Nat} {xs news : List Value} {dx : TypeDesc}
    (ht : P.underlying t = some (.slice e)) (hi : P.info? e = some i) (hz : i.zero = some z) (hzs : z.cells.size = i.size) (_hsz : 0 < i.size)
    (htx : P.underlying tx = some dx) (hdx : dx = .slice e ∨ dx = .string) (hown : OwnSl w v i.size m xs)
    (hl : (Builtin.lenOf x).run P w = .ok n w) (hf : ∀ w', w'.heap = w.heap → (Builtin.firstCells i.size n x).run P w' = .ok news.toArray w') (hnl : news.length = n * i.size) (h1 : ∀ u ∈ news, one u)
    (h63 : m + n ≤ maxLen) (hb : (m + n) * i.bytes ≤ 140737488355328) :
    ∃ v' w', (Builtin.append_ #[t, tx] ty #[v, x]).run P w = .ok v' w' ∧ OwnSl w' v' i.size (m + n) (xs ++ news) ∧ w.heap.size ≤ w'.heap.size ∧ w'.os = w.os ∧ w'.tape = w.tape ∧ w'.output = w.output ∧
      (∀ b, b < w.heap.size → v.ownBlock ≠ some b → w'.heap[b]? = w.heap[b]?) ∧ (∀ b, v'.ownBlock = some b → v.ownBlock = some b ∨ w.heap.size ≤ b) := by
  have hm63 : ((m + n : Nat) : Int) ≤ 9223372036854775807 := by
    have : maxLen = 9223372036854775807 := by decide
    omega
  have hsize : (sizeOf e).run P w = .ok i.size w := by simp [sizeOf, typeInfo, hi]
  have grow : ∀ (x0 : Option Addr) (cap : Nat) (olds : List Value), v = .slice x0 m cap → cap < m + n → olds = xs → xs.length = m * i.size →
      (∀ w', w'.heap = w.heap → (Builtin.firstCells i.size m v).run P w' = .ok olds.toArray w') →
      ∃ v' w', (Builtin.append_ #[t, tx] ty #[v, x]).run P w = .ok v' w' ∧ OwnSl w' v' i.size (m + n) (xs ++ news) ∧ w.heap.size ≤ w'.heap.size ∧ w'.os = w.os ∧ w'.tape = w.tape ∧ w'.output = w.output ∧
        (∀ b, b < w.heap.size → v.ownBlock ≠ some b → w'.heap[b]? = w.heap[b]?) ∧ (∀ b, v'.ownBlock = some b → v.ownBlock = some b ∨ w.heap.size ≤ b) := by
    rintro x0 cap olds hv hcap rfl hlen hfo
    have hn' : ¬ (m + n ≤ cap) := by omega
    have h63' : ¬ (9223372036854775807 < ((m : Int) + (n : Int))) := by omega
    have h48' : ¬ (281474976710656 < Builtin.nextslicecap (m + n) cap * i.bytes) := by have := growslice_fits (bytes := i.bytes) hcap hb; omega
    have hg1 := grownCap_ge w (m + n) cap e
    have hg2 := grownCap_le_maxLen w (m + n) cap e h63
    have f1 := hfo w.drew rfl
    have f2 := hf w.drew rfl
    rw [hv] at f1
    refine ⟨.slice (some ⟨w.heap.size, 0, none⟩) (m + n) (grownCap w (m + n) cap e), w.drew.alloc (.cells (olds.toArray ++ news.toArray ++ Builtin.zeroCells z.cells (grownCap w (m + n) cap e - (m + n))) e), ?_, ?_, ?_, rfl, rfl, rfl, ?_, ?_⟩
    · rw [hv]
      rcases hdx with rfl | rfl <;> simp [Builtin.append_, run_underlying ht, run_underlying htx, sizeOf, typeInfo, zeroValue, hi, hz, hl, hn', h63', h48', Question.forced, f1, f2, newRow, grownCap] <;> (congr 2; apply Array.ext'; simp)
    · refine .inr ⟨w.heap.size, _, _, e, (0, 0), rfl, alloc_at w.drew _, fun j _ hj => by simp only at hj; omega, hg1, hg2, ?_, ?_, ?_⟩
      · simp only [Array.size_append, List.size_toArray, size_zeroCells, hzs, hlen, hnl]
        rw [← Nat.add_mul, ← Nat.add_mul]; congr 1; omega
      · rw [List.length_append, hlen, hnl, Nat.add_mul]
      · simp only [Array.toList_append]
        have : (m + n) * i.size = (olds ++ news).length := by rw [List.length_append, hlen, hnl, Nat.add_mul]
        rw [this]; exact List.take_left
    · exact (ext_alloc w.drew _).size
    · intro b hb' _; exact (ext_alloc w.drew _).block b hb'
    · intro b hb'; cases hb'; exact .inr (Nat.le_refl _)
  rcases hown with ⟨rfl, rfl, rfl⟩ | ⟨g, cap, cur, e', fz, rfl, hg, hfz, hmc, hcm, hcs, hlen, htake⟩
  · by_cases hn0 : n = 0
    · subst hn0
      have hnews : news = [] := List.eq_nil_of_length_eq_zero (by simpa using hnl)
      subst hnews
      refine ⟨.slice none 0 0, w, ?_, .inl ⟨rfl, rfl, rfl⟩, Nat.le_refl _, rfl, rfl, rfl, fun _ _ _ => rfl, fun b hb => by cases hb⟩
      rcases hdx with rfl | rfl <;> simp [Builtin.append_, run_underlying ht, run_underlying htx, sizeOf, typeInfo, hi, hl, hf w rfl]
    · exact grow none 0 [] rfl (by omega) rfl (by simp) (fun w' _ => by simp [Builtin.firstCells])
  · by_cases hroom : m + n ≤ cap
    · have hfit : m * i.size + news.length ≤ cur.size := by rw [hnl, hcs, ← Nat.add_mul]; exact Nat.mul_le_mul_right _ hroom
      have hst := run_storeCells' (P := P) (vs := news) (w := w) (b := g) (o := m * i.size) (i := 0) hg hfz.pred (by omega) h1
      have hb' := (Array.getElem?_eq_some_iff.1 hg).1
      obtain ⟨old, r, hold, hol⟩ : ∃ old r, cur.toList = xs ++ (old ++ r) ∧ old.length = news.length := by
        refine ⟨(cur.toList.drop (m * i.size)).take news.length, (cur.toList.drop (m * i.size)).drop news.length, ?_, ?_⟩
        · rw [List.take_append_drop, ← htake, List.take_append_drop]
        · rw [List.length_take, List.length_drop, Array.length_toList]; exact Nat.min_eq_left (Nat.le_sub_of_add_le (by rw [Nat.add_comm]; exact hfit))
      have hw := writeAt_toList hold hol
      rw [hlen] at hw
      refine ⟨.slice (some ⟨g, 0, none⟩) (m + n) cap, putCells w g (writeAt cur (m * i.size) news) e' fz, ?_, ?_, by rw [putCells_size]; exact Nat.le_refl _, rfl, rfl, rfl, ?_, fun b hb => .inl hb⟩
      · rcases hdx with rfl | rfl <;> simp [Builtin.append_, run_underlying ht, run_underlying htx, sizeOf, typeInfo, hi, hl, hroom, hf w rfl, Addr.add_plain, hst]
      · refine .inr ⟨g, cap, _, e', fz, rfl, putCells_at hb', by rw [writeAt_size]; exact hfz, hroom, hcm, by rw [writeAt_size]; exact hcs, ?_, ?_⟩
        · rw [List.length_append, hlen, hnl, Nat.add_mul]
        · rw [hw]
          have : (m + n) * i.size = (xs ++ news).length := by rw [List.length_append, hlen, hnl, Nat.add_mul]
          rw [this, ← List.append_assoc]; exact List.take_left
      · intro b hb2 hne
        exact putCells_other (fun e => hne (by rw [e]; rfl))
    · refine grow _ cap xs rfl (by omega) rfl hlen (fun w' hw' => ?_)
      refine run_firstCells_some w' i.size m ⟨g, 0, none⟩ m cap xs hlen (fun j u hj => ?_)
      have hcur : cur[j]? = some u := by
        have hj' : j < m * i.size := by rw [← hlen]; exact (List.getElem?_eq_some_iff.1 hj).1
        rw [← htake, List.getElem?_take, if_pos hj'] at hj
        simpa using hj
      rw [Addr.add_plain, Nat.zero_add]
      have : w'.heap[g]? = some (.cells cur e' fz) := by rw [hw']; exact hg
      rw [cell?_block this]; exact hcur

/-- The state behind an append. -/
theorem appendFin {ta : Tm} {ek : EK} {L N : Tm} {i : TypeInfo} {v' : Value} {w' : World} {news : List Value} {n : Nat} (hr : Rel G w0 D0 R0 ρ S a w) (hf : findSl ta S.heap = some (true, ek, L))
    (h : newOsl { S with heap := dropOsl ta S.heap } ek N k = .ok vc) (hd : vc.den E ρ) (hw : ek.width = i.size)
    (hown : OwnSl w' v' i.size (ek.len (L.den ρ) + n) (ek.cells (L.den ρ) ++ news)) (hs : w.heap.size ≤ w'.heap.size) (hos : w'.os = w.os) (htp : w'.tape = w.tape) (hout : w'.output = w.output)
    (hblk : ∀ b, b < w.heap.size → (ta.den ρ).toV.ownBlock ≠ some b → w'.heap[b]? = w.heap[b]?) (hob : ∀ b, v'.ownBlock = some b → (ta.den ρ).toV.ownBlock = some b ∨ w.heap.size ≤ b)
    (hN1 : ek.cells (N.den ρ) = ek.cells (L.den ρ) ++ news) (hN2 : ek.len (N.den ρ) = ek.len (L.den ρ) + n) (hN3 : ek.ok (N.den ρ)) :
    Out E G w0 D0 R0 ρ a k (.ok v' w') := by
  obtain ⟨l1, l2, he, hdrop, _⟩ := findSl_split hf
  have hdrop := (hdrop rfl).2
  have p1 : S.heap.Perm (.osl ta ek L :: dropOsl ta S.heap) := by
    have := perm_mid l1 l2 (Ch.osl ta ek L)
    simp only [slCh, if_true] at he
    rw [hdrop, he]; exact this
  obtain ⟨hc, hrest, hown1, _⟩ := heapOk_cons.1 (hr.heap.perm p1)
  have hrest' : HeapOk ρ (dropOsl ta S.heap) w' := hrest.congr (fun b hb => hblk b (hb.elim hrest.own_lt hrest.ro_lt) (fun e => hb.elim (hown1 b e).1 (hown1 b e).2)) hs
  have hr' : Rel G w0 D0 R0 ρ { S with heap := dropOsl ta S.heap } a w' := by
    refine hr.reheap (hs := dropOsl ta S.heap) hrest' hs (fun b hb hn => hblk b hb (fun e => hn ((owns_perm p1).2 (owns_cons.2 (.inl e))))) hos htp hout ?_ ?_
    · exact fun b hb => .inl ((owns_perm p1).2 (owns_cons.2 (.inr hb)))
    · exact fun b hb => .inr (.inl ((ros_perm p1).2 (ros_cons.2 (.inr hb))))
  unfold newOsl at h
  split at h
  · rename_i hu
    have hu : N.under S.srts.length = true := hu
    rw [← srtsOk_length hr.srts] at hu
    have hund : (dropOsl ta S.heap).all (Ch.under ρ.length) = true := by
      unfold fresh at h
      split at h
      · rename_i hx
        simp only [St.under, Bool.and_eq_true] at hx
        rw [srtsOk_length hr.srts]; exact hx.2
      · cases h
    obtain ⟨vc2, g1, g2, g3, g4⟩ := fresh_ok hr' h hd (d := .V v') ⟨_, rfl⟩
    refine ⟨[.V v'], _, _, vc2, v', w', g1, g2, ?_, ?_, rfl⟩
    · simp only [SV.holds, S0.holds, Lf.holds, g4]; rfl
    · -- the old block may be taken again
      have hch : (Ch.osl (.at S.srts.length) ek N).holds (ρ ++ [.V v']) w' := by
        refine ⟨?_, ?_⟩
        · rw [g4, Tm.den_below hu, hN1, hN2, hw]; exact hown
        · rw [Tm.den_below hu]; exact hN3
      have hho : ∀ b, (Ch.osl (.at S.srts.length) ek N).own (ρ ++ [.V v']) = some b → (ta.den ρ).toV.ownBlock = some b ∨ w.heap.size ≤ b := by
        intro b hb; rw [Ch.own, g4] at hb; exact hob b hb
      have how : owns (ρ ++ [.V v']) (dropOsl ta S.heap) = owns ρ (dropOsl ta S.heap) := owns_under hund
      have hrw : ros (ρ ++ [.V v']) (dropOsl ta S.heap) = ros ρ (dropOsl ta S.heap) := ros_under hund
      have hin : ∀ b, (ta.den ρ).toV.ownBlock = some b → b ∈ owns ρ S.heap := fun b hb => (owns_perm p1).2 (owns_cons.2 (.inl hb))
      refine ⟨g3.srts, g3.tmps, g3.defers, heapOk_cons.2 ⟨hch, g3.heap, fun b hb => ?_, fun b hb => by cases hb⟩, fun g hg => ⟨(g3.globs g hg).1, fun hm => ?_⟩, g3.frame, fun b hb => ?_, fun b hb => ?_⟩
      · show b ∉ owns (ρ ++ [.V v']) (dropOsl ta S.heap) ∧ b ∉ ros (ρ ++ [.V v']) (dropOsl ta S.heap)
        rw [how, hrw]
        rcases hho b hb with h1 | h1
        · exact hown1 b h1
        · exact ⟨fun hm => by have := hrest.own_lt hm; omega, fun hm => by have := hrest.ro_lt hm; omega⟩
      · rcases owns_cons.1 hm with h1 | h1
        · rcases hho _ h1 with h2 | h2
          · exact (hr.globs g hg).2 (hin _ h2)
          · have := Glob.lt (hr.globs g hg).1; omega
        · exact (g3.globs g hg).2 h1
      · rcases owns_cons.1 hb with h1 | h1
        · rcases hho _ h1 with h2 | h2
          · exact hr.within b (hin _ h2)
          · exact .inr (Nat.le_trans hr.frame.size h2)
        · exact g3.within b h1
      · rcases ros_cons.1 hb with h1 | h1
        · cases h1
        · exact g3.within' b h1
  · cases h
end
end Go.Vc
namespace Go.Vc
section
variable {E : Env} {G : List Glob} {w0 : World} {D0 R0 : List Nat} {ρ : List D} {S : St} {a : Act} {w : World} {cx : Cx} {vc : VC} {ret : SV → M} {k : SV → St → M}
theorem ekApp_cells (ek : EK) (L L' : Tm) : ek.cells ((ekApp ek L L').den ρ) = ek.cells (L.den ρ) ++ ek.cells (L'.den ρ) := by
  rw [cells_eq, ekApp_elems, List.flatMap_append, ← cells_eq, ← cells_eq]
theorem ekApp_len (ek : EK) (L L' : Tm) : ek.len ((ekApp ek L L').den ρ) = ek.len (L.den ρ) + ek.len (L'.den ρ) := by
  rw [len_eq, ekApp_elems, List.length_append, ← len_eq, ← len_eq]
theorem ekApp_ok {ek : EK} {L L' : Tm} (h : ek.ok (L.den ρ)) (h' : ek.ok (L'.den ρ)) : ek.ok ((ekApp ek L L').den ρ) := by
  rw [ok_iff, ekApp_elems]
  intro x hx
  rcases List.mem_append.1 hx with hx | hx
  · exact (ok_iff ek _).1 h x hx
  · exact (ok_iff ek _).1 h' x hx

/-- What a slice's first cells are. -/
theorem run_firstCells_sl {P : Program} {w : World} {v : Value} {es m n : Nat} {xs : List Value} (h : RdSl w v es m xs) (hn : n ≤ m) :
    (Builtin.lenOf v).run P w = .ok m w ∧ (Builtin.firstCells es n v).run P w = .ok (xs.take (n * es)).toArray w := by
  rcases h with ⟨rfl, rfl, rfl⟩ | ⟨ad, cap, rfl, h1, h2, h3, h4, h5, h6⟩
  · exact ⟨rfl, by simp [Builtin.firstCells]⟩
  · refine ⟨rfl, run_firstCells_some w es n ad m cap _ ?_ (fun j u hj => ?_)⟩
    · rw [List.length_take, h5]; exact Nat.min_eq_left (Nat.mul_le_mul_right _ hn)
    · rw [List.getElem?_take] at hj
      split at hj
      · exact h6 j u hj
      · cases hj

theorem le_div_bytes {n b : Nat} (hb : 0 < b) (h : (n : Int) ≤ 140737488355328 / (b : Int)) : n * b ≤ 140737488355328 ∧ n ≤ 140737488355328 := by
  have h1 : (n : Int) * b ≤ 140737488355328 := Int.mul_le_of_le_ediv (by omega) h
  have h2 : n * b ≤ 140737488355328 := Int.ofNat_le.1 (by rw [Int.natCast_mul]; exact h1)
  exact ⟨h2, Nat.le_trans (Nat.le_mul_of_pos_right n hb) h2⟩

theorem appendS_ok {t tx ty : TypeId} {s x : SV} {u v : Value} (hr : Rel G w0 D0 R0 ρ S a w) (h : appendS cx S t (some tx) s x k = .ok vc) (hd : vc.den E ρ) (hs : s.holds ρ u) (hx : x.holds ρ v) :
    Out E G w0 D0 R0 ρ a k ((Builtin.append_ #[t, tx] ty #[u, v]).run cx.P w) := by
  unfold appendS at h
  split at h
  · rename_i e ta ht
    simp only [SV.holds, S0.holds, Lf.holds] at hs
    subst hs
    split at h
    · rename_i ek L i hf hi
      split at h
      · rename_i hc
        obtain ⟨hw, hi0, hib, hzf⟩ := hc
        obtain ⟨hown, hok⟩ := sl_own hr.heap hf
        obtain ⟨z, hz, hzs⟩ : ∃ z, i.zero = some z ∧ z.cells.size = i.size := by
          unfold zeroFits at hzf
          split at hzf
          · exact ⟨_, by assumption, by simpa using hzf⟩
          · cases hzf
        have hml : maxLen = 9223372036854775807 := by decide
        have main : ∀ (N : Tm) (n : Nat) (news : List Value) (dx : TypeDesc), oblLe (ekLen ek N) (.int (140737488355328 / i.bytes)) (newOsl { S with heap := dropOsl ta S.heap } ek N k) = .ok vc →
            cx.P.underlying tx = some dx → (dx = .slice e ∨ dx = .string) → (Builtin.lenOf v).run cx.P w = .ok n w →
            (∀ w', w'.heap = w.heap → (Builtin.firstCells i.size n v).run cx.P w' = .ok news.toArray w') → news.length = n * i.size → (∀ u ∈ news, one u) →
            ek.cells (N.den ρ) = ek.cells (L.den ρ) ++ news → ek.len (N.den ρ) = ek.len (L.den ρ) + n → ek.ok (N.den ρ) →
            Out E G w0 D0 R0 ρ a k ((Builtin.append_ #[t, tx] ty #[(ta.den ρ).toV, v]).run cx.P w) := by
          intro N n news dx hN hdx hdx' hl hfc hnl h1 n1 n2 n3
          obtain ⟨e1, vc1, h1', d1⟩ := oblLe_ok hN hd
          rw [ekLen_den, n2] at e1
          obtain ⟨b1, b2⟩ := le_div_bytes hib e1
          rw [hw] at hown
          obtain ⟨v', w', r1, r2, r3, r4, r5, r6, r7, r8⟩ := run_append (ty := ty) ht hi hz hzs hi0 hdx hdx' hown hl hfc hnl h1 (by omega) b1
          rw [r1]
          exact appendFin hr hf h1' d1 hw r2 r3 r4 r5 r6 r7 r8 n1 n2 n3
        split at h
        · rename_i b
          simp only [SV.holds, S0.holds, Lf.holds] at hx
          subst hx
          split at h
          · rename_i o ek' L' hf'
            split at h
            · rename_i he
              obtain ⟨he, htx⟩ := he
              cases htx
              subst he
              obtain ⟨hrd, hok'⟩ := sl_cells hr.heap hf'
              refine main _ (ek'.len (L'.den ρ)) (ek'.cells (L'.den ρ)) _ h ht (.inl rfl) (run_firstCells_sl hrd (Nat.le_refl _)).1 (fun w' hw' => ?_) (by rw [cells_length hok', hw]) cells_one (ekApp_cells _ _ _) (ekApp_len _ _ _) (ekApp_ok hok hok')
              have := (run_firstCells_sl (P := cx.P) (hrd.congr (w' := w') (fun b _ => by rw [hw']) (by rw [hw']; exact Nat.le_refl _)) (Nat.le_refl _)).2
              rw [← hw, this, ← cells_length hok', List.take_length]
            · cases h
          · cases h
        · rename_i z'
          obtain ⟨rfl, hzz⟩ := hx
          split at h
          · rename_i he
            obtain ⟨he, htx⟩ := he
            subst he
            have hw1 : i.size = 1 := hw.symm
            have hdx : cx.P.underlying tx = some .string := by
              simp only [isStrT] at htx
              split at htx
              · assumption
              · cases htx
            have hcl : (Lib.strCells (z'.den ρ).toS) = EK.cells [.int .u8] ((Tm.o1 .toLi z').den ρ) := by simp [Lib.strCells, EK.cells, Tm.den, O1.den, bytesOf]
            refine main _ (z'.den ρ).toS.size (EK.cells [.int .u8] ((Tm.o1 .toLi z').den ρ)) _ h hdx (.inr rfl) rfl (fun w' _ => ?_) ?_ cells_one (ekApp_cells _ _ _) ?_ (ekApp_ok hok (ok_bytes _))
            · rw [Lib.run_firstCells_string, hcl]
            · rw [← hcl, Lib.strCells_length, hw1, Nat.mul_one]
            · rw [ekApp_len]; congr 1; simp [EK.len, Tm.den, O1.den, bytesOf_length]
          · cases h
        · simp only [SV.holds, S0.holds, Lf.holds] at hx
          subst hx
          split at h
          · rename_i htx
            cases htx
            exact main _ 0 [] _ h ht (.inl rfl) rfl (fun w' _ => by simp [Builtin.firstCells]) (by simp) (by simp) (by simp) (by simp) hok
          · cases h
        · cases h
      · cases h
    · cases h
  · cases h

theorem run_copy' {P : Program} {w : World} {dT sT ty e : TypeId} {g o dLen dCap m : Nat} {v : Value} {news : List Value} {cur : Array Value} {te : TypeId} {fz : Nat × Nat}
    (hu : P.underlying dT = some (.slice e)) (hs : P.cellsOf e = 1) (hl : (Builtin.lenOf v).run P w = .ok m w) (hf : (Builtin.firstCells 1 (Nat.min m dLen) v).run P w = .ok news.toArray w)
    (hg : w.heap[g]? = some (.cells cur te fz)) (hfz : noFz fz cur.size) (hfit : o + news.length ≤ cur.size) (h1 : ∀ u ∈ news, one u) :
    (Builtin.copy_ #[dT, sT] ty #[.slice (some ⟨g, o, none⟩) dLen dCap, v]).run P w = .ok (goInt (Nat.min m dLen : Nat)) (putCells w g (writeAt cur o news) te fz) := by
  have hst := run_storeCells' (P := P) (vs := news) (w := w) (b := g) (o := o) (i := 0) hg hfz (by omega) h1
  have hsz := run_sizeOf' (P := P) (t := e) (by omega) w
  rw [hs] at hsz
  simp [Builtin.copy_, run_underlying hu, hl, hsz, hf, hst]

theorem run_copy_nil' {P : Program} {w : World} {dT sT ty e : TypeId} {c m : Nat} {v : Value} {news : List Value}
    (hu : P.underlying dT = some (.slice e)) (hs : P.cellsOf e = 1) (hl : (Builtin.lenOf v).run P w = .ok m w) (hf : (Builtin.firstCells 1 (Nat.min m 0) v).run P w = .ok news.toArray w) :
    (Builtin.copy_ #[dT, sT] ty #[.slice none 0 c, v]).run P w = .ok (goInt 0) w := by
  have hsz := run_sizeOf' (P := P) (t := e) (by omega) w
  rw [hs] at hsz
  simp only [Nat.min_def, Nat.le_zero_eq] at hf
  have : (if m = 0 then m else 0) = 0 := by split <;> simp_all
  rw [this] at hf
  simp [Builtin.copy_, run_underlying hu, hl, hsz, hf]

theorem liCopy_length {X L : List Int} {n : Nat} (h : L.length = n) : (X.take n ++ L.drop X.length).length = n := by
  rw [List.length_append, List.length_take, List.length_drop]; omega

theorem liCopy_split {X L : List Int} {n : Nat} (h : L.length = n) (k : IntKind) (r : List Value) :
    ∃ old r', L.map (Value.int k) ++ r = old ++ r' ∧ old.length = ((X.map (Value.int k)).take (Nat.min X.length n)).length ∧
      (X.map (Value.int k)).take (Nat.min X.length n) ++ r' = (X.take n ++ L.drop X.length).map (Value.int k) ++ r := by
  refine ⟨(L.map (Value.int k)).take X.length, (L.map (Value.int k)).drop X.length ++ r, by rw [← List.append_assoc, List.take_append_drop], ?_, ?_⟩
  · have : Nat.min X.length n ≤ X.length := Nat.min_le_left _ _
    rw [List.length_take, List.length_take, List.length_map, List.length_map, h]
    have : Nat.min X.length n = min X.length n := rfl
    omega
  · rw [List.map_append, List.map_take, List.map_drop, ← List.append_assoc]
    congr 2
    by_cases hc : X.length ≤ n
    · have : Nat.min X.length n = X.length := Nat.min_eq_left hc
      rw [this, List.take_of_length_le (by simp), List.take_of_length_le (by simpa using hc)]
    · have : Nat.min X.length n = n := Nat.min_eq_right (by omega)
      rw [this]

theorem has_copy {k : IntKind} {X L : List Int} {n : Nat} (h1 : ∀ x ∈ X, k.has x) (h2 : ∀ x ∈ L, k.has x) : ∀ x ∈ X.take n ++ L.drop X.length, k.has x := by
  intro x hx
  rcases List.mem_append.1 hx with hx | hx
  · exact h1 x (List.mem_of_mem_take hx)
  · exact h2 x (List.mem_of_mem_drop hx)

theorem min_holds {X Y : Tm} {n : Nat} (hY : (Y.den ρ).toI = n) (h63 : ((X.den ρ).toLi.length : Int) ≤ int64max) :
    (Lf.int .i64 (.o2 .min (.o1 .lilen X) Y)).holds ρ (goInt (Nat.min (X.den ρ).toLi.length n : Nat)) := by
  have e : ((Tm.o2 .min (.o1 .lilen X) Y).den ρ).toI = ((Nat.min (X.den ρ).toLi.length n : Nat) : Int) := by
    show (if (Y.den ρ).toI < ((X.den ρ).toLi.length : Int) then (Y.den ρ).toI else ((X.den ρ).toLi.length : Int)) = _
    rw [hY]
    have : Nat.min (X.den ρ).toLi.length n = min (X.den ρ).toLi.length n := rfl
    rw [this]
    split <;> omega
  refine ⟨by rw [e]; rfl, ?_⟩
  rw [e]
  have hm : IntKind.i64.max = int64max := by decide
  have hmin : IntKind.i64.min ≤ 0 := by decide
  have := Nat.min_le_left (X.den ρ).toLi.length n
  have h3 : ((Nat.min (X.den ρ).toLi.length n : Nat) : Int) ≤ ((X.den ρ).toLi.length : Int) := Int.ofNat_le.2 this
  exact ⟨by omega, by rw [hm]; omega⟩

theorem copyS_ok {t tx ty : TypeId} {d x : SV} {u v : Value} (hr : Rel G w0 D0 R0 ρ S a w) (h : copyS cx S t tx d x k = .ok vc) (hd : vc.den E ρ) (hdd : d.holds ρ u) (hx : x.holds ρ v) :
    Out E G w0 D0 R0 ρ a k ((Builtin.copy_ #[t, tx] ty #[u, v]).run cx.P w) := by
  unfold copyS at h
  dsimp only at h
  split at h
  · rename_i X e hsrc hu
    have hX : (Builtin.lenOf v).run cx.P w = .ok (X.den ρ).toLi.length w ∧ (∀ n, n ≤ (X.den ρ).toLi.length → (Builtin.firstCells 1 n v).run cx.P w = .ok (((X.den ρ).toLi.map (Value.int .u8)).take n).toArray w) ∧
        (∀ y ∈ (X.den ρ).toLi, IntKind.u8.has y) ∧ ((X.den ρ).toLi.length : Int) ≤ int64max := by
      split at hsrc
      · split at hsrc
        · cases hsrc
          obtain ⟨rfl, hz⟩ := hx
          rename_i z _
          have hl : ((Tm.o1 .toLi z).den ρ).toLi.length = (z.den ρ).toS.size := by simp [Tm.den, O1.den, bytesOf_length]
          refine ⟨by rw [hl]; rfl, fun n hn => ?_, ok_bytes _, by rw [hl]; exact hz⟩
          rw [hl] at hn
          simp only [Builtin.firstCells]
          show Result.ok _ _ = _
          congr 1
          apply Array.ext'
          simp [Tm.den, O1.den, bytesOf, ByteArray.data_extract, List.map_take]
          rfl
        · cases hsrc
      · split at hsrc
        · cases hsrc
          rename_i hf
          simp only [SV.holds, S0.holds, Lf.holds] at hx
          subst hx
          obtain ⟨hrd, hok⟩ := sl_cells hr.heap hf
          refine ⟨(run_firstCells_sl hrd (Nat.le_refl _)).1, fun n hn => ?_, hok, ?_⟩
          · have := (run_firstCells_sl (P := cx.P) hrd hn).2
            rw [show n * EK.width [.int .u8] = n by simp [EK.width, CK.width]] at this
            exact this
          · rcases hrd with ⟨_, h2, _⟩ | ⟨ad, cap, _, _, _, h4, h5, _⟩
            · rw [show (X.den ρ).toLi.length = 0 from h2]; decide
            · have h4 : (X.den ρ).toLi.length ≤ cap := h4
              have := maxLen_eq; omega
        · cases hsrc
      · cases hsrc
    obtain ⟨hl, hfc, hXh, hX63⟩ := hX
    split at h
    · rename_i hs1
      split at h
      · rename_i b o n
        obtain ⟨c, rfl, hnc⟩ := hdd
        split at h
        · rename_i ps hf
          split at h
          · rename_i L hL
            split at h
            · rename_i qs hqs
              obtain ⟨cs, e', fz, hg, hfz, hv⟩ := box_cells hr.heap hf
              obtain ⟨pre, r, e1, e2, e3, e4, e5⟩ := intsAt_ok hL hv
              obtain ⟨old, r', s1, s2, s3⟩ := liCopy_split (X := (X.den ρ).toLi) e3 .u8 r
              have hwr := writeAt_toList (cs := cs) (pre := pre) (old := old) (r := r') (by rw [e1, s1]) s2
              rw [e2] at hwr
              have hcl : o + ((X.den ρ).toLi.map (Value.int .u8) |>.take (Nat.min (X.den ρ).toLi.length n)).length ≤ cs.size := by
                rw [← s2, ← Array.length_toList, e1, s1, ← e2]
                simp only [List.length_append]; omega
              have hrun := run_copy' (dT := t) (sT := tx) (ty := ty) (dCap := c) hu hs1 hl (hfc _ (Nat.min_le_left _ _)) hg hfz hcl
                (fun u hu => by obtain ⟨y, _, rfl⟩ := List.mem_map.1 (List.mem_of_mem_take hu); rfl)
              refine ⟨[], _, _, vc, _, _, h, by simpa using hd, ?_, ?_, hrun⟩
              · rw [List.append_nil]
                exact min_holds rfl hX63
              · rw [List.append_nil]
                refine hr.write hf hg hfz (writeAt_size _ _ _) ?_
                rw [hwr, s3]
                have := e5 (.o2 .liapp (.o2 .litake X (.int n)) (.o2 .lidrop L (.o1 .lilen X))) (by simpa [Tm.den, O2.den, O1.den] using liCopy_length e3)
                  (by simpa [Tm.den, O2.den, O1.den] using has_copy (n := n) hXh e4) qs hqs
                simpa [Tm.den, O2.den, O1.den] using this
            · cases h
          · cases h
        · cases h
      · rename_i ta
        simp only [SV.holds, S0.holds, Lf.holds] at hdd
        subst hdd
        split at h
        · rename_i L hf
          obtain ⟨hown, hok⟩ := sl_own hr.heap hf
          have hw1 : EK.width [.int .u8] = 1 := rfl
          have hlen : EK.len [.int .u8] (L.den ρ) = (L.den ρ).toLi.length := rfl
          have hm : IntKind.i64.max = int64max := by decide
          have hmin : IntKind.i64.min ≤ 0 := by decide
          rcases hown with ⟨h1, h2, h3⟩ | ⟨g, cap, cur, e', fz, h1, hg, hfz, hmc, hcm, hcs, hln, htake⟩
          · have hL0 : (L.den ρ).toLi = [] := List.eq_nil_of_length_eq_zero h2
            have hrun := run_copy_nil' (dT := t) (sT := tx) (ty := ty) (c := 0) hu hs1 hl (hfc _ (Nat.min_le_left _ _))
            rw [h1]
            refine ⟨[], _, _, vc, _, _, h, by simpa using hd, ?_, ?_, hrun⟩
            · rw [List.append_nil]
              have := min_holds (ρ := ρ) (X := X) (Y := .o1 .lilen L) (n := 0) (by simp [Tm.den, O1.den, hL0]) hX63
              rw [show Nat.min (X.den ρ).toLi.length 0 = 0 from Nat.min_eq_right (Nat.zero_le _)] at this
              exact this
            · rw [List.append_nil]
              obtain ⟨l1, l2, he, hset, _⟩ := findSl_split hf
              have hset := (hset rfl).1
              have p1 : S.heap.Perm (.osl ta [.int .u8] L :: (l1 ++ l2)) := by
                have := perm_mid l1 l2 (Ch.osl ta [.int .u8] L)
                simp only [slCh, if_true] at he
                rw [he]; exact this
              have p2 := perm_mid l1 l2 (Ch.osl ta [.int .u8] (.o2 .liapp (.o2 .litake X (.o1 .lilen L)) (.o2 .lidrop L (.o1 .lilen X))))
              rw [← hset] at p2
              obtain ⟨hc, hrest, hown1, _⟩ := heapOk_cons.1 (hr.heap.perm p1)
              refine hr.reheap (hs := setOsl ta _ S.heap) (HeapOk.perm p2.symm (heapOk_cons.2 ⟨⟨?_, ?_⟩, hrest, hown1, fun b hb => by cases hb⟩)) (Nat.le_refl _) (fun _ _ _ => rfl) rfl rfl rfl (fun b hb => .inl ((owns_perm p1).2 ((owns_perm p2).1 hb))) (fun b hb => .inr (.inl ((ros_perm p1).2 ((ros_perm p2).1 hb))))
              · refine .inl ⟨h1, ?_, ?_⟩ <;> simp [EK.len, EK.cells, Tm.den, O2.den, O1.den, hL0]
              · simp [EK.ok, Tm.den, O2.den, O1.den, hL0]
          · obtain ⟨old, r', s1, s2, s3⟩ := liCopy_split (X := (X.den ρ).toLi) (n := (L.den ρ).toLi.length) rfl .u8 (cur.toList.drop (L.den ρ).toLi.length)
            have hcur : cur.toList = (L.den ρ).toLi.map (Value.int .u8) ++ cur.toList.drop (L.den ρ).toLi.length := by
              have : cur.toList.take (L.den ρ).toLi.length = (L.den ρ).toLi.map (Value.int .u8) := by
                rw [hw1, Nat.mul_one] at htake; exact htake
              rw [← this, List.take_append_drop]
            have hwr := writeAt_toList (cs := cur) (pre := []) (old := old) (r := r') (by rw [hcur, s1]; rfl) s2
            simp only [List.length_nil, List.nil_append] at hwr
            have hfit : 0 + ((X.den ρ).toLi.map (Value.int .u8) |>.take (Nat.min (X.den ρ).toLi.length (L.den ρ).toLi.length)).length ≤ cur.size := by
              rw [← s2, ← Array.length_toList, hcur, s1]
              simp only [List.length_append]; omega
            have hrun := run_copy' (dT := t) (sT := tx) (ty := ty) (dCap := cap) (dLen := (L.den ρ).toLi.length) hu hs1 hl (hfc _ (Nat.min_le_left _ _)) hg hfz.pred hfit
              (fun u hu => by obtain ⟨y, _, rfl⟩ := List.mem_map.1 (List.mem_of_mem_take hu); rfl)
            rw [h1]
            refine ⟨[], _, _, vc, _, _, h, by simpa using hd, ?_, ?_, hrun⟩
            · rw [List.append_nil]
              exact min_holds rfl hX63
            · rw [List.append_nil]
              refine hr.writeSl hf h1 hg ⟨?_, ?_⟩
              · have hlc : (X.den ρ).toLi.take (L.den ρ).toLi.length ++ (L.den ρ).toLi.drop (X.den ρ).toLi.length = ((Tm.o2 .liapp (.o2 .litake X (.o1 .lilen L)) (.o2 .lidrop L (.o1 .lilen X))).den ρ).toLi := by simp [Tm.den, O2.den, O1.den]
                have hl2 := liCopy_length (X := (X.den ρ).toLi) (L := (L.den ρ).toLi) rfl
                refine .inr ⟨g, cap, _, e', fz, ?_, putCells_at (Array.getElem?_eq_some_iff.1 hg).1, by rw [writeAt_size]; exact hfz, ?_, hcm, by rw [writeAt_size]; exact hcs, ?_, ?_⟩
                · rw [h1]; congr 1; show (L.den ρ).toLi.length = ((Tm.o2 .liapp (.o2 .litake X (.o1 .lilen L)) (.o2 .lidrop L (.o1 .lilen X))).den ρ).toLi.length
                  rw [← hlc, hl2]
                · show ((Tm.o2 .liapp (.o2 .litake X (.o1 .lilen L)) (.o2 .lidrop L (.o1 .lilen X))).den ρ).toLi.length ≤ cap
                  rw [← hlc, hl2]; exact hmc
                · simp [EK.cells, EK.len, EK.width, CK.width]
                · show List.take (((Tm.o2 .liapp (.o2 .litake X (.o1 .lilen L)) (.o2 .lidrop L (.o1 .lilen X))).den ρ).toLi.length * 1) _ = ((Tm.o2 .liapp (.o2 .litake X (.o1 .lilen L)) (.o2 .lidrop L (.o1 .lilen X))).den ρ).toLi.map (Value.int .u8)
                  rw [← hlc, hwr, s3, Nat.mul_one]
                  exact List.take_left' (by rw [List.length_map])
              · have := has_copy (n := (L.den ρ).toLi.length) hXh hok
                simpa [EK.ok, Tm.den, O2.den, O1.den] using this
        · cases h
      · cases h
    · cases h
  · cases h
end
end Go.Vc
namespace Go.Vc
section
variable {E : Env} {G : List Glob} {w0 : World} {D0 R0 : List Nat} {ρ : List D} {S : St} {a : Act} {w : World} {cx : Cx} {vc : VC} {ret : SV → M} {k : SV → St → M}
theorem flatMap_replicate_const {α : Type} (xs : List Value) (y : α) (f : α → List Value) (h : f y = xs) : ∀ n, (List.replicate n y).flatMap f = (List.replicate n xs).flatten
  | 0 => rfl
  | n + 1 => by simp [List.replicate_succ, flatMap_replicate_const xs y f h n, h]

theorem madeCells_toList {z : Array Value} {s : Nat} (hs : 0 < s) (hz : z.size = s) : ∀ n, (madeCells z (n * s)).toList = (List.replicate n z.toList).flatten
  | 0 => by simp [madeCells]
  | n + 1 => by
    have ih := madeCells_toList hs hz n
    rw [List.replicate_succ', List.flatten_append, ← ih]
    apply List.ext_getElem?
    intro j
    have hsz : (madeCells z (n * s)).toList.length = n * s := by simp [madeCells]
    have hz' : z.toList.length = s := by simpa using hz
    have e1 : (n + 1) * s = n * s + s := by rw [Nat.add_mul, Nat.one_mul]
    simp only [List.flatten_cons, List.flatten_nil, List.append_nil]
    by_cases h1 : j < n * s
    · rw [List.getElem?_append_left (by rw [hsz]; exact h1)]
      simp [madeCells, h1, e1, Nat.lt_add_right s h1]
    · rw [List.getElem?_append_right (by rw [hsz]; omega), hsz]
      by_cases h2 : j < n * s + s
      · have hm : j % s = j - n * s := by
          have : j = (j - n * s) + s * n := by have := Nat.mul_comm s n; omega
          conv => lhs; rw [this]
          rw [Nat.add_mul_mod_self_left, Nat.mod_eq_of_lt (by omega)]
        have hb : j - n * s < z.size := by omega
        simp only [madeCells, e1, hz]
        simp [h2, hm, Array.getElem?_eq_getElem hb]
        exact getElem!_pos z (j - n * s) hb
      · rw [List.getElem?_eq_none (by simp [madeCells, e1]; omega), List.getElem?_eq_none (by rw [hz']; omega)]

theorem own_new {ek : EK} {d : D} {i : TypeInfo} {z : Value} {n c : Nat} {e : TypeId} (hw : ek.width = i.size) (hi : 0 < i.size) (hz : z.cells.size = i.size) (hnc : n ≤ c) (hc : c ≤ maxLen)
    (hn : n = ek.len d) (hd : ek.cells d = (List.replicate n z.cells.toList).flatten) :
    OwnSl (w.alloc (.cells (madeCells z.cells (c * i.size)) e)) (.slice (some ⟨w.heap.size, 0, none⟩) n c) ek.width (ek.len d) (ek.cells d) := by
  refine .inr ⟨w.heap.size, c, _, e, (0, 0), by rw [hn], alloc_at w _, fun j _ hj => by simp only at hj; omega, by rw [← hn]; exact hnc, hc, by rw [hw]; exact size_madeCells _ _, ?_, ?_⟩
  · rw [hd, ← hn, hw]
    have : ∀ n, (List.replicate n z.cells.toList).flatten.length = n * i.size := by
      intro n
      induction n with
      | zero => simp
      | succ n ih => rw [List.replicate_succ, List.flatten_cons, List.length_append, ih, Array.length_toList, hz, Nat.add_mul, Nat.one_mul]; omega
    exact this n
  · rw [hd, ← hn, hw, madeCells_toList hi hz]
    obtain ⟨m, rfl⟩ : ∃ m, c = n + m := ⟨c - n, by omega⟩
    rw [← List.replicate_append_replicate, List.flatten_append]
    refine List.take_left' ?_
    have : ∀ n, (List.replicate n z.cells.toList).flatten.length = n * i.size := by
      intro n
      induction n with
      | zero => simp
      | succ n ih => rw [List.replicate_succ, List.flatten_cons, List.length_append, ih, Array.length_toList, hz, Nat.add_mul, Nat.one_mul]; omega
    exact this n

theorem ekRep_elems {ek : EK} {l z : Tm} {x : D} {n : Nat} (hl : (l.den ρ).toI.toNat = n) (hx : x = payOf ek (z.den ρ)) :
    toElems ek ((ekRep ek l z).den ρ) = List.replicate n x := by
  subst hx
  rcases ek with _ | ⟨c, _ | ⟨c', cs⟩⟩
  · simp [ekRep, toElems, Tm.den, O2.den, hl, payOf]
  · cases c <;> simp [ekRep, toElems, Tm.den, O2.den, hl, payOf]
  · cases c <;> simp [ekRep, toElems, Tm.den, O2.den, hl, payOf]

theorem makeSliceS_ok {t : TypeId} {l c : SV} {u v : Value} (hr : Rel G w0 D0 R0 ρ S a w) (h : makeSliceS cx S t l c k = .ok vc) (hd : vc.den E ρ) (hl : l.holds ρ u) (hc : c.holds ρ v) :
    Out E G w0 D0 R0 ρ a k ((Instr.makeSlice t u v).run cx.P w) := by
  unfold makeSliceS at h
  split at h
  · rename_i e lt ct ht
    obtain ⟨rfl, hl⟩ := hl
    obtain ⟨rfl, hc⟩ := hc
    split at h
    · rename_i ek zs hek hzs
      split at h
      · rename_i zt i hzt hi
        split at h
        · rename_i hcond
          obtain ⟨hw, hi0, hib, hpw⟩ := hcond
          obtain ⟨i', z, hi', hz, hp⟩ := zeroPts_ok (ρ := ρ) hzs
          rw [hi] at hi'; cases hi'
          have hzsz : z.cells.size = i.size := by rw [← hpw, ← ptsHold_length hp]; simp
          obtain ⟨x, x1, x2, x3⟩ := elemTm_ok hzt hp
          have hmax : maxLen = 9223372036854775807 := by decide
          split at h
          · rename_i hlc
            subst hlc
            obtain ⟨e1, vc1, h1, d1⟩ := oblLe_ok h hd
            obtain ⟨e2, vc2, h2, d2⟩ := oblLe_ok h1 d1
            obtain ⟨n, hn⟩ : ∃ n : Nat, (lt.den ρ).toI = n := ⟨(lt.den ρ).toI.toNat, by simp only [Tm.den, D.toI_I] at e1; omega⟩
            rw [hn] at e2 hl
            obtain ⟨b1, b2⟩ := le_div_bytes hib e2
            have hb : (i.bytes : Int) * (n : Int) ≤ 281474976710656 := by
              rw [← Int.natCast_mul, Nat.mul_comm]
              exact Int.le_trans (Int.ofNat_le.2 b1) (by decide)
            rw [hn, run_make (P := cx.P) w t e i z ht hi hz .i64 .i64 n n (by omega) (Int.le_refl _) hb (by omega), Int.toNat_natCast]
            have hto : (lt.den ρ).toI.toNat = n := by rw [hn]; rfl
            have hel := ekRep_elems (ek := ek) (l := lt) (z := zt) hto x3
            refine newOsl_ok hr h2 d2 (ext_alloc w _) (own_new hw hi0 hzsz (Nat.le_refl _) (by omega) (by rw [len_eq, hel, List.length_replicate]) ?_) ?_ (fun b hb => by cases hb; exact Nat.le_refl _)
            · rw [cells_eq, hel]; exact flatMap_replicate_const _ _ _ x1.symm n
            · rw [ok_iff, hel]; intro y hy; rw [(List.mem_replicate.1 hy).2]; exact x2
          · split at h
            · rename_i _ hl0
              subst hl0
              obtain ⟨e1, vc1, h1, d1⟩ := oblLe_ok h hd
              obtain ⟨e2, vc2, h2, d2⟩ := oblLe_ok h1 d1
              obtain ⟨n, hn⟩ : ∃ n : Nat, (ct.den ρ).toI = n := ⟨(ct.den ρ).toI.toNat, by simp only [Tm.den, D.toI_I] at e1; omega⟩
              rw [hn] at e2
              obtain ⟨b1, b2⟩ := le_div_bytes hib e2
              have hb : (i.bytes : Int) * (n : Int) ≤ 281474976710656 := by
                rw [← Int.natCast_mul, Nat.mul_comm]
                exact Int.le_trans (Int.ofNat_le.2 b1) (by decide)
              have h0 : ((Tm.int 0).den ρ).toI = 0 := rfl
              rw [hn, h0, run_make (P := cx.P) w t e i z ht hi hz .i64 .i64 0 n (by omega) (by omega) hb (by omega), Int.toNat_natCast]
              have hnil := ekNil_elems ek ρ
              refine newOsl_ok hr h2 d2 (ext_alloc w _) (own_new (n := 0) hw hi0 hzsz (Nat.zero_le _) (by omega) (by rw [len_eq, hnil]; rfl) ?_) ?_ (fun b hb => by cases hb; exact Nat.le_refl _)
              · rw [cells_eq, hnil]; rfl
              · rw [ok_iff, hnil]; intro y hy; cases hy
            · cases h
        · cases h
      · cases h
    · cases h
  · cases h

theorem foldl_writeAt (off : Nat) : ∀ (l : List Value) (s : Nat) (cs : Array Value), (l.zipIdx s).foldl (fun cs (x : Value × Nat) => cs.setIfInBounds (off + x.2) x.1) cs = writeAt cs (off + s) l
  | [], _, _ => rfl
  | v :: l, s, cs => by
    simp only [List.zipIdx_cons, List.foldl_cons, writeAt]
    rw [foldl_writeAt off l (s + 1)]; rfl

theorem fillS_ok {place : Nat → Option (Nat × Nat × TypeId)} (hr : Rel G w0 D0 R0 ρ S a w) : ∀ {args : List (Nat × Operand)} {ps qs : List Pt} {cells : Array Value}, fillS cx S place args ps = .ok qs → ptsHold ρ ps cells.toList →
    ∃ cells', Instr.fill (fun i => (place i).map fun x => (x.1, x.2.1)) cells (args.map fun (i, x) => (i, a.eval x)) = some cells' ∧ ptsHold ρ qs cells'.toList
  | [], ps, qs, cells, h, hp => by simp only [fillS] at h; cases h; exact ⟨cells, rfl, hp⟩
  | (i, x) :: r, ps, qs, cells, h, hp => by
    unfold fillS at h
    split at h
    · cases h
    · rename_i off size t hpl
      split at h
      · cases h
      · rename_i v hv
        split at h
        · rename_i ps' hst
          obtain ⟨pre, old, rs, e1, e2, e3, e4, e5, e6⟩ := storeParts_ok hr.heap hst (evT_ok hr hv) hp
          have hwr := writeAt_toList (cs := cells) e1 e3
          rw [e2] at hwr
          obtain ⟨cells', c1, c2⟩ := fillS_ok hr (cells := writeAt cells off (a.eval x).cells.toList) h (by rw [hwr]; exact e6)
          refine ⟨cells', ?_, c2⟩
          have hle : off + (a.eval x).cells.size ≤ cells.size := by
            have : cells.toList.length = pre.length + (old.length + rs.length) := by rw [e1]; simp
            rw [Array.length_toList, e2, e3, Array.length_toList] at this
            omega
          simp only [List.map_cons, Instr.fill, hpl, Option.map_some]
          rw [if_neg (by simp [e4]; omega), ← c1]
          congr 1
          rw [← Array.foldl_toList, Array.toList_zipIdx]
          have := foldl_writeAt off (a.eval x).cells.toList 0 cells
          rw [Nat.add_zero] at this
          exact this
        · cases h

theorem places_mapM {P : Program} : ∀ {fs : List Field}, (∀ f ∈ fs, P.cellsOf f.type ≠ 0) → fs.mapM (fun f => (P.info? f.type).map fun i => (f.offset, i.size)) = some (fs.map fun f => (f.offset, P.cellsOf f.type))
  | [], _ => rfl
  | f :: fs, h => by
    have h1 := h f (by simp)
    have ih := places_mapM (fs := fs) (fun g hg => h g (by simp [hg]))
    unfold Program.cellsOf at h1 ⊢
    cases hi : P.info? f.type with
    | none => rw [hi] at h1; simp at h1
    | some i =>
      unfold Program.cellsOf at ih
      simp [List.mapM_cons, hi, ih]

theorem buildS_ok {t : TypeId} {args : Array (Nat × Operand)} (hr : Rel G w0 D0 R0 ρ S a w) (h : buildS cx S t args.toList ret = .ok vc) (hd : vc.den E ρ) :
    ∃ z, Met E ρ ret z ∧ ∀ w', (Instr.build t (args.map fun (i, x) => (i, a.eval x))).run cx.P w' = .ok z w' := by
  have hm : (args.map fun (i, x) => (i, a.eval x)).toList = args.toList.map fun (i, x) => (i, a.eval x) := by simp
  unfold buildS at h
  split at h
  · rename_i fs zs hu hz
    obtain ⟨i, z, hi, hz, hp⟩ := zeroPts_ok (ρ := ρ) hz
    split at h
    · rename_i hfs
      have hfs : ∀ f ∈ fs.toList, cx.P.cellsOf f.type ≠ 0 := by
        rw [← Array.all_toList] at hfs
        intro f hf
        simpa using List.all_eq_true.1 hfs f hf
      split at h
      · rename_i ps hps
        obtain ⟨cells', c1, c2⟩ := fillS_ok hr hps hp
        refine ⟨.agg cells', ⟨_, vc, h, hd, cells', rfl, c2⟩, fun w' => run_build w' t _ cells' ?_⟩
        unfold Program.built
        simp only [hi, hu, hz, places_mapM hfs, hm]
        rw [← c1]
        congr 1
        funext j
        simp [Option.map_map]; rfl
      · cases h
    · cases h
  · rename_i n e zs hu hz
    obtain ⟨i, z, hi, hz, hp⟩ := zeroPts_ok (ρ := ρ) hz
    split at h
    · cases h
    · rename_i hs
      split at h
      · rename_i ps hps
        obtain ⟨cells', c1, c2⟩ := fillS_ok hr hps hp
        refine ⟨.agg cells', ⟨_, vc, h, hd, cells', rfl, c2⟩, fun w' => run_build w' t _ cells' ?_⟩
        unfold Program.built
        unfold Program.cellsOf at hs c1
        cases hie : cx.P.info? e with
        | none => rw [hie] at hs; simp at hs
        | some ie =>
          rw [hie] at c1
          simp only [hi, hu, hz, hie, hm]
          exact c1
      · cases h
  · cases h

def allHold (ρ : List D) : List (List Pt) → List Value → Prop
  | [], [] => True
  | ps :: pss, v :: vs => ptsHold ρ ps v.cells.toList ∧ allHold ρ pss vs
  | _, _ => False

theorem buildElems_ok {e : TypeId} {size : Nat} (hr : Rel G w0 D0 R0 ρ S a w) : ∀ {args : List (Nat × Operand)} {j : Nat} {pss : List (List Pt)}, buildElems cx S e size j args = .ok pss →
    ∃ vs : List Value, (args.map fun (i, x) => (i, a.eval x)) = (vs.zipIdx j).map (fun x => (x.2, x.1)) ∧ (∀ v ∈ vs, v.cells.size = size) ∧ vs.length = args.length ∧ allHold ρ pss vs
  | [], j, pss, h => by simp only [buildElems] at h; cases h; exact ⟨[], rfl, by simp, rfl, trivial⟩
  | (i, x) :: r, j, pss, h => by
    unfold buildElems at h
    split at h
    · rename_i hij
      subst hij
      split at h
      · cases h
      · rename_i v hv
        split at h
        · cases h
        · rename_i ps hps
          split at h
          · rename_i hsz
            split at h
            · rename_i pss' hr'
              cases h
              obtain ⟨vs, h1, h2, h3, h4⟩ := buildElems_ok hr hr'
              have hp := svParts_ok hr.heap hps (evT_ok hr hv)
              refine ⟨a.eval x :: vs, ?_, ?_, by simp [h3], ⟨hp, h4⟩⟩
              · simp [List.zipIdx_cons, h1]
              · intro u hu
                rcases List.mem_cons.1 hu with rfl | hu
                · rw [← hsz, ← ptsHold_length hp]; simp
                · exact h2 u hu
            · cases h
          · cases h
    · cases h

theorem listTm_ok {ek : EK} : ∀ {pss : List (List Pt)} {vs : List Value} {L : Tm}, listTm ek pss = some L → allHold ρ pss vs →
    ek.cells (L.den ρ) = vs.flatMap (fun v => v.cells.toList) ∧ ek.ok (L.den ρ) ∧ ek.len (L.den ρ) = vs.length
  | [], _ :: _, L, h, hv => by cases hv
  | [], [], L, h, hv => by
    have he : toElems ek (L.den ρ) = [] := by
      unfold listTm at h
      rcases ek with _ | ⟨c, _ | ⟨c', cs⟩⟩
      · cases h; rfl
      · cases c <;> cases h <;> rfl
      · cases c <;> cases h <;> rfl
    refine ⟨by rw [cells_eq, he]; rfl, ?_, by rw [len_eq, he]; rfl⟩
    rw [ok_iff, he]; intro x hx; cases hx
  | _ :: _, [], L, h, hv => by cases hv
  | ps :: pss, v :: vs, L, h, hv => by
      obtain ⟨hp, hv⟩ := hv
      unfold listTm at h
      split at h
      · cases h
      · rename_i L' hL'
        obtain ⟨i1, i2, i3⟩ := listTm_ok hL' hv
        have key : ∃ u : Tm, elemTm ek ps = some u ∧ toElems ek (L.den ρ) = payOf ek (u.den ρ) :: toElems ek (L'.den ρ) := by
          rcases ek with _ | ⟨c, _ | ⟨c', cs⟩⟩
          · simp only at h
            split at h
            · rename_i t ht; cases h; exact ⟨t, by simpa [elemTm] using ht, rfl⟩
            · cases h
          · rcases ps with _ | ⟨p, _ | ⟨p', ps⟩⟩
            · cases c <;> simp [rowTm] at h
            · cases c with
              | int k =>
                cases p with
                | lf l =>
                  cases l <;> simp [ptTm] at h
                  rename_i k' t
                  obtain ⟨rfl, rfl⟩ := h
                  exact ⟨t, by simp [elemTm], rfl⟩
                | ints => simp [ptTm] at h
              | bool => simp only at h; split at h <;> first | (rename_i t ht; cases h; exact ⟨t, ht, rfl⟩) | cases h
              | str => simp only at h; split at h <;> first | (rename_i t ht; cases h; exact ⟨t, ht, rfl⟩) | cases h
              | ints k n => simp only at h; split at h <;> first | (rename_i t ht; cases h; exact ⟨t, ht, rfl⟩) | cases h
            · cases c <;> simp [rowTm] at h
          · have h' : (match rowTm (c :: c' :: cs) ps with | some t => some (Tm.o2 .lcons t L') | none => none) = some L := by cases c <;> exact h
            split at h'
            · rename_i t ht
              cases h'
              refine ⟨t, by cases c <;> exact ht, ?_⟩
              cases c <;> rfl
            · cases h'
        obtain ⟨u, hu, hel⟩ := key
        obtain ⟨x, x1, x2, x3⟩ := elemTm_ok hu hp
        rw [← x3] at hel
        refine ⟨?_, ?_, ?_⟩
        · rw [cells_eq, hel, List.flatMap_cons, ← cells_eq, i1, List.flatMap_cons, x1]
        · rw [ok_iff, hel]
          intro y hy
          rcases List.mem_cons.1 hy with rfl | hy
          · exact x2
          · exact (ok_iff ek _).1 i2 y hy
        · rw [len_eq, hel, List.length_cons, ← len_eq, i3]; rfl

theorem buildSliceS_ok {t : TypeId} {len : Nat} {args : Array (Nat × Operand)} (hr : Rel G w0 D0 R0 ρ S a w) (h : buildSliceS cx S t len args.toList k = .ok vc) (hd : vc.den E ρ) :
    Out E G w0 D0 R0 ρ a k ((Instr.buildSlice t len (args.map fun (i, x) => (i, a.eval x))).run cx.P w) := by
  have hm : (args.map fun (i, x) => (i, a.eval x)).toList = args.toList.map fun (i, x) => (i, a.eval x) := by simp
  unfold buildSliceS at h
  split at h
  · rename_i e ht
    split at h
    · rename_i ek pss i hek hpss hi
      split at h
      · rename_i L hL
        split at h
        · rename_i hc
          obtain ⟨hw, hc0, hlen, hbig, hzs⟩ := hc
          obtain ⟨z, hz⟩ := Option.isSome_iff_exists.1 hzs
          have hsz : cx.P.cellsOf e = i.size := by simp [Program.cellsOf, hi]
          rw [hsz] at hpss hw hc0
          obtain ⟨vs, v1, v2, v3, v4⟩ := buildElems_ok hr hpss
          obtain ⟨c1, c2, c3⟩ := listTm_ok hL v4
          have hvl : vs.length = len := by rw [v3]; exact hlen
          by_cases h0 : len = 0
          · have hvs : vs = [] := List.eq_nil_of_length_eq_zero (by rw [hvl, h0])
            subst hvs
            have hrun : (Instr.buildSlice t len (args.map fun (i, x) => (i, a.eval x))).run cx.P w = .ok (.slice (some ⟨w.heap.size, 0, none⟩) len len) (w.alloc (.cells #[] e)) := by
              have hal : args = #[] := Array.toList_eq_nil_iff.1 (List.map_eq_nil_iff.1 (v1.trans rfl))
              simp [Instr.buildSlice, run_underlying ht, sizeOf, typeInfo, hi, h0, hal, Instr.fill, newRow, Array.range_zero']
            rw [hrun]
            refine newOsl_ok hr h hd (ext_alloc w _) (.inr ⟨w.heap.size, len, #[], e, (0, 0), ?_, alloc_at w _, fun j _ hj => by simp only at hj; omega, ?_, ?_, ?_, ?_, ?_⟩) c2 (fun b hb => by cases hb; exact Nat.le_refl _)
            · rw [c3, hvl]
            · rw [c3, hvl]; exact Nat.le_refl _
            · rw [h0]; exact Nat.zero_le _
            · rw [h0]; simp
            · rw [c1, c3]; simp
            · rw [c1]; simp
          · have hbig' : len * i.size ≤ 16777216 := by rw [← hw]; exact hbig
            have hlen' : len ≤ 16777216 := Nat.le_trans (Nat.le_mul_of_pos_right len (Nat.pos_of_ne_zero hc0)) hbig'
            have hfill := Great.fill_whole (s := i.size) (Nat.pos_of_ne_zero hc0) vs ((Array.range (len * i.size)).map (z.cells[· % z.cells.size]!)) v2 (by rw [hvl]; simp)
            have hrun := run_buildSlice (P := cx.P) w t e len (args.map fun (i, x) => (i, a.eval x)) _ i z ht hi hz (by omega) (by intro hh; rcases Nat.mul_eq_zero.1 hh with h' | h' <;> omega) (by rw [hm, v1]; exact hfill)
            rw [hrun]
            have hfl : (vs.flatMap fun v => v.cells.toList).length = len * i.size := by
              rw [← hvl]; exact flatMap_length (fun v hv => by rw [Array.length_toList]; exact v2 v hv)
            refine newOsl_ok hr h hd (ext_alloc w _) (.inr ⟨w.heap.size, len, _, e, (0, 0), ?_, alloc_at w _, fun j _ hj => by simp only at hj; omega, ?_, ?_, ?_, ?_, ?_⟩) c2 (fun b hb => by cases hb; exact Nat.le_refl _)
            · rw [c3, hvl]
            · rw [c3, hvl]; exact Nat.le_refl _
            · have : maxLen = 9223372036854775807 := by decide
              omega
            · rw [hw]; simpa using hfl
            · rw [c1, c3, hvl, hw]; exact hfl
            · rw [c1, c3, hvl, hw, List.take_of_length_le (by simpa using Nat.le_of_eq hfl)]
        · cases h
      · cases h
    · cases h
    · cases h
  · cases h
end
end Go.Vc
namespace Go.Vc
theorem lfFacts_ok {ρ : List D} {l : Lf} {v : Value} (h : l.holds ρ v) : ∀ f ∈ lfFacts l, f.den ρ := by
  intro f hf
  cases l <;> simp only [lfFacts, List.mem_singleton, List.not_mem_nil] at hf
  · subst hf; exact h.2
  · subst hf; exact h.2

theorem ptsFacts_ok {ρ : List D} : ∀ {ps : List Pt} {vs : List Value}, ptsHold ρ ps vs → ∀ f ∈ ps.flatMap ptFacts, f.den ρ
  | [], _, _, f, hf => by simp at hf
  | .lf l :: ps, vs, h, f, hf => by
    obtain ⟨v, r, rfl, h1, _, h2⟩ := h
    rw [List.flatMap_cons, List.mem_append] at hf
    rcases hf with hf | hf
    · exact lfFacts_ok h1 f hf
    · exact ptsFacts_ok h2 f hf
  | .ints k n L :: ps, vs, h, f, hf => by
    obtain ⟨r, rfl, h1, h2, h3⟩ := h
    rw [List.flatMap_cons, List.mem_append] at hf
    rcases hf with hf | hf
    · simp only [ptFacts, List.mem_cons, List.not_mem_nil, or_false] at hf
      rcases hf with rfl | rfl
      · exact h1
      · exact h2
    · exact ptsFacts_ok h3 f hf

theorem s0Facts_ok {ρ : List D} {x : S0} {v : Value} (h : x.holds ρ v) : ∀ f ∈ s0Facts x, f.den ρ := by
  cases x with
  | lf l => exact lfFacts_ok h
  | agg ps => obtain ⟨cs, _, h⟩ := h; exact ptsFacts_ok h

theorem s0sFacts_ok {ρ : List D} : ∀ {xs : List S0} {vs : List Value}, s0sHold ρ xs vs → ∀ f ∈ xs.flatMap s0Facts, f.den ρ
  | [], _, _, f, hf => by simp at hf
  | x :: xs, vs, h, f, hf => by
    obtain ⟨v, r, rfl, h1, h2⟩ := h
    rw [List.flatMap_cons, List.mem_append] at hf
    rcases hf with hf | hf
    · exact s0Facts_ok h1 f hf
    · exact s0sFacts_ok h2 f hf

theorem svFacts_ok {ρ : List D} {x : SV} {v : Value} (h : x.holds ρ v) : ∀ f ∈ svFacts x, f.den ρ := by
  cases x with
  | one x => exact s0Facts_ok h
  | tup xs => obtain ⟨vs, _, h⟩ := h; exact s0sFacts_ok h

theorem svsFacts_ok {ρ : List D} : ∀ {xs : List SV} {vs : List Value}, svsHold ρ xs vs → ∀ f ∈ xs.flatMap svFacts, f.den ρ
  | [], _, _, f, hf => by simp at hf
  | x :: xs, vs, h, f, hf => by
    obtain ⟨v, r, rfl, h1, h2⟩ := h
    rw [List.flatMap_cons, List.mem_append] at hf
    rcases hf with hf | hf
    · exact svFacts_ok h1 f hf
    · exact svsFacts_ok h2 f hf

theorem ekFacts_ok {ρ : List D} {ek : EK} {L : Tm} (h : ek.ok (L.den ρ)) : ∀ f ∈ (match ek with | [.int k] => [Fact.allHas k L] | ek => [Fact.ekok ek L]), f.den ρ := by
  intro f hf
  split at hf
  · simp only [List.mem_singleton] at hf; subst hf; exact h
  · simp only [List.mem_singleton] at hf; subst hf; exact h

theorem chFacts_ok {ρ : List D} {c : Ch} {w : World} (h : c.holds ρ w) : ∀ f ∈ chFacts c, f.den ρ := by
  cases c with
  | box b ps => obtain ⟨cs, e, fz, _, _, h⟩ := h; exact ptsFacts_ok h
  | osl a ek L => exact ekFacts_ok h.2
  | rsl a ek L => exact ekFacts_ok h.2

theorem heapFacts_ok {ρ : List D} {hs : List Ch} {w : World} (h : HeapOk ρ hs w) : ∀ f ∈ hs.flatMap chFacts, f.den ρ := by
  intro f hf
  obtain ⟨c, hc, hf⟩ := List.mem_flatMap.1 hf
  exact chFacts_ok (h.holds c hc) f hf

theorem knows_ok {E : Env} {ρ : List D} : ∀ {fs : List Fact} {k : M} {vc : VC}, knows fs k = .ok vc → vc.den E ρ → (∀ f ∈ fs, f.den ρ) → ∃ vc', k = .ok vc' ∧ vc'.den E ρ
  | [], k, vc, h, hd, _ => ⟨vc, h, hd⟩
  | f :: fs, k, vc, h, hd, hf => by
    simp only [knows] at h
    split at h
    · rename_i v hv
      cases h
      exact knows_ok hv (hd (hf f (by simp))) (fun g hg => hf g (by simp [hg]))
    · cases h

theorem takeOut_ok {c : Ch} : ∀ {hs r : List Ch}, takeOut c hs = some r → hs.Perm (c :: r)
  | [], r, h => by simp [takeOut] at h
  | x :: hs, r, h => by
    simp only [takeOut] at h
    split at h
    · rename_i e; cases h; rw [e]
    · split at h
      · rename_i r' hr; cases h
        exact (List.Perm.cons x (takeOut_ok hr)).trans (List.Perm.swap c x r')
      · cases h

def owners (pat : List Ch) : List Ch := pat.filter (fun c => !isRo c)

theorem takeAll_ok : ∀ {pat hs r : List Ch}, takeAll pat hs = some r → hs.Perm (owners pat ++ r)
  | [], hs, r, h => by simp only [takeAll] at h; cases h; exact List.Perm.refl _
  | c :: pat, hs, r, h => by
    simp only [takeAll] at h
    split at h
    · rename_i hc
      have := takeAll_ok h
      simpa [owners, hc] using this
    · rename_i hc
      split at h
      · rename_i r' hr'
        have := (takeOut_ok hr').trans (List.Perm.cons c (takeAll_ok h))
        have e : owners (c :: pat) = c :: owners pat := by simp [owners, hc]
        rw [e]; exact this
      · cases h

theorem own_isRo {ρ : List D} {c : Ch} (h : isRo c = true) : c.own ρ = none := by cases c <;> first | rfl | cases h
theorem ro_isRo {ρ : List D} {c : Ch} (h : isRo c = false) : c.ro ρ = none := by cases c <;> first | rfl | cases h

theorem owns_owners {ρ : List D} : ∀ (pat : List Ch), owns ρ (owners pat) = owns ρ pat
  | [] => rfl
  | c :: pat => by
    have ih := owns_owners (ρ := ρ) pat
    by_cases hc : isRo c = true
    · have e : owners (c :: pat) = owners pat := by simp [owners, hc]
      rw [e, ih, owns, owns, List.filterMap_cons, own_isRo hc]
    · have e : owners (c :: pat) = c :: owners pat := by simp [owners, hc]
      rw [e]
      simp only [owns, List.filterMap_cons] at ih ⊢
      rw [ih]

theorem cover_ok {strict : Bool} {pat hs rest : List Ch} {ρ : List D} {w : World} (h : cover strict pat hs = some rest) (hh : HeapOk ρ hs w) :
    HeapOk ρ pat w ∧ hs.Perm (owners pat ++ rest) ∧ (∀ b ∈ ros ρ pat, b ∈ ros ρ rest ∨ (strict = false ∧ b ∈ owns ρ rest)) := by
  unfold cover at h
  split at h
  · rename_i r hr
    split at h
    · rename_i hall
      cases h
      have hp := takeAll_ok hr
      have hall : ∀ c ∈ pat, roIn strict rest c = true := fun c hc => List.all_eq_true.1 hall c hc
      have hnd : (owns ρ (owners pat) ++ owns ρ rest).Nodup := by
        rw [← owns_append]; exact (hp.filterMap _).nodup_iff.1 hh.nodup
      have hsub : ∀ c, c ∈ rest → c ∈ hs := fun c hc => hp.mem_iff.2 (List.mem_append.2 (.inr hc))
      have hro : ∀ c ∈ pat, ∀ b, c.ro ρ = some b → b ∈ ros ρ rest ∨ (strict = false ∧ b ∈ owns ρ rest) := by
        intro c hc b hb
        cases c with
        | box => cases hb
        | osl => cases hb
        | rsl a ek L =>
          have := hall _ hc
          simp only [roIn, Bool.or_eq_true, Bool.and_eq_true, List.any_eq_true, decide_eq_true_eq, Bool.not_eq_true'] at this
          rcases this with ⟨x, hx, rfl⟩ | ⟨hst, x, hx, rfl⟩
          · exact .inl (mem_ros.2 ⟨_, hx, hb⟩)
          · exact .inr ⟨hst, mem_owns.2 ⟨_, hx, hb⟩⟩
      refine ⟨⟨fun c hc => ?_, ?_, fun c hc b hb hm => ?_⟩, hp, fun b hb => ?_⟩
      · by_cases hr : isRo c = true
        · cases c with
          | box => cases hr
          | osl => cases hr
          | rsl a ek L =>
            have := hall _ hc
            simp only [roIn, Bool.or_eq_true, Bool.and_eq_true, List.any_eq_true, decide_eq_true_eq, Bool.not_eq_true'] at this
            rcases this with ⟨x, hx, rfl⟩ | ⟨_, x, hx, rfl⟩
            · exact hh.holds _ (hsub _ hx)
            · have := hh.holds _ (hsub _ hx); exact ⟨this.1.rd, this.2⟩
        · exact hh.holds _ (hp.mem_iff.2 (List.mem_append.2 (.inl (List.mem_filter.2 ⟨hc, by simpa using hr⟩))))
      · rw [← owns_owners]; exact (List.nodup_append.1 hnd).1
      · rw [← owns_owners] at hm
        rcases hro c hc b hb with h1 | ⟨_, h1⟩
        · obtain ⟨c', hc', hb'⟩ := mem_ros.1 h1
          refine hh.ro c' (hsub _ hc') b hb' ?_
          rw [owns_perm hp, owns_append]; exact List.mem_append.2 (.inl hm)
        · exact (List.nodup_append.1 hnd).2.2 b hm b h1 rfl
      · obtain ⟨c, hc, hb⟩ := mem_ros.1 hb
        exact hro c hc b hb
    · cases h
  · cases h

section
variable {E : Env} {G : List Glob} {w0 : World} {D0 R0 : List Nat} {ρ : List D} {S : St} {a : Act} {w : World} {cx : Cx} {vc : VC} {ret : SV → M} {k : SV → St → M}
theorem freezeAll_ok : ∀ {pat : List Ch} {S : St}, Rel G w0 D0 R0 ρ S a w → Rel G w0 D0 R0 ρ { S with heap := freezeAll pat S.heap } a w
  | [], _, h => h
  | .box .. :: pat, S, h => freezeAll_ok (pat := pat) (S := S) h
  | .osl .. :: pat, S, h => freezeAll_ok (pat := pat) (S := S) h
  | .rsl t ek L :: pat, S, h => by
    simp only [freezeAll]
    refine freezeAll_ok (pat := pat) (S := { S with heap := freezeSl t S.heap }) ?_
    cases hf : findSl t S.heap with
    | some x => exact (freeze_ok h hf).1
    | none =>
      have : ∀ {hs : List Ch}, findSl t hs = none → freezeSl t hs = hs := by
        intro hs
        induction hs with
        | nil => intro _; rfl
        | cons c hs ih =>
          intro hn
          cases c with
          | box b ps => simp only [findSl] at hn; simp [freezeSl, ih hn]
          | osl b ek L => simp only [findSl] at hn; split at hn
                          · cases hn
                          · rename_i hb; simp [freezeSl, hb, ih hn]
          | rsl b ek L => simp only [findSl] at hn; split at hn
                          · cases hn
                          · rename_i hb; simp [freezeSl, hb, ih hn]
      rw [this hf]; exact h

theorem freshs_ok : ∀ {ss : List Srt} {S : St} {ρ σ : List D} {k : List Tm → St → M} {vc : VC}, Rel G w0 D0 R0 ρ S a w → freshs S ss k = .ok vc → vc.den E ρ → srtsOk ss σ →
    ∃ as vc', k as { S with srts := S.srts ++ ss } = .ok vc' ∧ vc'.den E (ρ ++ σ) ∧ Rel G w0 D0 R0 (ρ ++ σ) { S with srts := S.srts ++ ss } a w ∧ as.map (Tm.den (ρ ++ σ)) = σ ∧ as.length = σ.length ∧ (∀ x ∈ as, x.under (ρ.length + σ.length) = true)
  | [], S, ρ, σ, k, vc, hr, h, hd, hs => by
    cases σ with
    | nil => exact ⟨[], vc, by simpa [freshs] using h, by simpa using hd, by simpa using hr, rfl, rfl, by simp⟩
    | cons => exact hs.elim
  | s :: ss, S, ρ, σ, k, vc, hr, h, hd, hs => by
    cases σ with
    | nil => exact hs.elim
    | cons d σ =>
      obtain ⟨hd1, hs⟩ := hs
      simp only [freshs] at h
      obtain ⟨vc1, h1, d1, r1, e1⟩ := fresh_ok hr h hd hd1
      obtain ⟨as, vc2, h2, d2, r2, e2, e3, e4⟩ := freshs_ok r1 h1 d1 hs
      have hn := srtsOk_length hr.srts
      refine ⟨.at S.srts.length :: as, vc2, by simpa using h2, by simpa using d2, by simpa using r2, ?_, by simp [e3], ?_⟩
      · simp only [List.map_cons]
        have hu : (Tm.at S.srts.length).under (ρ ++ [d]).length = true := by simp [Tm.under, hn]
        have := Tm.den_below (σ := σ) hu
        rw [e1] at this
        simp only [List.append_assoc, List.singleton_append] at this e2
        rw [this, e2]
      · intro x hx
        rcases List.mem_cons.1 hx with rfl | hx
        · simp [Tm.under, ← hn]
        · have := e4 x hx
          simp only [List.length_append, List.length_cons, List.length_nil] at this
          rw [List.length_cons]
          exact Tm.under_mono this (by omega)

/-- The contracts that a function's conditions lean on hold. -/
def SigsOk (cx : Cx) (E : Env) : Prop := ∀ f c R, findSig f cx.sigs = some (c, R) → ∃ s : Sig, s.toSigR = R ∧ s.pre = E.pre c ∧ s.post = E.post c ∧ s.post2 = E.post (c + 200) ∧ s.Holds cx.P cx.G f ∧
  ∃ fn b, cx.P.funcs[f]? = some fn ∧ (fn.name == "runtime.NumGoroutine") = false ∧ fn.body = some b

theorem den_map_under {ρ σ : List D} : ∀ {θ : List Tm}, θ.all (Tm.under ρ.length) = true → θ.map (Tm.den (ρ ++ σ)) = θ.map (Tm.den ρ)
  | [], _ => rfl
  | t :: θ, h => by
    simp only [List.all_cons, Bool.and_eq_true] at h
    simp only [List.map_cons, Tm.den_below h.1, den_map_under h.2]

theorem owns_isRo {hs : List Ch} (h : ∀ c ∈ hs, isRo c = true) : owns ρ hs = [] := by
  induction hs with
  | nil => rfl
  | cons c hs ih =>
    have h1 := h c (by simp)
    have h2 := ih fun c hc => h c (by simp [hc])
    cases c with
    | rsl a ek L => simpa [owns, Ch.own] using h2
    | _ => simp [isRo] at h1

theorem both_ok {x y : M} (h : both x y = .ok vc) (hd : vc.den E ρ) : (∃ v, x = .ok v ∧ v.den E ρ) ∧ ∃ v, y = .ok v ∧ v.den E ρ := by
  unfold both at h
  split at h
  · cases h; exact ⟨⟨_, rfl, hd.1⟩, _, rfl, hd.2⟩
  · cases h
  · cases h

theorem callOne_ok {f c : Nat} {R : SigR} {args : List SV} {vals : Array Value} (hr : Rel cx.G w0 D0 R0 ρ S a w) (h : callOne S f c R args k = .ok vc) (hd : vc.den E ρ) (ha : svsHold ρ args vals.toList) :
    ∃ θ, bound (uChs 0 S.heap R.heap (uSVs 0 R.args args (List.replicate R.srts.length none))) = some θ ∧ srtsOk R.srts (θ.map (Tm.den ρ)) ∧ E.pre c (θ.map (Tm.den ρ)) ∧ svsHold (θ.map (Tm.den ρ)) R.args vals.toList ∧
      HeapOk (θ.map (Tm.den ρ)) R.heap w ∧ (∀ g ∈ cx.G, g.holds w ∧ g.g ∉ owns (θ.map (Tm.den ρ)) R.heap) ∧
      ∀ v w', Fit (E.post c) R (θ.map (Tm.den ρ)) w v w' → Out E cx.G w0 D0 R0 ρ a k (.ok v w') ∧ (R.heap.all isRo = true → Same w w') := by
  unfold callOne at h
  split at h
  · cases h
  rename_i θ hθ
  split at h
  · rename_i hargs
    obtain ⟨hargs, hund⟩ := hargs
    split at h
    · rename_i hshapes
      dsimp only at h
      generalize hH : (if R.heap'.any isRo then freezeAll (R.heap.map (Ch.subst 0 θ)) S.heap else S.heap) = H at h
      have hr1 : Rel cx.G w0 D0 R0 ρ { S with heap := H } a w := by
        subst hH
        split
        · exact freezeAll_ok hr
        · exact hr
      split at h
      · cases h
      rename_i rest hcov
      split at h
      · rename_i vcw hw
        cases h
        obtain ⟨hprec, hdw⟩ := hd
        have hlen := srtsOk_length hr.srts
        have hρ0 : θ.map (Tm.den ρ) = ([] : List D) ++ θ.map (Tm.den ([] ++ ρ)) := rfl
        obtain ⟨hpat, hperm, hros⟩ := cover_ok hcov hr1.heap
        have hpat' : HeapOk (θ.map (Tm.den ρ)) R.heap w := by
          have := HeapOk.of_subst (ρ := []) (σ := ρ) (θ := θ) hpat
          exact this
        have howns : owns ρ (R.heap.map (Ch.subst 0 θ)) = owns (θ.map (Tm.den ρ)) R.heap := owns_subst (ρ := []) (σ := ρ) (θ := θ) R.heap
        have hrosE : ros ρ (R.heap.map (Ch.subst 0 θ)) = ros (θ.map (Tm.den ρ)) R.heap := ros_subst (ρ := []) (σ := ρ) (θ := θ) R.heap
        have hsub : ∀ b ∈ owns (θ.map (Tm.den ρ)) R.heap, b ∈ owns ρ H := by
          intro b hb
          rw [← howns, ← owns_owners] at hb
          rw [owns_perm hperm, owns_append]; exact List.mem_append.2 (.inl hb)
        have hdisj : ∀ b ∈ owns (θ.map (Tm.den ρ)) R.heap, b ∉ owns ρ rest := by
          intro b hb hb'
          rw [← howns, ← owns_owners] at hb
          have hnd : (owns ρ (owners (R.heap.map (Ch.subst 0 θ))) ++ owns ρ rest).Nodup := by
            rw [← owns_append]; exact (hperm.filterMap _).nodup_iff.1 hr1.heap.nodup
          exact (List.nodup_append.1 hnd).2.2 b hb b hb' rfl
        have hrest : HeapOk ρ rest w := by
          refine ⟨fun c hc => hr1.heap.holds c (hperm.mem_iff.2 (List.mem_append.2 (.inr hc))), ?_, fun c hc b hb hm => ?_⟩
          · have hnd : (owns ρ (owners (R.heap.map (Ch.subst 0 θ))) ++ owns ρ rest).Nodup := by
              rw [← owns_append]; exact (hperm.filterMap _).nodup_iff.1 hr1.heap.nodup
            exact (List.nodup_append.1 hnd).2.1
          · exact hr1.heap.ro c (hperm.mem_iff.2 (List.mem_append.2 (.inr hc))) b hb (by rw [owns_perm hperm, owns_append]; exact List.mem_append.2 (.inr hm))
        have hownR : ∀ b ∈ owns ρ rest, b ∈ owns ρ H := fun b hb => by rw [owns_perm hperm, owns_append]; exact List.mem_append.2 (.inr hb)
        have hroR : ∀ b ∈ ros ρ rest, b ∈ ros ρ H := fun b hb => by rw [ros_perm hperm, ros_append]; exact List.mem_append.2 (.inr hb)
        have hroNo : ∀ b ∈ ros ρ rest, b ∉ owns ρ H := by
          intro b hb
          obtain ⟨c, hc, hb⟩ := mem_ros.1 hb
          exact hr1.heap.ro c (hperm.mem_iff.2 (List.mem_append.2 (.inr hc))) b hb
        have hargsv : svsHold (θ.map (Tm.den ρ)) R.args vals.toList := by
          have := svsHold_subst (ρ := []) (σ := ρ) (θ := θ) R.args vals.toList
          simp only [List.length_nil, List.nil_append] at this
          rw [← this, hargs]; exact ha
        refine ⟨θ, hθ, shapes_ok hr.srts hshapes, hprec, hargsv, hpat', fun g hg => ⟨(hr1.globs g hg).1, fun hm => (hr1.globs g hg).2 (hsub _ hm)⟩, ?_⟩
        rintro v w' ⟨σ, hσ, hpo, hres, hheap, hown', hro', hfr⟩
        refine ⟨?_, fun hq => ?_⟩
        rotate_left
        · refine ⟨hfr.size, fun b hb => hfr.block b hb ?_⟩
          rw [owns_isRo (by simpa using hq)]; simp
        -- the rest in the new world
        have hkeep : ∀ b, b < w.heap.size → b ∉ owns (θ.map (Tm.den ρ)) R.heap → w'.heap[b]? = w.heap[b]? := hfr.block
        have hrest' : HeapOk ρ rest w' := hrest.congr (fun b hb => hkeep b (hb.elim hrest.own_lt hrest.ro_lt) (fun hm => hb.elim (fun h => hdisj b hm h) (fun h => hroNo b h (hsub b hm)))) hfr.size
        have hr2 : Rel cx.G w0 D0 R0 ρ { S with heap := rest } a w' := by
          refine hr1.reheap (hs := rest) hrest' hfr.size (fun b hb hn => hkeep b hb (fun hm => hn (hsub b hm))) hfr.os hfr.tape hfr.output (fun b hb => .inl (hownR b hb)) (fun b hb => .inr (.inl (hroR b hb)))
        obtain ⟨as, vc2, h2, d2, r2, e2, e3, e4⟩ := freshs_ok hr2 hw hdw hσ
        have hund' : θ.all (Tm.under ρ.length) = true := by rw [hlen]; exact hund
        have hθ' : (θ ++ as).map (Tm.den (ρ ++ σ)) = θ.map (Tm.den ρ) ++ σ := by rw [List.map_append, den_map_under hund', e2]
        unfold callK at h2
        dsimp only at h2
        split at h2
        · rename_i vc3 h3
          cases h2
          have d3 := d2 (by rw [hθ']; exact hpo)
          have hv : (R.res.subst 0 (θ ++ as)).holds (ρ ++ σ) v := by
            have := SV.holds_subst (ρ := []) (σ := ρ ++ σ) (θ := θ ++ as) R.res v
            simp only [List.length_nil, List.nil_append] at this
            rw [this, hθ']; exact hres
          have hhs : HeapOk (ρ ++ σ) (R.heap'.map (Ch.subst 0 (θ ++ as))) w' := by
            have := HeapOk.to_subst (ρ := []) (σ := ρ ++ σ) (θ := θ ++ as) (hs := R.heap') (w := w')
            simp only [List.length_nil, List.nil_append] at this
            exact this (by rw [hθ']; exact hheap)
          have hoE : owns (ρ ++ σ) (R.heap'.map (Ch.subst 0 (θ ++ as))) = owns (θ.map (Tm.den ρ) ++ σ) R.heap' := by
            have := owns_subst (ρ := []) (σ := ρ ++ σ) (θ := θ ++ as) R.heap'
            simp only [List.length_nil, List.nil_append] at this
            rw [this, hθ']
          have hrE : ros (ρ ++ σ) (R.heap'.map (Ch.subst 0 (θ ++ as))) = ros (θ.map (Tm.den ρ) ++ σ) R.heap' := by
            have := ros_subst (ρ := []) (σ := ρ ++ σ) (θ := θ ++ as) R.heap'
            simp only [List.length_nil, List.nil_append] at this
            rw [this, hθ']
          have hfacts : ∀ f ∈ (svFacts (R.res.subst 0 (θ ++ as)) ++ (R.heap'.map (Ch.subst 0 (θ ++ as))).flatMap chFacts).filter (Fact.at ((S.srts ++ R.news).length - as.length)), f.den (ρ ++ σ) := by
            intro f hf
            rcases List.mem_append.1 (List.mem_filter.1 hf).1 with hf | hf
            · exact svFacts_ok hv f hf
            · exact heapFacts_ok hhs f hf
          obtain ⟨vc4, h4, d4⟩ := knows_ok h3 d3 hfacts
          -- the rest's blocks, said of the longer payload
          have hro2 : ∀ b ∈ owns (ρ ++ σ) rest, b ∈ owns ρ rest := by
            intro b hb
            cases hn : R.news with
            | nil =>
              have : σ = [] := by cases σ with | nil => rfl | cons d σ => rw [hn] at hσ; exact hσ.elim
              subst this; rw [List.append_nil] at hb; exact hb
            | cons x xs =>
              rw [hn] at hw
              simp only [freshs, fresh] at hw
              split at hw
              · rename_i hu
                simp only [St.under, Bool.and_eq_true, ← hlen] at hu
                rw [owns_under hu.2] at hb; exact hb
              · cases hw
          have hro3 : ∀ b ∈ ros (ρ ++ σ) rest, b ∈ ros ρ rest := by
            intro b hb
            cases hn : R.news with
            | nil =>
              have : σ = [] := by cases σ with | nil => rfl | cons d σ => rw [hn] at hσ; exact hσ.elim
              subst this; rw [List.append_nil] at hb; exact hb
            | cons x xs =>
              rw [hn] at hw
              simp only [freshs, fresh] at hw
              split at hw
              · rename_i hu
                simp only [St.under, Bool.and_eq_true, ← hlen] at hu
                rw [ros_under hu.2] at hb; exact hb
              · cases hw
          have hlends : ∀ b ∈ ros (θ.map (Tm.den ρ) ++ σ) R.heap', b ∈ ros (θ.map (Tm.den ρ)) R.heap → b ∈ ros ρ rest := by
            intro b hb hb'
            obtain ⟨c', hc', hbc⟩ := mem_ros.1 hb
            have hany : R.heap'.any isRo = true := List.any_eq_true.2 ⟨c', hc', by cases hcr : isRo c' with | true => rfl | false => rw [ro_isRo hcr] at hbc; cases hbc⟩
            rw [← hrosE] at hb'
            rcases hros b hb' with h1 | ⟨h1, _⟩
            · exact h1
            · rw [hany] at h1; cases h1
          have hin : ∀ b ∈ owns (ρ ++ σ) (R.heap'.map (Ch.subst 0 (θ ++ as))), b ∈ owns ρ H ∨ w.heap.size ≤ b := by
            intro b hb
            rw [hoE] at hb
            exact (hown' b hb).imp (hsub b) id
          have hnot : ∀ b ∈ owns (ρ ++ σ) (R.heap'.map (Ch.subst 0 (θ ++ as))), b ∉ owns ρ rest ∧ b ∉ ros ρ rest := by
            intro b hb
            rw [hoE] at hb
            rcases hown' b hb with h1 | h1
            · exact ⟨hdisj b h1, fun h2 => hroNo b h2 (hsub b h1)⟩
            · exact ⟨fun h2 => by have := hrest.own_lt h2; omega, fun h2 => by have := hrest.ro_lt h2; omega⟩
          refine ⟨σ, _, _, vc4, v, w', h4, d4, hv, ?_, rfl⟩
          refine ⟨r2.srts, r2.tmps, r2.defers, ⟨fun c hc => ?_, ?_, fun c hc b hb hm => ?_⟩, fun g hg => ⟨(r2.globs g hg).1, fun hm => ?_⟩, r2.frame, fun b hb => ?_, fun b hb => ?_⟩
          · rcases List.mem_append.1 hc with hc | hc
            · exact hhs.holds c hc
            · exact r2.heap.holds c hc
          · show (owns (ρ ++ σ) (R.heap'.map (Ch.subst 0 (θ ++ as)) ++ rest)).Nodup
            rw [owns_append]
            exact List.nodup_append.2 ⟨hhs.nodup, r2.heap.nodup, fun x hx y hy e => (hnot x hx).1 (by rw [e]; exact hro2 y hy)⟩
          · have hm : b ∈ owns (ρ ++ σ) (R.heap'.map (Ch.subst 0 (θ ++ as)) ++ rest) := hm
            rw [owns_append] at hm
            rcases List.mem_append.1 hc with hc | hc
            · rcases List.mem_append.1 hm with hm | hm
              · exact hhs.ro c hc b hb hm
              · have hb' : b ∈ ros (θ.map (Tm.den ρ) ++ σ) R.heap' := by rw [← hrE]; exact mem_ros.2 ⟨c, hc, hb⟩
                have hm := hro2 b hm
                rcases hro' b hb' with h1 | h1 | h1
                · exact hdisj b h1 hm
                · have := hrest.own_lt hm; omega
                · exact hroNo b (hlends b hb' h1) (hownR b hm)
            · have hb' : b ∈ ros ρ rest := hro3 b (mem_ros.2 ⟨c, hc, hb⟩)
              rcases List.mem_append.1 hm with hm | hm
              · exact (hnot b hm).2 hb'
              · exact r2.heap.ro c hc b hb hm
          · have hm : g.g ∈ owns (ρ ++ σ) (R.heap'.map (Ch.subst 0 (θ ++ as)) ++ rest) := hm
            rw [owns_append] at hm
            rcases List.mem_append.1 hm with hm | hm
            · rcases hin _ hm with h1 | h1
              · exact (hr1.globs g hg).2 h1
              · have := Glob.lt (hr1.globs g hg).1; omega
            · exact (r2.globs g hg).2 hm
          · have hb : b ∈ owns (ρ ++ σ) (R.heap'.map (Ch.subst 0 (θ ++ as)) ++ rest) := hb
            rw [owns_append] at hb
            rcases List.mem_append.1 hb with hb | hb
            · rcases hin _ hb with h1 | h1
              · exact hr1.within b h1
              · exact .inr (Nat.le_trans hr1.frame.size h1)
            · exact r2.within b hb
          · have hb : b ∈ ros (ρ ++ σ) (R.heap'.map (Ch.subst 0 (θ ++ as)) ++ rest) := hb
            rw [ros_append] at hb
            rcases List.mem_append.1 hb with hb | hb
            · rw [hrE] at hb
              rcases hro' b hb with h1 | h1 | h1
              · exact (hr1.within b (hsub b h1)).imp id .inl
              · exact .inr (.inl (Nat.le_trans hr1.frame.size h1))
              · exact hr1.within' b (hroR b (hlends b hb h1))
            · exact r2.within' b hb
        · cases h2
      · cases h
    · cases h
  · cases h
theorem callS_ok {f : FuncId} {args : List SV} {vals : Array Value} (hG : cx.G = G) (hsig : SigsOk cx E) (hr : Rel G w0 D0 R0 ρ S a w) (h : callS cx S f args k = .ok vc) (hd : vc.den E ρ) (ha : svsHold ρ args vals.toList) :
    (∃ fn b, cx.P.funcs[f]? = some fn ∧ (fn.name == "runtime.NumGoroutine") = false ∧ fn.body = some b) ∧
    Calls cx.P f vals w fun e w' => ∃ v, e = .returned v ∧ Out E G w0 D0 R0 ρ a k (.ok v w') ∧ (quietF cx f = true → Same w w') := by
  subst hG
  unfold callS at h
  split at h
  · cases h
  rename_i c R hfs
  obtain ⟨s, rfl, hpre, hpost, hpost2, hholds, hfn⟩ := hsig f c R hfs
  refine ⟨hfn, ?_⟩
  split at h
  · cases h
    exact absurd hd.1 (by simp [Tm.den])
  split at h
  · rename_i hsec
    obtain ⟨θ, hθ, a1, a2, a3, a4, a5, fin⟩ := callOne_ok hr h hd ha
    refine Calls.mono (hholds w vals _ a1 (by rw [hpre]; exact a2) a3 a4 a5) ?_
    rintro e w' ⟨v, rfl, hfit | ⟨r, hr2, hfit⟩⟩
    · rw [hpost] at hfit
      obtain ⟨o, q⟩ := fin v w' hfit
      exact ⟨v, rfl, o, fun hq => q (by simpa [quietF, hfs] using hq)⟩
    · rw [hsec] at hr2; cases hr2
  · rename_i r hsec
    obtain ⟨⟨v1, e1, d1⟩, v2, e2, d2⟩ := both_ok h hd
    obtain ⟨θ, hθ, a1, a2, a3, a4, a5, fin⟩ := callOne_ok hr e1 d1 ha
    obtain ⟨θ2, hθ2, _, _, _, _, _, fin2⟩ := callOne_ok hr e2 d2 ha
    have hrr : r.args = s.args ∧ r.heap = s.heap ∧ r.srts = s.srts := by
      unfold SigR.second at hsec
      split at hsec
      · cases hsec; exact ⟨rfl, rfl, rfl⟩
      · cases hsec
    rw [hrr.1, hrr.2.1, hrr.2.2, hθ] at hθ2
    cases hθ2
    refine Calls.mono (hholds w vals _ a1 (by rw [hpre]; exact a2) a3 a4 a5) ?_
    rintro e w' ⟨v, rfl, hfit | ⟨r', hr2, hfit⟩⟩
    · rw [hpost] at hfit
      obtain ⟨o, q⟩ := fin v w' hfit
      exact ⟨v, rfl, o, fun hq => q (by simpa [quietF, hfs] using hq)⟩
    · rw [hsec] at hr2
      cases hr2
      rw [hpost2] at hfit
      obtain ⟨o, q⟩ := fin2 v w' hfit
      exact ⟨v, rfl, o, fun hq => q (by rw [hrr.2.1]; simpa [quietF, hfs] using hq)⟩
end
end Go.Vc
namespace Go.Vc
section
variable {E : Env} {G : List Glob} {w0 : World} {D0 R0 : List Nat} {ρ : List D} {S : St} {a : Act} {w : World} {cx : Cx} {vc : VC} {o : Oper} {k : St → M} {K : Act → World → Prop} {Q : Exit → Act → World → Prop}
/-- What stands behind an operation. -/
def Nx (E : Env) (G : List Glob) (w0 : World) (D0 R0 : List Nat) (ρ : List D) (k : St → M) (a' : Act) (w' : World) : Prop :=
  ∃ σ S' vc', k S' = .ok vc' ∧ vc'.den E (ρ ++ σ) ∧ Rel G w0 D0 R0 (ρ ++ σ) S' a' w'

theorem met_nx (hr : Rel G w0 D0 R0 ρ S a w) {d : Option Tmp} {z : Value} (h : Met E ρ (fun v => k (S.put d v)) z) : Nx E G w0 D0 R0 ρ k (a.put d z) w := by
  obtain ⟨x, vc, h1, h2, h3⟩ := h
  exact ⟨[], _, vc, h1, by simpa using h2, by simpa using hr.put h3⟩

theorem out_nx {d : Option Tmp} {run : Result Value} (h : Out E G w0 D0 R0 ρ a (fun v S => k (S.put d v)) run) : ∃ z w', run = .ok z w' ∧ Nx E G w0 D0 R0 ρ k (a.put d z) w' := by
  obtain ⟨σ, x, S', vc, v, w', h1, h2, h3, h4, h5⟩ := h
  exact ⟨v, w', h5, σ, _, vc, h1, h2, h4.put h3⟩

theorem wp_value {z : Value} {w' : World} (he : (execOp a.eval o).run cx.P w = .ok (.value z) w') (h : K (a.put o.dst z) w') : o.wp cx.P a w K Q := by
  unfold Oper.wp; rw [he]; exact h

theorem wp_of_out {s : Sem Value} (he : execOp a.eval o = (do pure (Next.value (← s)))) (h : Out E G w0 D0 R0 ρ a (fun v S => k (S.put o.dst v)) (s.run cx.P w))
    (hK : ∀ a' w', Nx E G w0 D0 R0 ρ k a' w' → K a' w') : o.wp cx.P a w K Q := by
  obtain ⟨z, w', h1, h2⟩ := out_nx h
  exact wp_value (z := z) (w' := w') (by rw [he]; simp [h1]) (hK _ _ h2)

theorem wp_of_met {s : Sem Value} (hr : Rel G w0 D0 R0 ρ S a w) (he : execOp a.eval o = (do pure (Next.value (← s)))) (h : ∃ z, Met E ρ (fun v => k (S.put o.dst v)) z ∧ s.run cx.P w = .ok z w)
    (hK : ∀ a' w', Nx E G w0 D0 R0 ρ k a' w' → K a' w') : o.wp cx.P a w K Q := by
  obtain ⟨z, h1, h2⟩ := h
  exact wp_value (z := z) (w' := w) (by rw [he]; simp [h2]) (hK _ _ (met_nx hr h1))

theorem with1_ok {x : Except String SV} {f : SV → M} (h : with1 x f = .ok vc) : ∃ v, x = .ok v ∧ f v = .ok vc := by
  unfold with1 at h
  split at h
  · exact ⟨_, rfl, h⟩
  · cases h

theorem evs_ok (hr : Rel G w0 D0 R0 ρ S a w) : ∀ {xs : List Operand} {ts : List TypeId} {vs : List SV}, evs cx S xs ts = .ok vs → svsHold ρ vs (xs.map a.eval)
  | [], ts, vs, h => by simp only [evs] at h; cases h; exact rfl
  | x :: xs, ts, vs, h => by
    simp only [evs] at h
    split at h
    · rename_i v r hv hrr
      cases h
      exact ⟨_, _, rfl, evT_ok hr hv, evs_ok hr hrr⟩
    · cases h
    · cases h

theorem matArgs_ok : ∀ {args : List SV} {ts : List TypeId} {S : St} {ρ : List D} {k : List SV → St → M} {vc : VC} {vals : List Value}, Rel G w0 D0 R0 ρ S a w → matArgs cx args ts S k = .ok vc → vc.den E ρ → svsHold ρ args vals →
    ∃ σ args' S' vc', k args' S' = .ok vc' ∧ vc'.den E (ρ ++ σ) ∧ svsHold (ρ ++ σ) args' vals ∧ Rel G w0 D0 R0 (ρ ++ σ) S' a w
  | [], ts, S, ρ, k, vc, vals, hr, h, hd, hv => ⟨[], [], S, vc, h, by simpa using hd, by simpa using hv, by simpa using hr⟩
  | v :: args, ts, S, ρ, k, vc, vals, hr, h, hd, hv => by
    obtain ⟨u, r, rfl, h1, h2⟩ := hv
    simp only [matArgs] at h
    split at h
    · rename_i hu
      rw [← srtsOk_length hr.srts] at hu
      obtain ⟨σ, v', S', vc', e1, e2, e3, e4, e5⟩ := matSV_ok hr h hd h1
      split at e1
      · rename_i hv'
        rw [← srtsOk_length e4.srts] at hv'
        obtain ⟨σ', args', S'', vc'', f1, f2, f3, f4⟩ := matArgs_ok e4 e1 e2 (vals := r) (by rw [svsHold_under hu]; exact h2)
        refine ⟨σ ++ σ', v' :: args', S'', vc'', f1, by rw [← List.append_assoc]; exact f2, ?_, by rw [← List.append_assoc]; exact f4⟩
        rw [← List.append_assoc]
        exact ⟨u, r, rfl, by rw [SV.holds_under hv']; exact e3, f3⟩
      · cases e1
    · cases h

theorem run_enter {P : Program} {f : FuncId} {fn : Func} {c : Code} (hf : P.funcs[f]? = some fn) (hname : (fn.name == "runtime.NumGoroutine") = false) (hb : fn.body = some c) (args : Array Value) (w : World) :
    (callFunc f args).run P w = .ok (.enter f args) w := by
  have h1 : fn.name ≠ "runtime.NumGoroutine" := by simpa using hname
  simp [callFunc, hf, h1, hb]

theorem nilCheck_ok {x : Value} {v : SV} (h : (match v with | .one (.lf (.ptr ..)) | .one (.lf (.aptr ..)) | .one (.lf (.eptr ..)) => true | _ => false) = true) (hv : v.holds ρ x) : ∃ ad, x = .pointer (some ad) := by
  split at h
  · exact ⟨_, hv⟩
  · exact ⟨_, hv.1⟩
  · obtain ⟨ad, n, c, _, _, _, _, rfl⟩ := hv; exact ⟨_, rfl⟩
  · cases h

/-- An operation that is pure yields the same in every world. -/
theorem pure_ok (hr : Rel G w0 D0 R0 ρ S a w) (hp : pureOp o = true) (h : step cx o S k = .ok vc) (hd : vc.den E ρ) :
    ∃ z, Nx E G w0 D0 R0 ρ k (a.put o.dst z) w ∧ ∀ w', (execOp a.eval o).run cx.P w' = .ok (.value z) w' := by
  have met : ∀ {s : Sem Value}, execOp a.eval o = (do pure (Next.value (← s))) → (∃ z, Met E ρ (fun v => k (S.put o.dst v)) z ∧ ∀ w', s.run cx.P w' = .ok z w') →
      ∃ z, Nx E G w0 D0 R0 ρ k (a.put o.dst z) w ∧ ∀ w', (execOp a.eval o).run cx.P w' = .ok (.value z) w' := by
    rintro s he ⟨z, h1, h2⟩
    exact ⟨z, met_nx hr h1, fun w' => by rw [he]; simp [h2]⟩
  have mv : ∀ (x : Operand), execOp a.eval o = pure (.value (a.eval x)) → with1 (evT cx S o.type x) (fun v => matSV cx o.type v S fun v S => k (S.put o.dst v)) = .ok vc →
      ∃ z, Nx E G w0 D0 R0 ρ k (a.put o.dst z) w ∧ ∀ w', (execOp a.eval o).run cx.P w' = .ok (.value z) w' := by
    intro x he h
    obtain ⟨v, h1, h2⟩ := with1_ok h
    obtain ⟨σ, v', S', vc', e1, e2, e3, e4, e5⟩ := matSV_ok hr h2 hd (evT_ok hr h1)
    exact ⟨a.eval x, ⟨σ, _, vc', e1, e2, e4.put e3⟩, fun w' => by rw [he]; rfl⟩
  unfold pureOp at hp
  unfold step at h
  dsimp only at h
  split at hp <;> try (cases hp; done)
  all_goals (rename_i heq; rw [heq] at h; dsimp only at h)
  · exact mv _ (by unfold execOp; rw [heq]) h
  · exact mv _ (by unfold execOp; rw [heq]) h
  · rename_i c x y
    obtain ⟨v, h1, h2⟩ := with1_ok h
    have hv := evT_ok hr h1
    split at h2
    · rename_i hb
      obtain ⟨u, h3, h4⟩ := with1_ok h2
      have he : ∀ c a' b', a.eval c = .bool true → ((do pure (Next.value (if ← asBool (a.eval c) then a' else b')) : Sem Next)) = pure (.value a') := by
        intro c a' b' hc; rw [hc]; rfl
      have hc : a.eval c = .bool true := by
        unfold litBool at hb
        split at hb
        · cases hb; exact hv
        · cases hb
      refine ⟨_, met_nx hr ⟨_, vc, h4, hd, evT_ok hr h3⟩, fun w' => ?_⟩
      unfold execOp; rw [heq]; dsimp only; rw [he _ _ _ hc]; rfl
    · rename_i hb
      obtain ⟨u, h3, h4⟩ := with1_ok h2
      have he : ∀ c a' b', a.eval c = .bool false → ((do pure (Next.value (if ← asBool (a.eval c) then a' else b')) : Sem Next)) = pure (.value b') := by
        intro c a' b' hc; rw [hc]; rfl
      have hc : a.eval c = .bool false := by
        unfold litBool at hb
        split at hb
        · cases hb; exact hv
        · cases hb
      refine ⟨_, met_nx hr ⟨_, vc, h4, hd, evT_ok hr h3⟩, fun w' => ?_⟩
      unfold execOp; rw [heq]; dsimp only; rw [he _ _ _ hc]; rfl
    · cases h2
  · obtain ⟨u, h1, h2⟩ := with1_ok h
    obtain ⟨v, h3, h4⟩ := with1_ok h2
    exact met (by unfold execOp; rw [heq]) (binNil_ok hr h4 hd (evT_ok hr h1) (evT_ok hr h3) _ _)
  · obtain ⟨u, h1, h2⟩ := with1_ok h
    exact met (by unfold execOp; rw [heq]) (unS_ok h2 hd (evT_ok hr h1))
  · obtain ⟨u, h1, h2⟩ := with1_ok h
    exact met (by unfold execOp; rw [heq]) (fieldAddrS_ok h2 hd (evT_ok hr h1))
  · obtain ⟨u, h1, h2⟩ := with1_ok h
    have hu := evT_ok hr h1
    split at h2
    · rename_i xs
      split at h2
      · rename_i x hx
        obtain ⟨z, g1, g2⟩ := extract_ok (P := cx.P) hx hu
        exact met (by unfold execOp; rw [heq]) ⟨z, ⟨_, vc, h2, hd, g1⟩, g2⟩
      · cases h2
    · cases h2
  · obtain ⟨u, h1, h2⟩ := with1_ok h
    have hu := evT_ok hr h1
    obtain ⟨ad, had⟩ : ∃ ad, a.eval ‹Operand› = .pointer (some ad) := by
      refine nilCheck_ok (v := u) ?_ hu
      split at h2 <;> first | rfl | cases h2
    have h3 : k (S.put o.dst u) = .ok vc := by split at h2 <;> first | exact h2 | cases h2
    refine ⟨_, met_nx hr ⟨_, vc, h3, hd, hu⟩, fun w' => ?_⟩
    unfold execOp; rw [heq]; dsimp only; rw [had]; rfl
  · obtain ⟨u, h1, h2⟩ := with1_ok h
    exact met (by unfold execOp; rw [heq]) (fieldS_ok h2 hd (evT_ok hr h1))
  · exact met (by unfold execOp; rw [heq]) (buildS_ok hr h hd)

theorem wp_of_pure (hr : Rel G w0 D0 R0 ρ S a w) (hp : pureOp o = true) (h : step cx o S k = .ok vc) (hd : vc.den E ρ) (hK : ∀ a' w', Nx E G w0 D0 R0 ρ k a' w' → K a' w') : o.wp cx.P a w K Q := by
  obtain ⟨z, h1, h2⟩ := pure_ok hr hp h hd
  exact wp_value (h2 w) (hK _ _ h1)

theorem optEv_ok (hr : Rel G w0 D0 R0 ρ S a w) {x : Option Operand} {v : Option SV} (h : (match x with | none => Except.ok none | some l => (match ev cx S l with | .ok v => .ok (some v) | .error e => .error e)) = .ok v) : optHold ρ v (x.map a.eval) := by
  cases x with
  | none => cases h; trivial
  | some l =>
    dsimp only at h
    split at h
    · rename_i u hu; cases h; exact evT_ok hr hu
    · cases h

theorem builtinS_ok {b : Builtin} {ts : Array TypeId} {args : List SV} {vals : Array Value} {cs : Array Bool} {k : SV → St → M} {ty : TypeId} (hr : Rel G w0 D0 R0 ρ S a w) (h : builtinS cx b ts.toList args S k = .ok vc) (hd : vc.den E ρ) (ha : svsHold ρ args vals.toList) :
    ∃ s : Sem Value, builtin b ts ty cs vals = (do pure (Next.value (← s))) ∧ Out E G w0 D0 R0 ρ a k (s.run cx.P w) := by
  have met : ∀ {s : Sem Value}, (∃ z, Met E ρ (fun v => k v S) z ∧ s.run cx.P w = .ok z w) → Out E G w0 D0 R0 ρ a k (s.run cx.P w) := by
    rintro s ⟨z, ⟨x, vc, h1, h2, h3⟩, h4⟩
    exact ⟨[], x, S, vc, z, w, h1, by simpa using h2, by simpa using h3, by simpa using hr, h4⟩
  have arr1 : ∀ {α : Type} {xs : Array α} {x : α}, xs.toList = [x] → xs = #[x] := fun h => Array.toList_inj.1 (by rw [h])
  have arr2 : ∀ {α : Type} {xs : Array α} {x y : α}, xs.toList = [x, y] → xs = #[x, y] := fun h => Array.toList_inj.1 (by rw [h])
  unfold builtinS at h
  split at h
  · rename_i t x hts
    obtain ⟨v, r, hv, h1, hn⟩ := ha
    simp only [svsHold] at hn; subst hn
    rw [arr1 hts, arr1 hv]
    obtain ⟨z, m1, m2⟩ := lenS_ok hr h hd h1 ty
    exact ⟨_, rfl, met ⟨z, m1, m2 w⟩⟩
  · refine ⟨_, rfl, met ?_⟩
    obtain ⟨z, m1, m2⟩ := min_ok (cx := cx) (w := w) h hd ha ts ty
    exact ⟨z, m1, by simpa using m2 w⟩
  · refine ⟨_, rfl, met ?_⟩
    obtain ⟨z, m1, m2⟩ := max_ok (cx := cx) (w := w) h hd ha ts ty
    exact ⟨z, m1, by simpa using m2 w⟩
  · rename_i t tx s x hts
    obtain ⟨u, r, hv, h1, v, r', rfl, h2, hn⟩ := ha
    simp only [svsHold] at hn; subst hn
    rw [arr2 hts, arr2 hv]
    refine ⟨_, rfl, ?_⟩
    split at h
    · rename_i hu
      rw [← srtsOk_length hr.srts] at hu
      obtain ⟨σ, s', S', vc', e1, e2, e3, e4, e5⟩ := matSV_ok hr h hd h1
      obtain ⟨σ', x', S'', vc'', v', w', f1, f2, f3, f4, f5⟩ := appendS_ok (ty := ty) e4 e1 e2 e3 (v := v) (by rw [SV.holds_under hu]; exact h2)
      exact ⟨σ ++ σ', x', S'', vc'', v', w', f1, by rw [← List.append_assoc]; exact f2, by rw [← List.append_assoc]; exact f3, by rw [← List.append_assoc]; exact f4, f5⟩
    · cases h
  · rename_i t tx d x hts
    obtain ⟨u, r, hv, h1, v, r', rfl, h2, hn⟩ := ha
    simp only [svsHold] at hn; subst hn
    rw [arr2 hts, arr2 hv]
    exact ⟨_, rfl, copyS_ok hr h hd h1 h2⟩
  · cases h

theorem step_ok (hG : cx.G = G) (hsig : SigsOk cx E) (hr : Rel G w0 D0 R0 ρ S a w) (h : step cx o S k = .ok vc) (hd : vc.den E ρ) (hK : ∀ a' w', Nx E G w0 D0 R0 ρ k a' w' → K a' w') : o.wp cx.P a w K Q := by
  by_cases hp : pureOp o = true
  · exact wp_of_pure hr hp h hd hK
  unfold step at h
  dsimp only at h
  split at h
  · rename_i heq; exfalso; apply hp; unfold pureOp; rw [heq]
  · rename_i heq; exfalso; apply hp; unfold pureOp; rw [heq]
  · rename_i heq; exfalso; apply hp; unfold pureOp; rw [heq]
  · -- alloc
    rename_i t heq
    split at h
    · rename_i ps hz
      obtain ⟨i, z, hi, hz, hv⟩ := zeroPts_ok (ρ := ρ) hz
      obtain ⟨u, w', h1, h2⟩ := out_nx (newBox_ok (u := z) hr h hd hv)
      refine wp_value (z := u) (w' := w') ?_ (hK _ _ h2)
      unfold execOp; rw [heq]; dsimp only
      simp only [Sem.run_bind] at h1 ⊢
      simp [Instr.alloc, zeroValue, typeInfo, hi, hz] at h1 ⊢
      rw [h1]; rfl
    · cases h
  · -- box
    rename_i t x heq
    obtain ⟨v, h1, h2⟩ := with1_ok h
    split at h2
    · rename_i ps hps
      exact wp_of_out (s := Instr.box t (a.eval x)) (by unfold execOp; rw [heq]) (newBox_ok (u := a.eval x) hr h2 hd (svParts_ok hr.heap hps (evT_ok hr h1))) hK
    · cases h2
  · rename_i heq; exfalso; apply hp; unfold pureOp; rw [heq]
  · -- buildSlice
    rename_i t n args heq
    exact wp_of_out (by unfold execOp; rw [heq]) (buildSliceS_ok hr h hd) hK
  · -- load
    rename_i t x heq
    obtain ⟨u, h1, h2⟩ := with1_ok h
    exact wp_of_met hr (by unfold execOp; rw [heq]) (loadS_ok hG hr h2 hd (evT_ok hr h1)) hK
  · -- store
    rename_i t x y heq
    obtain ⟨u, h1, h2⟩ := with1_ok h
    obtain ⟨v, h3, h4⟩ := with1_ok h2
    obtain ⟨σ, S', vc', w', e1, e2, e3, e4⟩ := storeS_ok hr h1 h3 h4 hd
    unfold Oper.wp execOp
    rw [heq]
    dsimp only
    simp only [Sem.run_bind, e4, Result.andThen_ok]
    exact hK _ _ ⟨σ, _, vc', e1, e2, e3.put (x := .one (.lf .junk)) trivial⟩
  · rename_i heq; exfalso; apply hp; unfold pureOp; rw [heq]
  · rename_i heq; exfalso; apply hp; unfold pureOp; rw [heq]
  · rename_i heq; exfalso; apply hp; unfold pureOp; rw [heq]
  · -- convert
    rename_i s d x heq
    obtain ⟨u, h1, h2⟩ := with1_ok h
    exact wp_of_out (by unfold execOp; rw [heq]) (convS_ok hr h2 hd (evT_ok hr h1)) hK
  · -- makeSlice
    rename_i t l c heq
    obtain ⟨u, h1, h2⟩ := with1_ok h
    obtain ⟨v, h3, h4⟩ := with1_ok h2
    exact wp_of_out (by unfold execOp; rw [heq]) (makeSliceS_ok hr h4 hd (evT_ok hr h1) (evT_ok hr h3)) hK
  · -- slice
    rename_i t x lo hi mx heq
    obtain ⟨u, h1, h2⟩ := with1_ok h
    split at h2
    · rename_i l hh hl hhh
      refine wp_of_out (by unfold execOp; rw [heq]) (sliceS_ok (mx := mx.map a.eval) (drop := dropped cx o.dst) hr (by rw [Option.isSome_map]; exact h2) hd (evT_ok hr h1) (optEv_ok hr hl) (optEv_ok hr hhh)) hK
    · cases h2
    · cases h2
  · rename_i heq; exfalso; apply hp; unfold pureOp; rw [heq]
  · rename_i heq; exfalso; apply hp; unfold pureOp; rw [heq]
  · -- indexAddr
    rename_i t x i heq
    obtain ⟨u, h1, h2⟩ := with1_ok h
    obtain ⟨v, h3, h4⟩ := with1_ok h2
    exact wp_of_met hr (by unfold execOp; rw [heq]) ((indexAddrS_ok hr h4 hd (evT_ok hr h1) (evT_ok hr h3)).imp fun _ h => ⟨h.1, h.2 w⟩) hK
  · -- index
    rename_i t x i heq
    obtain ⟨u, h1, h2⟩ := with1_ok h
    obtain ⟨v, h3, h4⟩ := with1_ok h2
    exact wp_of_met hr (by unfold execOp; rw [heq]) ((indexS_ok h4 hd (evT_ok hr h1) (evT_ok hr h3)).imp fun _ h => ⟨h.1, h.2 w⟩) hK
  · rename_i heq; exfalso; apply hp; unfold pureOp; rw [heq]
  · -- call
    rename_i c heq
    split at h
    · rename_i b hb
      split at h
      · rename_i args hargs
        have ha := evs_ok hr hargs
        rw [← Array.toList_map] at ha
        obtain ⟨s, e1, e2⟩ := builtinS_ok (ty := o.type) (cs := c.args.map fun | .const _ => true | _ => false) hr h hd ha
        refine wp_of_out (s := s) ?_ e2 hK
        unfold execOp; rw [heq]; dsimp only
        unfold resolve; rw [hb]; dsimp only
        rw [← e1]; rfl
      · cases h
    · rename_i f hf
      split at h
      · rename_i g args hg hargs
        have ha := evs_ok hr hargs
        rw [← Array.toList_map] at ha
        have hgv : a.eval f = .func (.func g) #[] #[] := evT_ok hr hg
        obtain ⟨σ, args', S', vc', e1, e2, e3, e4⟩ := matArgs_ok hr h hd ha
        obtain ⟨⟨fn, b, hf1, hf2, hf3⟩, hcalls⟩ := callS_ok hG hsig e4 e1 e2 e3
        have he : (execOp a.eval o).run cx.P w = .ok (.enter g (c.args.map a.eval)) w := by
          unfold execOp; rw [heq]; dsimp only
          unfold resolve; rw [hf]; dsimp only
          rw [hgv]
          have := run_enter (P := cx.P) hf1 hf2 hf3 (c.args.map a.eval) w
          simpa [Deferred.ofValue, invoke] using this
        unfold Oper.wp
        rw [he]
        refine Calls.mono hcalls ?_
        rintro e w' ⟨v, rfl, hout, -⟩
        obtain ⟨z, w'', h1, σ', S'', vc'', f1, f2, f3⟩ := out_nx hout
        cases h1
        exact hK _ _ ⟨σ ++ σ', S'', vc'', f1, by rw [← List.append_assoc]; exact f2, by rw [← List.append_assoc]; exact f3⟩
      · cases h
      · cases h
      · cases h
    · cases h
  · cases h
/-- Built-in functions that read no memory. -/
theorem builtinPure_ok {b : Builtin} {ts : Array TypeId} {args : List SV} {vals : Array Value} {cs : Array Bool} {k : SV → St → M} {ty : TypeId} (hr : Rel G w0 D0 R0 ρ S a w)
    (hp : (match Callee.builtin b, ts.toList with | .builtin .len, [_] => true | .builtin .min, _ => true | .builtin .max, _ => true | _, _ => false) = true)
    (h : builtinS cx b ts.toList args S k = .ok vc) (hd : vc.den E ρ) (ha : svsHold ρ args vals.toList) :
    ∃ s : Sem Value, builtin b ts ty cs vals = (do pure (Next.value (← s))) ∧ ∃ z, Met E ρ (fun v => k v S) z ∧ ∀ w, s.run cx.P w = .ok z w := by
  have arr1 : ∀ {α : Type} {xs : Array α} {x : α}, xs.toList = [x] → xs = #[x] := fun h => Array.toList_inj.1 (by rw [h])
  unfold builtinS at h
  split at h
  · rename_i t x hts
    obtain ⟨v, r, hv, h1, hn⟩ := ha
    simp only [svsHold] at hn; subst hn
    rw [arr1 hts, arr1 hv]
    exact ⟨_, rfl, lenS_ok hr h hd h1 ty⟩
  · refine ⟨_, rfl, ?_⟩
    have := min_ok (cx := cx) (w := w) h hd ha ts ty
    simpa using this
  · refine ⟨_, rfl, ?_⟩
    have := max_ok (cx := cx) (w := w) h hd ha ts ty
    simpa using this
  · cases hp
  · cases hp
  · cases h

/-- An operation that reads no memory yields the same in every world, where its guard is told. -/
theorem pureIn_ok (hr : Rel G w0 D0 R0 ρ S a w) (hp : pureIn cx S o = true) (h : step cx o S k = .ok vc) (hd : vc.den E ρ) :
    ∃ z, Nx E G w0 D0 R0 ρ k (a.put o.dst z) w ∧ ∀ w', (execOp a.eval o).run cx.P w' = .ok (.value z) w' := by
  by_cases hp0 : pureOp o = true
  · exact pure_ok hr hp0 h hd
  have met : ∀ {s : Sem Value}, execOp a.eval o = (do pure (Next.value (← s))) → (∃ z, Met E ρ (fun v => k (S.put o.dst v)) z ∧ ∀ w', s.run cx.P w' = .ok z w') →
      ∃ z, Nx E G w0 D0 R0 ρ k (a.put o.dst z) w ∧ ∀ w', (execOp a.eval o).run cx.P w' = .ok (.value z) w' := by
    rintro s he ⟨z, h1, h2⟩
    exact ⟨z, met_nx hr h1, fun w' => by rw [he]; simp [h2]⟩
  simp only [pureIn, hp0, Bool.false_or] at hp
  unfold step at h
  dsimp only at h
  split at hp
  · rename_i t x i heq
    rw [heq] at h; dsimp only at h
    obtain ⟨u, h1, h2⟩ := with1_ok h
    obtain ⟨v, h3, h4⟩ := with1_ok h2
    exact met (by unfold execOp; rw [heq]) (indexS_ok h4 hd (evT_ok hr h1) (evT_ok hr h3))
  · rename_i t x i heq
    rw [heq] at h; dsimp only at h
    obtain ⟨u, h1, h2⟩ := with1_ok h
    obtain ⟨v, h3, h4⟩ := with1_ok h2
    exact met (by unfold execOp; rw [heq]) (indexAddrS_ok hr h4 hd (evT_ok hr h1) (evT_ok hr h3))
  · rename_i t x lo hi mx heq
    rw [heq] at h; dsimp only at h
    split at hp
    · rename_i s hs
      obtain ⟨u, h1, h2⟩ := with1_ok h
      rw [hs] at h1; cases h1
      split at h2
      · rename_i l hh hl hhh
        exact met (by unfold execOp; rw [heq]) (slicePure_ok (mx := mx.map a.eval) (by rw [Option.isSome_map]; exact h2) hd (evT_ok hr hs) (optEv_ok hr hl) (optEv_ok hr hhh))
      · cases h2
      · cases h2
    · cases hp
  · rename_i s d x heq
    rw [heq] at h; dsimp only at h
    obtain ⟨u, h1, h2⟩ := with1_ok h
    split at hp
    · rename_i kk t hx
      rw [hx] at h1; cases h1
      exact met (by unfold execOp; rw [heq]) (convPure_ok h2 hd (evT_ok hr hx) (.inl ⟨_, _, rfl⟩))
    · rename_i t hx
      rw [hx] at h1; cases h1
      split at hp
      · rename_i hdst
        exact met (by unfold execOp; rw [heq]) (convPure_ok h2 hd (evT_ok hr hx) (.inr ⟨_, rfl, hdst⟩))
      · cases hp
    · cases hp
  · rename_i c heq
    rw [heq] at h; dsimp only at h
    split at h
    · rename_i b hb
      split at h
      · rename_i args hargs
        have ha := evs_ok hr hargs
        rw [← Array.toList_map] at ha
        obtain ⟨s, e1, e2⟩ := builtinPure_ok (ty := o.type) (cs := c.args.map fun | .const _ => true | _ => false) hr (by rw [hb] at hp; exact hp) h hd ha
        refine met (s := s) ?_ e2
        unfold execOp; rw [heq]; dsimp only
        unfold resolve; rw [hb]; dsimp only
        rw [← e1]; rfl
      · cases h
    · rename_i f hf
      rw [hf] at hp
      dsimp only at hp
      cases hp
    · cases h
  · cases hp

/-- An operation that leaves the world as it is, in whichever world that has the blocks of this one. -/
theorem stillIn_ok (hG : cx.G = G) (hr : Rel G w0 D0 R0 ρ S a w) (hp : stillIn cx S o = true) (h : step cx o S k = .ok vc) (hd : vc.den E ρ) :
    ∃ z, Nx E G w0 D0 R0 ρ k (a.put o.dst z) w ∧ ∀ w', Same w w' → (execOp a.eval o).run cx.P w' = .ok (.value z) w' := by
  by_cases hp0 : pureIn cx S o = true
  · obtain ⟨z, h1, h2⟩ := pureIn_ok hr hp0 h hd
    exact ⟨z, h1, fun w' _ => h2 w'⟩
  simp only [stillIn, hp0, Bool.false_or] at hp
  unfold step at h
  dsimp only at h
  split at hp
  · rename_i t x heq
    rw [heq] at h; dsimp only at h
    obtain ⟨u, h1, h2⟩ := with1_ok h
    obtain ⟨z, h3, h4⟩ := loadS_same hG hr h2 hd (evT_ok hr h1)
    refine ⟨z, met_nx hr h3, fun w' hs => ?_⟩
    unfold execOp; rw [heq]; dsimp only
    simp [h4 w' hs]
  · cases hp

/-- A call that leaves the blocks of the world as they are. -/
theorem quietIn_ok {Q : Exit → Act → World → Prop} {K : Act → World → Prop} (hG : cx.G = G) (hsig : SigsOk cx E) (hr : Rel G w0 D0 R0 ρ S a w) (hp : quietIn cx S o = true) (h : step cx o S k = .ok vc) (hd : vc.den E ρ)
    (hK : ∀ a' w', Nx E G w0 D0 R0 ρ k a' w' → Same w w' → K a' w') : o.wp cx.P a w K Q := by
  unfold quietIn at hp
  unfold step at h
  dsimp only at h
  have same : ∀ {t : TypeId} {u z : Value} {w' : World}, (do pure (.pointer (some (← newVar t u))) : Sem Value).run cx.P w = .ok z w' → Same w w' := by
    intro t u z w' h1
    have h2 : (do pure (.pointer (some (← newVar t u))) : Sem Value).run cx.P w = .ok (.pointer (some ⟨w.heap.size, 0, none⟩)) (w.alloc (.cells u.cells t)) := rfl
    rw [h2] at h1
    cases h1
    exact ⟨(ext_alloc w _).size, (ext_alloc w _).block⟩
  split at hp
  · rename_i t heq
    rw [heq] at h; dsimp only at h
    split at h
    · rename_i ps hz
      obtain ⟨i, z, hi, hz, hv⟩ := zeroPts_ok (ρ := ρ) hz
      obtain ⟨u, w', h1, h2⟩ := out_nx (newBox_ok (u := z) hr h hd hv)
      refine wp_value (z := u) (w' := w') ?_ (hK _ _ h2 (same h1))
      unfold execOp; rw [heq]; dsimp only
      simp only [Sem.run_bind] at h1 ⊢
      simp [Instr.alloc, zeroValue, typeInfo, hi, hz] at h1 ⊢
      rw [h1]; rfl
    · cases h
  · rename_i t x heq
    rw [heq] at h; dsimp only at h
    obtain ⟨v, h1, h2⟩ := with1_ok h
    split at h2
    · rename_i ps hps
      obtain ⟨z, w', h3, h4⟩ := out_nx (newBox_ok (u := a.eval x) hr h2 hd (svParts_ok hr.heap hps (evT_ok hr h1)))
      refine wp_value (z := z) (w' := w') ?_ (hK _ _ h4 (same h3))
      have he : execOp a.eval o = (do pure (Next.value (← Instr.box t (a.eval x)))) := by unfold execOp; rw [heq]
      rw [he]
      have h5 : (Instr.box t (a.eval x)).run cx.P w = .ok z w' := h3
      simp [h5]
    · cases h2
  · rename_i c heq
    rw [heq] at h; dsimp only at h
    split at h
    · rename_i b hb
      rw [hb] at hp; cases hp
    · rename_i f hf
      rw [hf] at hp; dsimp only at hp
      split at h
      · rename_i g args hg hargs
        rw [hg] at hp; dsimp only at hp
        have ha := evs_ok hr hargs
        rw [← Array.toList_map] at ha
        have hgv : a.eval f = .func (.func g) #[] #[] := evT_ok hr hg
        obtain ⟨σ, args', S', vc', e1, e2, e3, e4⟩ := matArgs_ok hr h hd ha
        obtain ⟨⟨fn, b, hf1, hf2, hf3⟩, hcalls⟩ := callS_ok hG hsig e4 e1 e2 e3
        have he : (execOp a.eval o).run cx.P w = .ok (.enter g (c.args.map a.eval)) w := by
          unfold execOp; rw [heq]; dsimp only
          unfold resolve; rw [hf]; dsimp only
          rw [hgv]
          have := run_enter (P := cx.P) hf1 hf2 hf3 (c.args.map a.eval) w
          simpa [Deferred.ofValue, invoke] using this
        unfold Oper.wp
        rw [he]
        refine Calls.mono hcalls ?_
        rintro e w' ⟨v, rfl, hout, hsame⟩
        obtain ⟨z, w'', h1, σ', S'', vc'', f1, f2, f3⟩ := out_nx hout
        cases h1
        exact hK _ _ ⟨σ ++ σ', S'', vc'', f1, by rw [← List.append_assoc]; exact f2, by rw [← List.append_assoc]; exact f3⟩ (hsame hp)
      · cases h
      · cases h
      · cases h
    · cases h
  · cases hp

end
end Go.Vc
namespace Go.Vc
/-- What a function gives back. -/
def Good (cx : Cx) (E : Env) (w0 : World) (ρ0 : List D) (v : Value) (w' : World) : Prop :=
  Fit E.ret cx.own ρ0 w0 v w' ∨ ∃ r, cx.own.second = some r ∧ Fit (E.pre 200) r ρ0 w0 v w'

def Q0 (cx : Cx) (E : Env) (w0 : World) (ρ0 : List D) : Exit → Act → World → Prop :=
  bodyPost cx.P cx.fn fun e w' => ∃ v, e = .returned v ∧ Good cx E w0 ρ0 v w'

theorem atoms_den (ρ τ : List D) : (atoms ρ.length).map (Tm.den (ρ ++ τ)) = ρ := by
  apply List.ext_getElem?
  intro i
  simp only [atoms, List.map_map, List.getElem?_map]
  by_cases h : i < ρ.length
  · rw [List.getElem?_range h]
    simp [Tm.den, List.getD, List.getElem?_append_left h, List.getElem?_eq_getElem h]
  · rw [List.getElem?_eq_none (by simpa using h), List.getElem?_eq_none (by simpa using h)]
    rfl

theorem atoms'_den (ρ σ τ : List D) : (atoms' ρ.length σ.length).map (Tm.den (ρ ++ σ ++ τ)) = σ := by
  apply List.ext_getElem?
  intro i
  simp only [atoms', List.map_map, List.getElem?_map]
  by_cases h : i < σ.length
  · rw [List.getElem?_range h]
    simp only [Option.map_some, Function.comp_apply, Tm.den, List.getD]
    rw [List.getElem?_append_left (by simp; omega), List.getElem?_append_right (by omega)]
    simp [List.getElem?_eq_getElem h]
  · rw [List.getElem?_eq_none (by simpa using h), List.getElem?_eq_none (by simpa using h)]
    rfl

section
variable {E : Env} {G : List Glob} {w0 : World} {D0 R0 : List Nat} {ρ0 ρ τ : List D} {S T : St} {a : Act} {w : World} {cx : Cx} {vc : VC} {K : List KI}
/-- A state that fits a pattern is one of its. -/
theorem fit_ok {n0 : Nat} {θ : List Tm} (hr : Rel G w0 D0 R0 (ρ ++ τ) S a w) (hn : n0 = ρ.length) (hT : srtsOk (T.srts.take n0) ρ) (h : fit T n0 S = .ok θ) :
    srtsOk (T.srts.drop n0) (θ.map (Tm.den (ρ ++ τ))) ∧ Rel G w0 D0 R0 (ρ ++ θ.map (Tm.den (ρ ++ τ))) T a w := by
  subst hn
  unfold fit at h
  split at h
  · cases h
  · rename_i θ' _
    split at h
    · rename_i hc
      split at h
      · rename_i hs
        split at h
        · rename_i rest hcov
          cases h
          have hss := shapes_ok hr.srts hs
          obtain ⟨h1, hperm, h2⟩ := cover_ok hcov hr.heap
          have hto : svsHold (ρ ++ θ.map (Tm.den (ρ ++ τ))) T.tmps a.tmps.toList := by
            rw [← svsHold_subst]; exact svsHold_cover hc hr.tmps
          have hown : ∀ b ∈ owns (ρ ++ θ.map (Tm.den (ρ ++ τ))) T.heap, b ∈ owns (ρ ++ τ) S.heap := by
            intro b hb
            rw [← owns_subst, ← owns_owners] at hb
            rw [owns_perm hperm, owns_append]; exact List.mem_append.2 (.inl hb)
          refine ⟨hss, ?_, hto, hr.defers, HeapOk.of_subst h1, fun g hg => ⟨(hr.globs g hg).1, fun hm => (hr.globs g hg).2 (hown _ hm)⟩, hr.frame, fun b hb => hr.within b (hown b hb), fun b hb => ?_⟩
          · have := srtsOk_append hT hss
            rwa [List.take_append_drop] at this
          · rw [← ros_subst] at hb
            rcases h2 b hb with h3 | ⟨_, h3⟩
            · exact hr.within' b (by rw [ros_perm hperm, ros_append]; exact List.mem_append.2 (.inr h3))
            · exact (hr.within b (by rw [owns_perm hperm, owns_append]; exact List.mem_append.2 (.inr h3))).imp id .inl
        · cases h
      · cases h
    · cases h

def resVal (tmps : Array Value) : ResultVar → Sem Value
  | .tmp t => pure (tmps.getD t undef)
  | .cell a t => do loadVar t (← asAddr (tmps.getD a undef))

theorem resK_ok (hG : cx.G = G) (hr : Rel G w0 D0 R0 ρ S a w) : ∀ {rs : List ResultVar} {k : List S0 → M} {vc : VC}, resK cx S rs k = .ok vc → vc.den E ρ →
    ∃ vs xs vc', (rs.mapM (resVal a.tmps) : Sem (List Value)).run cx.P w = .ok vs w ∧ s0sHold ρ xs vs ∧ k xs = .ok vc' ∧ vc'.den E ρ
  | [], k, vc, h, hd => ⟨[], [], vc, rfl, rfl, h, hd⟩
  | .tmp t :: r, k, vc, h, hd => by
    simp only [resK] at h
    split at h
    · rename_i x hx
      obtain ⟨vs, xs, vc', h1, h2, h3, h4⟩ := resK_ok hG hr h hd
      refine ⟨a.tmps.getD t undef :: vs, x :: xs, vc', ?_, ⟨_, _, rfl, hr.slot hx, h2⟩, h3, h4⟩
      simp only [List.mapM_cons, resVal, Sem.run_bind, Sem.run_pure, Result.andThen_ok, h1]
    · cases h
  | .cell ad t :: r, k, vc, h, hd => by
    simp only [resK] at h
    split at h
    · rename_i b o hx
      have hs : (SV.one (.lf (.ptr b o))).holds ρ (a.tmps.getD ad undef) := hr.slot hx
      obtain ⟨z, ⟨sv, vc1, h5, h6, h7⟩, hrun⟩ := loadS_ok hG hr h hd hs
      dsimp only at h5
      split at h5
      · rename_i x
        obtain ⟨vs, xs, vc', h1, h2, h3, h4⟩ := resK_ok hG hr h5 h6
        have hp : a.tmps.getD ad undef = .pointer (some ⟨(b.den ρ).toN, o, none⟩) := hs
        refine ⟨z :: vs, x :: xs, vc', ?_, ⟨_, _, rfl, h7, h2⟩, h3, h4⟩
        rw [hp] at hrun
        have e : (resVal a.tmps (.cell ad t)).run cx.P w = .ok z w := by
          simp only [resVal, hp]
          exact hrun
        simp only [List.mapM_cons, Sem.run_bind, e, Sem.run_pure, Result.andThen_ok, h1]
      · cases h5
    · cases h

theorem retOne_ok {R : SigR} {x : SV} {u : Value} {fin : List Tm → VC} {post : List D → Prop} (hr : Rel G w0 (owns ρ0 R.heap) (ros ρ0 R.heap) (ρ0 ++ τ) S a w) (hn : R.srts.length = ρ0.length) (h : retOne S R x fin = .ok vc) (hd : vc.den E (ρ0 ++ τ))
    (hfin : ∀ ts, (fin ts).den E (ρ0 ++ τ) → post (ts.map (Tm.den (ρ0 ++ τ)))) (hx : x.holds (ρ0 ++ τ) u) : Fit post R ρ0 w0 u w := by
  unfold retOne at h
  dsimp only at h
  split at h
  · cases h
  rename_i θ hθ
  rw [hn] at h
  split at h
  · rename_i hres
    split at h
    · rename_i hsh
      split at h
      · rename_i rest hcov
        cases h
        refine ⟨θ.map (Tm.den (ρ0 ++ τ)), shapes_ok hr.srts hsh, ?_, ?_, ?_⟩
        · have := hfin _ hd
          simp only [List.map_append, atoms_den] at this
          exact this
        · rw [← SV.holds_subst, hres]; exact hx
        obtain ⟨c1, hperm, c2⟩ := cover_ok hcov hr.heap
        have hown : ∀ b ∈ owns (ρ0 ++ θ.map (Tm.den (ρ0 ++ τ))) R.heap', b ∈ owns (ρ0 ++ τ) S.heap := by
          intro b hb
          rw [← owns_subst, ← owns_owners] at hb
          rw [owns_perm hperm, owns_append]; exact List.mem_append.2 (.inl hb)
        refine ⟨HeapOk.of_subst c1, fun b hb => hr.within b (hown b hb), fun b hb => ?_, hr.frame⟩
        rw [← ros_subst] at hb
        rcases c2 b hb with h3 | ⟨_, h3⟩
        · exact hr.within' b (by rw [ros_perm hperm, ros_append]; exact List.mem_append.2 (.inr h3))
        · exact (hr.within b (by rw [owns_perm hperm, owns_append]; exact List.mem_append.2 (.inr h3))).imp id .inl
      · cases h
    · cases h
  · cases h

theorem retS_ok (hG : cx.G = G) (hr : Rel G w0 (owns ρ0 cx.own.heap) (ros ρ0 cx.own.heap) (ρ0 ++ τ) S a w) (hn : cx.own.srts.length = ρ0.length) (h : retS cx S = .ok vc) (hd : vc.den E (ρ0 ++ τ)) :
    a.defers = [] ∧ ∃ v, (results cx.fn a.tmps).run cx.P w = .ok v w ∧ Good cx E w0 ρ0 v w := by
  refine ⟨hr.defers, ?_⟩
  unfold retS at h
  obtain ⟨vs, xs, vc', h1, h2, h, hd⟩ := resK_ok hG hr h hd
  dsimp only at h
  have hrun : (results cx.fn a.tmps).run cx.P w = .ok (if h : vs.length = 1 then vs[0] else .tuple vs.toArray) w := by
    have e0 : results cx.fn a.tmps = (do let vs ← cx.fn.results.mapM (resVal a.tmps); pure (if h : vs.size = 1 then vs[0] else .tuple vs)) := rfl
    rw [e0]
    have e : ∀ (f : ResultVar → Sem Value), (cx.fn.results.mapM f : Sem (Array Value)) = (do let vs ← cx.fn.results.toList.mapM f; pure vs.toArray) := by
      intro f
      rw [Array.mapM_eq_mapM_toList]
      rfl
    rw [e]
    simp only [Sem.run_bind]
    rw [h1]
    simp
  have hv : (resSV xs).holds (ρ0 ++ τ) (if h : vs.length = 1 then vs[0] else .tuple vs.toArray) := by
    have hl : ∀ {xs : List S0} {vs : List Value}, s0sHold (ρ0 ++ τ) xs vs → vs.length = xs.length := by
      intro xs
      induction xs with
      | nil => intro vs h; simp only [s0sHold] at h; subst h; rfl
      | cons x xs ih => intro vs h; obtain ⟨v, r, rfl, _, h⟩ := h; simp [ih h]
    have hlen := hl h2
    rcases xs with _ | ⟨x, _ | ⟨y, ys⟩⟩
    · simp only [s0sHold] at h2; subst h2; exact ⟨#[], rfl, rfl⟩
    · obtain ⟨v, r, rfl, h3, h4⟩ := h2
      simp only [s0sHold] at h4; subst h4
      exact h3
    · rw [dif_neg (by rw [hlen]; simp)]
      exact ⟨vs.toArray, rfl, by simpa using h2⟩
  refine ⟨_, hrun, ?_⟩
  split at h
  · rename_i x hx
    cases h
    exact .inl (retOne_ok hr hn hx hd (fun ts ht => ht) hv)
  · split at h
    · cases h
    · rename_i r hsec
      have hrr : r.heap = cx.own.heap ∧ r.srts = cx.own.srts := by
        unfold SigR.second at hsec
        split at hsec
        · cases hsec; exact ⟨rfl, rfl⟩
        · cases hsec
      exact .inr ⟨r, hsec, retOne_ok (R := r) (by rw [hrr.1]; exact hr) (by rw [hrr.2]; exact hn) h hd (fun ts ht => ht.1) hv⟩

/-- Whatever order is picked; operations that are none of 'oth' leave the blocks as they are. -/
def wpAnyN (P : Program) (ops : Array Oper) (Q : Exit → Act → World → Prop) (oth : List Nat) : Nat → Array Bool → Act → World → Prop
  | 0, listed, a, w => Region.ready .any ops listed = [] ∧ Q .normal a w
  | fuel + 1, listed, a, w =>
    (Region.ready .any ops listed = [] → Q .normal a w) ∧
    ∀ i ∈ Region.ready .any ops listed, wpOp P ops Q i (fun a' w' => (oth.contains i = false → Same w w') ∧ wpAnyN P ops Q oth fuel (listed.setIfInBounds i true) a' w') a w

section
variable {P : Program} {ops : Array Oper} {Q : Exit → Act → World → Prop} {oth : List Nat}
theorem wpAny_of_N : ∀ (fuel : Nat) (listed : Array Bool) (a : Act) (w : World), wpAnyN P ops Q oth fuel listed a w → wpAny P .any ops Q fuel listed a w
  | 0, _, _, _, h => h
  | fuel + 1, _, _, _, h => ⟨h.1, fun i hi => wpOp_mono (fun a' w' h' => wpAny_of_N fuel _ a' w' h'.2) (h.2 i hi)⟩

theorem wpAnyN_done {listed : Array Bool} {a : Act} {w : World} (hr : Region.ready .any ops listed = []) (h : Q .normal a w) : ∀ fuel, wpAnyN P ops Q oth fuel listed a w
  | 0 => ⟨hr, h⟩
  | _ + 1 => ⟨fun _ => h, by rw [hr]; simp⟩

theorem getD_false {listed : Array Bool} {i : Nat} (h : listed.getD i true = false) : listed.getD i false = false := by
  rcases Nat.lt_or_ge i listed.size with h' | h'
  · simp [h'] at h ⊢; exact h
  · simp [Array.getElem?_eq_none h'] at h

theorem waits_not {listed : Array Bool} {i j n : Nat} (hw : waits ops listed i n j = true) (hi : listed.getD i true = false) : j ∉ Region.ready .any ops listed := by
  intro hj
  obtain ⟨_, o, ho, hall⟩ := mem_ready.1 hj
  cases n with
  | zero => simp [waits] at hw
  | succ n =>
    simp only [waits, ho, Array.any_eq_true'] at hw
    obtain ⟨e, he, hw⟩ := hw
    simp only [Bool.and_eq_true, Bool.or_eq_true, beq_iff_eq, Bool.not_eq_true'] at hw
    obtain ⟨hb, hw⟩ := hw
    have h1 := hall e he hb
    rcases hw with rfl | ⟨h2, _⟩
    · rw [getD_false hi] at h1; cases h1
    · rw [getD_false h2] at h1; cases h1

theorem waits_set {listed : Array Bool} {i k : Nat} (hi : listed.getD i true = false) (hk : k ∈ Region.ready .any ops listed) : ∀ (n j : Nat), waits ops listed i n j = true → waits ops (listed.setIfInBounds k true) i n j = true
  | 0, _, h => by simp [waits] at h
  | n + 1, j, h => by
    simp only [waits] at h ⊢
    split at h
    · cases h
    · rename_i o ho
      simp only [Array.any_eq_true'] at h ⊢
      obtain ⟨e, he, hw⟩ := h
      refine ⟨e, he, ?_⟩
      simp only [Bool.and_eq_true, Bool.or_eq_true, beq_iff_eq, Bool.not_eq_true'] at hw ⊢
      obtain ⟨hb, hw⟩ := hw
      refine ⟨hb, hw.imp id fun ⟨h1, h2⟩ => ?_⟩
      have hne : k ≠ e.on := fun h => waits_not h2 hi (h ▸ hk)
      exact ⟨by rw [getD_set_ne true hne]; exact h1, waits_set hi hk n e.on h2⟩

theorem wpAnyN_first {i n : Nat} {oi : Oper} {v : Value} {T : World → Prop} (hi : ops[i]? = some oi) (hsel : ∀ (j : Nat) (o : Oper) cs b, ops[j]? = some o → o.op ≠ .select cs b)
    (hQ : ∀ c a w, Q (.panic c) (a.put oi.dst v) w → Q (.panic c) a w) (hTs : ∀ w w', T w → Same w w' → T w') :
    ∀ (fuel : Nat) (listed : Array Bool) (a : Act) (w : World),
      (∀ j oj, ops[j]? = some oj → j ≠ i → listed.getD j true = false → (∀ e ∈ oj.after, Region.binds .any e = true → e.on ≠ i) → oi.apart ops oj = true) →
      i ∈ Region.ready .any ops listed → YieldsIf P ops T oi v a → T w →
      ((∀ w, T w) ∨ ∀ j ∈ oth, listed.getD j true = false → j ≠ i → waits ops listed i n j = true) →
      wpAnyN P ops Q oth fuel (listed.setIfInBounds i true) (a.put oi.dst v) w → wpAnyN P ops Q oth (fuel + 1) listed a w := by
  intro fuel
  induction fuel with
  | zero =>
    intro listed a w _ hr hy hT _ H
    refine ⟨fun h => (by rw [h] at hr; cases hr), fun j hj => ?_⟩
    by_cases hji : j = i
    · subst hji; exact hy.wpOp hi hT ⟨fun _ => Same.refl w, H⟩
    · have := ready_mono hj hji
      rw [H.1] at this
      cases this
  | succ fuel ih =>
    intro listed a w hfree hr hy hT hwt H
    refine ⟨fun h => (by rw [h] at hr; cases hr), fun j hj => ?_⟩
    by_cases hji : j = i
    · subst hji; exact hy.wpOp hi hT ⟨fun _ => Same.refl w, H⟩
    · have h1 := H.2 j (ready_mono hj hji)
      obtain ⟨hjun, oj, hoj, hall⟩ := mem_ready.1 hj
      have hiun := (mem_ready.1 hr).1
      have hnot : ∀ e ∈ oj.after, Region.binds .any e = true → e.on ≠ i := fun e he hb heq => by
        have h1 := hall e he hb
        rw [heq, getD_false hiun] at h1; cases h1
      have h2 := wpOp_putIf hoj (hfree j oj hoj hji hjun hnot) (fun cs b => hsel i oi cs b hi) (fun cs b => hsel j oj cs b hoj) hQ hy h1
      have hfree' : ∀ k ok, ops[k]? = some ok → k ≠ i → (listed.setIfInBounds j true).getD k true = false →
          (∀ e ∈ ok.after, Region.binds .any e = true → e.on ≠ i) → oi.apart ops ok = true := fun k ok hk hki hun hno => by
        refine hfree k ok hk hki ?_ hno
        by_cases hjk : j = k
        · subst hjk; exact hjun
        · rw [getD_set_ne true hjk] at hun; exact hun
      refine wpOp_mono (fun a' w' h3 => ⟨h3.2.1, ih (listed.setIfInBounds j true) a' w' hfree' (ready_mono hr (Ne.symm hji)) h3.1 ?_ ?_ ?_⟩) h2
      · rcases hwt with hall | hwt
        · exact hall w'
        · refine hTs w w' hT (h3.2.1 ?_)
          cases hc : oth.contains j with
          | false => rfl
          | true => exact absurd hj (waits_not (hwt j (by simpa using hc) hjun hji) hiun)
      · rcases hwt with hall | hwt
        · exact .inl hall
        · refine .inr fun k hk hun hki => ?_
          by_cases hjk : j = k
          · subst hjk; exact waits_set hiun hj n j (hwt j hk hjun hji)
          · rw [getD_set_ne true hjk] at hun
            exact waits_set hiun hj n k (hwt k hk hun hki)
      · rw [Array.setIfInBounds_comm _ _ hji]
        exact h3.2.2
end
def sem (P : Program) (Q : Exit → Act → World → Prop) : List KI → List (Act → World → Prop) → Exit → Act → World → Prop
  | [], _ => Q
  | .code c :: K, B => Exit.then (c.wp P (sem P Q K B)) (sem P Q K B)
  | .ops all rest :: K, B => Exit.then (wpList P all (sem P Q K B) rest) (sem P Q K B)
  | .any all fuel listed :: K, B => Exit.then (wpAny P .any all (sem P Q K B) fuel listed) (sem P Q K B)
  | .still all fuel listed oth :: K, B => Exit.then (wpAnyN P all (sem P Q K B) oth fuel listed) (sem P Q K B)
  | .blk id :: K, B => Exit.inBlock id (sem P Q K B)
  | .lp .. :: K, B => Exit.then (B.headD (fun _ _ => True)) (sem P Q K B.tail)

/-- The ends of rounds do what the loops want. -/
def bOk (E : Env) (G : List Glob) (w0 : World) (D0 R0 : List Nat) (ρ : List D) : List KI → List (Act → World → Prop) → Prop
  | [], _ => True
  | .lp j T n0 fix :: K, B => (∃ b B', B = b :: B' ∧ ∀ τ S' a w θ, Rel G w0 D0 R0 (ρ ++ τ) S' a w → fit T n0 S' = .ok θ →
      E.inv j ((fix ++ keep θ (T.srts.drop n0)).map (Tm.den (ρ ++ τ))) →
      E.meas j ((fix ++ keep θ (T.srts.drop n0)).map (Tm.den (ρ ++ τ))) < E.meas j ((fix ++ keep (atoms' n0 (T.srts.drop n0).length) (T.srts.drop n0)).map (Tm.den (ρ ++ τ))) → b a w) ∧ bOk E G w0 D0 R0 ρ K B.tail
  | _ :: K, B => bOk E G w0 D0 R0 ρ K B

theorem bOk_mono : ∀ {K : List KI} {B : List (Act → World → Prop)}, bOk E G w0 D0 R0 ρ K B → bOk E G w0 D0 R0 (ρ ++ τ) K B
  | [], _, _ => trivial
  | .lp j T n0 fix :: K, B, h => by
    obtain ⟨⟨b, B', rfl, h1⟩, h2⟩ := h
    refine ⟨⟨b, B', rfl, fun τ' S' a w θ hr hf hi hm => ?_⟩, bOk_mono h2⟩
    rw [List.append_assoc] at hr hi hm
    exact h1 (τ ++ τ') S' a w θ hr hf hi hm
  | .code c :: K, B, h => bOk_mono (K := K) h
  | .ops .. :: K, B, h => bOk_mono (K := K) h
  | .any .. :: K, B, h => bOk_mono (K := K) h
  | .still .. :: K, B, h => bOk_mono (K := K) h
  | .blk .. :: K, B, h => bOk_mono (K := K) h

theorem sem_ret {P : Program} {Q : Exit → Act → World → Prop} : ∀ {K : List KI} {B : List (Act → World → Prop)}, sem P Q K B .ret a w = Q .ret a w
  | [], _ => rfl
  | .code c :: K, B => sem_ret (K := K)
  | .ops .. :: K, B => sem_ret (K := K)
  | .any .. :: K, B => sem_ret (K := K)
  | .still .. :: K, B => sem_ret (K := K)
  | .blk .. :: K, B => sem_ret (K := K)
  | .lp .. :: K, B => sem_ret (K := K)

theorem sem_panic {P : Program} {Q : Exit → Act → World → Prop} {ch : List PanicEntry} : ∀ {K : List KI} {B : List (Act → World → Prop)}, sem P Q K B (.panic ch) a w = Q (.panic ch) a w
  | [], _ => rfl
  | .code c :: K, B => sem_panic (K := K)
  | .ops .. :: K, B => sem_panic (K := K)
  | .any .. :: K, B => sem_panic (K := K)
  | .still .. :: K, B => sem_panic (K := K)
  | .blk .. :: K, B => sem_panic (K := K)
  | .lp .. :: K, B => sem_panic (K := K)

theorem behind_ok {P : Program} {Q : Exit → Act → World → Prop} {id : Nat} : ∀ {K K' : List KI} {B : List (Act → World → Prop)}, behind id K = some K' → bOk E G w0 D0 R0 ρ K B →
    ∃ B', bOk E G w0 D0 R0 ρ K' B' ∧ ∀ a w, sem P Q K' B' .normal a w → sem P Q K B (.exit id) a w
  | [], _, _, h, _ => by simp [behind] at h
  | .blk i :: K, K', B, h, hb => by
    simp only [behind] at h
    split at h
    · rename_i hi
      cases h
      exact ⟨B, hb, fun a w hq => by simp only [sem, Exit.inBlock, if_pos hi]; exact hq⟩
    · rename_i hi
      obtain ⟨B', h1, h2⟩ := behind_ok (P := P) (Q := Q) (K := K) (B := B) h hb
      exact ⟨B', h1, fun a w hq => by simp only [sem, Exit.inBlock, if_neg hi]; exact h2 a w hq⟩
  | .code c :: K, K', B, h, hb => by
    obtain ⟨B', h1, h2⟩ := behind_ok (P := P) (Q := Q) (K := K) (B := B) (by simpa [behind] using h) hb
    exact ⟨B', h1, h2⟩
  | .ops .. :: K, K', B, h, hb => by
    obtain ⟨B', h1, h2⟩ := behind_ok (P := P) (Q := Q) (K := K) (B := B) (by simpa [behind] using h) hb
    exact ⟨B', h1, h2⟩
  | .any .. :: K, K', B, h, hb => by
    obtain ⟨B', h1, h2⟩ := behind_ok (P := P) (Q := Q) (K := K) (B := B) (by simpa [behind] using h) hb
    exact ⟨B', h1, h2⟩
  | .still .. :: K, K', B, h, hb => by
    obtain ⟨B', h1, h2⟩ := behind_ok (P := P) (Q := Q) (K := K) (B := B) (by simpa [behind] using h) hb
    exact ⟨B', h1, h2⟩
  | .lp .. :: K, K', B, h, hb => by
    obtain ⟨B', h1, h2⟩ := behind_ok (P := P) (Q := Q) (K := K) (B := B.tail) (by simpa [behind] using h) hb.2
    exact ⟨B', h1, h2⟩

theorem forEach_ok {f : Nat → M} : ∀ {l : List Nat} {vc : VC}, forEach f l = .ok vc → vc.den E ρ → ∀ i ∈ l, ∃ v, f i = .ok v ∧ v.den E ρ
  | [], vc, h, hd, i, hi => by cases hi
  | [x], vc, h, hd, i, hi => by simp only [List.mem_singleton] at hi; subst hi; exact ⟨vc, h, hd⟩
  | x :: y :: l, vc, h, hd, i, hi => by
    simp only [forEach] at h
    obtain ⟨h1, v, h2, h3⟩ := both_ok h hd
    rcases List.mem_cons.1 hi with rfl | hi
    · exact h1
    · exact forEach_ok (l := y :: l) h2 h3 i hi

theorem at_ok {pos : String} {x : M} (h : at_ pos x = .ok vc) : x = .ok vc := by
  unfold at_ at h
  split at h
  · exact h
  · cases h

theorem alls_ok : ∀ {ss : List Srt} {k : M} {vc : VC} {ρ σ : List D}, alls ss k = .ok vc → vc.den E ρ → srtsOk ss σ → ∃ v, k = .ok v ∧ v.den E (ρ ++ σ)
  | [], k, vc, ρ, σ, h, hd, hs => by
    cases σ with
    | nil => exact ⟨vc, h, by simpa using hd⟩
    | cons => exact hs.elim
  | s :: ss, k, vc, ρ, σ, h, hd, hs => by
    cases σ with
    | nil => exact hs.elim
    | cons d σ =>
      simp only [alls] at h
      split at h
      · rename_i v hv
        cases h
        obtain ⟨v', h1, h2⟩ := alls_ok hv (VC.den_all hd hs.1) hs.2
        exact ⟨v', h1, by simpa using h2⟩
      · cases h

theorem svsHold_told {ρ : List D} : ∀ {xs : List SV} {vs : List Value} {i : Nat} {x : SV}, svsHold ρ xs vs → (∀ v, vs[i]? = some v → x.holds ρ v) → svsHold ρ (xs.set i x) vs
  | [], vs, i, x, h, _ => by simpa using h
  | y :: xs, vs, i, x, h, hx => by
    obtain ⟨v, r, rfl, h1, h2⟩ := h
    cases i with
    | zero => exact ⟨v, r, rfl, hx v rfl, h2⟩
    | succ i => exact ⟨v, r, rfl, h1, svsHold_told h2 (fun u hu => hx u (by simpa using hu))⟩

theorem told_ok {x : Operand} {t : Tm} {b : Bool} (hr : Rel G w0 D0 R0 ρ S a w) (hx : a.eval x = .bool (t.den ρ).toB) (hb : (t.den ρ).toB = b) : Rel G w0 D0 R0 ρ (told_ S x b) a w := by
  unfold told_
  split
  · rename_i i
    refine ⟨hr.srts, svsHold_told hr.tmps (fun v hv => ?_), hr.defers, hr.heap, hr.globs, hr.frame, hr.within, hr.within'⟩
    have : a.tmps.getD i undef = v := by rw [Array.getD_eq_getD_getElem?, ← Array.getElem?_toList, hv]; rfl
    simp only [Act.eval] at hx
    rw [← this, hx, hb]; rfl
  · exact hr

def boolOf : Value → Option Bool
  | .bool b => some b
  | _ => none

theorem yielded_at {all : Array Oper} {j d : Nat} {v : Value} (hj : (all[j]?).bind (·.dst) = some d) (hv : a.tmps[d]? = some v) : yielded all a.tmps j = boolOf v := by
  unfold yielded
  rw [hj]
  simp only [Option.bind_some, hv]
  cases v <;> rfl

theorem guard_told {all : Array Oper} {o : Oper} {b : Bool} (hr : Rel G w0 D0 R0 ρ S a w) (h : guardOf all S o = .ok (.inl b)) : Region.wanted o (yielded all a.tmps) = b := by
  unfold guardOf at h
  unfold Region.wanted
  split at h
  · rename_i hg; cases h; rw [hg]
  · rename_i j want hg
    rw [hg]
    dsimp only
    split at h
    · cases h
    · rename_i d hj
      split at h
      · rename_i b' hs
        cases h
        obtain ⟨v, hv, hh⟩ := svsHold_get hr.tmps hs
        rw [yielded_at hj (by simpa using hv), show v = .bool b' from hh]
        rfl
      · cases h
      · rename_i hs
        cases h
        obtain ⟨v, hv, hh⟩ := svsHold_get hr.tmps hs
        rw [yielded_at hj (by simpa using hv), show v = undef from hh]
        rfl
      · cases h

theorem guard_open {all : Array Oper} {o : Oper} {d : Nat} {t : Tm} {want : Bool} (hr : Rel G w0 D0 R0 ρ S a w) (h : guardOf all S o = .ok (.inr (d, t, want))) : a.eval (.tmp d) = .bool (t.den ρ).toB := by
  unfold guardOf at h
  split at h
  · cases h
  · split at h
    · cases h
    · split at h
      · cases h
      · rename_i hs
        cases h
        exact hr.slot hs
      · cases h
      · cases h
end
end Go.Vc
namespace Go.Vc
section
variable {E : Env} {G : List Glob} {w0 : World} {D0 R0 : List Nat} {ρ0 ρ τ : List D} {S T : St} {a : Act} {w : World} {cx : Cx} {vc : VC} {K : List KI}
/-- Kept payload. -/
def keepD : List D → List Srt → List D
  | d :: ds, s :: ss => if told s then d :: keepD ds ss else keepD ds ss
  | _, _ => []

theorem keep_den {f : Tm → D} : ∀ (ts : List Tm) (ss : List Srt), (keep ts ss).map f = keepD (ts.map f) ss
  | [], _ => by simp [keep, keepD]
  | _ :: _, [] => by simp [keep, keepD]
  | t :: ts, s :: ss => by
    simp only [keep, keepD, List.map_cons]
    split
    · simp only [List.map_cons, keep_den ts ss]
    · exact keep_den ts ss

theorem stFacts_ok {n : Nat} (hr : Rel G w0 D0 R0 ρ T a w) : ∀ f ∈ stFacts n T, f.den ρ := by
  intro f hf
  rcases List.mem_append.1 (List.mem_filter.1 hf).1 with hf | hf
  · exact svsFacts_ok hr.tmps f hf
  · exact heapFacts_ok hr.heap f hf

theorem takeAt_ok {all : Array Oper} {i : Nat} {next : St → M} {Q : Exit → Act → World → Prop} {KK : Act → World → Prop} (hG : cx.G = G) (hsig : SigsOk cx E) (hr : Rel G w0 D0 R0 ρ S a w)
    (h : takeAt cx all i S next = .ok vc) (hd : vc.den E ρ) (hK : ∀ a' w', Nx E G w0 D0 R0 ρ next a' w' → KK a' w') : wpOp cx.P all Q i KK a w := by
  unfold takeAt at h
  unfold wpOp
  split at h
  · cases h
  · rename_i o ho
    rw [ho]
    dsimp only
    split at h
    · cases h
    · rename_i hg
      rw [if_pos (guard_told hr hg)]
      exact .inl (step_ok hG hsig hr (at_ok h) hd hK)
    · rename_i hg
      rw [if_neg (by rw [guard_told hr hg]; simp)]
      exact hK _ _ ⟨[], _, vc, h, by simpa using hd, by simpa using hr.put (x := .one (.lf .undef)) rfl⟩
    · cases h

theorem firstStill_ok {all : Array Oper} : ∀ {rs : List Nat} {i : Nat}, firstStill cx all S rs = some i → i ∈ rs ∧ ∃ o, all[i]? = some o ∧ (guardOf all S o = .ok (.inl true) → stillIn cx S o = true)
  | [], i, h => by simp [firstStill] at h
  | j :: r, i, h => by
    simp only [firstStill] at h
    split at h
    · rename_i o ho
      split at h
      · rename_i hg
        cases h
        exact ⟨by simp, o, ho, fun hg' => by rw [hg] at hg'; cases hg'⟩
      · split at h
        · rename_i hc
          cases h
          exact ⟨by simp, o, ho, fun _ => hc⟩
        · obtain ⟨h1, h2⟩ := firstStill_ok h
          exact ⟨List.mem_cons_of_mem _ h1, h2⟩
      · obtain ⟨h1, h2⟩ := firstStill_ok h
        exact ⟨List.mem_cons_of_mem _ h1, h2⟩
    · obtain ⟨h1, h2⟩ := firstStill_ok h
      exact ⟨List.mem_cons_of_mem _ h1, h2⟩

theorem takeQuiet_ok {all : Array Oper} {i : Nat} {next : St → M} {Q : Exit → Act → World → Prop} {KK : Act → World → Prop} (hG : cx.G = G) (hsig : SigsOk cx E) (hr : Rel G w0 D0 R0 ρ S a w)
    (hq : ∀ o, all[i]? = some o → quietIn cx S o = true)
    (h : takeAt cx all i S next = .ok vc) (hd : vc.den E ρ) (hK : ∀ a' w', Nx E G w0 D0 R0 ρ next a' w' → Same w w' → KK a' w') : wpOp cx.P all Q i KK a w := by
  unfold takeAt at h
  unfold wpOp
  split at h
  · cases h
  · rename_i o ho
    rw [ho]
    dsimp only
    split at h
    · cases h
    · rename_i hg
      rw [if_pos (guard_told hr hg)]
      exact .inl (quietIn_ok hG hsig hr (hq o ho) (at_ok h) hd hK)
    · rename_i hg
      rw [if_neg (by rw [guard_told hr hg]; simp)]
      exact hK _ _ ⟨[], _, vc, h, by simpa using hd, by simpa using hr.put (x := .one (.lf .undef)) rfl⟩ (Same.refl w)
    · cases h

theorem orElse_ok {x : M} {y : Unit → M} (h : orElse x y = .ok vc) : x = .ok vc ∨ y () = .ok vc := by
  unfold orElse at h
  split at h
  · exact .inl h
  · exact .inr h

theorem firstPure_ok {all : Array Oper} : ∀ {rs : List Nat} {i : Nat}, firstPure cx all S rs = some i → i ∈ rs ∧ ∃ o, all[i]? = some o ∧ (guardOf all S o = .ok (.inl true) → pureIn cx S o = true)
  | [], i, h => by simp [firstPure] at h
  | j :: r, i, h => by
    simp only [firstPure] at h
    split at h
    · rename_i o ho
      split at h
      · rename_i hg
        cases h
        exact ⟨by simp, o, ho, fun hg' => by rw [hg] at hg'; cases hg'⟩
      · split at h
        · rename_i hc
          cases h
          exact ⟨by simp, o, ho, fun _ => hc⟩
        · obtain ⟨h1, h2⟩ := firstPure_ok h
          exact ⟨List.mem_cons_of_mem _ h1, h2⟩
      · obtain ⟨h1, h2⟩ := firstPure_ok h
        exact ⟨List.mem_cons_of_mem _ h1, h2⟩
    · obtain ⟨h1, h2⟩ := firstPure_ok h
      exact ⟨List.mem_cons_of_mem _ h1, h2⟩

theorem firstOpen_ok {all : Array Oper} (hr : Rel G w0 D0 R0 ρ S a w) : ∀ {rs : List Nat} {d : Nat} {t : Tm}, firstOpen all S rs = some (d, t) → a.eval (.tmp d) = .bool (t.den ρ).toB
  | [], d, t, h => by simp [firstOpen] at h
  | j :: r, d, t, h => by
    simp only [firstOpen] at h
    split at h
    · rename_i o ho
      split at h
      · rename_i hg
        cases h
        exact guard_open hr hg
      · exact firstOpen_ok hr h
    · exact firstOpen_ok hr h

theorem bOk_noLp {G : List Glob} {ρ' : List D} : ∀ {K : List KI} {B : List (Act → World → Prop)}, noLp K = true → bOk E G w0 D0 R0 ρ' K B
  | [], _, _ => trivial
  | .lp .. :: K, B, h => by simp [noLp] at h
  | .code c :: K, B, h => bOk_noLp (K := K) h
  | .ops .. :: K, B, h => bOk_noLp (K := K) h
  | .any .. :: K, B, h => bOk_noLp (K := K) h
  | .still .. :: K, B, h => bOk_noLp (K := K) h
  | .blk .. :: K, B, h => bOk_noLp (K := K) h

theorem srtsOk_take : ∀ {n : Nat} {ss : List Srt} {ds : List D}, srtsOk ss ds → srtsOk (ss.take n) (ds.take n)
  | 0, _, _, _ => by simp [srtsOk]
  | _ + 1, [], [], _ => by simp [srtsOk]
  | _ + 1, [], _ :: _, h => h.elim
  | _ + 1, _ :: _, [], h => h.elim
  | n + 1, s :: ss, d :: ds, h => ⟨h.1, srtsOk_take h.2⟩

theorem joinS_ok {c : Code} {K : List KI} {jn : Ann} {rule : St → M} {τ : List D} {B : List (Act → World → Prop)} (hn : cx.own.srts.length = ρ0.length) (hr : Rel G w0 D0 R0 (ρ0 ++ τ) S a w)
    (h : joinS cx c K S jn rule = .ok vc) (hd : vc.den E (ρ0 ++ τ)) : ∃ T σ v, rule T = .ok v ∧ v.den E (ρ0 ++ σ) ∧ Rel G w0 D0 R0 (ρ0 ++ σ) T a w ∧ bOk E G w0 D0 R0 (ρ0 ++ σ) K B := by
  unfold joinS at h
  split at h
  · cases h
  · rename_i T _
    dsimp only at h
    split at h
    · rename_i hc
      obtain ⟨hT, hS, hK⟩ := hc
      split at h
      · cases h
      · rename_i θ hθ
        split at h
        · rename_i v hv
          cases h
          obtain ⟨hinv, hdv⟩ := hd
          have hρ : (ρ0 ++ τ).take cx.own.srts.length = ρ0 := by rw [hn]; simp
          have hs0 : srtsOk cx.own.srts ρ0 := by
            have := srtsOk_take (n := cx.own.srts.length) hr.srts
            rw [hS, hρ] at this; exact this
          obtain ⟨hσ, hr0⟩ := fit_ok hr hn (by rw [hT]; exact hs0) hθ
          simp only [VC.den] at hdv
          rw [hρ] at hdv
          obtain ⟨v1, e1, d1⟩ := alls_ok hv hdv hσ
          obtain ⟨v2, e2, d2⟩ := knows_ok e1 d1 (stFacts_ok hr0)
          split at e2
          · rename_i v3 hv3
            cases e2
            refine ⟨T, _, v3, hv3, ?_, hr0, bOk_noLp hK⟩
            apply d2
            have hσl := srtsOk_length hσ
            rw [List.map_append, keep_den, hn, atoms_den] at hinv
            rw [List.map_append, keep_den, hn, atoms_den, ← hn, ← hσl, hn]
            have := atoms'_den ρ0 (θ.map (Tm.den (ρ0 ++ τ))) []
            rw [List.append_nil] at this
            rw [this, ← hn]
            rw [← hn] at hinv
            exact hinv
          · cases e2
        · cases h
    · cases h

/-- THE LAW: what 'run' asks for suffices. -/
theorem run_ok (hG : cx.G = G) (hsig : SigsOk cx E) (hm : cx.P.follows .mixedOrders = true) (hn : cx.own.srts.length = ρ0.length) :
    ∀ (f : Nat) (K : List KI) (S : St) (vc : VC) (τ : List D) (a : Act) (w : World) (B : List (Act → World → Prop)), run cx f K S = .ok vc → vc.den E (ρ0 ++ τ) →
      Rel G w0 (owns ρ0 cx.own.heap) (ros ρ0 cx.own.heap) (ρ0 ++ τ) S a w → bOk E G w0 (owns ρ0 cx.own.heap) (ros ρ0 cx.own.heap) (ρ0 ++ τ) K B → sem cx.P (Q0 cx E w0 ρ0) K B .normal a w
  | 0, K, S, vc, τ, a, w, B, h, _, _, _ => by simp [run] at h
  | f + 1, [], S, vc, τ, a, w, B, h, hd, hr, _ => by
    simp only [run] at h
    obtain ⟨h1, v, h2, h3⟩ := retS_ok hG hr hn h hd
    exact ⟨h1, v, h2, v, rfl, h3⟩
  | f + 1, .still all fuel listed oth :: K, S, vc, τ, a, w, B, h, hd, hr, hb => by
    have IH := run_ok hG hsig hm hn f
    simp only [run] at h
    show wpAnyN cx.P all (sem cx.P (Q0 cx E w0 ρ0) K B) oth fuel listed a w
    split at h
    · rename_i hrs
      exact wpAnyN_done hrs (IH K S vc τ a w B h hd hr hb) _
    · cases h
    · rename_i fuel hne
      have hnx : ∀ i a' w', Nx E G w0 (owns ρ0 cx.own.heap) (ros ρ0 cx.own.heap) (ρ0 ++ τ) (fun S => run cx f (.still all fuel (listed.setIfInBounds i true) oth :: K) S) a' w' →
          wpAnyN cx.P all (sem cx.P (Q0 cx E w0 ρ0) K B) oth fuel (listed.setIfInBounds i true) a' w' := by
        rintro i a' w' ⟨σ, S', vc', h1, h2, h3⟩
        rw [List.append_assoc] at h2 h3
        exact IH (.still all fuel (listed.setIfInBounds i true) oth :: K) S' vc' (τ ++ σ) a' w' B h1 h2 h3 (by rw [← List.append_assoc]; exact bOk_mono (K := K) hb)
      split at h
      · rename_i i hft
        obtain ⟨hmem, o, ho, hstill⟩ := firstStill_ok hft
        replace hmem := (List.mem_filter.1 hmem).1
        split at h
        · rename_i hc
          simp only [Bool.and_eq_true] at hc
          obtain ⟨⟨hns, hfree⟩, hcase⟩ := hc
          have hQ : ∀ z, ∀ c a' w', sem cx.P (Q0 cx E w0 ρ0) K B (.panic c) (a'.put o.dst z) w' → sem cx.P (Q0 cx E w0 ρ0) K B (.panic c) a' w' := by
            intro z c a' w' hq
            rw [sem_panic] at hq ⊢
            exact ⟨by rw [← Act.put_defers' a' o.dst z]; exact hq.1, hq.2⟩
          have first : ∀ {z : Value} {T : World → Prop}, (∀ w w', T w → Same w w' → T w') → YieldsIf cx.P all T o z a → T w → ((∀ w, T w) ∨ othersWait all listed oth i = true) →
              wpAnyN cx.P all (sem cx.P (Q0 cx E w0 ρ0) K B) oth fuel (listed.setIfInBounds i true) (a.put o.dst z) w → wpAnyN cx.P all (sem cx.P (Q0 cx E w0 ρ0) K B) oth (fuel + 1) listed a w := by
            intro z T hTs hy hT hor H
            refine wpAnyN_first (n := all.size) ho (Region.noSelect_spec hns) (hQ z) hTs fuel listed a w (Region.free_spec ho hfree) hmem hy hT (hor.imp id fun hw j hj hun hji => ?_) H
            have := List.all_eq_true.1 hw j hj
            simp only [hun, Bool.false_or, Bool.or_eq_true, beq_iff_eq] at this
            exact this.resolve_left hji
          simp only [Bool.or_eq_true] at hcase
          have hp := hcase.imp_left (fun hp => by simpa [pureAt, ho] using hp)
          unfold takeAt at h
          rw [ho] at h
          dsimp only at h
          split at h
          · cases h
          · rename_i hg
            have hcase : pureIn cx S o = true ∨ othersWait all listed oth i = true := by
              refine hp.imp (fun hp => ?_) id
              rcases hp with hp | hp
              · exact hp
              · rw [hg] at hp; simp at hp
            rcases hcase with hpu | hw
            · obtain ⟨z, hz, hy⟩ := pureIn_ok hr hpu (at_ok h) hd
              exact first (T := fun _ => True) (fun _ _ _ _ => trivial) (.inl ⟨guard_told hr hg, fun w' _ => hy w'⟩) trivial (.inl fun _ => trivial) (hnx i _ _ hz)
            · obtain ⟨z, hz, hy⟩ := stillIn_ok hG hr (hstill hg) (at_ok h) hd
              exact first (T := Same w) (fun _ _ h1 h2 => h1.trans h2) (.inl ⟨guard_told hr hg, hy⟩) (Same.refl w) (.inr hw) (hnx i _ _ hz)
          · rename_i hg
            exact first (T := fun _ => True) (fun _ _ _ _ => trivial) (.inr ⟨guard_told hr hg, rfl⟩) trivial (.inl fun _ => trivial)
              (hnx i _ _ ⟨[], _, vc, h, by simpa using hd, by simpa using hr.put (x := .one (.lf .undef)) rfl⟩)
          · cases h
        · cases h
      · split at h
        · rename_i d t hfo
          have he := firstOpen_ok hr hfo
          obtain ⟨⟨v1, e1, d1⟩, v2, e2, d2⟩ := both_ok h hd
          cases hb' : (t.den (ρ0 ++ τ)).toB with
          | true =>
            obtain ⟨v, e3, d3⟩ := imp_ok e1 d1 hb'
            exact IH (.still all (fuel + 1) listed oth :: K) _ v τ a w B e3 d3 (told_ok hr he hb') hb
          | false =>
            obtain ⟨v, e3, d3⟩ := imp_ok e2 d2 hb'
            exact IH (.still all (fuel + 1) listed oth :: K) _ v τ a w B e3 d3 (told_ok hr he hb') hb
        · split at h
          · rename_i hquiet
            refine ⟨fun hh => absurd hh hne, fun i hi => ?_⟩
            obtain ⟨v, h1, h2⟩ := forEach_ok h hd i hi
            have hq := List.all_eq_true.1 hquiet i hi
            cases hc : oth.contains i with
            | true => exact takeAt_ok hG hsig hr h1 h2 (fun a' w' hn => ⟨fun hf => Bool.noConfusion hf, hnx i a' w' hn⟩)
            | false =>
              rw [hc, Bool.false_or] at hq
              refine takeQuiet_ok hG hsig hr (fun o ho => ?_) h1 h2 (fun a' w' hn hs => ⟨fun _ => hs, hnx i a' w' hn⟩)
              rw [ho] at hq; exact hq
          · cases h
  | f + 1, .blk id :: K, S, vc, τ, a, w, B, h, hd, hr, hb => by
    simp only [run] at h
    exact run_ok hG hsig hm hn f K S vc τ a w B h hd hr hb
  | f + 1, .lp j T n0 fix :: K, S, vc, τ, a, w, B, h, hd, hr, hb => by
    simp only [run] at h
    split at h
    · rename_i θ hθ
      cases h
      obtain ⟨⟨b, B', rfl, h1⟩, _⟩ := hb
      simp only [VC.den] at hd
      have := h1 [] S a w θ (by simpa using hr) hθ (by simpa using hd.1) (by simpa using hd.2)
      exact this
    · cases h
  | f + 1, .ops all rest :: K, S, vc, τ, a, w, B, h, hd, hr, hb => by
    have IH := run_ok hG hsig hm hn f
    simp only [run] at h
    show wpList cx.P all (sem cx.P (Q0 cx E w0 ρ0) K B) rest a w
    split at h
    · exact IH K S vc τ a w B h hd hr hb
    · rename_i o rest
      have hnx : ∀ a' w', Nx E G w0 (owns ρ0 cx.own.heap) (ros ρ0 cx.own.heap) (ρ0 ++ τ) (fun S => run cx f (.ops all rest :: K) S) a' w' → wpList cx.P all (sem cx.P (Q0 cx E w0 ρ0) K B) rest a' w' := by
        rintro a' w' ⟨σ, S', vc', h1, h2, h3⟩
        rw [List.append_assoc] at h2 h3
        exact IH (.ops all rest :: K) S' vc' (τ ++ σ) a' w' B h1 h2 h3 (by rw [← List.append_assoc]; exact bOk_mono (K := K) hb)
      unfold wpList
      split at h
      · cases h
      · rename_i hg
        rw [if_pos (guard_told hr hg)]
        exact .inl (step_ok hG hsig hr (at_ok h) hd hnx)
      · rename_i hg
        rw [if_neg (by rw [guard_told hr hg]; simp)]
        exact hnx _ _ ⟨[], _, vc, h, by simpa using hd, by simpa using hr.put (x := .one (.lf .undef)) rfl⟩
      · rename_i d t want hg
        have he := guard_open hr hg
        obtain ⟨⟨v1, e1, d1⟩, v2, e2, d2⟩ := both_ok h hd
        cases hb' : (t.den (ρ0 ++ τ)).toB with
        | true =>
          obtain ⟨v, e3, d3⟩ := imp_ok e1 d1 hb'
          exact IH (.ops all (o :: rest) :: K) _ v τ a w B e3 d3 (told_ok hr he hb') hb
        | false =>
          obtain ⟨v, e3, d3⟩ := imp_ok e2 d2 hb'
          exact IH (.ops all (o :: rest) :: K) _ v τ a w B e3 d3 (told_ok hr he hb') hb
  | f + 1, .any all fuel listed :: K, S, vc, τ, a, w, B, h, hd, hr, hb => by
    have IH := run_ok hG hsig hm hn f
    simp only [run] at h
    show wpAny cx.P .any all (sem cx.P (Q0 cx E w0 ρ0) K B) fuel listed a w
    split at h
    · rename_i hrs
      exact wpAny_done hrs (IH K S vc τ a w B h hd hr hb) _
    · cases h
    · rename_i fuel hne
      have hnx : ∀ i a' w', Nx E G w0 (owns ρ0 cx.own.heap) (ros ρ0 cx.own.heap) (ρ0 ++ τ) (fun S => run cx f (.any all fuel (listed.setIfInBounds i true) :: K) S) a' w' →
          wpAny cx.P .any all (sem cx.P (Q0 cx E w0 ρ0) K B) fuel (listed.setIfInBounds i true) a' w' := by
        rintro i a' w' ⟨σ, S', vc', h1, h2, h3⟩
        rw [List.append_assoc] at h2 h3
        exact IH (.any all fuel (listed.setIfInBounds i true) :: K) S' vc' (τ ++ σ) a' w' B h1 h2 h3 (by rw [← List.append_assoc]; exact bOk_mono (K := K) hb)
      have every : ∀ {vc : VC}, forEach (fun i => takeAt cx all i S (fun S => run cx f (.any all fuel (listed.setIfInBounds i true) :: K) S)) (Region.ready .any all listed) = .ok vc → vc.den E (ρ0 ++ τ) →
          wpAny cx.P .any all (sem cx.P (Q0 cx E w0 ρ0) K B) (fuel + 1) listed a w := by
        intro vc h hd
        refine wpAny_all rfl (fun hh => hne hh) (fun i hi => ?_)
        obtain ⟨v, h1, h2⟩ := forEach_ok h hd i hi
        exact takeAt_ok hG hsig hr h1 h2 (hnx i)
      split at h
      · exact wpAny_of_N _ _ _ _ (IH (.still all (fuel + 1) listed (othersOf cx all) :: K) S vc τ a w B h hd hr hb)
      rcases orElse_ok h with hst | h
      · split at hst
        · exact wpAny_of_N _ _ _ _ (IH (.still all (fuel + 1) listed (othersOf cx all) :: K) S vc τ a w B hst hd hr hb)
        · cases hst
      rcases orElse_ok h with hst | h
      · split at hst
        · exact wpAny_of_N _ _ _ _ (IH (.still all (fuel + 1) listed [] :: K) S vc τ a w B hst hd hr hb)
        · cases hst
      split at h
      · rename_i i hfp
        obtain ⟨hmem, o, ho, hpure⟩ := firstPure_ok hfp
        split at h
        · rename_i hc
          simp only [Bool.and_eq_true] at hc
          have hQ : ∀ z, ∀ c a' w', sem cx.P (Q0 cx E w0 ρ0) K B (.panic c) (a'.put o.dst z) w' → sem cx.P (Q0 cx E w0 ρ0) K B (.panic c) a' w' := by
            intro z c a' w' hq
            rw [sem_panic] at hq ⊢
            exact ⟨by rw [← Act.put_defers' a' o.dst z]; exact hq.1, hq.2⟩
          unfold takeAt at h
          rw [ho] at h
          dsimp only at h
          split at h
          · cases h
          · rename_i hg
            obtain ⟨z, hz, hy⟩ := pureIn_ok hr (hpure hg) (at_ok h) hd
            exact wpAny_take ho hc.1 hc.2 (by simpa using hmem) (hQ z) (.inl ⟨guard_told hr hg, hy⟩) (hnx i _ _ hz)
          · rename_i hg
            exact wpAny_take ho hc.1 hc.2 (by simpa using hmem) (hQ undef) (.inr ⟨guard_told hr hg, rfl⟩)
              (hnx i _ _ ⟨[], _, vc, h, by simpa using hd, by simpa using hr.put (x := .one (.lf .undef)) rfl⟩)
          · cases h
        · exact every h hd
      · split at h
        · rename_i d t hfo
          have he := firstOpen_ok hr hfo
          obtain ⟨⟨v1, e1, d1⟩, v2, e2, d2⟩ := both_ok h hd
          cases hb' : (t.den (ρ0 ++ τ)).toB with
          | true =>
            obtain ⟨v, e3, d3⟩ := imp_ok e1 d1 hb'
            exact IH (.any all (fuel + 1) listed :: K) _ v τ a w B e3 d3 (told_ok hr he hb') hb
          | false =>
            obtain ⟨v, e3, d3⟩ := imp_ok e2 d2 hb'
            exact IH (.any all (fuel + 1) listed :: K) _ v τ a w B e3 d3 (told_ok hr he hb') hb
        · exact every h hd
  | f + 1, .code c :: K, S, vc, τ, a, w, B, h, hd, hr, hb => by
    have IH := run_ok hG hsig hm hn f
    simp only [run] at h
    show c.wp cx.P (sem cx.P (Q0 cx E w0 ρ0) K B) a w
    split at h
    · exact wp_skip (IH K S vc τ a w B h hd hr hb)
    · exact wp_label (IH K S vc τ a w B h hd hr hb)
    · rename_i x y
      exact wp_seq (IH (.code x :: .code y :: K) S vc τ a w B h hd hr hb)
    · rename_i id c
      exact wp_block (IH (.code c :: .blk id :: K) S vc τ a w B h hd hr hb)
    · rename_i x y z
      split at h
      · cases h
      · rename_i v hv
        have hx := evT_ok hr hv
        split at h
        · exact wp_cond_true hx (IH (.code y :: K) S vc τ a w B h hd hr hb)
        · exact wp_cond_false hx (IH (.code z :: K) S vc τ a w B h hd hr hb)
        · rename_i t _ _
          obtain ⟨⟨v1, e1, d1⟩, v2, e2, d2⟩ := both_ok h hd
          refine wp_cond_split (t := (t.den (ρ0 ++ τ)).toB) hx (fun hb' => ?_) (fun hb' => ?_)
          · obtain ⟨v, e3, d3⟩ := imp_ok e1 d1 hb'
            exact IH (.code y :: K) _ v τ a w B e3 d3 (told_ok hr hx hb') hb
          · obtain ⟨v, e3, d3⟩ := imp_ok e2 d2 hb'
            exact IH (.code z :: K) _ v τ a w B e3 d3 (told_ok hr hx hb') hb
        · cases h
    · rename_i c
      split at h
      · rename_i ann hann
        have rule : ∀ (S : St) (vc : VC) (τ : List D), (let T := template cx S c ann; let fix := atoms cx.own.srts.length ++ ann.watch.flatMap (watchTms T); general S T (ann.j, fix) (run cx f (.code c :: .lp ann.j T S.srts.length fix :: K) T)) = .ok vc →
            vc.den E (ρ0 ++ τ) → Rel G w0 (owns ρ0 cx.own.heap) (ros ρ0 cx.own.heap) (ρ0 ++ τ) S a w → bOk E G w0 (owns ρ0 cx.own.heap) (ros ρ0 cx.own.heap) (ρ0 ++ τ) K B → (Code.loop c).wp cx.P (sem cx.P (Q0 cx E w0 ρ0) K B) a w := by
          intro S vc τ h hd hr hb
          dsimp only at h
          generalize template cx S c ann = T at h
          generalize atoms cx.own.srts.length ++ ann.watch.flatMap (watchTms T) = fix at h
          generalize ann.j = j at h
          unfold general at h
          dsimp only at h
          split at h
          · rename_i hc
            obtain ⟨hT, hTu, hfix⟩ := hc
            have hlen := srtsOk_length hr.srts
            split at h
            · cases h
            · rename_i θ hθ
              split at h
              · rename_i v hv
                cases h
                obtain ⟨hinv, hdv⟩ := hd
                obtain ⟨hσ0, hr0⟩ := fit_ok (ρ := ρ0 ++ τ) (τ := []) (by simpa using hr) hlen.symm (by rw [hT]; exact hr.srts) hθ
                simp only [List.append_nil] at hσ0 hr0
                -- the pattern's words in a longer payload
                have hfixE : ∀ σ, fix.map (Tm.den (ρ0 ++ τ ++ σ)) = fix.map (Tm.den (ρ0 ++ τ)) := fun σ => den_map_under (by rw [hlen]; exact hfix)
                refine wp_loop_ghost (fun n a w => ∃ σ, srtsOk (T.srts.drop S.srts.length) σ ∧ Rel G w0 (owns ρ0 cx.own.heap) (ros ρ0 cx.own.heap) (ρ0 ++ τ ++ σ) T a w ∧
                  E.inv j (fix.map (Tm.den (ρ0 ++ τ)) ++ keepD σ (T.srts.drop S.srts.length)) ∧ n = E.meas j (fix.map (Tm.den (ρ0 ++ τ)) ++ keepD σ (T.srts.drop S.srts.length))) _
                  ⟨_, hσ0, hr0, by rw [List.map_append, keep_den] at hinv; exact hinv, rfl⟩ ?_
                rintro n a1 w1 ⟨σ, hσ, hr1, hi1, rfl⟩
                obtain ⟨v1, e1, d1⟩ := alls_ok hv hdv hσ
                obtain ⟨v2, e2, d2⟩ := knows_ok e1 d1 (stFacts_ok hr1)
                split at e2
                · rename_i v3 hv3
                  cases e2
                  have hσl := srtsOk_length hσ
                  have hw : (fix ++ keep (atoms' S.srts.length (T.srts.drop S.srts.length).length) (T.srts.drop S.srts.length)).map (Tm.den (ρ0 ++ τ ++ σ)) = fix.map (Tm.den (ρ0 ++ τ)) ++ keepD σ (T.srts.drop S.srts.length) := by
                    rw [List.map_append, hfixE, keep_den, ← hσl, ← hlen]
                    have := atoms'_den (ρ0 ++ τ) σ []
                    rw [List.append_nil] at this
                    rw [this]
                  have d3 := d2 (by rw [hw]; exact hi1)
                  have hh := IH (.code c :: .lp j T S.srts.length fix :: K) T v3 (τ ++ σ) a1 w1
                    ((fun a' w' => ∃ n', n' < E.meas j (fix.map (Tm.den (ρ0 ++ τ)) ++ keepD σ (T.srts.drop S.srts.length)) ∧ ∃ σ, srtsOk (T.srts.drop S.srts.length) σ ∧ Rel G w0 (owns ρ0 cx.own.heap) (ros ρ0 cx.own.heap) (ρ0 ++ τ ++ σ) T a' w' ∧
                      E.inv j (fix.map (Tm.den (ρ0 ++ τ)) ++ keepD σ (T.srts.drop S.srts.length)) ∧ n' = E.meas j (fix.map (Tm.den (ρ0 ++ τ)) ++ keepD σ (T.srts.drop S.srts.length))) :: B)
                    hv3 (by rw [← List.append_assoc]; exact d3) (by rw [← List.append_assoc]; exact hr1) ?_
                  · exact hh
                  · refine ⟨⟨_, B, rfl, fun τ' S' a' w' θ' hr' hf' hi' hm' => ?_⟩, ?_⟩
                    · obtain ⟨g1, g2⟩ := fit_ok (ρ := ρ0 ++ τ) (τ := σ ++ τ') (by simpa using hr') hlen.symm (by rw [hT]; exact hr.srts) hf'
                      have hdrop : ∀ {x : List D}, ρ0 ++ (τ ++ σ) ++ τ' = ρ0 ++ τ ++ (σ ++ τ') := by simp
                      rw [@hdrop []] at hi' hm'
                      rw [List.map_append, hfixE, keep_den] at hi' hm'
                      have hold : (fix ++ keep (atoms' S.srts.length (T.srts.drop S.srts.length).length) (T.srts.drop S.srts.length)).map (Tm.den (ρ0 ++ τ ++ (σ ++ τ'))) = fix.map (Tm.den (ρ0 ++ τ)) ++ keepD σ (T.srts.drop S.srts.length) := by
                        rw [List.map_append, hfixE, keep_den, ← hσl, ← hlen, ← List.append_assoc (ρ0 ++ τ), atoms'_den]
                      rw [hold] at hm'
                      exact ⟨_, hm', _, g1, g2, hi', rfl⟩
                    · rw [← List.append_assoc]; exact bOk_mono (K := K) hb
                · cases e2
              · cases h
          · cases h
        split at h
        · obtain ⟨T, σ, v, h1, h2, h3, h4⟩ := joinS_ok (B := B) hn hr h hd
          exact rule T v σ h1 h2 h3 h4
        · exact rule S vc τ h hd hr hb
      · cases h
    · rename_i id
      split at h
      · rename_i K' hbh
        obtain ⟨B', hb', hsem⟩ := behind_ok (P := cx.P) (Q := Q0 cx E w0 ρ0) hbh hb
        exact wp_exit (hsem a w (IH K' S vc τ a w B' h hd hr hb'))
      · cases h
    · refine wp_ret ?_
      rw [sem_ret]
      obtain ⟨h1, v, h2, h3⟩ := retS_ok hG hr hn h hd
      exact ⟨h1, v, h2, v, rfl, h3⟩
    · rename_i id all draw
      have rule : ∀ (S : St) (vc : VC) (τ : List D), (if draw then run cx f (.any all all.size (Array.replicate all.size false) :: K) S else run cx f (.ops all all.toList :: K) S) = .ok vc →
          vc.den E (ρ0 ++ τ) → Rel G w0 (owns ρ0 cx.own.heap) (ros ρ0 cx.own.heap) (ρ0 ++ τ) S a w → bOk E G w0 (owns ρ0 cx.own.heap) (ros ρ0 cx.own.heap) (ρ0 ++ τ) K B → (Code.region id all draw).wp cx.P (sem cx.P (Q0 cx E w0 ρ0) K B) a w := by
        intro S1 vc1 τ1 g1 g2 g3 g4
        split at g1
        · rename_i hdraw
          clear h
          subst hdraw
          exact wp_region_any hm (IH (.any all all.size (Array.replicate all.size false) :: K) S1 vc1 τ1 a _ B g1 g2 (g3.ext (ext_drew w)) g4)
        · rename_i hdraw
          have hdraw : draw = false := by simpa using hdraw
          clear h
          subst hdraw
          exact wp_region_list (IH (.ops all all.toList :: K) S1 vc1 τ1 a w B g1 g2 g3 g4)
      split at h
      · cases h
        exact absurd hd.1 (by simp [Tm.den])
      split at h
      · obtain ⟨T, σ, v, h1, h2, h3, h4⟩ := joinS_ok (B := B) hn hr h hd
        exact rule T v σ h1 h2 h3 h4
      · exact rule S vc τ h hd hr hb
    · cases h
    · cases h

/-- A FUNCTION KEEPS ITS CONTRACT where its conditions hold. -/
theorem vcOf_sound {f : FuncId} {s : Sig} (hsig : SigsOk cx E) (hm : cx.P.follows .mixedOrders = true) (hf : cx.P.funcs[f]? = some cx.fn) (hs : s.toSigR = cx.own) (hpre : s.pre = E.post 0) (hpost : s.post = E.ret) (hpost2 : s.post2 = E.pre 200)
    (h : vcOf cx = .ok vc) (hd : vc.den E []) : s.Holds cx.P cx.G f := by
  obtain ⟨R, pre, post, post2⟩ := s
  dsimp only at hs hpre hpost hpost2
  subst hs hpre hpost hpost2
  intro w args ρ hρ hp ha hh hg
  dsimp only at hρ hp ha hh hg
  unfold vcOf at h
  split at h
  · cases h
  rename_i c hc
  dsimp only at h
  split at h
  · rename_i hu
    obtain ⟨v1, e1, d1⟩ := alls_ok (ρ := []) h hd hρ
    simp only [List.nil_append] at d1
    have hargs : args.size = cx.own.args.length := by rw [← svsHold_length ha]; simp
    have hlen := srtsOk_length hρ
    have hr : Rel cx.G w (owns ρ cx.own.heap) (ros ρ cx.own.heap) ρ (entry cx) { tmps := args ++ Array.replicate (cx.fn.ntmps - args.size) undef, defers := [] } w := by
      refine ⟨hρ, ?_, rfl, hh, hg, ⟨rfl, rfl, rfl, Nat.le_refl _, fun _ _ _ => rfl⟩, fun b hb => .inl hb, fun b hb => .inr (.inr hb)⟩
      simp only [entry, Array.toList_append, Array.toList_replicate]
      refine svsHold_append ha ?_
      have := svsHold_junk (ρ := ρ) (List.replicate (cx.fn.ntmps - args.size) undef)
      rw [List.length_replicate, hargs] at this
      rw [hargs]; exact this
    obtain ⟨v2, e2, d2⟩ := knows_ok e1 d1 (stFacts_ok hr)
    split at e2
    · rename_i v3 hv3
      cases e2
      have hat : (atoms cx.own.srts.length).map (Tm.den ρ) = ρ := by
        have := atoms_den ρ []
        rw [List.append_nil, hlen] at this; exact this
      have d3 := d2 (by rw [hat]; exact hp)
      have := run_ok (ρ0 := ρ) (w0 := w) rfl hsig hm hlen.symm 100000 [.code c] (entry cx) v3 [] _ w [] hv3 (by simpa using d3) (by simpa using hr) trivial
      refine Calls.mono (calls_of_wp hf hc (R := fun e w' => ∃ v, e = .returned v ∧ Good cx E w ρ v w') this) ?_
      rintro e w' ⟨v, rfl, g | g⟩
      · exact ⟨v, rfl, .inl g⟩
      · exact ⟨v, rfl, .inr g⟩
    · cases e2
  · cases h
end
end Go.Vc
namespace Go.Vc
def Sig.none : Sig := { args := [], heap := [], srts := [], res := .tup [], heap' := [], news := [], pre := fun _ => False, post := fun _ => True }

/-- Contracts and invariants, by number: own is 0, the others from 1 on. -/
def mkEnv (own : Sig) (cs : List Sig) (invs : List ((List D → Prop) × (List D → Nat))) : Env where
  pre c := if c < 200 then (match c with | 0 => fun _ => False | c + 1 => (cs.getD c Sig.none).pre) else (match c - 200 with | 0 => own.post2 | c + 1 => (cs.getD c Sig.none).pre)
  post c := if c < 200 then (match c with | 0 => own.pre | c + 1 => (cs.getD c Sig.none).post) else (match c - 200 with | 0 => fun _ => True | c + 1 => (cs.getD c Sig.none).post2)
  inv j := (invs.getD j (fun _ => True, fun _ => 0)).1
  meas j := (invs.getD j (fun _ => True, fun _ => 0)).2
  ret := own.post

theorem mkEnv_post0 {own : Sig} {cs : List Sig} {invs : List ((List D → Prop) × (List D → Nat))} : own.pre = (mkEnv own cs invs).post 0 := by
  simp only [mkEnv]
  rw [if_pos (by decide)]
theorem mkEnv_ret2 {own : Sig} {cs : List Sig} {invs : List ((List D → Prop) × (List D → Nat))} : own.post2 = (mkEnv own cs invs).pre 200 := by
  simp only [mkEnv]
  rw [if_neg (by decide)]
  rfl

def sigsOf : Nat → List (FuncId × Sig) → List (FuncId × Nat × SigR)
  | _, [] => []
  | n, (f, s) :: r => (f, n, s.toSigR) :: sigsOf (n + 1) r

structure Kept (P : Program) (G : List Glob) (f : FuncId) (s : Sig) : Prop where
  holds : s.Holds P G f
  body : ∃ fn b, P.funcs[f]? = some fn ∧ (fn.name == "runtime.NumGoroutine") = false ∧ fn.body = some b

theorem findSig_of {f c : Nat} {R : SigR} : ∀ {l : List (FuncId × Sig)} {n : Nat}, findSig f (sigsOf n l) = some (c, R) → ∃ i s, l[i]? = some (f, s) ∧ c = n + i ∧ s.toSigR = R
  | [], n, h => by simp [sigsOf, findSig] at h
  | (g, s) :: l, n, h => by
    simp only [sigsOf, findSig] at h
    split at h
    · rename_i e; cases h; subst e; exact ⟨0, s, rfl, rfl, rfl⟩
    · obtain ⟨i, s', h1, h2, h3⟩ := findSig_of h
      exact ⟨i + 1, s', h1, by omega, h3⟩

theorem kept_of {cx : Cx} {vc : VC} {f : FuncId} {own : Sig} {l : List (FuncId × Sig)} {invs : List ((List D → Prop) × (List D → Nat))} (hm : cx.P.follows .mixedOrders = true) (hf : cx.P.funcs[f]? = some cx.fn)
    (hname : (cx.fn.name == "runtime.NumGoroutine") = false) (hown : own.toSigR = cx.own) (hs : cx.sigs = sigsOf 1 l) (hl : ∀ x ∈ l, Kept cx.P cx.G x.1 x.2) (h : vcOf cx = .ok vc)
    (hd : vc.den (mkEnv own (l.map (·.2)) invs) []) (hlen : l.length < 199) : Kept cx.P cx.G f own := by
  have e0 : own.pre = (mkEnv own (l.map (·.2)) invs).post 0 := mkEnv_post0
  have e1 : own.post = (mkEnv own (l.map (·.2)) invs).ret := rfl
  have e2 : own.post2 = (mkEnv own (l.map (·.2)) invs).pre 200 := mkEnv_ret2
  generalize hE : mkEnv own (l.map (·.2)) invs = E at *
  refine ⟨vcOf_sound (E := E) (fun g c R hg => ?_) hm hf hown e0 e1 e2 h hd, ?_⟩
  · rw [hs] at hg
    obtain ⟨i, s, h1, h2, h3⟩ := findSig_of hg
    have hk := hl _ (List.mem_of_getElem? h1)
    have hi : (l.map (·.2)).getD i Sig.none = s := by simp [List.getD, h1]
    have hil : i < l.length := (List.getElem?_eq_some_iff.1 h1).1
    refine ⟨s, h3, ?_, ?_, ?_, hk.holds, hk.body⟩
    · rw [h2, Nat.add_comm]
      rw [← hE]
      simp only [mkEnv]
      rw [if_pos (by omega), hi]
    · rw [h2, Nat.add_comm]
      rw [← hE]
      simp only [mkEnv]
      rw [if_pos (by omega), hi]
    · rw [h2, ← hE]
      simp only [mkEnv]
      rw [if_neg (by omega), show 1 + i + 200 - 200 = i + 1 from by omega]
      show s.post2 = ((l.map (·.2)).getD i Sig.none).post2
      rw [hi]
  · unfold vcOf at h
    split at h
    · cases h
    · rename_i c hc
      exact ⟨cx.fn, c, hf, hname, hc⟩

theorem Frame0.below {w w' : World} (h : Frame0 w [] w') : RowKit.Below w.heap.size w w' := ⟨h.os, h.tape, h.output, h.size, fun b hb => h.block b hb (by simp)⟩

def aI (k : IntKind) (i : Nat) : SV := .one (.lf (.int k (.at i)))
def aB (i : Nat) : SV := .one (.lf (.bool (.at i)))
def aS (i : Nat) : SV := .one (.lf (.str (.at i)))

def shlI (k : IntKind) (a b : Int) : Int := k.wrap (a * 2^(Nat.min b.toNat k.bits))
def shrI (k : IntKind) (a b : Int) : Int := a.fdiv (2^(Nat.min b.toNat k.bits))
def minI (a b : Int) : Int := if b < a then b else a
def maxI (a b : Int) : Int := if b > a then b else a

theorem wf_has {k : IntKind} {n : Int} (h : (Lit.int k n).wf = true) : k.has n := by
  simp only [Lit.wf, Bool.and_eq_true, decide_eq_true_eq] at h
  exact h

end Go.Vc
