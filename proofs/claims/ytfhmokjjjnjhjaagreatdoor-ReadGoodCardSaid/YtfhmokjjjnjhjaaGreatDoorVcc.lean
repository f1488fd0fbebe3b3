/-
 Soundness: parts of texts and slices, conversions, append, copy, make.
 Soundness: make, len, min, max, append, copy, literals.
 Soundness: append, copy, make, literals.
 Soundness: make, literals.
 Soundness: facts, covers, calls by contract.
 Soundness: rows of maps.
 Soundness: operations on maps.
 Soundness: maps that change, maps that are gone over.
 Soundness: new maps, maps that are gone over, what nested slices hold.
 Soundness: what nested slices hold; what is bound to functions' values.
-/
import Derived.Test.YtfhmokjjjnjhjaaGreatDoorVcb
import Derived.Laws.Cover3
import Derived.Laws.OwnMore
import Derived.Great.BuildSlice
import Derived.Lib.AppendStr
import Derived.Maps.RangeRun
set_option linter.unusedVariables false
set_option linter.unusedSimpArgs false
open _root_.Go.IntKind (wrap)
namespace Go.Vc
theorem maxLen_eq : (maxLen : Int) = bW := by decide
section
variable {E : Env} {G : List Glob} {w0 : World} {D0 R0 : List Nat} {ρ : LD} {S : St} {a : Act} {w : World} {cx : Cx} {vc : VC} {ret : SV → M} {k : SV → St → M}
def xH (ρ : LD) : Option SV → Option Value → Prop
 | none, none => True
 | some x, some v => x.holds ρ v
 | _, _ => False
theorem xJ {x : Option SV} {d t : Tm} {v : Option Value} (h : xI x d = .ok t) (hx : xH ρ x v) : (v = none ∧ t = d) ∨ ∃ kk, v = some (.int kk (t.den ρ).toI) := by
 unfold xI at h
 split at h
 ·cases v with
  | none => cases h; exact .inl ⟨rfl, rfl⟩
  | some v => exact hx.elim
 ·cases v with
  | none => exact hx.elim
  | some v => obtain ⟨rfl, _⟩ := hx; cases h; exact .inr ⟨_, rfl⟩
 ·cases h
theorem aW6 {P : Program} {isSl : Bool} {len cap : Nat} {lo hi : Option Value} {l h : Int} (w : World) (hl : (lo = none ∧ l = 0) ∨ ∃ kk, lo = some (.int kk l)) (hh : (hi = none ∧ h = len) ∨ ∃ kk, hi = some (.int kk h))
  (h0 : 0 ≤ l) (h1 : l ≤ h) (h2 : h ≤ cap) : (Instr.sliceBounds isSl len cap lo hi none).run P w = .ok (l.toNat, h.toNat, cap) w := by
 have g1 : 0 ≤ h := by omega
 have g2 : l ≤ ((h.toNat : Nat) : Int) := by omega
 rcases hl with ⟨rfl, rfl⟩ | ⟨kk, rfl⟩ <;> rcases hh with ⟨rfl, rfl⟩ | ⟨kk', rfl⟩
 ·simp [Instr.sliceBounds]
 ·simp [Instr.sliceBounds, Instr.sliceBound, asIntOf, g1, h2]
 ·have : l ≤ (len : Int) := h1
  simp [Instr.sliceBounds, Instr.sliceBound, asIntOf, h0, this]
 ·have g3 : l ≤ max h 0 := by omega
  simp [Instr.sliceBounds, Instr.sliceBound, asIntOf, g1, h2, h0, g3]
theorem bD1 {ta : Tm} {own : Bool} {ek ek' : EK} {L N : Tm} (h : aZ ta S.heap = some (own, ek, L)) : aZ ta (oK ek' N S).heap = some (own, ek, L) := by
 unfold oK
 split
 ·exact h
 ·exact h
theorem cC3 {ek : EK} {L : Tm} {v : Value} (hr : Rel G w0 D0 R0 ρ S a w) (h : aU6 S ek L k = .ok vc) (hd : vc.den E ρ)
  (ho : fA w v ek.width (ek.len (L.den ρ)) (ek.cells (L.den ρ))) (hk : ek.ok (L.den ρ)) (hb : ∀ b, roB v = some b → b ∈ ros ρ S.heap) : Out E G w0 D0 R0 ρ a k (.ok v w) := by
 unfold aU6 at h
 split at h
 ·rename_i hu
  have hn := cO hr.aB
  rw [← hn] at hu
  have hund : S.under = true := by
   unfold fresh at h; split at h
   ·assumption
   ·cases h
  obtain ⟨vc2, g1, g2, g3, g4⟩ := nJ hr h hd (d := .V v) ⟨_, rfl⟩
  refine ⟨[.V v], _, _, vc2, v, w, g1, g2, ?_, ?_, rfl⟩
  ·simp only [SV.holds, S0.holds, Lf.holds, g4]; rfl
  ·refine g3.new (Ext.refl w) (c := .rsl (.at S.aB.length) ek L) ⟨?_, ?_⟩ (fun b hb' => by cases hb') (fun b hb' => ?_)
   ·rw [g4, Tm.bH hu]; exact ho
   ·rw [Tm.bH hu]; exact hk
   ·rw [Ch.fK, g4] at hb'
    simp only [St.under, Bool.and_eq_true, ← hn] at hund
    right
    show b ∈ ros (ρ ++ [.V v]) S.heap
    rw [xX hund.2]; exact hb b hb'
 ·cases h
theorem cH3 {t : TypeId} {x : SV} {lo hi : Option SV} {mx : Option Value} {drop : Bool} {u : Value} {lv hv : Option Value} (hr : Rel G w0 D0 R0 ρ S a w) (h : aB6 cx S t x lo hi mx.isSome drop k = .ok vc) (hd : vc.den E ρ)
  (hx : x.holds ρ u) (hlo : xH ρ lo lv) (hhi : xH ρ hi hv) : Out E G w0 D0 R0 ρ a k ((Instr.sliceAt t u lv hv mx).run cx.P w) := by
 unfold aB6 at h
 split at h
 ·cases h
 rename_i hmx
 have hmx : mx = none := by simpa using hmx
 subst hmx
 split at h
 ·rename_i s
  split at h
  ·rename_i hu
   split at h
   ·rename_i l hh hl hhh
    obtain ⟨rfl, hsz⟩ := hx
    obtain ⟨e1, vc1, h1, d1⟩ := gI h hd
    obtain ⟨e2, vc2, h2, d2⟩ := gI h1 d1
    obtain ⟨e3, vc3, h3, d3⟩ := gI h2 d2
    have e2 : 0 ≤ (l.den ρ).toI := e2
    have e3 : (hh.den ρ).toI ≤ ((s.den ρ).toS.size : Int) := e3
    have hb := aW6 (P := cx.P) (isSl := false) (len := (s.den ρ).toS.size) (cap := (s.den ρ).toS.size) (l := (l.den ρ).toI) (h := (hh.den ρ).toI) w
     ((xJ hl hlo).imp (fun h => ⟨h.1, by rw [h.2]; rfl⟩) id) ((xJ hhh hhi).imp (fun h => ⟨h.1, by rw [h.2]; rfl⟩) id) e2 e1 e3
    refine ⟨[], _, S, vc3, .string ((s.den ρ).toS.extract (l.den ρ).toI.toNat (hh.den ρ).toI.toNat), w, h3, by simpa using d3, ?_, by simpa using hr, ?_⟩
    ·rw [List.append_nil]
     refine ⟨rfl, ?_⟩
     have : ((s.den ρ).toS.extract (l.den ρ).toI.toNat (hh.den ρ).toI.toNat).size ≤ (s.den ρ).toS.size := by rw [ByteArray.size_extract]; omega
     show (((s.den ρ).toS.extract (l.den ρ).toI.toNat (hh.den ρ).toI.toNat).size : Int) ≤ bW
     omega
    ·simp [Instr.sliceAt, Instr.slice, run_underlying hu, hb]
   ·cases h
   ·cases h
  ·cases h
 ·rename_i ta
  split at h
  ·rename_i e own ek L hu hf
   split at h
   ·rename_i l hh hl hhh
    split at h
    ·rename_i hw
     obtain ⟨hw, hc⟩ := hw
     simp only [SV.holds, S0.holds, Lf.holds] at hx
     subst hx
     split at h
     rotate_left
     ·cases h
     rename_i hdi
     obtain ⟨e1, vc1, h1, d1⟩ := gI h hd
     obtain ⟨e2, vc2, h2, d2⟩ := gI h1 d1
     obtain ⟨e3, vc3, h3, d3⟩ := gI h2 d2
     have e2 : 0 ≤ (l.den ρ).toI := e2
     rw [tZ] at e3
     obtain ⟨hrd, hok⟩ := lY hr.heap hf
     obtain ⟨dp1, dp2⟩ := wE hr.heap hdi
     have hsub : ∀ x ∈ aO ek ((tY ek L l hh).den ρ), x ∈ aO ek (L.den ρ) := fun x hx => by
      rw [bC0 e2 e1 e3] at hx
      exact List.mem_of_mem_take (List.mem_of_mem_drop hx)
     have hrD := hr.deep (ek := ek) (L := tY ek L l hh) (fun x hx => dp1 x (hsub x hx)) (fun b hb => by
      obtain ⟨x, hx, hb⟩ := List.mem_flatMap.1 hb
      exact dp2 b (List.mem_flatMap.2 ⟨x, hsub x hx, hb⟩))
     obtain ⟨hfr, hmem⟩ := aF4 hrD (bD1 hf)
     obtain ⟨x0, n, c, hval⟩ : ∃ x0 n c, (ta.den ρ).toV = .slice x0 n c := by
      rcases hrd with ⟨h, _⟩ | ⟨ad, cap, h, _⟩ | ⟨ad, cap, h, _⟩
      ·exact ⟨_, _, _, h⟩
      ·exact ⟨_, _, _, h⟩
      ·exact ⟨_, _, _, h⟩
     obtain ⟨v', hv', hrd', hok', hown', hn, hcap⟩ := hrd.cut (l := (l.den ρ).toI.toNat) (h := (hh.den ρ).toI.toNat) hok (by omega) (by omega) (bC0 (ek := ek) (L := L) (l := l) (h := hh) e2 e1 e3) x0 n c hval
     have hb := aW6 (P := cx.P) (isSl := true) (len := n) (cap := c) (l := (l.den ρ).toI) (h := (hh.den ρ).toI) w
      ((xJ hl hlo).imp (fun h => ⟨h.1, by rw [h.2]; rfl⟩) id) ((xJ hhh hhi).imp (fun h => ⟨h.1, by rw [h.2, tZ, hn]⟩) id) e2 e1 (by omega)
     split at h3
     ·refine ⟨[], _, S, _, v', w, h3, by simpa using d3, trivial, by simpa using hr, ?_⟩
      rw [hval, hv']
      simp [Instr.sliceAt, Instr.slice, run_underlying hu, hb, iM hc, hw]
     obtain ⟨σ, x', S', vc', v2, w', g1, g2, g3, g4, g5⟩ := cC3 hfr h3 d3 hrd' hok' (fun b hb => hmem b (hown' b hb))
     cases g5
     refine ⟨σ, x', S', vc', v', w, g1, g2, g3, g4, ?_⟩
     rw [hval, hv']
     simp [Instr.sliceAt, Instr.slice, run_underlying hu, hb, iM hc, hw]
    ·cases h
   ·cases h
   ·cases h
  ·cases h
 ·rename_i b o
  split at h
  ·rename_i n e hu
   split at h
   ·rename_i hc
    simp only [SV.holds, S0.holds, Lf.holds] at hx
    subst hx
    cases lv with
    | some _ => exact hlo.elim
    | none =>
     cases hv with
     | some _ => exact hhi.elim
     | none =>
      have hs : (sizeOf e).run cx.P w = .ok 1 w := by rw [iM (by omega), hc]
      refine ⟨[], _, S, vc, .slice (some ⟨(b.den ρ).toN, o, none⟩) n n, w, h, by simpa using hd, ?_, by simpa using hr, ?_⟩
      ·rw [List.append_nil]; exact ⟨n, rfl, Nat.le_refl _⟩
      ·simp [Instr.sliceAt, run_underlying hu, Instr.sureAddr, Instr.sliceBounds, hs, Addr.add_plain]
   ·cases h
  ·cases h
 ·cases h
theorem foldl_push (ns : LI) : ∀ s : BA, ns.foldl (fun r n => r.push (UInt8.ofNat n.toNat)) s = s ++ textOf ns := by
 induction ns with
 | nil => intro s; apply ByteArray.ext; simp [textOf]
 | cons n ns ih =>
  intro s
  rw [List.foldl_cons, ih]
  apply ByteArray.ext
  simp [textOf]
theorem bM3 {P : Program} {ad : Addr} {n c : Nat} {ns : LI} (h : ∀ j u, (ns.map (Value.int .u8))[j]? = some u → w.cell? (ad.add j) = some u) (hl : ns.length = n) :
  (Conv.bytesToString (.slice (some ad) n c)).run P w = .ok (.string (textOf ns)) w := by
 have := run_loadCells_list (P := P) (w := w) ad (ns.map (Value.int .u8)) h
 rw [List.length_map, hl] at this
 rw [run_bytesToString w ad n c ns this, foldl_push]
 rw [ByteArray.empty_append]
theorem textOf_size (l : LI) : (textOf l).size = l.length := by
 show (l.map fun x => UInt8.ofNat x.toNat).toArray.size = _
 simp
theorem aY9 {k : IntKind} {n : Int} (h : k.has n) : k.wrap n = n := by
 cases k <;> simp [IntKind.has, wrap, IntKind.min, IntKind.max, IntKind.signed, IntKind.bits] at h ⊢ <;> (try split) <;> omega
theorem aH9 (s : BA) : (EK.ok [.int .u8] (.Z (bytesOf s))) := by
 intro x hx
 simp only [D.toLi_Z, bytesOf, List.mem_map] at hx
 obtain ⟨b, _, rfl⟩ := hx
 have := b.toNat_lt
 have h2 : IntKind.u8.min = 0 ∧ IntKind.u8.max = 255 := by decide
 unfold IntKind.has
 rw [h2.1, h2.2]
 omega
theorem bytesOf_length (s : BA) : (bytesOf s).length = s.size := by simp [bytesOf]
theorem bU0 {src dst : TypeId} {x : SV} {u : Value} (hr : Rel G w0 D0 R0 ρ S a w) (h : yT cx S src dst x k = .ok vc) (hd : vc.den E ρ) (hx : x.holds ρ u) :
  Out E G w0 D0 R0 ρ a k ((convert src dst u).run cx.P w) := by
 unfold yT at h
 split at h
 ·rename_i d k1 k0 t hs hdst
  obtain ⟨rfl, hk⟩ := hx
  have hrun : (convert src dst (.int k0 (t.den ρ).toI)).run cx.P w = .ok (.int k1 (k1.wrap (t.den ρ).toI)) w := by
   simp only [convert, Sem.run_bind, run_underlying hs, run_underlying hdst, Result.andThen_ok]
   cases d <;> rfl
  refine ⟨[], _, S, vc, _, w, h, by simpa using hd, ?_, by simpa using hr, hrun⟩
  rw [List.append_nil]
  split
  ·rename_i e; subst e; rw [aY9 hk]; exact ⟨rfl, hk⟩
  ·exact ⟨rfl, qO _ _⟩
 ·rename_i d s hs hdst
  obtain ⟨rfl, hk⟩ := hx
  have hrun : (convert src dst (.string (s.den ρ).toS)).run cx.P w = .ok (.string (s.den ρ).toS) w := by
   simp only [convert, Sem.run_bind, run_underlying hs, run_underlying hdst, Result.andThen_ok]
   cases d <;> rfl
  exact ⟨[], _, S, vc, _, w, h, by simpa using hd, by rw [List.append_nil]; exact ⟨rfl, hk⟩, by simpa using hr, hrun⟩
 ·rename_i d e s hs hdst
  obtain ⟨rfl, hk⟩ := hx
  split at h
  ·rename_i he
   have hrun := Lib.run_convert_string_bytes w src dst e (s.den ρ).toS hs hdst he
   have hnew := Lib.bytesWorld_at_new w e (s.den ρ).toS
   have hml : (s.den ρ).toS.size ≤ maxLen := by have := maxLen_eq; omega
   have hcap1 := grownCap_ge w (s.den ρ).toS.size 0 e
   have hcap2 := grownCap_le_maxLen w (s.den ρ).toS.size 0 e hml
   have hbs : (Lib.bytesCells w e (s.den ρ).toS).size = grownCap w (s.den ρ).toS.size 0 e := by
    have : (s.den ρ).toS.data.size = (s.den ρ).toS.size := rfl
    simp only [Lib.bytesCells, Array.size_append, Array.size_map, Array.size_replicate, this]; omega
   rw [hrun]
   refine xB hr h hd ⟨by rw [Lib.bytesWorld_size]; omega, fun b hb => Lib.bytesWorld_at_old w e _ b hb, rfl, rfl, rfl⟩ ?_ (aH9 _) (fun b hb => by cases hb; exact Nat.le_refl _)
   refine .inr ⟨_, _, _, _, _, ?_, hnew, fun j hj => by rw [if_pos (show EK.width [CK.int IntKind.u8] = 1 from rfl)] at hj; simp only; omega, ?_, hcap2, by rw [hbs]; simp [EK.width, CK.width], ?_, ?_⟩
   ·simp [EK.len, Tm.den, O1.den, bytesOf_length]
   ·simp [EK.len, Tm.den, O1.den, bytesOf_length]; exact hcap1
   ·simp [EK.len, EK.cells, EK.width, CK.width, Tm.den, O1.den]
   ·have h1 : (EK.width [.int .u8]) = 1 := rfl
    have h2 : EK.len [.int .u8] ((Tm.o1 .aH s).den ρ) = (s.den ρ).toS.size := by simp [EK.len, Tm.den, O1.den, bytesOf_length]
    rw [h1, h2, Nat.mul_one]
    have h3 : ((s.den ρ).toS.data.map fun b => Value.int .u8 (b.toNat : Int)).toList = (bytesOf (s.den ρ).toS).map (Value.int .u8) := by simp [bytesOf]
    have h4 : ((s.den ρ).toS.data.map fun b => Value.int .u8 (b.toNat : Int)).toList.length = (s.den ρ).toS.size := by rw [h3, List.length_map, bytesOf_length]
    rw [Lib.bytesCells, Array.toList_append, ← h4, List.take_left, h3]
    rfl
  ·cases h
 ·rename_i e ta hs hdst
  split at h
  ·rename_i own ek L he hf
   split at h
   ·rename_i hek
    subst hek
    simp only [SV.holds, S0.holds, Lf.holds] at hx
    subst hx
    obtain ⟨hrd, hok⟩ := lY hr.heap hf
    have hlen : EK.len [.int .u8] (L.den ρ) = (L.den ρ).aH.length := rfl
    refine ⟨[], _, S, vc, .string (textOf (L.den ρ).aH), w, h, by simpa using hd, ?_, by simpa using hr, ?_⟩
    ·rw [List.append_nil]
     refine ⟨rfl, ?_⟩
     show ((textOf (L.den ρ).aH).size : Int) ≤ bW
     rw [textOf_size, ← hlen]
     rcases hrd with ⟨_, h2, _⟩ | ⟨_, _, _, h2, _⟩ | ⟨ad, cap, _, _, _, h4, h5, _⟩
     ·rw [h2]; decide
     ·rw [h2]; decide
     ·have := maxLen_eq; omega
    ·rcases hrd with ⟨h1, h2, _⟩ | ⟨ad, cap, h1, h2, _⟩ | ⟨ad, cap, h1, _, _, h4, h5, h6, h7⟩
     ·rw [h1, run_convert_bytes_string w src dst e _ _ _ hs he hdst]
      have : (L.den ρ).aH = [] := List.eq_nil_of_length_eq_zero h2
      rw [this]; rfl
     ·rw [h1, run_convert_bytes_string w src dst e _ _ _ hs he hdst]
      have : (L.den ρ).aH = [] := List.eq_nil_of_length_eq_zero h2
      rw [this]; rfl
     ·rw [h1, run_convert_bytes_string w src dst e _ _ _ hs he hdst]
      exact bM3 (ns := (L.den ρ).aH) h7 rfl
   ·cases h
  ·cases h
 ·rename_i e b o n hs hdst
  split at h
  ·rename_i ps he hf
   split at h
   ·rename_i kk L hL
    split at h
    ·rename_i hk
     obtain ⟨rfl, hn⟩ := hk
     obtain ⟨c, rfl, hnc⟩ := hx
     obtain ⟨cs, e', fz, hg, hfz, hv⟩ := rF hr.heap hf
     obtain ⟨pre, r, e1, e2, e3, e4, _⟩ := zN hL hv
     refine ⟨[], _, S, vc, .string (textOf (L.den ρ).aH), w, h, by simpa using hd, ?_, by simpa using hr, ?_⟩
     ·rw [List.append_nil]
      refine ⟨rfl, ?_⟩
      show ((textOf (L.den ρ).aH).size : Int) ≤ bW
      rw [textOf_size, e3]; exact hn
     ·rw [run_convert_bytes_string w src dst e _ _ _ hs he hdst]
      refine bM3 (ns := (L.den ρ).aH) (fun j u hj => ?_) e3
      rw [Addr.add_plain, cell?_block hg, ← Array.getElem?_toList, e1, ← e2, List.getElem?_mid j (List.getElem?_eq_some_iff.1 hj).1]
      exact hj
    ·cases h
   ·cases h
  ·cases h
 ·cases h
theorem bB5 {k : SV → St → M} {src dst : TypeId} {x : SV} {u : Value} (h : yT cx S src dst x k = .ok vc) (hd : vc.den E ρ) (hx : x.holds ρ u)
  (hp : (∃ kk t, x = .one (.lf (.int kk t))) ∨ (∃ s, x = .one (.lf (.str s)) ∧ cx.P.underlying dst = some .string)) :
  ∃ z, Met E ρ (fun v => k v S) z ∧ ∀ w, (convert src dst u).run cx.P w = .ok z w := by
 unfold yT at h
 rcases hp with ⟨kk, t, rfl⟩ | ⟨s, rfl, hdst⟩
 ·split at h
  ·rename_i d k1 k0 t0 hs hdst heq
   cases heq
   obtain ⟨rfl, hk⟩ := hx
   refine ⟨.int k1 (k1.wrap (t.den ρ).toI), ⟨_, vc, h, hd, ?_⟩, fun w => ?_⟩
   ·split
    ·rename_i e; subst e; rw [aY9 hk]; exact ⟨rfl, hk⟩
    ·exact ⟨rfl, qO _ _⟩
   ·simp only [convert, Sem.run_bind, run_underlying hs, run_underlying hdst, Result.andThen_ok]
    cases d <;> rfl
  all_goals first | (cases h; done) | (simp_all; done)
 ·rw [hdst] at h
  split at h
  ·rename_i heq; cases heq
  ·rename_i d s' hs _ heq
   cases heq
   obtain ⟨rfl, hk⟩ := hx
   refine ⟨_, ⟨_, vc, h, hd, rfl, hk⟩, fun w => ?_⟩
   simp only [convert, Sem.run_bind, run_underlying hs, run_underlying hdst, Result.andThen_ok]
   cases d <;> rfl
  all_goals first | (cases h; done) | (simp_all; done)
theorem cH2 {k : SV → St → M} {t : TypeId} {s : Tm} {lo hi : Option SV} {mx : Option Value} {drop : Bool} {u : Value} {lv hv : Option Value} (h : aB6 cx S t (.one (.lf (.str s))) lo hi mx.isSome drop k = .ok vc) (hd : vc.den E ρ)
  (hx : (SV.one (.lf (.str s))).holds ρ u) (hlo : xH ρ lo lv) (hhi : xH ρ hi hv) :
  ∃ z, Met E ρ (fun v => k v S) z ∧ ∀ w, (Instr.sliceAt t u lv hv mx).run cx.P w = .ok z w := by
 unfold aB6 at h
 split at h
 ·cases h
 rename_i hmx
 have hmx : mx = none := by simpa using hmx
 subst hmx
 dsimp only at h
 split at h
 ·rename_i hu
  split at h
  ·rename_i l hh hl hhh
   obtain ⟨rfl, hsz⟩ := hx
   obtain ⟨e1, vc1, h1, d1⟩ := gI h hd
   obtain ⟨e2, vc2, h2, d2⟩ := gI h1 d1
   obtain ⟨e3, vc3, h3, d3⟩ := gI h2 d2
   have e2 : 0 ≤ (l.den ρ).toI := e2
   have e3 : (hh.den ρ).toI ≤ ((s.den ρ).toS.size : Int) := e3
   refine ⟨.string ((s.den ρ).toS.extract (l.den ρ).toI.toNat (hh.den ρ).toI.toNat), ⟨_, vc3, h3, d3, rfl, ?_⟩, fun w => ?_⟩
   ·have : ((s.den ρ).toS.extract (l.den ρ).toI.toNat (hh.den ρ).toI.toNat).size ≤ (s.den ρ).toS.size := by rw [ByteArray.size_extract]; omega
    show (((s.den ρ).toS.extract (l.den ρ).toI.toNat (hh.den ρ).toI.toNat).size : Int) ≤ bW
    omega
   ·have hb := aW6 (P := cx.P) (isSl := false) (len := (s.den ρ).toS.size) (cap := (s.den ρ).toS.size) (l := (l.den ρ).toI) (h := (hh.den ρ).toI) w
     ((xJ hl hlo).imp (fun h => ⟨h.1, by rw [h.2]; rfl⟩) id) ((xJ hhh hhi).imp (fun h => ⟨h.1, by rw [h.2]; rfl⟩) id) e2 e1 e3
    simp [Instr.sliceAt, Instr.slice, run_underlying hu, hb]
  ·cases h
  ·cases h
 ·cases h
end
end Go.Vc
namespace Go.Vc
section
variable {E : Env} {G : List Glob} {w0 : World} {D0 R0 : List Nat} {ρ : LD} {S : St} {a : Act} {w : World} {cx : Cx} {vc : VC} {ret : SV → M} {k : SV → St → M}
theorem aC7 {t : TypeId} {ps : List Pt} (h : aC6 cx t = some ps) : ∃ i z, cx.P.info? t = some i ∧ i.zero = some z ∧ aJ ρ ps z.cells.toList := by
 unfold aC6 at h
 split at h
 ·rename_i i lay hi hl
  split at h
  ·rename_i z hz
   exact ⟨i, z, hi, hz, aA5 h⟩
  ·cases h
 ·cases h
theorem bS0 {o : BinOp} {t : TypeId} {x y : SV} {u v : Value} (hr : Rel G w0 D0 R0 ρ S a w) (h : aN2 cx S o t x y ret = .ok vc) (hd : vc.den E ρ) (hx : x.holds ρ u) (hy : y.holds ρ v) (xo yo : Operand) :
  ∃ z, Met E ρ ret z ∧ ∀ w, (do eqGuard o t xo yo u v; binOp o t u v : Sem Value).run cx.P w = .ok z w := by
 unfold aN2 at h
 split at h
 ·rename_i ta
  simp only [SV.holds, S0.holds, Lf.holds] at hx hy
  subst hx hy
  split at h
  ·rename_i own ek L hf
   split at h
   ·rename_i ht
    obtain ⟨el, ht⟩ : ∃ el, cx.P.underlying t = some (.slice el) := by
     unfold bF7 at ht; split at ht
     ·exact ⟨_, by assumption⟩
     ·cases ht
    obtain ⟨hrd, hok⟩ := lY hr.heap hf
    have hnil : ∃ b : Bool, (b = true → ek.len (L.den ρ) = 0) ∧ (∀ w, (Op.equal t (ta.den ρ).toV (.slice none 0 0)).run cx.P w = .ok b w) ∧ (∀ c, (ta.den ρ).toV ≠ .agg c) ∧ (ta.den ρ).toV ≠ .nilIface := by
     rcases hrd with ⟨h1, h2, _⟩ | ⟨ad, cap, h1, _⟩ | ⟨ad, cap, h1, _⟩
     ·exact ⟨true, fun _ => h2, fun w => by rw [h1]; exact run_equal_slice_nil w t el none 0 0 ht, fun c => by rw [h1]; exact (fun e => by cases e), by rw [h1]; exact (fun e => by cases e)⟩
     ·exact ⟨false, (fun e => by cases e), fun w => by rw [h1]; exact run_equal_slice_nil w t el (some ad) _ _ ht, fun c => by rw [h1]; exact (fun e => by cases e), by rw [h1]; exact (fun e => by cases e)⟩
     ·exact ⟨false, (fun e => by cases e), fun w => by rw [h1]; exact run_equal_slice_nil w t el (some ad) _ _ ht, fun c => by rw [h1]; exact (fun e => by cases e), by rw [h1]; exact (fun e => by cases e)⟩
    obtain ⟨b, hb, hrun, g1, g2⟩ := hnil
    have run1 : ∀ w, (do eqGuard .eql t xo yo (ta.den ρ).toV (.slice none 0 0); binOp .eql t (ta.den ρ).toV (.slice none 0 0) : Sem Value).run cx.P w = .ok (.bool b) w := fun w => by
     simp [aW8 .eql t xo yo _ _ w g1 g2, binOp, hrun]
    have run2 : ∀ w, (do eqGuard .neq t xo yo (ta.den ρ).toV (.slice none 0 0); binOp .neq t (ta.den ρ).toV (.slice none 0 0) : Sem Value).run cx.P w = .ok (.bool (!b)) w := fun w => by
     simp [aW8 .neq t xo yo _ _ w g1 g2, binOp, hrun]
    have he : b = true → ((Tm.o2 .eq (mG ek L) (.int 0)).den ρ).toB = true := fun hbt => by
     simp [Tm.den, O2.den, tZ, hb hbt]
    split at h
    ·split at h
     ·rename_i v1 v2 e1 e2
      cases h
      cases b with
      | true => exact ⟨_, Met.bool e1 (hd.1 (he rfl)) rfl, run1⟩
      | false => exact ⟨_, Met.bool e2 hd.2 rfl, run1⟩
     ·cases h
     ·cases h
    ·split at h
     ·rename_i v1 v2 e1 e2
      cases h
      cases b with
      | true => exact ⟨_, Met.bool e1 (hd.1 (he rfl)) rfl, run2⟩
      | false => exact ⟨_, Met.bool e2 hd.2 rfl, run2⟩
     ·cases h
     ·cases h
    ·cases h
   ·cases h
  ·cases h
 ·exact bS3 h hd hx hy xo yo
theorem bG8 {t : TypeId} {x : SV} {u : Value} (hr : Rel G w0 D0 R0 ρ S a w) (h : aT1 cx S t x ret = .ok vc) (hd : vc.den E ρ) (hx : x.holds ρ u) (ty : TypeId) :
  ∃ z, Met E ρ ret z ∧ ∀ w, (Builtin.len_ #[t] ty #[u]).run cx.P w = .ok z w := by
 have hm : IntKind.i64.max = bW := by decide
 have hmin : IntKind.i64.min ≤ 0 := by decide
 have has (n : Nat) (h : (n : Int) ≤ bW) : IntKind.i64.has (n : Int) := ⟨by omega, by rw [hm]; exact h⟩
 unfold aT1 at h
 split at h
 ·rename_i s hu
  obtain ⟨rfl, hk⟩ := hx
  exact ⟨_, Met.int h hd rfl (has _ hk), fun w => by simp [Builtin.len_, run_underlying hu, goInt, Tm.den, O1.den]⟩
 ·rename_i n e hu
  split at h
  ·rename_i hn
   exact ⟨_, Met.int h hd rfl (has n hn), fun w => by simp [Builtin.len_, run_underlying hu, goInt, Tm.den]⟩
  ·cases h
 ·rename_i e ta hu
  simp only [SV.holds, S0.holds, Lf.holds] at hx
  subst hx
  split at h
  ·rename_i own ek L hf
   obtain ⟨hrd, hok⟩ := lY hr.heap hf
   have hl : (ek.len (L.den ρ) : Int) ≤ bW := by
    rcases hrd with ⟨_, h2, _⟩ | ⟨_, _, _, h2, _⟩ | ⟨ad, cap, _, _, _, h4, h5, _⟩
    ·rw [h2]; decide
    ·rw [h2]; decide
    ·have := maxLen_eq; omega
   refine ⟨_, Met.int h hd (tZ ek L ρ) (has _ hl), ?_⟩
   rcases hrd with ⟨h1, h2, _⟩ | ⟨ad, cap, h1, h2, _⟩ | ⟨ad, cap, h1, _⟩
   ·intro w; rw [h1]; simp [Builtin.len_, run_underlying hu, goInt, h2]
   ·intro w; rw [h1]; simp [Builtin.len_, run_underlying hu, goInt, h2]
   ·intro w; rw [h1]; simp [Builtin.len_, run_underlying hu, goInt]
  ·cases h
 ·rename_i e b o n hu
  split at h
  ·rename_i hn
   obtain ⟨c, rfl, _⟩ := hx
   exact ⟨_, Met.int h hd rfl (has n hn), fun w => by simp [Builtin.len_, run_underlying hu, goInt, Tm.den]⟩
  ·cases h
 ·rename_i e hu
  split at h
  ·rename_i n e' hu'
   split at h
   ·rename_i hn
    refine ⟨_, Met.int h hd rfl (has n hn), ?_⟩
    intro w
    simp [Builtin.len_, run_underlying hu, run_underlying hu', goInt, Tm.den]
   ·cases h
  ·cases h
 ·cases h
theorem bX8 {k : IntKind} {x y : Int} (hx : k.has x) (hy : k.has y) : k.has (if y < x then y else x) := by split <;> assumption
theorem bX7 {k : IntKind} {x y : Int} (hx : k.has x) (hy : k.has y) : k.has (if y > x then y else x) := by split <;> assumption
theorem aQ7 {k : IntKind} : ∀ {args : List SV} {vs : List Value} {t u : Tm}, rJ .min k t args = some u → aU ρ args vs → k.has (t.den ρ).toI →
  (vs.foldlM Builtin.min2 (.int k (t.den ρ).toI) : Sem Value).run cx.P w = .ok (.int k (u.den ρ).toI) w ∧ k.has (u.den ρ).toI
 | [], vs, t, u, h, hv, hk => by simp only [aU] at hv; subst hv; simp [rJ] at h; subst h; exact ⟨rfl, hk⟩
 | x :: args, vs, t, u, h, hv, hk => by
  obtain ⟨v, r, rfl, hx, hv⟩ := hv
  unfold rJ at h
  split at h
  ·rename_i heq; cases heq
  ·rename_i _ k' u' r' heq
   cases heq
   split at h
   ·rename_i hkk
    subst hkk
    obtain ⟨rfl, hu⟩ := hx
    have := aQ7 h hv (bX8 hk hu)
    simpa [List.foldlM_cons, Builtin.min2, Tm.den, O2.den] using this
   ·cases h
  ·cases h
theorem aQ6 {k : IntKind} : ∀ {args : List SV} {vs : List Value} {t u : Tm}, rJ .max k t args = some u → aU ρ args vs → k.has (t.den ρ).toI →
  (vs.foldlM Builtin.max2 (.int k (t.den ρ).toI) : Sem Value).run cx.P w = .ok (.int k (u.den ρ).toI) w ∧ k.has (u.den ρ).toI
 | [], vs, t, u, h, hv, hk => by simp only [aU] at hv; subst hv; simp [rJ] at h; subst h; exact ⟨rfl, hk⟩
 | x :: args, vs, t, u, h, hv, hk => by
  obtain ⟨v, r, rfl, hx, hv⟩ := hv
  unfold rJ at h
  split at h
  ·rename_i heq; cases heq
  ·rename_i _ k' u' r' heq
   cases heq
   split at h
   ·rename_i hkk
    subst hkk
    obtain ⟨rfl, hu⟩ := hx
    have := aQ6 h hv (bX7 hk hu)
    simpa [List.foldlM_cons, Builtin.max2, Tm.den, O2.den] using this
   ·cases h
  ·cases h
theorem bI5 (w : World) {args : List SV} {vs : List Value} (h : xA .min args ret = .ok vc) (hd : vc.den E ρ) (hv : aU ρ args vs) (ts : Array TypeId) (ty : TypeId) :
  ∃ z, Met E ρ ret z ∧ ∀ w, (Builtin.min_ ts ty vs.toArray).run cx.P w = .ok z w := by
 unfold xA at h
 split at h
 ·rename_i k t r
  obtain ⟨v, rs, rfl, ⟨rfl, hk⟩, hv⟩ := hv
  split at h
  ·rename_i u hu
   exact ⟨_, Met.int h hd rfl (aQ7 (cx := cx) (w := w) hu hv hk).2, fun w' => by simpa [Builtin.min_] using (aQ7 (cx := cx) (w := w') hu hv hk).1⟩
  ·cases h
 ·cases h
theorem bI4 (w : World) {args : List SV} {vs : List Value} (h : xA .max args ret = .ok vc) (hd : vc.den E ρ) (hv : aU ρ args vs) (ts : Array TypeId) (ty : TypeId) :
  ∃ z, Met E ρ ret z ∧ ∀ w, (Builtin.max_ ts ty vs.toArray).run cx.P w = .ok z w := by
 unfold xA at h
 split at h
 ·rename_i k t r
  obtain ⟨v, rs, rfl, ⟨rfl, hk⟩, hv⟩ := hv
  split at h
  ·rename_i u hu
   exact ⟨_, Met.int h hd rfl (aQ6 (cx := cx) (w := w) hu hv hk).2, fun w' => by simpa [Builtin.max_] using (aQ6 (cx := cx) (w := w') hu hv hk).1⟩
  ·cases h
 ·cases h
theorem cF8 {P : Program} {w : World} {t tx e ty : TypeId} {i : TypeInfo} {z : Value} {v x : Value} {m n : Nat} {xs news : List Value} {dx : TypeDesc}
  (ht : P.underlying t = some (.slice e)) (hi : P.info? e = some i) (hz : i.zero = some z) (hzs : z.cells.size = i.size) (_hsz : 0 < i.size)
  (htx : P.underlying tx = some dx) (hdx : dx = .slice e ∨ dx = .string) (hown : fE w v i.size m xs)
  (hl : (Builtin.lenOf x).run P w = .ok n w) (hf : ∀ w', w'.heap = w.heap → (Builtin.firstCells i.size n x).run P w' = .ok news.toArray w') (hnl : news.length = n * i.size) (h1 : ∀ u ∈ news, one u)
  (h63 : m + n ≤ maxLen) (hb : (m + n) * i.bytes ≤ 140737488355328) :
  ∃ v' w', (Builtin.append_ #[t, tx] ty #[v, x]).run P w = .ok v' w' ∧ fE w' v' i.size (m + n) (xs ++ news) ∧ w.heap.size ≤ w'.heap.size ∧ w'.os = w.os ∧ w'.tape = w.tape ∧ w'.output = w.output ∧
   (∀ b, b < w.heap.size → v.ownBlock ≠ some b → w'.heap[b]? = w.heap[b]?) ∧ (∀ b, v'.ownBlock = some b → v.ownBlock = some b ∨ w.heap.size ≤ b) := by
 have hm63 : ((m + n : Nat) : Int) ≤ 9223372036854775807 := by
  have : maxLen = 9223372036854775807 := by decide
  omega
 have hsize : (sizeOf e).run P w = .ok i.size w := by simp [sizeOf, typeInfo, hi]
 have grow : ∀ (x0 : Option Addr) (cap : Nat) (olds : List Value), v = .slice x0 m cap → cap < m + n → olds = xs → xs.length = m * i.size →
   (∀ w', w'.heap = w.heap → (Builtin.firstCells i.size m v).run P w' = .ok olds.toArray w') →
   ∃ v' w', (Builtin.append_ #[t, tx] ty #[v, x]).run P w = .ok v' w' ∧ fE w' v' i.size (m + n) (xs ++ news) ∧ w.heap.size ≤ w'.heap.size ∧ w'.os = w.os ∧ w'.tape = w.tape ∧ w'.output = w.output ∧
    (∀ b, b < w.heap.size → v.ownBlock ≠ some b → w'.heap[b]? = w.heap[b]?) ∧ (∀ b, v'.ownBlock = some b → v.ownBlock = some b ∨ w.heap.size ≤ b) := by
  rintro x0 cap olds hv hcap rfl hlen hfo
  have hn' : ¬ (m + n ≤ cap) := by omega
  have h63' : ¬ (9223372036854775807 < ((m : Int) + (n : Int))) := by omega
  have h48' : ¬ (281474976710656 < Builtin.nextslicecap (m + n) cap * i.bytes) := by have := growslice_fits (bytes := i.bytes) hcap hb; omega
  have hg1 := grownCap_ge w (m + n) cap e
  have hg2 := grownCap_le_maxLen w (m + n) cap e h63
  have f1 := hfo w.drew rfl
  have f2 := hf w.drew rfl
  rw [hv] at f1
  refine ⟨.slice (some ⟨w.heap.size, 0, none⟩) (m + n) (grownCap w (m + n) cap e), w.drew.alloc (.cells (olds.toArray ++ news.toArray ++ Builtin.zeroCells z.cells (grownCap w (m + n) cap e - (m + n))) e), ?_, ?_, ?_, rfl, rfl, rfl, ?_, ?_⟩
  ·rw [hv]
   rcases hdx with rfl | rfl <;> simp [Builtin.append_, run_underlying ht, run_underlying htx, sizeOf, typeInfo, zeroValue, hi, hz, hl, hn', h63', h48', Question.forced, f1, f2, newRow, grownCap] <;> (congr 2; apply Array.ext'; simp)
  ·refine .inr ⟨w.heap.size, _, _, e, (0, 0), rfl, alloc_at w.drew _, fun j _ hj => by simp only at hj; omega, hg1, hg2, ?_, ?_, ?_⟩
   ·simp only [Array.size_append, List.size_toArray, size_zeroCells, hzs, hlen, hnl]
    rw [← Nat.add_mul, ← Nat.add_mul]; congr 1; omega
   ·rw [List.length_append, hlen, hnl, Nat.add_mul]
   ·simp only [Array.toList_append]
    have : (m + n) * i.size = (olds ++ news).length := by rw [List.length_append, hlen, hnl, Nat.add_mul]
    rw [this]; exact List.take_left
  ·exact (kX w.drew _).size
  ·intro b hb' _; exact (kX w.drew _).block b hb'
  ·intro b hb'; cases hb'; exact .inr (Nat.le_refl _)
 rcases hown with ⟨rfl, rfl, rfl⟩ | ⟨g, cap, cur, e', fz, rfl, hg, hfz, hmc, hcm, hcs, hlen, htake⟩
 ·by_cases hn0 : n = 0
  ·subst hn0
   have hnews : news = [] := List.eq_nil_of_length_eq_zero (by simpa using hnl)
   subst hnews
   refine ⟨.slice none 0 0, w, ?_, .inl ⟨rfl, rfl, rfl⟩, Nat.le_refl _, rfl, rfl, rfl, fun _ _ _ => rfl, fun b hb => by cases hb⟩
   rcases hdx with rfl | rfl <;> simp [Builtin.append_, run_underlying ht, run_underlying htx, sizeOf, typeInfo, hi, hl, hf w rfl]
  ·exact grow none 0 [] rfl (by omega) rfl (by simp) (fun w' _ => by simp [Builtin.firstCells])
 ·by_cases hroom : m + n ≤ cap
  ·have hfit : m * i.size + news.length ≤ cur.size := by rw [hnl, hcs, ← Nat.add_mul]; exact Nat.mul_le_mul_right _ hroom
   have hst := yB (P := P) (vs := news) (w := w) (b := g) (o := m * i.size) (i := 0) hg hfz.pred (by omega) h1
   have hb' := (Array.getElem?_eq_some_iff.1 hg).1
   obtain ⟨old, r, hold, hol⟩ : ∃ old r, cur.toList = xs ++ (old ++ r) ∧ old.length = news.length := by
    refine ⟨(cur.toList.drop (m * i.size)).take news.length, (cur.toList.drop (m * i.size)).drop news.length, ?_, ?_⟩
    ·rw [List.take_append_drop, ← htake, List.take_append_drop]
    ·rw [List.length_take, List.length_drop, Array.length_toList]; exact Nat.min_eq_left (Nat.le_sub_of_add_le (by rw [Nat.add_comm]; exact hfit))
   have hw := tH hold hol
   rw [hlen] at hw
   refine ⟨.slice (some ⟨g, 0, none⟩) (m + n) cap, putCells w g (jB cur (m * i.size) news) e' fz, ?_, ?_, by rw [xP]; exact Nat.le_refl _, rfl, rfl, rfl, ?_, fun b hb => .inl hb⟩
   ·rcases hdx with rfl | rfl <;> simp [Builtin.append_, run_underlying ht, run_underlying htx, sizeOf, typeInfo, hi, hl, hroom, hf w rfl, Addr.add_plain, hst]
   ·refine .inr ⟨g, cap, _, e', fz, rfl, xO hb', by rw [pY]; exact hfz, hroom, hcm, by rw [pY]; exact hcs, ?_, ?_⟩
    ·rw [List.length_append, hlen, hnl, Nat.add_mul]
    ·rw [hw]
     have : (m + n) * i.size = (xs ++ news).length := by rw [List.length_append, hlen, hnl, Nat.add_mul]
     rw [this, ← List.append_assoc]; exact List.take_left
   ·intro b hb2 hne
    exact sF (fun e => hne (by rw [e]; rfl))
  ·refine grow _ cap xs rfl (by omega) rfl hlen (fun w' hw' => ?_)
   refine run_firstCells_some w' i.size m ⟨g, 0, none⟩ m cap xs hlen (fun j u hj => ?_)
   have hcur : cur[j]? = some u := by
    have hj' : j < m * i.size := by rw [← hlen]; exact (List.getElem?_eq_some_iff.1 hj).1
    rw [← htake, List.getElem?_take, if_pos hj'] at hj
    simpa using hj
   rw [Addr.add_plain, Nat.zero_add]
   have : w'.heap[g]? = some (.cells cur e' fz) := by rw [hw']; exact hg
   rw [cell?_block this]; exact hcur
theorem aZ5 {ta : Tm} {ek : EK} {L N : Tm} {i : TypeInfo} {v' : Value} {w' : World} {news : List Value} {n : Nat} (hr : Rel G w0 D0 R0 ρ S a w) (hf : aZ ta S.heap = some (true, ek, L))
  (h : nS { S with heap := fH ta S.heap } ek N k = .ok vc) (hd : vc.den E ρ) (hw : ek.width = i.size)
  (hown : fE w' v' i.size (ek.len (L.den ρ) + n) (ek.cells (L.den ρ) ++ news)) (hs : w.heap.size ≤ w'.heap.size) (hos : w'.os = w.os) (htp : w'.tape = w.tape) (hout : w'.output = w.output)
  (hblk : ∀ b, b < w.heap.size → (ta.den ρ).toV.ownBlock ≠ some b → w'.heap[b]? = w.heap[b]?) (hob : ∀ b, v'.ownBlock = some b → (ta.den ρ).toV.ownBlock = some b ∨ w.heap.size ≤ b)
  (hN1 : ek.cells (N.den ρ) = ek.cells (L.den ρ) ++ news) (hN2 : ek.len (N.den ρ) = ek.len (L.den ρ) + n) (hN3 : ek.ok (N.den ρ)) :
  Out E G w0 D0 R0 ρ a k (.ok v' w') := by
 obtain ⟨l1, l2, he, hdrop, _⟩ := nI hf
 have hdrop := (hdrop rfl).2
 have p1 : S.heap.Perm (.osl ta ek L :: fH ta S.heap) := by
  have := kN l1 l2 (Ch.osl ta ek L)
  simp only [sQ, if_true] at he
  rw [hdrop, he]; exact this
 obtain ⟨hc, hrest, hown1, _⟩ := wP (hr.heap.perm p1)
 have hrest' : aN ρ (fH ta S.heap) w' := hrest.congr (fun b hb => hblk b (hb.elim hrest.dZ hrest.jM) (fun e => hb.elim (hown1 b e).1 (hown1 b e).2)) hs
 have hr' : Rel G w0 D0 R0 ρ { S with heap := fH ta S.heap } a w' := by
  refine hr.sH (hs := fH ta S.heap) hrest' hs (fun b hb hn => hblk b hb (fun e => hn ((dQ p1).2 (gW.2 (.inl e))))) hos htp hout ?_ ?_
  ·exact fun b hb => .inl ((dQ p1).2 (gW.2 (.inr hb)))
  ·exact fun b hb => .inr (.inl ((iL p1).2 (jO.2 (.inr hb))))
 unfold nS at h
 split at h
 ·rename_i hu
  have hu : N.under S.aB.length = true := hu
  rw [← cO hr.aB] at hu
  have hund : (fH ta S.heap).all (Ch.under ρ.length) = true := by
   unfold fresh at h
   split at h
   ·rename_i hx
    simp only [St.under, Bool.and_eq_true] at hx
    rw [cO hr.aB]; exact hx.2
   ·cases h
  obtain ⟨vc2, g1, g2, g3, g4⟩ := nJ hr' h hd (d := .V v') ⟨_, rfl⟩
  refine ⟨[.V v'], _, _, vc2, v', w', g1, g2, ?_, ?_, rfl⟩
  ·simp only [SV.holds, S0.holds, Lf.holds, g4]; rfl
  ·-- the old block may be taken again
   have hch : (Ch.osl (.at S.aB.length) ek N).holds (ρ ++ [.V v']) w' := by
    refine ⟨?_, ?_⟩
    ·rw [g4, Tm.bH hu, hN1, hN2, hw]; exact hown
    ·rw [Tm.bH hu]; exact hN3
   have hho : ∀ b, (Ch.osl (.at S.aB.length) ek N).fJ (ρ ++ [.V v']) b → (ta.den ρ).toV.ownBlock = some b ∨ w.heap.size ≤ b := by
    intro b hb; rw [Ch.fJ, g4] at hb; exact hob b hb
   have how : owns (ρ ++ [.V v']) (fH ta S.heap) = owns ρ (fH ta S.heap) := rW hund
   have hrw : ros (ρ ++ [.V v']) (fH ta S.heap) = ros ρ (fH ta S.heap) := xX hund
   have hin : ∀ b, (ta.den ρ).toV.ownBlock = some b → b ∈ owns ρ S.heap := fun b hb => (dQ p1).2 (gW.2 (.inl hb))
   refine ⟨g3.aB, g3.tmps, g3.defers, (qP rfl).2 ⟨hch, g3.heap, fun b hb => ?_, fun b hb => by cases hb⟩, fun g hg => ⟨(g3.globs g hg).1, fun hm => ?_⟩, g3.frame, fun b hb => ?_, fun b hb => ?_⟩
   ·show b ∉ owns (ρ ++ [.V v']) (fH ta S.heap) ∧ b ∉ ros (ρ ++ [.V v']) (fH ta S.heap)
    rw [how, hrw]
    rcases hho b hb with h1 | h1
    ·exact hown1 b h1
    ·exact ⟨fun hm => by have := hrest.dZ hm; omega, fun hm => by have := hrest.jM hm; omega⟩
   ·rcases gW.1 hm with h1 | h1
    ·rcases hho _ h1 with h2 | h2
     ·exact (hr.globs g hg).2 (hin _ h2)
     ·have := Glob.lt (hr.globs g hg).1; omega
    ·exact (g3.globs g hg).2 h1
   ·rcases gW.1 hb with h1 | h1
    ·rcases hho _ h1 with h2 | h2
     ·exact hr.within b (hin _ h2)
     ·exact .inr (Nat.le_trans hr.frame.size h2)
    ·exact g3.within b h1
   ·rcases jO.1 hb with h1 | h1
    ·cases h1
    ·exact g3.within' b h1
 ·cases h
end
end Go.Vc
namespace Go.Vc
section
variable {E : Env} {G : List Glob} {w0 : World} {D0 R0 : List Nat} {ρ : LD} {S : St} {a : Act} {w : World} {cx : Cx} {vc : VC} {ret : SV → M} {k : SV → St → M}
theorem bB7 (ek : EK) (L L' : Tm) : ek.cells ((qM ek L L').den ρ) = ek.cells (L.den ρ) ++ ek.cells (L'.den ρ) := by
 rw [kS, yV, List.flatMap_append, ← kS, ← kS]
theorem bB8 (ek : EK) (L L' : Tm) : ek.len ((qM ek L L').den ρ) = ek.len (L.den ρ) + ek.len (L'.den ρ) := by
 rw [len_eq, yV, List.length_append, ← len_eq, ← len_eq]
theorem bB9 {ek : EK} {L L' : Tm} (h : ek.ok (L.den ρ)) (h' : ek.ok (L'.den ρ)) : ek.ok ((qM ek L L').den ρ) := by
 rw [iY, yV]
 intro x hx
 rcases List.mem_append.1 hx with hx | hx
 ·exact (iY ek _).1 h x hx
 ·exact (iY ek _).1 h' x hx
theorem aJ8 {P : Program} {w : World} {v : Value} {es m n : Nat} {xs : List Value} (h : fA w v es m xs) (hn : n ≤ m) :
  (Builtin.lenOf v).run P w = .ok m w ∧ (Builtin.firstCells es n v).run P w = .ok (xs.take (n * es)).toArray w := by
 rcases h with ⟨rfl, rfl, rfl⟩ | ⟨ad, cap, rfl, rfl, rfl⟩ | ⟨ad, cap, rfl, h1, h2, h3, h4, h5, h6⟩
 ·exact ⟨rfl, by simp [Builtin.firstCells]⟩
 ·obtain rfl : n = 0 := by omega
  exact ⟨rfl, by rw [List.take_nil]; exact run_firstCells_some w es 0 ad 0 cap [] (by simp) (fun j u hj => by simp at hj)⟩
 ·refine ⟨rfl, run_firstCells_some w es n ad m cap _ ?_ (fun j u hj => ?_)⟩
  ·rw [List.length_take, h5]; exact Nat.min_eq_left (Nat.mul_le_mul_right _ hn)
  ·rw [List.getElem?_take] at hj
   split at hj
   ·exact h6 j u hj
   ·cases hj
theorem aT0 {n b : Nat} (hb : 0 < b) (h : (n : Int) ≤ 140737488355328 / (b : Int)) : n * b ≤ 140737488355328 ∧ n ≤ 140737488355328 := by
 have h1 : (n : Int) * b ≤ 140737488355328 := Int.mul_le_of_le_ediv (by omega) h
 have h2 : n * b ≤ 140737488355328 := Int.ofNat_le.1 (by rw [Int.natCast_mul]; exact h1)
 exact ⟨h2, Nat.le_trans (Nat.le_mul_of_pos_right n hb) h2⟩
theorem bQ9 {t tx ty : TypeId} {s x : SV} {u v : Value} (hr : Rel G w0 D0 R0 ρ S a w) (h : aM8 cx S t (some tx) s x k = .ok vc) (hd : vc.den E ρ) (hs : s.holds ρ u) (hx : x.holds ρ v) :
  Out E G w0 D0 R0 ρ a k ((Builtin.append_ #[t, tx] ty #[u, v]).run cx.P w) := by
 unfold aM8 at h
 split at h
 ·rename_i e ta ht
  simp only [SV.holds, S0.holds, Lf.holds] at hs
  subst hs
  split at h
  ·rename_i ek L i hf hi
   split at h
   ·rename_i hc
    obtain ⟨hw, hi0, hib, hzf⟩ := hc
    obtain ⟨dp, hdi⟩ : ∃ dp, aM7 S.heap ek L x = dp := ⟨_, rfl⟩
    dsimp only at h
    rw [hdi] at h
    have dpL : dp = true → _ := fun e => wE hr.heap (by have := hdi.trans e; unfold aM7 at this; exact (Bool.and_eq_true_iff.1 this).1)
    have dpApp : ∀ {L' : Tm}, (dp = true → jU w ek (L'.den ρ) ∧ ∀ b ∈ fF ek (L'.den ρ), b ∈ ros ρ S.heap) → (dp = true → jU w ek ((qM ek L L').den ρ) ∧ ∀ b ∈ fF ek ((qM ek L L').den ρ), b ∈ ros ρ S.heap) := by
     intro L' h' e
     have h' := h' e
     have dpL := dpL e
     refine ⟨fun x hx => ?_, fun b hb => ?_⟩
     ·rw [yV] at hx
      exact (List.mem_append.1 hx).elim (dpL.1 x) (h'.1 x)
     ·rw [fF, yV, List.flatMap_append] at hb
      exact (List.mem_append.1 hb).elim (dpL.2 b) (h'.2 b)
    obtain ⟨hown, hok⟩ := aX1 hr.heap hf
    obtain ⟨z, hz, hzs⟩ : ∃ z, i.zero = some z ∧ z.cells.size = i.size := by
     unfold bQ2 at hzf
     split at hzf
     ·exact ⟨_, by assumption, by simpa using hzf⟩
     ·cases hzf
    have hml : maxLen = 9223372036854775807 := by decide
    have main : ∀ (N : Tm) (n : Nat) (news : List Value) (dx : TypeDesc), gG (mG ek N) (.int (140737488355328 / i.bytes)) (nS { aE3 dp ek N S with heap := fH ta (aE3 dp ek N S).heap } ek N k) = .ok vc →
      (dp = true → jU w ek (N.den ρ) ∧ ∀ b ∈ fF ek (N.den ρ), b ∈ ros ρ S.heap) →
      cx.P.underlying tx = some dx → (dx = .slice e ∨ dx = .string) → (Builtin.lenOf v).run cx.P w = .ok n w →
      (∀ w', w'.heap = w.heap → (Builtin.firstCells i.size n v).run cx.P w' = .ok news.toArray w') → news.length = n * i.size → (∀ u ∈ news, one u) →
      ek.cells (N.den ρ) = ek.cells (L.den ρ) ++ news → ek.len (N.den ρ) = ek.len (L.den ρ) + n → ek.ok (N.den ρ) →
      Out E G w0 D0 R0 ρ a k ((Builtin.append_ #[t, tx] ty #[(ta.den ρ).toV, v]).run cx.P w) := by
     intro N n news dx hN hdp hdx hdx' hl hfc hnl h1 n1 n2 n3
     obtain ⟨e1, vc1, h1', d1⟩ := gI hN hd
     rw [tZ, n2] at e1
     obtain ⟨b1, b2⟩ := aT0 hib e1
     rw [hw] at hown
     obtain ⟨v', w', r1, r2, r3, r4, r5, r6, r7, r8⟩ := cF8 (ty := ty) ht hi hz hzs hi0 hdx hdx' hown hl hfc hnl h1 (by omega) b1
     rw [r1]
     cases dp with
     | true => exact aZ5 (hr.deep (hdp rfl).1 (hdp rfl).2) (bD1 hf) h1' d1 hw r2 r3 r4 r5 r6 r7 r8 n1 n2 n3
     | false => exact aZ5 hr hf h1' d1 hw r2 r3 r4 r5 r6 r7 r8 n1 n2 n3
    split at h
    ·rename_i b
     simp only [SV.holds, S0.holds, Lf.holds] at hx
     subst hx
     split at h
     ·rename_i o ek' L' hf'
      split at h
      ·rename_i he
       obtain ⟨he, htx, hdi'⟩ := he
       cases htx
       subst he
       obtain ⟨hrd, hok'⟩ := lY hr.heap hf'
       refine main _ (ek'.len (L'.den ρ)) (ek'.cells (L'.den ρ)) _ h (dpApp (fun e => wE hr.heap (hdi'.elim id fun e' => by rw [e] at e'; cases e'))) ht (.inl rfl) (aJ8 hrd (Nat.le_refl _)).1 (fun w' hw' => ?_) (by rw [cells_length hok', hw]) (cells_one hok') (bB7 _ _ _) (bB8 _ _ _) (bB9 hok hok')
       have := (aJ8 (P := cx.P) (hrd.congr (w' := w') (fun b _ => by rw [hw']) (by rw [hw']; exact Nat.le_refl _)) (Nat.le_refl _)).2
       rw [← hw, this, ← cells_length hok', List.take_length]
      ·cases h
     ·cases h
    ·rename_i z'
     obtain ⟨rfl, hzz⟩ := hx
     split at h
     ·rename_i he
      obtain ⟨he, htx⟩ := he
      subst he
      have hw1 : i.size = 1 := hw.symm
      have hdx : cx.P.underlying tx = some .string := by
       simp only [aS7] at htx
       split at htx
       ·assumption
       ·cases htx
      have hcl : (Lib.strCells (z'.den ρ).toS) = EK.cells [.int .u8] ((Tm.o1 .aH z').den ρ) := by simp [Lib.strCells, EK.cells, Tm.den, O1.den, bytesOf]
      refine main _ (z'.den ρ).toS.size (EK.cells [.int .u8] ((Tm.o1 .aH z').den ρ)) _ h (dpApp (fun _ => by obtain ⟨q1, q2⟩ := zG (w := w) (ek := [.int .u8]) (d := (Tm.o1 .aH z').den ρ) rfl; exact ⟨q1, by rw [q2]; intro b hb; cases hb⟩)) hdx (.inr rfl) rfl (fun w' _ => ?_) ?_ (cells_one (aH9 _)) (bB7 _ _ _) ?_ (bB9 hok (aH9 _))
      ·rw [Lib.run_firstCells_string, hcl]
      ·rw [← hcl, Lib.strCells_length, hw1, Nat.mul_one]
      ·rw [bB8]; congr 1; simp [EK.len, Tm.den, O1.den, bytesOf_length]
     ·cases h
    ·simp only [SV.holds, S0.holds, Lf.holds] at hx
     subst hx
     split at h
     ·rename_i htx
      cases htx
      exact main _ 0 [] _ h dpL ht (.inl rfl) rfl (fun w' _ => by simp [Builtin.firstCells]) (by simp) (by simp) (by simp) (by simp) hok
     ·cases h
    ·cases h
   ·cases h
  ·cases h
 ·cases h
theorem bL9 {P : Program} {w : World} {dT sT ty e : TypeId} {g o dLen dCap m : Nat} {v : Value} {news : List Value} {cur : Array Value} {te : TypeId} {fz : Nat × Nat}
  (hu : P.underlying dT = some (.slice e)) (hs : P.cellsOf e = 1) (hl : (Builtin.lenOf v).run P w = .ok m w) (hf : (Builtin.firstCells 1 (Nat.min m dLen) v).run P w = .ok news.toArray w)
  (hg : w.heap[g]? = some (.cells cur te fz)) (hfz : gV fz cur.size) (hfit : o + news.length ≤ cur.size) (h1 : ∀ u ∈ news, one u) :
  (Builtin.copy_ #[dT, sT] ty #[.slice (some ⟨g, o, none⟩) dLen dCap, v]).run P w = .ok (goInt (Nat.min m dLen : Nat)) (putCells w g (jB cur o news) te fz) := by
 have hst := yB (P := P) (vs := news) (w := w) (b := g) (o := o) (i := 0) hg hfz (by omega) h1
 have hsz := iM (P := P) (t := e) (by omega) w
 rw [hs] at hsz
 simp [Builtin.copy_, run_underlying hu, hl, hsz, hf, hst]
theorem run_copy_nil' {P : Program} {w : World} {dT sT ty e : TypeId} {c m : Nat} {v : Value} {news : List Value}
  (hu : P.underlying dT = some (.slice e)) (hs : P.cellsOf e = 1) (hl : (Builtin.lenOf v).run P w = .ok m w) (hf : (Builtin.firstCells 1 (Nat.min m 0) v).run P w = .ok news.toArray w) :
  (Builtin.copy_ #[dT, sT] ty #[.slice none 0 c, v]).run P w = .ok (goInt 0) w := by
 have hsz := iM (P := P) (t := e) (by omega) w
 rw [hs] at hsz
 simp only [Nat.min_def, Nat.le_zero_eq] at hf
 have : (if m = 0 then m else 0) = 0 := by split <;> simp_all
 rw [this] at hf
 simp [Builtin.copy_, run_underlying hu, hl, hsz, hf]
theorem bH2 {X L : LI} {n : Nat} (h : L.length = n) : (X.take n ++ L.drop X.length).length = n := by
 rw [List.length_append, List.length_take, List.length_drop]; omega
theorem bH3 {X L : LI} {n : Nat} (h : L.length = n) (k : IntKind) (r : List Value) :
  ∃ old r', L.map (Value.int k) ++ r = old ++ r' ∧ old.length = ((X.map (Value.int k)).take (Nat.min X.length n)).length ∧
   (X.map (Value.int k)).take (Nat.min X.length n) ++ r' = (X.take n ++ L.drop X.length).map (Value.int k) ++ r := by
 refine ⟨(L.map (Value.int k)).take X.length, (L.map (Value.int k)).drop X.length ++ r, by rw [← List.append_assoc, List.take_append_drop], ?_, ?_⟩
 ·have : Nat.min X.length n ≤ X.length := Nat.min_le_left _ _
  rw [List.length_take, List.length_take, List.length_map, List.length_map, h]
  have : Nat.min X.length n = min X.length n := rfl
  omega
 ·rw [List.map_append, List.map_take, List.map_drop, ← List.append_assoc]
  congr 2
  by_cases hc : X.length ≤ n
  ·have : Nat.min X.length n = X.length := Nat.min_eq_left hc
   rw [this, List.take_of_length_le (by simp), List.take_of_length_le (by simpa using hc)]
  ·have : Nat.min X.length n = n := Nat.min_eq_right (by omega)
   rw [this]
theorem bE3 {k : IntKind} {X L : LI} {n : Nat} (h1 : ∀ x ∈ X, k.has x) (h2 : ∀ x ∈ L, k.has x) : ∀ x ∈ X.take n ++ L.drop X.length, k.has x := by
 intro x hx
 rcases List.mem_append.1 hx with hx | hx
 ·exact h1 x (List.mem_of_mem_take hx)
 ·exact h2 x (List.mem_of_mem_drop hx)
theorem aU2 {X Y : Tm} {n : Nat} (hY : (Y.den ρ).toI = n) (h63 : ((X.den ρ).aH.length : Int) ≤ bW) :
  (Lf.int .i64 (.o2 .min (.o1 .lilen X) Y)).holds ρ (goInt (Nat.min (X.den ρ).aH.length n : Nat)) := by
 have e : ((Tm.o2 .min (.o1 .lilen X) Y).den ρ).toI = ((Nat.min (X.den ρ).aH.length n : Nat) : Int) := by
  show (if (Y.den ρ).toI < ((X.den ρ).aH.length : Int) then (Y.den ρ).toI else ((X.den ρ).aH.length : Int)) = _
  rw [hY]
  have : Nat.min (X.den ρ).aH.length n = min (X.den ρ).aH.length n := rfl
  rw [this]
  split <;> omega
 refine ⟨by rw [e]; rfl, ?_⟩
 rw [e]
 have hm : IntKind.i64.max = bW := by decide
 have hmin : IntKind.i64.min ≤ 0 := by decide
 have := Nat.min_le_left (X.den ρ).aH.length n
 have h3 : ((Nat.min (X.den ρ).aH.length n : Nat) : Int) ≤ ((X.den ρ).aH.length : Int) := Int.ofNat_le.2 this
 exact ⟨by omega, by rw [hm]; omega⟩
theorem bU1 {t tx ty : TypeId} {d x : SV} {u v : Value} (hr : Rel G w0 D0 R0 ρ S a w) (h : copyS cx S t tx d x k = .ok vc) (hd : vc.den E ρ) (hdd : d.holds ρ u) (hx : x.holds ρ v) :
  Out E G w0 D0 R0 ρ a k ((Builtin.copy_ #[t, tx] ty #[u, v]).run cx.P w) := by
 unfold copyS at h
 dsimp only at h
 split at h
 ·rename_i X e hsrc hu
  have hX : (Builtin.lenOf v).run cx.P w = .ok (X.den ρ).aH.length w ∧ (∀ n, n ≤ (X.den ρ).aH.length → (Builtin.firstCells 1 n v).run cx.P w = .ok (((X.den ρ).aH.map (Value.int .u8)).take n).toArray w) ∧
    (∀ y ∈ (X.den ρ).aH, IntKind.u8.has y) ∧ ((X.den ρ).aH.length : Int) ≤ bW := by
   split at hsrc
   ·split at hsrc
    ·cases hsrc
     obtain ⟨rfl, hz⟩ := hx
     rename_i z _
     have hl : ((Tm.o1 .aH z).den ρ).aH.length = (z.den ρ).toS.size := by simp [Tm.den, O1.den, bytesOf_length]
     refine ⟨by rw [hl]; rfl, fun n hn => ?_, aH9 _, by rw [hl]; exact hz⟩
     rw [hl] at hn
     simp only [Builtin.firstCells]
     show Result.ok _ _ = _
     congr 1
     apply Array.ext'
     simp [Tm.den, O1.den, bytesOf, ByteArray.data_extract, List.map_take]
     rfl
    ·cases hsrc
   ·split at hsrc
    ·cases hsrc
     rename_i hf
     simp only [SV.holds, S0.holds, Lf.holds] at hx
     subst hx
     obtain ⟨hrd, hok⟩ := lY hr.heap hf
     refine ⟨(aJ8 hrd (Nat.le_refl _)).1, fun n hn => ?_, hok, ?_⟩
     ·have := (aJ8 (P := cx.P) hrd hn).2
      rw [show n * EK.width [.int .u8] = n by simp [EK.width, CK.width]] at this
      exact this
     ·rcases hrd with ⟨_, h2, _⟩ | ⟨_, _, _, h2, _⟩ | ⟨ad, cap, _, _, _, h4, h5, _⟩
      ·rw [show (X.den ρ).aH.length = 0 from h2]; decide
      ·rw [show (X.den ρ).aH.length = 0 from h2]; decide
      ·have h4 : (X.den ρ).aH.length ≤ cap := h4
       have := maxLen_eq; omega
    ·cases hsrc
   ·cases hsrc
  obtain ⟨hl, hfc, hXh, hX63⟩ := hX
  split at h
  ·rename_i hs1
   split at h
   ·rename_i b o n
    obtain ⟨c, rfl, hnc⟩ := hdd
    split at h
    ·rename_i ps hf
     split at h
     ·rename_i L hL
      split at h
      ·rename_i qs hqs
       obtain ⟨cs, e', fz, hg, hfz, hv⟩ := rF hr.heap hf
       obtain ⟨pre, r, e1, e2, e3, e4, e5⟩ := zN hL hv
       obtain ⟨old, r', s1, s2, s3⟩ := bH3 (X := (X.den ρ).aH) e3 .u8 r
       have hwr := tH (cs := cs) (pre := pre) (old := old) (r := r') (by rw [e1, s1]) s2
       rw [e2] at hwr
       have hcl : o + ((X.den ρ).aH.map (Value.int .u8) |>.take (Nat.min (X.den ρ).aH.length n)).length ≤ cs.size := by
        rw [← s2, ← Array.length_toList, e1, s1, ← e2]
        simp only [List.length_append]; omega
       have hrun := bL9 (dT := t) (sT := tx) (ty := ty) (dCap := c) hu hs1 hl (hfc _ (Nat.min_le_left _ _)) hg hfz hcl
        (fun u hu => by obtain ⟨y, _, rfl⟩ := List.mem_map.1 (List.mem_of_mem_take hu); rfl)
       refine ⟨[], _, _, vc, _, _, h, by simpa using hd, ?_, ?_, hrun⟩
       ·rw [List.append_nil]
        exact aU2 rfl hX63
       ·rw [List.append_nil]
        refine hr.write hf hg hfz (pY _ _ _) ?_
        rw [hwr, s3]
        have := e5 (.o2 .liapp (.o2 .litake X (.int n)) (.o2 .lidrop L (.o1 .lilen X))) (by simpa [Tm.den, O2.den, O1.den] using bH2 e3)
         (by simpa [Tm.den, O2.den, O1.den] using bE3 (n := n) hXh e4) qs hqs
        simpa [Tm.den, O2.den, O1.den] using this
      ·cases h
     ·cases h
    ·cases h
   ·rename_i ta
    simp only [SV.holds, S0.holds, Lf.holds] at hdd
    subst hdd
    split at h
    ·rename_i L hf
     obtain ⟨hown, hok⟩ := aX1 hr.heap hf
     have hw1 : EK.width [.int .u8] = 1 := rfl
     have hlen : EK.len [.int .u8] (L.den ρ) = (L.den ρ).aH.length := rfl
     have hm : IntKind.i64.max = bW := by decide
     have hmin : IntKind.i64.min ≤ 0 := by decide
     rcases hown with ⟨h1, h2, h3⟩ | ⟨g, cap, cur, e', fz, h1, hg, hfz, hmc, hcm, hcs, hln, htake⟩
     ·have hL0 : (L.den ρ).aH = [] := List.eq_nil_of_length_eq_zero h2
      have hrun := run_copy_nil' (dT := t) (sT := tx) (ty := ty) (c := 0) hu hs1 hl (hfc _ (Nat.min_le_left _ _))
      rw [h1]
      refine ⟨[], _, _, vc, _, _, h, by simpa using hd, ?_, ?_, hrun⟩
      ·rw [List.append_nil]
       have := aU2 (ρ := ρ) (X := X) (Y := .o1 .lilen L) (n := 0) (by simp [Tm.den, O1.den, hL0]) hX63
       rw [show Nat.min (X.den ρ).aH.length 0 = 0 from Nat.min_eq_right (Nat.zero_le _)] at this
       exact this
      ·rw [List.append_nil]
       obtain ⟨l1, l2, he, hset, _⟩ := nI hf
       have hset := (hset rfl).1
       have p1 : S.heap.Perm (.osl ta [.int .u8] L :: (l1 ++ l2)) := by
        have := kN l1 l2 (Ch.osl ta [.int .u8] L)
        simp only [sQ, if_true] at he
        rw [he]; exact this
       have p2 := kN l1 l2 (Ch.osl ta [.int .u8] (.o2 .liapp (.o2 .litake X (.o1 .lilen L)) (.o2 .lidrop L (.o1 .lilen X))))
       rw [← hset] at p2
       obtain ⟨hc, hrest, hown1, _⟩ := wP (hr.heap.perm p1)
       refine hr.sH (hs := lH ta _ S.heap) (aN.perm p2.symm ((qP rfl).2 ⟨⟨?_, ?_⟩, hrest, hown1, fun b hb => by cases hb⟩)) (Nat.le_refl _) (fun _ _ _ => rfl) rfl rfl rfl (fun b hb => .inl ((dQ p1).2 ((dQ p2).1 hb))) (fun b hb => .inr (.inl ((iL p1).2 ((iL p2).1 hb))))
       ·refine .inl ⟨h1, ?_, ?_⟩ <;> simp [EK.len, EK.cells, Tm.den, O2.den, O1.den, hL0]
       ·simp [EK.ok, Tm.den, O2.den, O1.den, hL0]
     ·obtain ⟨old, r', s1, s2, s3⟩ := bH3 (X := (X.den ρ).aH) (n := (L.den ρ).aH.length) rfl .u8 (cur.toList.drop (L.den ρ).aH.length)
      have hcur : cur.toList = (L.den ρ).aH.map (Value.int .u8) ++ cur.toList.drop (L.den ρ).aH.length := by
       have : cur.toList.take (L.den ρ).aH.length = (L.den ρ).aH.map (Value.int .u8) := by
        rw [hw1, Nat.mul_one] at htake; exact htake
       rw [← this, List.take_append_drop]
      have hwr := tH (cs := cur) (pre := []) (old := old) (r := r') (by rw [hcur, s1]; rfl) s2
      simp only [List.length_nil, List.nil_append] at hwr
      have hfit : 0 + ((X.den ρ).aH.map (Value.int .u8) |>.take (Nat.min (X.den ρ).aH.length (L.den ρ).aH.length)).length ≤ cur.size := by
       rw [← s2, ← Array.length_toList, hcur, s1]
       simp only [List.length_append]; omega
      have hrun := bL9 (dT := t) (sT := tx) (ty := ty) (dCap := cap) (dLen := (L.den ρ).aH.length) hu hs1 hl (hfc _ (Nat.min_le_left _ _)) hg hfz.pred hfit
       (fun u hu => by obtain ⟨y, _, rfl⟩ := List.mem_map.1 (List.mem_of_mem_take hu); rfl)
      rw [h1]
      refine ⟨[], _, _, vc, _, _, h, by simpa using hd, ?_, ?_, hrun⟩
      ·rw [List.append_nil]
       exact aU2 rfl hX63
      ·rw [List.append_nil]
       refine hr.bQ0 hf h1 hg ⟨?_, ?_⟩
       ·have hlc : (X.den ρ).aH.take (L.den ρ).aH.length ++ (L.den ρ).aH.drop (X.den ρ).aH.length = ((Tm.o2 .liapp (.o2 .litake X (.o1 .lilen L)) (.o2 .lidrop L (.o1 .lilen X))).den ρ).aH := by simp [Tm.den, O2.den, O1.den]
        have hl2 := bH2 (X := (X.den ρ).aH) (L := (L.den ρ).aH) rfl
        refine .inr ⟨g, cap, _, e', fz, ?_, xO (Array.getElem?_eq_some_iff.1 hg).1, by rw [pY]; exact hfz, ?_, hcm, by rw [pY]; exact hcs, ?_, ?_⟩
        ·rw [h1]; congr 1; show (L.den ρ).aH.length = ((Tm.o2 .liapp (.o2 .litake X (.o1 .lilen L)) (.o2 .lidrop L (.o1 .lilen X))).den ρ).aH.length
         rw [← hlc, hl2]
        ·show ((Tm.o2 .liapp (.o2 .litake X (.o1 .lilen L)) (.o2 .lidrop L (.o1 .lilen X))).den ρ).aH.length ≤ cap
         rw [← hlc, hl2]; exact hmc
        ·simp [EK.cells, EK.len, EK.width, CK.width]
        ·show List.take (((Tm.o2 .liapp (.o2 .litake X (.o1 .lilen L)) (.o2 .lidrop L (.o1 .lilen X))).den ρ).aH.length * 1) _ = ((Tm.o2 .liapp (.o2 .litake X (.o1 .lilen L)) (.o2 .lidrop L (.o1 .lilen X))).den ρ).aH.map (Value.int .u8)
         rw [← hlc, hwr, s3, Nat.mul_one]
         exact List.take_left' (by rw [List.length_map])
       ·have := bE3 (n := (L.den ρ).aH.length) hXh hok
        simpa [EK.ok, Tm.den, O2.den, O1.den] using this
    ·cases h
   ·cases h
  ·cases h
 ·cases h
end
end Go.Vc
namespace Go.Vc
section
variable {E : Env} {G : List Glob} {w0 : World} {D0 R0 : List Nat} {ρ : LD} {S : St} {a : Act} {w : World} {cx : Cx} {vc : VC} {ret : SV → M} {k : SV → St → M}
theorem bD3 {α : Type} (xs : List Value) (y : α) (f : α → List Value) (h : f y = xs) : ∀ n, (List.replicate n y).flatMap f = (List.replicate n xs).flatten
 | 0 => rfl
 | n + 1 => by simp [List.replicate_succ, bD3 xs y f h n, h]
theorem bI2 {z : Array Value} {s : Nat} (hs : 0 < s) (hz : z.size = s) : ∀ n, (madeCells z (n * s)).toList = (List.replicate n z.toList).flatten
 | 0 => by simp [madeCells]
 | n + 1 => by
  have ih := bI2 hs hz n
  rw [List.replicate_succ', List.flatten_append, ← ih]
  apply List.ext_getElem?
  intro j
  have hsz : (madeCells z (n * s)).toList.length = n * s := by simp [madeCells]
  have hz' : z.toList.length = s := by simpa using hz
  have e1 : (n + 1) * s = n * s + s := by rw [Nat.add_mul, Nat.one_mul]
  simp only [List.flatten_cons, List.flatten_nil, List.append_nil]
  by_cases h1 : j < n * s
  ·rw [List.getElem?_append_left (by rw [hsz]; exact h1)]
   simp [madeCells, h1, e1, Nat.lt_add_right s h1]
  ·rw [List.getElem?_append_right (by rw [hsz]; omega), hsz]
   by_cases h2 : j < n * s + s
   ·have hm : j % s = j - n * s := by
     have : j = (j - n * s) + s * n := by have := Nat.mul_comm s n; omega
     conv => lhs; rw [this]
     rw [Nat.add_mul_mod_self_left, Nat.mod_eq_of_lt (by omega)]
    have hb : j - n * s < z.size := by omega
    simp only [madeCells, e1, hz]
    simp [h2, hm, Array.getElem?_eq_getElem hb]
    exact getElem!_pos z (j - n * s) hb
   ·rw [List.getElem?_eq_none (by simp [madeCells, e1]; omega), List.getElem?_eq_none (by rw [hz']; omega)]
theorem bJ9 {ek : EK} {d : D} {i : TypeInfo} {z : Value} {n c : Nat} {e : TypeId} (hw : ek.width = i.size) (hi : 0 < i.size) (hz : z.cells.size = i.size) (hnc : n ≤ c) (hc : c ≤ maxLen)
  (hn : n = ek.len d) (hd : ek.cells d = (List.replicate n z.cells.toList).flatten) :
  fE (w.alloc (.cells (madeCells z.cells (c * i.size)) e)) (.slice (some ⟨w.heap.size, 0, none⟩) n c) ek.width (ek.len d) (ek.cells d) := by
 refine .inr ⟨w.heap.size, c, _, e, (0, 0), by rw [hn], alloc_at w _, fun j _ hj => by simp only at hj; omega, by rw [← hn]; exact hnc, hc, by rw [hw]; exact size_madeCells _ _, ?_, ?_⟩
 ·rw [hd, ← hn, hw]
  have : ∀ n, (List.replicate n z.cells.toList).flatten.length = n * i.size := by
   intro n
   induction n with
   | zero => simp
   | succ n ih => rw [List.replicate_succ, List.flatten_cons, List.length_append, ih, Array.length_toList, hz, Nat.add_mul, Nat.one_mul]; omega
  exact this n
 ·rw [hd, ← hn, hw, bI2 hi hz]
  obtain ⟨m, rfl⟩ : ∃ m, c = n + m := ⟨c - n, by omega⟩
  rw [← List.replicate_append_replicate, List.flatten_append]
  refine List.take_left' ?_
  have : ∀ n, (List.replicate n z.cells.toList).flatten.length = n * i.size := by
   intro n
   induction n with
   | zero => simp
   | succ n ih => rw [List.replicate_succ, List.flatten_cons, List.length_append, ih, Array.length_toList, hz, Nat.add_mul, Nat.one_mul]; omega
  exact this n
theorem bU7 {ek : EK} {l z : Tm} {x : D} {n : Nat} (hl : (l.den ρ).toI.toNat = n) (hx : x = vC ek (z.den ρ)) :
  aO ek ((yX ek l z).den ρ) = List.replicate n x := by
 subst hx
 rcases ek with _ | ⟨c, _ | ⟨c', cs⟩⟩
 ·simp [yX, aO, Tm.den, O2.den, hl, vC]
 ·cases c <;> simp [yX, aO, Tm.den, O2.den, hl, vC]
 ·cases c <;> simp [yX, aO, Tm.den, O2.den, hl, vC]
theorem cB4 {t : TypeId} {l c : SV} {u v : Value} (hr : Rel G w0 D0 R0 ρ S a w) (h : aT7 cx S t l c k = .ok vc) (hd : vc.den E ρ) (hl : l.holds ρ u) (hc : c.holds ρ v) :
  Out E G w0 D0 R0 ρ a k ((Instr.makeSlice t u v).run cx.P w) := by
 unfold aT7 at h
 split at h
 ·rename_i e lt ct ht
  obtain ⟨rfl, hl⟩ := hl
  obtain ⟨rfl, hc⟩ := hc
  split at h
  ·rename_i ek zs hek hzs
   split at h
   ·rename_i zt i hzt hi
    split at h
    ·cases h
    split at h
    ·rename_i hcond
     obtain ⟨hw, hi0, hib, hpw⟩ := hcond
     obtain ⟨i', z, hi', hz, hp⟩ := aC7 (ρ := ρ) hzs
     rw [hi] at hi'; cases hi'
     have hzsz : z.cells.size = i.size := by rw [← hpw, ← xM hp]; simp
     obtain ⟨x, x1, x2, x3⟩ := aP5 cH0 hzt hp
     have hmax : maxLen = 9223372036854775807 := by decide
     split at h
     ·rename_i hlc
      subst hlc
      obtain ⟨e1, vc1, h1, d1⟩ := gI h hd
      obtain ⟨e2, vc2, h2, d2⟩ := gI h1 d1
      obtain ⟨n, hn⟩ : ∃ n : Nat, (lt.den ρ).toI = n := ⟨(lt.den ρ).toI.toNat, by simp only [Tm.den, D.toI_I] at e1; omega⟩
      rw [hn] at e2 hl
      obtain ⟨b1, b2⟩ := aT0 hib e2
      have hb : (i.bytes : Int) * (n : Int) ≤ 281474976710656 := by
       rw [← Int.natCast_mul, Nat.mul_comm]
       exact Int.le_trans (Int.ofNat_le.2 b1) (by decide)
      rw [hn, run_make (P := cx.P) w t e i z ht hi hz .i64 .i64 n n (by omega) (Int.le_refl _) hb (by omega), Int.toNat_natCast]
      have hto : (lt.den ρ).toI.toNat = n := by rw [hn]; rfl
      have hel := bU7 (ek := ek) (l := lt) (z := zt) hto x3
      refine xB hr h2 d2 (kX w _) (bJ9 hw hi0 hzsz (Nat.le_refl _) (by omega) (by rw [len_eq, hel, List.length_replicate]) ?_) ?_ (fun b hb => by cases hb; exact Nat.le_refl _)
      ·rw [kS, hel]; exact bD3 _ _ _ x1.symm n
      ·rw [iY, hel]; intro y hy; rw [(List.mem_replicate.1 hy).2]; exact x2
     ·split at h
      ·rename_i _ hl0
       subst hl0
       obtain ⟨e1, vc1, h1, d1⟩ := gI h hd
       obtain ⟨e2, vc2, h2, d2⟩ := gI h1 d1
       obtain ⟨n, hn⟩ : ∃ n : Nat, (ct.den ρ).toI = n := ⟨(ct.den ρ).toI.toNat, by simp only [Tm.den, D.toI_I] at e1; omega⟩
       rw [hn] at e2
       obtain ⟨b1, b2⟩ := aT0 hib e2
       have hb : (i.bytes : Int) * (n : Int) ≤ 281474976710656 := by
        rw [← Int.natCast_mul, Nat.mul_comm]
        exact Int.le_trans (Int.ofNat_le.2 b1) (by decide)
       have h0 : ((Tm.int 0).den ρ).toI = 0 := rfl
       rw [hn, h0, run_make (P := cx.P) w t e i z ht hi hz .i64 .i64 0 n (by omega) (by omega) hb (by omega), Int.toNat_natCast]
       have hnil := bU6 ek ρ
       refine xB hr h2 d2 (kX w _) (bJ9 (n := 0) hw hi0 hzsz (Nat.zero_le _) (by omega) (by rw [len_eq, hnil]; rfl) ?_) ?_ (fun b hb => by cases hb; exact Nat.le_refl _)
       ·rw [kS, hnil]; rfl
       ·rw [iY, hnil]; intro y hy; cases hy
      ·cases h
    ·cases h
   ·cases h
  ·cases h
 ·cases h
theorem bD5 (off : Nat) : ∀ (l : List Value) (s : Nat) (cs : Array Value), (l.zipIdx s).foldl (fun cs (x : Value × Nat) => cs.setIfInBounds (off + x.2) x.1) cs = jB cs (off + s) l
 | [], _, _ => rfl
 | v :: l, s, cs => by
  simp only [List.zipIdx_cons, List.foldl_cons, jB]
  rw [bD5 off l (s + 1)]; rfl
theorem aQ2 {place : Nat → Option (Nat × Nat × TypeId)} (hr : Rel G w0 D0 R0 ρ S a w) : ∀ {args : List (Nat × Operand)} {ps qs : List Pt} {cells : Array Value}, wH cx S place args ps = .ok qs → aJ ρ ps cells.toList →
  ∃ cells', Instr.fill (fun i => (place i).map fun x => (x.1, x.2.1)) cells (args.map fun (i, x) => (i, a.eval x)) = some cells' ∧ aJ ρ qs cells'.toList
 | [], ps, qs, cells, h, hp => by simp only [wH] at h; cases h; exact ⟨cells, rfl, hp⟩
 | (i, x) :: r, ps, qs, cells, h, hp => by
  unfold wH at h
  split at h
  ·cases h
  ·rename_i off size t hpl
   split at h
   ·cases h
   ·rename_i v hv
    split at h
    ·rename_i ps' hst
     obtain ⟨pre, old, rs, e1, e2, e3, e4, e5, e6⟩ := aK9 hr.heap hst (aX hr hv) hp
     have hwr := tH (cs := cells) e1 e3
     rw [e2] at hwr
     obtain ⟨cells', c1, c2⟩ := aQ2 hr (cells := jB cells off (a.eval x).cells.toList) h (by rw [hwr]; exact e6)
     refine ⟨cells', ?_, c2⟩
     have hle : off + (a.eval x).cells.size ≤ cells.size := by
      have : cells.toList.length = pre.length + (old.length + rs.length) := by rw [e1]; simp
      rw [Array.length_toList, e2, e3, Array.length_toList] at this
      omega
     simp only [List.map_cons, Instr.fill, hpl, Option.map_some]
     rw [if_neg (by simp [e4]; omega), ← c1]
     congr 1
     rw [← Array.foldl_toList, Array.toList_zipIdx]
     have := bD5 off (a.eval x).cells.toList 0 cells
     rw [Nat.add_zero] at this
     exact this
    ·cases h
theorem bK4 {P : Program} : ∀ {fs : List Field}, (∀ f ∈ fs, P.cellsOf f.type ≠ 0) → fs.mapM (fun f => (P.info? f.type).map fun i => (f.offset, i.size)) = some (fs.map fun f => (f.offset, P.cellsOf f.type))
 | [], _ => rfl
 | f :: fs, h => by
  have h1 := h f (by simp)
  have ih := bK4 (fs := fs) (fun g hg => h g (by simp [hg]))
  unfold Program.cellsOf at h1 ⊢
  cases hi : P.info? f.type with
  | none => rw [hi] at h1; simp at h1
  | some i =>
   unfold Program.cellsOf at ih
   simp [List.mapM_cons, hi, ih]
theorem bS8 {t : TypeId} {args : Array (Nat × Operand)} (hr : Rel G w0 D0 R0 ρ S a w) (h : aN7 cx S t args.toList ret = .ok vc) (hd : vc.den E ρ) :
  ∃ z, Met E ρ ret z ∧ ∀ w', (Instr.build t (args.map fun (i, x) => (i, a.eval x))).run cx.P w' = .ok z w' := by
 have hm : (args.map fun (i, x) => (i, a.eval x)).toList = args.toList.map fun (i, x) => (i, a.eval x) := by simp
 unfold aN7 at h
 split at h
 ·rename_i fs zs hu hz
  obtain ⟨i, z, hi, hz, hp⟩ := aC7 (ρ := ρ) hz
  split at h
  ·rename_i hfs
   have hfs : ∀ f ∈ fs.toList, cx.P.cellsOf f.type ≠ 0 := by
    rw [← Array.all_toList] at hfs
    intro f hf
    simpa using List.all_eq_true.1 hfs f hf
   split at h
   ·rename_i ps hps
    obtain ⟨cells', c1, c2⟩ := aQ2 hr hps hp
    refine ⟨.agg cells', ⟨_, vc, h, hd, cells', rfl, c2⟩, fun w' => run_build w' t _ cells' ?_⟩
    unfold Program.built
    simp only [hi, hu, hz, bK4 hfs, hm]
    rw [← c1]
    congr 1
    funext j
    simp [Option.map_map]; rfl
   ·cases h
  ·cases h
 ·rename_i n e zs hu hz
  obtain ⟨i, z, hi, hz, hp⟩ := aC7 (ρ := ρ) hz
  split at h
  ·cases h
  ·rename_i hs
   split at h
   ·rename_i ps hps
    obtain ⟨cells', c1, c2⟩ := aQ2 hr hps hp
    refine ⟨.agg cells', ⟨_, vc, h, hd, cells', rfl, c2⟩, fun w' => run_build w' t _ cells' ?_⟩
    unfold Program.built
    unfold Program.cellsOf at hs c1
    cases hie : cx.P.info? e with
    | none => rw [hie] at hs; simp at hs
    | some ie =>
     rw [hie] at c1
     simp only [hi, hu, hz, hie, hm]
     exact c1
   ·cases h
 ·cases h
def aC9 (ρ : LD) : List (List Pt) → List Value → Prop
 | [], [] => True
 | ps :: pss, v :: vs => aJ ρ ps v.cells.toList ∧ aC9 ρ pss vs
 | _, _ => False
theorem aN6 {e : TypeId} {size : Nat} (hr : Rel G w0 D0 R0 ρ S a w) : ∀ {args : List (Nat × Operand)} {j : Nat} {pss : List (List Pt)}, yN cx S e size j args = .ok pss →
  ∃ vs : List Value, (args.map fun (i, x) => (i, a.eval x)) = (vs.zipIdx j).map (fun x => (x.2, x.1)) ∧ (∀ v ∈ vs, v.cells.size = size) ∧ vs.length = args.length ∧ aC9 ρ pss vs
 | [], j, pss, h => by simp only [yN] at h; cases h; exact ⟨[], rfl, by simp, rfl, trivial⟩
 | (i, x) :: r, j, pss, h => by
  unfold yN at h
  split at h
  ·rename_i hij
   subst hij
   split at h
   ·cases h
   ·rename_i v hv
    split at h
    ·cases h
    ·rename_i ps hps
     split at h
     ·rename_i hsz
      split at h
      ·rename_i pss' hr'
       cases h
       obtain ⟨vs, h1, h2, h3, h4⟩ := aN6 hr hr'
       have hp := aX6 hr.heap hps (aX hr hv)
       refine ⟨a.eval x :: vs, ?_, ?_, by simp [h3], ⟨hp, h4⟩⟩
       ·simp [List.zipIdx_cons, h1]
       ·intro u hu
        rcases List.mem_cons.1 hu with rfl | hu
        ·rw [← hsz, ← xM hp]; simp
        ·exact h2 u hu
      ·cases h
     ·cases h
  ·cases h
theorem bH6 {hs : List Ch} (hsl : tJ ρ hs) {ek : EK} : ∀ {pss : List (List Pt)} {vs : List Value} {L : Tm}, rQ hs ek pss = some L → aC9 ρ pss vs →
  ek.cells (L.den ρ) = vs.flatMap (fun v => v.cells.toList) ∧ ek.ok (L.den ρ) ∧ ek.len (L.den ρ) = vs.length
 | [], _ :: _, L, h, hv => by cases hv
 | [], [], L, h, hv => by
  have he : aO ek (L.den ρ) = [] := by
   unfold rQ at h
   rcases ek with _ | ⟨c, _ | ⟨c', cs⟩⟩
   ·cases h; rfl
   ·cases c <;> cases h <;> rfl
   ·cases c <;> cases h <;> rfl
  refine ⟨by rw [kS, he]; rfl, ?_, by rw [len_eq, he]; rfl⟩
  rw [iY, he]; intro x hx; cases hx
 | _ :: _, [], L, h, hv => by cases hv
 | ps :: pss, v :: vs, L, h, hv => by
   obtain ⟨hp, hv⟩ := hv
   unfold rQ at h
   split at h
   ·cases h
   ·rename_i L' hL'
    obtain ⟨i1, i2, i3⟩ := bH6 hsl hL' hv
    have key : ∃ u : Tm, kJ hs ek ps = some u ∧ aO ek (L.den ρ) = vC ek (u.den ρ) :: aO ek (L'.den ρ) := by
     rcases ek with _ | ⟨c, _ | ⟨c', cs⟩⟩
     ·simp only at h
      split at h
      ·rename_i t ht; cases h; exact ⟨t, by simpa [kJ] using ht, rfl⟩
      ·cases h
     ·rcases ps with _ | ⟨p, _ | ⟨p', ps⟩⟩
      ·cases c <;> simp [fP] at h
      ·cases c with
       | int k =>
        cases p with
        | lf l =>
         cases l <;> simp [jI] at h
         rename_i k' t
         obtain ⟨rfl, rfl⟩ := h
         exact ⟨t, by simp [kJ], rfl⟩
        | ints => simp [jI] at h
       | bool => simp only at h; split at h <;> first | (rename_i t ht; cases h; exact ⟨t, ht, rfl⟩) | cases h
       | str => simp only at h; split at h <;> first | (rename_i t ht; cases h; exact ⟨t, ht, rfl⟩) | cases h
       | ints k n => simp only at h; split at h <;> first | (rename_i t ht; cases h; exact ⟨t, ht, rfl⟩) | cases h
       | sl ek' => simp only at h; split at h <;> first | (rename_i t ht; cases h; exact ⟨t, ht, rfl⟩) | cases h
      ·cases c <;> simp [fP] at h
     ·have h' : (match fP hs (c :: c' :: cs) ps with | some t => some (Tm.o2 .lcons t L') | none => none) = some L := by cases c <;> exact h
      split at h'
      ·rename_i t ht
       cases h'
       refine ⟨t, by cases c <;> exact ht, ?_⟩
       cases c <;> rfl
      ·cases h'
    obtain ⟨u, hu, hel⟩ := key
    obtain ⟨x, x1, x2, x3⟩ := aP5 hsl hu hp
    rw [← x3] at hel
    refine ⟨?_, ?_, ?_⟩
    ·rw [kS, hel, List.flatMap_cons, ← kS, i1, List.flatMap_cons, x1]
    ·rw [iY, hel]
     intro y hy
     rcases List.mem_cons.1 hy with rfl | hy
     ·exact x2
     ·exact (iY ek _).1 i2 y hy
    ·rw [len_eq, hel, List.length_cons, ← len_eq, i3]; rfl
theorem cH1 {hs : List Ch} {ta : Tm} {ek : EK} {L : Tm} (hf : aZ ta hs = some (false, ek, L)) {b : Nat} (hb : roB (ta.den ρ).toV = some b) : b ∈ ros ρ hs := by
 obtain ⟨l1, l2, he, _⟩ := nI hf
 exact fM.2 ⟨.rsl ta ek L, by rw [he]; simp [sQ], hb⟩
theorem bK5 {hs : List Ch} {w : World} (hh : aN ρ hs w) {c : CK} {p : Pt} {t : Tm} (h : jI hs c p = some t) (hd : qZ hs (nV [p]) = true) : c.deep w (t.den ρ) ∧ ∀ b ∈ c.blks (t.den ρ), b ∈ ros ρ hs := by
 cases c with
 | sl ek =>
  cases p with
  | ints k n L => cases h
  | lf l =>
   cases l with
   | sl ta =>
    simp only [jI] at h
    simp only [qZ, nV, List.filterMap_cons, List.filterMap_nil, List.all_cons, List.all_nil, Bool.and_true] at hd
    split at h
    ·rename_i own ek' L hf
     rw [hf] at hd
     cases own with
     | true => cases hd
     | false =>
      split at h
      ·rename_i he
       subst he
       cases h
       obtain ⟨d1, d2⟩ := wE hh hd
       refine ⟨⟨(lY hh hf).1, d1⟩, fun b hb => ?_⟩
       rcases List.mem_append.1 hb with hb | hb
       ·have hb : roB (ta.den ρ).toV = some b := Option.mem_toList.1 hb
        exact cH1 hf hb
       ·exact d2 b hb
      ·cases h
    ·cases h
   | _ => simp [jI] at h
 | _ => exact ⟨trivial, fun b hb => by cases hb⟩
theorem bN3 {hs : List Ch} {as bs : List Tm} : qZ hs (as ++ bs) = (qZ hs as && qZ hs bs) := by simp [qZ]
theorem cH4 {p : Pt} {ps : List Pt} : nV (p :: ps) = nV [p] ++ nV ps := by
 simp only [nV, List.filterMap_cons, List.filterMap_nil]
 split <;> simp
theorem bL4 {hs : List Ch} {w : World} (hh : aN ρ hs w) : ∀ {cs : EK} {ps : List Pt} {t : Tm}, fP hs cs ps = some t → qZ hs (nV ps) = true → oQ w cs (t.den ρ).toL ∧ ∀ b ∈ jD cs (t.den ρ).toL, b ∈ ros ρ hs
 | [], [], t, h, _ => by simp [fP] at h; subst h; exact ⟨trivial, fun b hb => by cases hb⟩
 | c :: cs, p :: ps, t, h, hd => by
  simp only [fP] at h
  rw [cH4, bN3, Bool.and_eq_true] at hd
  split at h
  ·rename_i u r hu hr
   cases h
   obtain ⟨a1, a2⟩ := bK5 hh hu hd.1
   obtain ⟨b1, b2⟩ := bL4 hh hr hd.2
   exact ⟨⟨a1, b1⟩, fun b hb => (List.mem_append.1 hb).elim (a2 b) (b2 b)⟩
  ·cases h
 | [], _ :: _, _, h, _ => by simp [fP] at h
 | _ :: _, [], _, h, _ => by simp [fP] at h
theorem bH5 {hs : List Ch} {w : World} (hh : aN ρ hs w) {ek : EK} (hnf : fV ek = false) : ∀ {pss : List (List Pt)} {L : Tm}, rQ hs ek pss = some L → qZ hs (pss.flatMap nV) = true →
  jU w ek (L.den ρ) ∧ ∀ b ∈ fF ek (L.den ρ), b ∈ ros ρ hs
 | [], L, h, _ => by
  have he : aO ek (L.den ρ) = [] := by
   unfold rQ at h
   rcases ek with _ | ⟨c, _ | ⟨c', cs⟩⟩
   ·cases h; rfl
   ·cases c <;> cases h <;> rfl
   ·cases c <;> cases h <;> rfl
  exact ⟨fun x hx => (by rw [he] at hx; cases hx), fun b hb => (by rw [fF, he] at hb; cases hb)⟩
 | ps :: pss, L, h, hd => by
  rw [List.flatMap_cons, bN3, Bool.and_eq_true] at hd
  unfold rQ at h
  split at h
  ·cases h
  ·rename_i L' hL'
   obtain ⟨i1, i2⟩ := bH5 hh hnf hL' hd.2
   have key : ∃ u : Tm, aO ek (L.den ρ) = (u.den ρ) :: aO ek (L'.den ρ) ∧ oQ w ek (lN ek (u.den ρ)) ∧ ∀ b ∈ jD ek (lN ek (u.den ρ)), b ∈ ros ρ hs := by
    rcases ek with _ | ⟨c, _ | ⟨c', cs⟩⟩
    ·cases hnf
    ·rcases ps with _ | ⟨p, _ | ⟨p', ps⟩⟩
     ·cases c <;> simp [fP] at h
     ·cases c with
      | sl ek' =>
       simp only at h
       split at h
       ·rename_i t ht
        cases h
        obtain ⟨a1, a2⟩ := bK5 hh ht hd.1
        exact ⟨t, rfl, ⟨a1, trivial⟩, fun b hb => a2 b (by simpa [lN, jD] using hb)⟩
       ·cases h
      | _ => cases hnf
     ·cases c <;> simp [fP] at h
    ·have h' : (match fP hs (c :: c' :: cs) ps with | some t => some (Tm.o2 .lcons t L') | none => none) = some L := by cases c <;> exact h
     split at h'
     ·rename_i t ht
      cases h'
      obtain ⟨a1, a2⟩ := bL4 hh ht hd.1
      refine ⟨t, by cases c <;> rfl, by cases c <;> exact a1, by cases c <;> exact a2⟩
     ·cases h'
   obtain ⟨u, hu, u1, u2⟩ := key
   refine ⟨fun x hx => ?_, fun b hb => ?_⟩
   ·rw [hu] at hx
    rcases List.mem_cons.1 hx with rfl | hx
    ·exact u1
    ·exact i1 x hx
   ·rw [fF, hu, List.flatMap_cons] at hb
    exact (List.mem_append.1 hb).elim (u2 b) (i2 b)
theorem wO {ta : Tm} : ∀ {hs : List Ch}, aZ ta hs = none → dJ ta hs = hs
 | [], _ => rfl
 | .osl a' ek L :: hs, h => by
  simp only [aZ] at h
  split at h
  ·cases h
  ·rename_i hb; simp [dJ, hb, wO h]
 | .rsl a' ek L :: hs, h => by
  simp only [aZ] at h
  split at h
  ·cases h
  ·rename_i hb; simp [dJ, hb, wO h]
 | .box b ps :: hs, h => by simp only [aZ] at h; simp [dJ, wO h]
 | .abs k ts :: hs, h => by simp only [aZ] at h; simp [dJ, wO h]
theorem bD8 : ∀ {as : List Tm} {S : St}, Rel G w0 D0 R0 ρ S a w → Rel G w0 D0 R0 ρ { S with heap := aF3 as S.heap } a w
 | [], _, hr => hr
 | ta :: as, S, hr => by
  have : Rel G w0 D0 R0 ρ { S with heap := dJ ta S.heap } a w := by
   cases hf : aZ ta S.heap with
   | none => rw [wO hf]; exact hr
   | some x => obtain ⟨own, ek, L⟩ := x; exact (aF4 hr hf).1
  exact bD8 (as := as) this
theorem aZ4 {ρ : LD} : ∀ {pss : List (List Pt)} {vs : List Value}, aC9 ρ pss vs → aJ ρ pss.flatten (vs.flatMap fun v => v.cells.toList)
 | [], [], _ => rfl
 | [], _ :: _, h => h.elim
 | _ :: _, [], h => h.elim
 | ps :: pss, v :: vs, h => by
  rw [List.flatten_cons, List.flatMap_cons]
  exact aA4 h.1 (aZ4 h.2)
theorem cC6 {e : TypeId} {len : Nat} {args : List (Nat × Operand)} {lk : EK} (h : nilRow cx e len args = some lk) : args = [(0, .const (.slice none 0 0))] ∧ len = 1 ∧ ∃ i, cx.P.info? e = some i ∧ i.size = 1 ∧ i.zero.isSome = true := by
 unfold nilRow at h
 split at h
 ·split at h
  ·rename_i hi
   split at h
   ·rename_i hc
    exact ⟨rfl, hc.1, _, hi, hc.2.1, hc.2.2.1⟩
   ·cases h
  ·cases h
 ·cases h
theorem bS9 {t : TypeId} {len : Nat} {args : Array (Nat × Operand)} (hr : Rel G w0 D0 R0 ρ S a w) (h : aN8 cx S t len args.toList k = .ok vc) (hd : vc.den E ρ) :
  Out E G w0 D0 R0 ρ a k ((Instr.buildSlice t len (args.map fun (i, x) => (i, a.eval x))).run cx.P w) := by
 have hm : (args.map fun (i, x) => (i, a.eval x)).toList = args.toList.map fun (i, x) => (i, a.eval x) := by simp
 unfold aN8 at h
 split at h
 ·rename_i e ht
  split at h
  ·rename_i lk hnr
   obtain ⟨ha, rfl, i, hi, h1, hzs⟩ := cC6 hnr
   obtain ⟨z, hz⟩ := Option.isSome_iff_exists.1 hzs
   obtain ⟨vc1, g1, g2, g3, g4⟩ := nJ hr h hd (d := .V (.slice none 0 0)) ⟨_, rfl⟩
   have hr' := g3.new (Ext.refl w) (c := .osl (.at S.aB.length) lk (jE lk)) (aV5 (by rw [g4]; rfl) w) (fun b hb => by rw [Ch.fJ, g4] at hb; cases hb) (fun b hb => by cases hb)
   have hfill := Great.fill_whole (s := i.size) (by omega) [Value.slice none 0 0] ((Array.range (1 * i.size)).map (z.cells[· % z.cells.size]!)) (by intro v hv; rw [List.mem_singleton.1 hv, h1]; rfl) (by simp)
   have hrun := run_buildSlice (P := cx.P) w t e 1 (args.map fun (i, x) => (i, a.eval x)) _ i z ht hi hz (by rw [h1]; decide) (by rw [h1]; decide) (by rw [hm, ha]; exact hfill)
   have hrun : _ = Result.ok (Value.slice (some ⟨w.heap.size, 0, none⟩) 1 1) (w.alloc (.cells #[.slice none 0 0] e)) := hrun
   rw [hrun]
   have hrow : Tm.den (ρ ++ [.V (.slice none 0 0)]) (.o2 .lcons (.o2 .lcons (.o1 .asV (.at S.aB.length)) (.o2 .lcons (jE lk) .lnil)) .lnil) = .L [.L [.V (.slice none 0 0), (jE lk).den (ρ ++ [.V (.slice none 0 0)])]] := by
    show D.L (D.L [.V ((Tm.at S.aB.length).den (ρ ++ [.V (.slice none 0 0)])).toV, _] :: []) = _
    rw [g4]; rfl
   have hnil := (aV5 (ek := lk) (t := .at S.aB.length) (ρ := ρ ++ [.V (.slice none 0 0)]) (by rw [g4]; rfl) w).2
   have hown : fE (w.alloc (.cells #[.slice none 0 0] e)) (Value.slice (some ⟨w.heap.size, 0, none⟩) 1 1) 1 1 [.slice none 0 0] :=
    .inr ⟨w.heap.size, 1, #[.slice none 0 0], e, (0, 0), rfl, alloc_at w _, fun j _ hj => by simp only at hj; omega, Nat.le_refl _, by decide, rfl, rfl, rfl⟩
   obtain ⟨σ, x, S', vc', v, w', q1, q2, q3, q4, q5⟩ := xB (ek := [.sl lk]) hr' g1 g2 (v := .slice (some ⟨w.heap.size, 0, none⟩) 1 1) (w' := w.alloc (.cells #[.slice none 0 0] e)) (kX w _) (by rw [hrow]; exact hown) (by
     rw [hrow]
     intro y hy
     have hy : y ∈ [D.L [.V (.slice none 0 0), (jE lk).den (ρ ++ [.V (.slice none 0 0)])]] := hy
     rw [List.mem_singleton.1 hy]
     exact ⟨⟨⟨_, _, rfl⟩, rfl⟩, (aE1 lk _).2 hnil⟩) (fun b hb => by cases hb; exact Nat.le_refl _)
   exact ⟨[.V (.slice none 0 0)] ++ σ, x, S', vc', v, w', q1, by rw [← List.append_assoc]; exact q2, by rw [← List.append_assoc]; exact q3, by rw [← List.append_assoc]; exact q4, q5⟩
  split at h
  ·rename_i ek pss i hek hpss hi
   simp only at h
   obtain ⟨S1, hS1, hr1⟩ : ∃ S1, S1 = (if fV ek then S else { S with heap := aF3 (pss.flatMap nV) S.heap }) ∧ Rel G w0 D0 R0 ρ S1 a w := by
    refine ⟨_, rfl, ?_⟩
    split
    ·exact hr
    ·exact bD8 hr
   rw [← hS1] at h
   split at h
   ·rename_i L hL
    split at h
    ·rename_i hc
     obtain ⟨hw, hc0, hlen, hbig, hzs, hdeep⟩ := hc
     have hdp : jU w ek (L.den ρ) ∧ ∀ b ∈ fF ek (L.den ρ), b ∈ ros ρ S1.heap := by
      by_cases hfl : fV ek = true
      ·obtain ⟨q1, q2⟩ := zG (w := w) (d := L.den ρ) hfl
       exact ⟨q1, by rw [q2]; intro b hb; cases hb⟩
      ·have hfl : fV ek = false := by simpa using hfl
       rw [hfl, Bool.false_or] at hdeep
       exact bH5 hr1.heap hfl hL hdeep
     have hr2 := hr1.deep hdp.1 hdp.2
     obtain ⟨z, hz⟩ := Option.isSome_iff_exists.1 hzs
     have hsz : cx.P.cellsOf e = i.size := by simp [Program.cellsOf, hi]
     rw [hsz] at hpss hw hc0
     obtain ⟨vs, v1, v2, v3, v4⟩ := aN6 hr hpss
     obtain ⟨c1, c2, c3⟩ := bH6 (aX0 hr1.heap) hL v4
     have hvl : vs.length = len := by rw [v3]; exact hlen
     by_cases h0 : len = 0
     ·have hvs : vs = [] := List.eq_nil_of_length_eq_zero (by rw [hvl, h0])
      subst hvs
      have hrun : (Instr.buildSlice t len (args.map fun (i, x) => (i, a.eval x))).run cx.P w = .ok (.slice (some ⟨w.heap.size, 0, none⟩) len len) (w.alloc (.cells #[] e)) := by
       have hal : args = #[] := Array.toList_eq_nil_iff.1 (List.map_eq_nil_iff.1 (v1.trans rfl))
       simp [Instr.buildSlice, run_underlying ht, sizeOf, typeInfo, hi, h0, hal, Instr.fill, newRow, Array.range_zero']
      rw [hrun]
      refine xB hr2 h hd (kX w _) (.inr ⟨w.heap.size, len, #[], e, (0, 0), ?_, alloc_at w _, fun j _ hj => by simp only at hj; omega, ?_, ?_, ?_, ?_, ?_⟩) c2 (fun b hb => by cases hb; exact Nat.le_refl _)
      ·rw [c3, hvl]
      ·rw [c3, hvl]; exact Nat.le_refl _
      ·rw [h0]; exact Nat.zero_le _
      ·rw [h0]; simp
      ·rw [c1, c3]; simp
      ·rw [c1]; simp
     ·have hbig' : len * i.size ≤ 16777216 := by rw [← hw]; exact hbig
      have hlen' : len ≤ 16777216 := Nat.le_trans (Nat.le_mul_of_pos_right len (Nat.pos_of_ne_zero hc0)) hbig'
      have hfill := Great.fill_whole (s := i.size) (Nat.pos_of_ne_zero hc0) vs ((Array.range (len * i.size)).map (z.cells[· % z.cells.size]!)) v2 (by rw [hvl]; simp)
      have hrun := run_buildSlice (P := cx.P) w t e len (args.map fun (i, x) => (i, a.eval x)) _ i z ht hi hz (by omega) (by intro hh; rcases Nat.mul_eq_zero.1 hh with h' | h' <;> omega) (by rw [hm, v1]; exact hfill)
      rw [hrun]
      have hfl : (vs.flatMap fun v => v.cells.toList).length = len * i.size := by
       rw [← hvl]; exact aF2 (fun v hv => by rw [Array.length_toList]; exact v2 v hv)
      refine xB hr2 h hd (kX w _) (.inr ⟨w.heap.size, len, _, e, (0, 0), ?_, alloc_at w _, fun j _ hj => by simp only at hj; omega, ?_, ?_, ?_, ?_, ?_⟩) c2 (fun b hb => by cases hb; exact Nat.le_refl _)
      ·rw [c3, hvl]
      ·rw [c3, hvl]; exact Nat.le_refl _
      ·have : maxLen = 9223372036854775807 := by decide
       omega
      ·rw [hw]; simpa using hfl
      ·rw [c1, c3, hvl, hw]; exact hfl
      ·rw [c1, c3, hvl, hw, List.take_of_length_le (by simpa using Nat.le_of_eq hfl)]
    ·cases h
   ·cases h
  ·rename_i pss i _ hpss hi
   unfold bA3 at h
   split at h
   ·rename_i hc
    obtain ⟨hc1, hlen, h0, hbig, hzs, hun⟩ := hc
    obtain ⟨z, hz⟩ := Option.isSome_iff_exists.1 hzs
    have hsz : cx.P.cellsOf e = i.size := by simp [Program.cellsOf, hi]
    rw [hsz] at hpss hc1
    obtain ⟨vs, v1, v2, v3, v4⟩ := aN6 hr hpss
    have hvl : vs.length = len := by rw [v3]; exact hlen
    have hbig' : len * i.size ≤ 16777216 := by rw [hc1]; omega
    have hfill := Great.fill_whole (s := i.size) (by omega) vs ((Array.range (len * i.size)).map (z.cells[· % z.cells.size]!)) v2 (by rw [hvl]; simp)
    have hrun := run_buildSlice (P := cx.P) w t e len (args.map fun (i, x) => (i, a.eval x)) _ i z ht hi hz (by omega) (by intro hh; rcases Nat.mul_eq_zero.1 hh with h' | h' <;> omega) (by rw [hm, v1]; exact hfill)
    rw [hrun]
    rw [← cO hr.aB] at hun
    obtain ⟨vc2, g1, g2, g3, g4⟩ := nJ hr h hd (d := .N w.heap.size) ⟨_, rfl⟩
    refine ⟨[.N w.heap.size], _, _, vc2, _, _, g1, g2, ?_, ?_, rfl⟩
    ·simp only [SV.holds, S0.holds, Lf.holds, g4]
     exact ⟨len, rfl, Nat.le_refl _⟩
    ·refine g3.new (kX w _) (c := .box (.at S.aB.length) pss.flatten) ?_ (fun b hb => ?_) (fun b hb => by cases hb)
     ·refine ⟨_, e, (0, 0), by rw [g4]; exact alloc_at w _, fun j _ hj => by simp only at hj; omega, ?_⟩
      rw [rY hun]
      have := aZ4 v4
      simpa using this
     ·rw [Ch.fJ, g4] at hb; cases hb; exact Nat.le_refl _
   ·cases h
  ·cases h
  ·cases h
 ·cases h
end
end Go.Vc
namespace Go.Vc
theorem bG9 {ρ : LD} {l : Lf} {v : Value} (h : l.holds ρ v) : ∀ f ∈ aG8 l, f.den ρ := by
 intro f hf
 cases l <;> simp only [aG8, List.mem_singleton, List.not_mem_nil] at hf
 ·subst hf; exact h.2
 ·subst hf; exact h.2
theorem aI6 {ρ : LD} : ∀ {ps : List Pt} {vs : List Value}, aJ ρ ps vs → ∀ f ∈ ps.flatMap aI5, f.den ρ
 | [], _, _, f, hf => by simp at hf
 | .lf l :: ps, vs, h, f, hf => by
  obtain ⟨v, r, rfl, h1, _, h2⟩ := h
  rw [List.flatMap_cons, List.mem_append] at hf
  rcases hf with hf | hf
  ·exact bG9 h1 f hf
  ·exact aI6 h2 f hf
 | .ints k n L :: ps, vs, h, f, hf => by
  obtain ⟨r, rfl, h1, h2, h3⟩ := h
  rw [List.flatMap_cons, List.mem_append] at hf
  rcases hf with hf | hf
  ·simp only [aI5, List.mem_cons, List.not_mem_nil, or_false] at hf
   rcases hf with rfl | rfl
   ·exact h1
   ·exact h2
  ·exact aI6 h3 f hf
theorem bM6 {ρ : LD} {x : S0} {v : Value} (h : x.holds ρ v) : ∀ f ∈ aJ9 x, f.den ρ := by
 cases x with
 | lf l => exact bG9 h
 | agg ps => obtain ⟨cs, _, h⟩ := h; exact aI6 h
theorem bM7 {ρ : LD} : ∀ {xs : List S0} {vs : List Value}, kP ρ xs vs → ∀ f ∈ xs.flatMap aJ9, f.den ρ
 | [], _, _, f, hf => by simp at hf
 | x :: xs, vs, h, f, hf => by
  obtain ⟨v, r, rfl, h1, h2⟩ := h
  rw [List.flatMap_cons, List.mem_append] at hf
  rcases hf with hf | hf
  ·exact bM6 h1 f hf
  ·exact bM7 h2 f hf
theorem bO2 {ρ : LD} {x : SV} {v : Value} (h : x.holds ρ v) : ∀ f ∈ aB8 x, f.den ρ := by
 cases x with
 | one x => exact bM6 h
 | tup xs => obtain ⟨vs, _, h⟩ := h; exact bM7 h
theorem bO3 {ρ : LD} : ∀ {xs : List SV} {vs : List Value}, aU ρ xs vs → ∀ f ∈ xs.flatMap aB8, f.den ρ
 | [], _, _, f, hf => by simp at hf
 | x :: xs, vs, h, f, hf => by
  obtain ⟨v, r, rfl, h1, h2⟩ := h
  rw [List.flatMap_cons, List.mem_append] at hf
  rcases hf with hf | hf
  ·exact bO2 h1 f hf
  ·exact bO3 h2 f hf
theorem bC1 {ρ : LD} {ek : EK} {L : Tm} (h : ek.ok (L.den ρ)) : ∀ f ∈ (match ek with | [.int k] => [Fact.allHas k L] | ek => [Fact.ekok ek L]), f.den ρ := by
 intro f hf
 split at hf
 ·simp only [List.mem_singleton] at hf; subst hf; exact h
 ·simp only [List.mem_singleton] at hf; subst hf; exact h
theorem bL6 {K E : CK} : ∀ {es : List MapEntry} {L : LD}, vH K E es L → ∀ {r : D}, r ∈ L → ∃ e ∈ es, K.cells r.key = [e.key] ∧ K.isWord r.key ∧ E.cells r.snd = [e.val] ∧ E.isWord r.snd ∧ r = .L [r.key, r.snd]
 | [], [], _, r, hr => by cases hr
 | [], _ :: _, h, _, _ => h.elim
 | _ :: _, [], h, _, _ => h.elim
 | e :: es, x :: L, h, r, hr => by
  rcases List.mem_cons.1 hr with rfl | hr
  ·exact ⟨e, by simp, h.1⟩
  ·obtain ⟨e', he, h'⟩ := bL6 h.2 hr
   exact ⟨e', by simp [he], h'⟩
theorem bL5 {K E : CK} : ∀ {es : List MapEntry} {L : LD}, vH K E es L → es.length = L.length
 | [], [], _ => rfl
 | [], _ :: _, h => h.elim
 | _ :: _, [], h => h.elim
 | _ :: _, _ :: _, h => by simp [bL5 h.2]
theorem bL7 {w : World} {K : CK} {ek : EK} : ∀ {es : List MapEntry} {L : LD}, lD w K ek es L → es.length = L.length
 | [], [], _ => rfl
 | [], _ :: _, h => h.elim
 | _ :: _, [], h => h.elim
 | _ :: _, _ :: _, h => by simp [bL7 h.2]
theorem aK2 {c : CK} {a b : D} (ha : c.word a = a) (hb : c.word b = b) : iO a b = true ↔ a = b := by
 cases c with
 | int k =>
  rw [← ha, ← hb]
  simp [iO, CK.word]
 | bool =>
  rw [← ha, ← hb]
  simp [iO, CK.word]
 | str =>
  rw [← ha, ← hb]
  show ((a.toS).toList == (b.toS).toList) = true ↔ D.S a.toS = D.S b.toS
  rw [beq_iff_eq]
  constructor
  ·intro h
   rw [ByteArray.toList_eq, ByteArray.toList_eq] at h
   have : a.toS = b.toS := by
    cases hx : a.toS; cases hy : b.toS
    rw [hx, hy] at h
    simp at h
    simp [h]
   rw [this]
  ·intro h
   have : a.toS = b.toS := by injection h
   rw [this]
 | ints k n =>
  rw [← ha, ← hb]
  simp [iO, CK.word]
 | sl ek =>
  rw [← ha, ← hb]
  simp [iO, CK.word]
theorem aV4 {c : CK} {L : LD} (h : dL L) (hw : ∀ r ∈ L, c.word r.key = r.key) : L.Nodup := by
 refine List.Pairwise.imp_of_mem ?_ h
 intro a b ha hb hab he
 subst he
 rw [(aK2 (hw a ha) (hw a ha)).2 rfl] at hab
 cases hab
theorem aS8 {es : List MapEntry} {L : LD} {seen : List Nat} (hlen : es.length = L.length) (hnd : L.Nodup) (hs : seen.Nodup) (hin : ∀ n ∈ seen, ∃ e ∈ es, e.born = n) :
  (seen.map (fun n => L.getD (es.findIdx fun e => e.born == n) default)).Nodup ∧ ∀ r ∈ seen.map (fun n => L.getD (es.findIdx fun e => e.born == n) default), r ∈ L := by
 have hidx : ∀ n ∈ seen, (es.findIdx fun e => e.born == n) < es.length := fun n hn => by
  obtain ⟨e, he, h⟩ := hin n hn
  exact List.findIdx_lt_length_of_exists ⟨e, he, by simpa using h⟩
 have hget : ∀ n ∈ seen, L[es.findIdx fun e => e.born == n]? = some (L.getD (es.findIdx fun e => e.born == n) default) := fun n hn => by
  have := hidx n hn
  rw [hlen] at this
  simp [List.getD, List.getElem?_eq_getElem this]
 constructor
 ·rw [List.Nodup, List.pairwise_map]
  refine List.Pairwise.imp_of_mem ?_ hs
  intro n m hn hm hnm he
  apply hnm
  have h1 := hget n hn
  have h2 := hget m hm
  rw [he] at h1
  have l1 := hidx n hn; have l2 := hidx m hm
  have hi : (es.findIdx fun e => e.born == n) = (es.findIdx fun e => e.born == m) := by
   rw [hlen] at l1 l2
   rw [List.getElem?_eq_getElem l1] at h1
   rw [List.getElem?_eq_getElem l2] at h2
   exact (List.getElem_inj hnd).1 ((Option.some.inj h1).trans (Option.some.inj h2).symm)
  have b1 := List.findIdx_getElem (w := l1) (p := fun (e : MapEntry) => e.born == n)
  have b2 := List.findIdx_getElem (w := l2) (p := fun (e : MapEntry) => e.born == m)
  simp only [beq_iff_eq] at b1 b2
  rw [← b1, ← b2]
  congr 2
 ·intro r hr
  obtain ⟨n, hn, rfl⟩ := List.mem_map.1 hr
  exact List.mem_of_getElem? (hget n hn)
theorem Kd.bZ1 {w : World} {k : Kd} {ds : LD} (h : k.holds w ds) (hnd : (k.own ds).Nodup) : k.known ds := by
 have are : ∀ {K E es L}, vH K E es L → dL L → mapOk K E L := fun h1 h2 => ⟨h2, fun r hr => by
  obtain ⟨e, _, _, q2, _, q4, q5⟩ := bL6 h1 hr
  exact ⟨q2, q4, q5⟩⟩
 have at_ : ∀ {K ek es L}, lD w K ek es L → dL L → (aY L).Nodup → aU0 K ek L := fun h1 h2 h3 => ⟨h2, h3, fun r hr => by
  obtain ⟨e, _, _, q2, _, q4, q5, _⟩ := aW5 h1 hr
  exact ⟨q2, q4, q5⟩⟩
 cases k with
 | deep ek => trivial
 | mp K E => obtain ⟨es, clock, _, h2, h3⟩ := h; exact are h2 h3
 | mpp K ek =>
  obtain ⟨es, clock, _, h2, h3⟩ := h
  exact at_ h2 h3 (List.nodup_cons.1 hnd).2
 | mpi K E =>
  obtain ⟨es, clock, _, h2, h3, seen, h4, h5, h6, h7⟩ := h
  have hk := are h2 h3
  have hr := aS8 (bL5 h2) (aV4 h3 fun r hr => (hk.2 r hr).1.2) h5 h7
  exact ⟨hk, by rw [h6]; exact hr.1, by rw [h6]; exact hr.2⟩
 | mppi K ek =>
  obtain ⟨es, clock, _, h2, h3, seen, h4, h5, h6, h7⟩ := h
  have hk := at_ h2 h3 (List.nodup_cons.1 (List.nodup_cons.1 hnd).2).2
  have hr := aS8 (bL7 h2) (aV4 h3 fun r hr => (hk.2.2 r hr).1.2) h5 h7
  exact ⟨hk, by rw [h6]; exact hr.1, by rw [h6]; exact hr.2⟩
theorem bT8 {ρ : LD} {c : Ch} {w : World} (h : c.holds ρ w) (hnd : (c.own ρ).Nodup) : ∀ f ∈ vY c, f.den ρ := by
 cases c with
 | box b ps => obtain ⟨cs, e, fz, _, _, h⟩ := h; exact aI6 h
 | osl a ek L => exact bC1 h.2
 | rsl a ek L => exact bC1 h.2
 | abs k ts =>
  intro f hf
  have e : f = .kd k ts := by
   cases k with
   | deep ek => cases hf
   | _ => simpa [vY] using hf
  subst e
  exact Kd.bZ1 h hnd
theorem bE5 {ρ : LD} {hs : List Ch} {w : World} (h : aN ρ hs w) : ∀ f ∈ hs.flatMap vY, f.den ρ := by
 intro f hf
 obtain ⟨c, hc, hf⟩ := List.mem_flatMap.1 hf
 refine bT8 (h.holds c hc) ?_ f hf
 obtain ⟨l1, l2, rfl⟩ := List.append_of_mem hc
 have := h.nodup
 rw [dI, List.nodup_append] at this
 have := this.2.1
 simp only [owns, List.flatMap_cons, List.nodup_append] at this
 exact this.1
theorem wR {E : Env} {ρ : LD} : ∀ {fs : List Fact} {k : M} {vc : VC}, knows fs k = .ok vc → vc.den E ρ → (∀ f ∈ fs, f.den ρ) → ∃ vc', k = .ok vc' ∧ vc'.den E ρ
 | [], k, vc, h, hd, _ => ⟨vc, h, hd⟩
 | f :: fs, k, vc, h, hd, hf => by
  simp only [knows] at h
  split at h
  ·rename_i v hv
   cases h
   exact wR hv (hd (hf f (by simp))) (fun g hg => hf g (by simp [hg]))
  ·cases h
theorem bP0 {c : Ch} : ∀ {hs r : List Ch}, aC0 c hs = some r → hs.Perm (c :: r)
 | [], r, h => by simp [aC0] at h
 | x :: hs, r, h => by
  simp only [aC0] at h
  split at h
  ·rename_i e; cases h; rw [e]
  ·split at h
   ·rename_i r' hr; cases h
    exact (List.Perm.cons x (bP0 hr)).trans (List.Perm.swap c x r')
   ·cases h
def jX (pat : List Ch) : List Ch := pat.filter (fun c => !jH c)
theorem aY2 : ∀ {pat hs r : List Ch}, jQ pat hs = some r → hs.Perm (jX pat ++ r)
 | [], hs, r, h => by simp only [jQ] at h; cases h; exact List.Perm.refl _
 | c :: pat, hs, r, h => by
  simp only [jQ] at h
  split at h
  ·rename_i hc
   have := aY2 h
   simpa [jX, hc] using this
  ·rename_i hc
   split at h
   ·rename_i r' hr'
    have := (bP0 hr').trans (List.Perm.cons c (aY2 h))
    have e : jX (c :: pat) = c :: jX pat := by simp [jX, hc]
    rw [e]; exact this
   ·cases h
theorem aV6 {ρ : LD} {c : Ch} (h : jH c = true) : c.own ρ = [] := by
 cases c with
 | rsl => rfl
 | abs k ts => cases k <;> first | rfl | cases h
 | _ => cases h
theorem cF6 {ρ : LD} {c : Ch} (h : jH c = false) : c.ro ρ = [] := by
 cases c with
 | rsl => cases h
 | abs k ts => cases k <;> first | rfl | cases h
 | _ => rfl
theorem uY {ρ : LD} : ∀ (pat : List Ch), owns ρ (jX pat) = owns ρ pat
 | [] => rfl
 | c :: pat => by
  have ih := uY (ρ := ρ) pat
  by_cases hc : jH c = true
  ·have e : jX (c :: pat) = jX pat := by simp [jX, hc]
   rw [e, ih, owns, owns, List.flatMap_cons, aV6 hc, List.nil_append]
  ·have e : jX (c :: pat) = c :: jX pat := by simp [jX, hc]
   rw [e]
   simp only [owns, List.flatMap_cons] at ih ⊢
   rw [ih]
theorem aO6 {strict : Bool} {pat hs rest : List Ch} {ρ : LD} {w : World} (h : cover strict pat hs = some rest) (hh : aN ρ hs w) :
  aN ρ pat w ∧ hs.Perm (jX pat ++ rest) ∧ (∀ b ∈ ros ρ pat, b ∈ ros ρ rest ∨ (strict = false ∧ b ∈ owns ρ rest)) := by
 unfold cover at h
 split at h
 ·rename_i r hr
  split at h
  ·rename_i hall
   cases h
   have hp := aY2 hr
   have hall : ∀ c ∈ pat, xW strict rest c = true := fun c hc => List.all_eq_true.1 hall c hc
   have hnd : (owns ρ (jX pat) ++ owns ρ rest).Nodup := by
    rw [← dI]; exact (hp.flatMap_right _).nodup_iff.1 hh.nodup
   have hsub : ∀ c, c ∈ rest → c ∈ hs := fun c hc => hp.mem_iff.2 (List.mem_append.2 (.inr hc))
   have hro : ∀ c ∈ pat, ∀ b, c.fK ρ b → b ∈ ros ρ rest ∨ (strict = false ∧ b ∈ owns ρ rest) := by
    intro c hc b hb
    cases c with
    | box => cases hb
    | osl => cases hb
    | rsl a ek L =>
     have := hall _ hc
     simp only [xW, Bool.or_eq_true, Bool.and_eq_true, List.any_eq_true, decide_eq_true_eq, Bool.not_eq_true'] at this
     rcases this with ⟨x, hx, rfl⟩ | ⟨hst, x, hx, rfl⟩
     ·exact .inl (fM.2 ⟨_, hx, hb⟩)
     ·exact .inr ⟨hst, kM.2 ⟨_, hx, show (a.den ρ).toV.ownBlock = some b from aA9 hb⟩⟩
    | abs k ts =>
     cases k with
     | deep ek =>
      have := hall _ hc
      match ts, this, hb with
      | [L], this, hb =>
       simp only [xW, Bool.or_eq_true, List.any_eq_true, decide_eq_true_eq] at this
       rcases this with (h1 | h1) | ⟨x, hx, rfl⟩
       ·have hb : b ∈ fF ek (L.den ρ) := hb
        rw [(zG (w := w) h1).2] at hb; cases hb
       ·subst h1
        have hb : b ∈ fF ek (.L []) := hb
        rw [fF, aU9] at hb; cases hb
       ·exact .inl (fM.2 ⟨_, hx, hb⟩)
     | _ => cases hb
   refine ⟨⟨fun c hc => ?_, ?_, fun c hc b hb hm => ?_⟩, hp, fun b hb => ?_⟩
   ·by_cases hr : jH c = true
    ·cases c with
     | box => cases hr
     | osl => cases hr
     | rsl a ek L =>
      have := hall _ hc
      simp only [xW, Bool.or_eq_true, Bool.and_eq_true, List.any_eq_true, decide_eq_true_eq, Bool.not_eq_true'] at this
      rcases this with ⟨x, hx, rfl⟩ | ⟨_, x, hx, rfl⟩
      ·exact hh.holds _ (hsub _ hx)
      ·have := hh.holds _ (hsub _ hx); exact ⟨this.1.rd, this.2⟩
     | abs k ts =>
      cases k with
      | deep ek =>
       have := hall _ hc
       match ts, this with
       | [L], this =>
        simp only [xW, Bool.or_eq_true, List.any_eq_true, decide_eq_true_eq] at this
        rcases this with (h1 | h1) | ⟨x, hx, rfl⟩
        ·exact (zG (w := w) (d := L.den ρ) h1).1
        ·subst h1
         show jU w ek (.L [])
         intro x hx
         rw [aU9] at hx; cases hx
        ·exact hh.holds _ (hsub _ hx)
      | _ => cases hr
    ·exact hh.holds _ (hp.mem_iff.2 (List.mem_append.2 (.inl (List.mem_filter.2 ⟨hc, by simpa using hr⟩))))
   ·rw [← uY]; exact (List.nodup_append.1 hnd).1
   ·rw [← uY] at hm
    rcases hro c hc b hb with h1 | ⟨_, h1⟩
    ·obtain ⟨c', hc', hb'⟩ := fM.1 h1
     refine hh.ro c' (hsub _ hc') b hb' ?_
     rw [dQ hp, dI]; exact List.mem_append.2 (.inl hm)
    ·exact (List.nodup_append.1 hnd).2.2 b hm b h1 rfl
   ·obtain ⟨c, hc, hb⟩ := fM.1 hb
    exact hro c hc b hb
  ·cases h
 ·cases h
section
variable {E : Env} {G : List Glob} {w0 : World} {D0 R0 : List Nat} {ρ : LD} {S : St} {a : Act} {w : World} {cx : Cx} {vc : VC} {ret : SV → M} {k : SV → St → M}
theorem zK : ∀ {pat : List Ch} {S : St}, Rel G w0 D0 R0 ρ S a w → Rel G w0 D0 R0 ρ { S with heap := wM pat S.heap } a w
 | [], _, h => h
 | .box .. :: pat, S, h => zK (pat := pat) (S := S) h
 | .osl .. :: pat, S, h => zK (pat := pat) (S := S) h
 | .abs .. :: pat, S, h => zK (pat := pat) (S := S) h
 | .rsl t ek L :: pat, S, h => by
  simp only [wM]
  refine zK (pat := pat) (S := { S with heap := dJ t S.heap }) ?_
  cases hf : aZ t S.heap with
  | some x => exact (aF4 h hf).1
  | none => rw [wO hf]; exact h
theorem bE0 : ∀ {ss : List Srt} {S : St} {ρ σ : LD} {k : List Tm → St → M} {vc : VC}, Rel G w0 D0 R0 ρ S a w → uI S ss k = .ok vc → vc.den E ρ → bY ss σ →
  ∃ as vc', k as { S with aB := S.aB ++ ss } = .ok vc' ∧ vc'.den E (ρ ++ σ) ∧ Rel G w0 D0 R0 (ρ ++ σ) { S with aB := S.aB ++ ss } a w ∧ as.map (Tm.den (ρ ++ σ)) = σ ∧ as.length = σ.length ∧ (∀ x ∈ as, x.under (ρ.length + σ.length) = true)
 | [], S, ρ, σ, k, vc, hr, h, hd, hs => by
  cases σ with
  | nil => exact ⟨[], vc, by simpa [uI] using h, by simpa using hd, by simpa using hr, rfl, rfl, by simp⟩
  | cons => exact hs.elim
 | s :: ss, S, ρ, σ, k, vc, hr, h, hd, hs => by
  cases σ with
  | nil => exact hs.elim
  | cons d σ =>
   obtain ⟨hd1, hs⟩ := hs
   simp only [uI] at h
   obtain ⟨vc1, h1, d1, r1, e1⟩ := nJ hr h hd hd1
   obtain ⟨as, vc2, h2, d2, r2, e2, e3, e4⟩ := bE0 r1 h1 d1 hs
   have hn := cO hr.aB
   refine ⟨.at S.aB.length :: as, vc2, by simpa using h2, by simpa using d2, by simpa using r2, ?_, by simp [e3], ?_⟩
   ·simp only [List.map_cons]
    have hu : (Tm.at S.aB.length).under (ρ ++ [d]).length = true := by simp [Tm.under, hn]
    have := Tm.bH (σ := σ) hu
    rw [e1] at this
    simp only [List.append_assoc, List.singleton_append] at this e2
    rw [this, e2]
   ·intro x hx
    rcases List.mem_cons.1 hx with rfl | hx
    ·simp [Tm.under, ← hn]
    ·have := e4 x hx
     simp only [List.length_append, List.length_cons, List.length_nil] at this
     rw [List.length_cons]
     exact Tm.kF this (by omega)
def mZ (cx : Cx) (E : Env) : Prop := ∀ f c R, uF f cx.sigs = some (c, R) → ∃ s : Sig, s.toSigR = R ∧ s.pre = E.pre c ∧ s.post = E.post c ∧ s.post2 = E.post (c + 200) ∧ s.Holds cx.P cx.G f ∧
 ∃ fn b, cx.P.funcs[f]? = some fn ∧ (fn.name == "runtime.NumGoroutine") = false ∧ fn.body = some b
theorem aE5 {ρ σ : LD} : ∀ {θ : List Tm}, θ.all (Tm.under ρ.length) = true → θ.map (Tm.den (ρ ++ σ)) = θ.map (Tm.den ρ)
 | [], _ => rfl
 | t :: θ, h => by
  simp only [List.all_cons, Bool.and_eq_true] at h
  simp only [List.map_cons, Tm.bH h.1, aE5 h.2]
theorem cD9 {hs : List Ch} (h : ∀ c ∈ hs, jH c = true) : owns ρ hs = [] := by
 induction hs with
 | nil => rfl
 | cons c hs ih =>
  have h1 := h c (by simp)
  have h2 := ih fun c hc => h c (by simp [hc])
  rw [owns, List.flatMap_cons, aV6 h1, List.nil_append]
  exact h2
theorem both_ok {x y : M} (h : both x y = .ok vc) (hd : vc.den E ρ) : (∃ v, x = .ok v ∧ v.den E ρ) ∧ ∃ v, y = .ok v ∧ v.den E ρ := by
 unfold both at h
 split at h
 ·cases h; exact ⟨⟨_, rfl, hd.1⟩, _, rfl, hd.2⟩
 ·cases h
 ·cases h
theorem aO1 {f c : Nat} {R : SigR} {args : List SV} {vals : Array Value} (hr : Rel cx.G w0 D0 R0 ρ S a w) (h : yQ S f c R args k = .ok vc) (hd : vc.den E ρ) (ha : aU ρ args vals.toList) :
  ∃ θ, bound (mY 0 S.heap R.heap (aL8 0 R.args args (List.replicate R.aB.length none))) = some θ ∧ bY R.aB (θ.map (Tm.den ρ)) ∧ E.pre c (θ.map (Tm.den ρ)) ∧ aU (θ.map (Tm.den ρ)) R.args vals.toList ∧
   aN (θ.map (Tm.den ρ)) R.heap w ∧ (∀ g ∈ cx.G, g.holds w ∧ g.g ∉ owns (θ.map (Tm.den ρ)) R.heap) ∧
   ∀ v w', Fit (E.post c) R (θ.map (Tm.den ρ)) w v w' → Out E cx.G w0 D0 R0 ρ a k (.ok v w') ∧ (R.heap.all jH = true → Same w w') := by
 unfold yQ at h
 split at h
 ·cases h
 rename_i θ hθ
 split at h
 ·rename_i hargs
  obtain ⟨hargs, hund⟩ := hargs
  split at h
  ·rename_i hshapes
   dsimp only at h
   generalize hH : (if R.heap'.any jH then wM (R.heap.map (Ch.subst 0 θ)) S.heap else S.heap) = H at h
   have hr1 : Rel cx.G w0 D0 R0 ρ { S with heap := H } a w := by
    subst hH
    split
    ·exact zK hr
    ·exact hr
   split at h
   ·cases h
   rename_i rest hcov
   split at h
   ·rename_i vcw hw
    cases h
    obtain ⟨hprec, hdw⟩ := hd
    have hlen := cO hr.aB
    have hρ0 : θ.map (Tm.den ρ) = ([] : LD) ++ θ.map (Tm.den ([] ++ ρ)) := rfl
    obtain ⟨hpat, hperm, hros⟩ := aO6 hcov hr1.heap
    have hpat' : aN (θ.map (Tm.den ρ)) R.heap w := by
     have := aN.aV3 (ρ := []) (σ := ρ) (θ := θ) hpat
     exact this
    have howns : owns ρ (R.heap.map (Ch.subst 0 θ)) = owns (θ.map (Tm.den ρ)) R.heap := rV (ρ := []) (σ := ρ) (θ := θ) R.heap
    have hrosE : ros ρ (R.heap.map (Ch.subst 0 θ)) = ros (θ.map (Tm.den ρ)) R.heap := aJ5 (ρ := []) (σ := ρ) (θ := θ) R.heap
    have hsub : ∀ b ∈ owns (θ.map (Tm.den ρ)) R.heap, b ∈ owns ρ H := by
     intro b hb
     rw [← howns, ← uY] at hb
     rw [dQ hperm, dI]; exact List.mem_append.2 (.inl hb)
    have hdisj : ∀ b ∈ owns (θ.map (Tm.den ρ)) R.heap, b ∉ owns ρ rest := by
     intro b hb hb'
     rw [← howns, ← uY] at hb
     have hnd : (owns ρ (jX (R.heap.map (Ch.subst 0 θ))) ++ owns ρ rest).Nodup := by
      rw [← dI]; exact (hperm.flatMap_right _).nodup_iff.1 hr1.heap.nodup
     exact (List.nodup_append.1 hnd).2.2 b hb b hb' rfl
    have hrest : aN ρ rest w := by
     refine ⟨fun c hc => hr1.heap.holds c (hperm.mem_iff.2 (List.mem_append.2 (.inr hc))), ?_, fun c hc b hb hm => ?_⟩
     ·have hnd : (owns ρ (jX (R.heap.map (Ch.subst 0 θ))) ++ owns ρ rest).Nodup := by
       rw [← dI]; exact (hperm.flatMap_right _).nodup_iff.1 hr1.heap.nodup
      exact (List.nodup_append.1 hnd).2.1
     ·exact hr1.heap.ro c (hperm.mem_iff.2 (List.mem_append.2 (.inr hc))) b hb (by rw [dQ hperm, dI]; exact List.mem_append.2 (.inr hm))
    have hownR : ∀ b ∈ owns ρ rest, b ∈ owns ρ H := fun b hb => by rw [dQ hperm, dI]; exact List.mem_append.2 (.inr hb)
    have hroR : ∀ b ∈ ros ρ rest, b ∈ ros ρ H := fun b hb => by rw [iL hperm, vF]; exact List.mem_append.2 (.inr hb)
    have hroNo : ∀ b ∈ ros ρ rest, b ∉ owns ρ H := by
     intro b hb
     obtain ⟨c, hc, hb⟩ := fM.1 hb
     exact hr1.heap.ro c (hperm.mem_iff.2 (List.mem_append.2 (.inr hc))) b hb
    have hargsv : aU (θ.map (Tm.den ρ)) R.args vals.toList := by
     have := aX9 (ρ := []) (σ := ρ) (θ := θ) R.args vals.toList
     simp only [List.length_nil, List.nil_append] at this
     rw [← this, hargs]; exact ha
    refine ⟨θ, hθ, aK4 hr.aB hshapes, hprec, hargsv, hpat', fun g hg => ⟨(hr1.globs g hg).1, fun hm => (hr1.globs g hg).2 (hsub _ hm)⟩, ?_⟩
    rintro v w' ⟨σ, hσ, hpo, hres, hheap, hown', hro', hfr⟩
    refine ⟨?_, fun hq => ?_⟩
    rotate_left
    ·refine ⟨hfr.size, fun b hb => hfr.block b hb ?_⟩
     rw [cD9 (by simpa using hq)]; simp
    -- the rest in the new world
    have hkeep : ∀ b, b < w.heap.size → b ∉ owns (θ.map (Tm.den ρ)) R.heap → w'.heap[b]? = w.heap[b]? := hfr.block
    have hrest' : aN ρ rest w' := hrest.congr (fun b hb => hkeep b (hb.elim hrest.dZ hrest.jM) (fun hm => hb.elim (fun h => hdisj b hm h) (fun h => hroNo b h (hsub b hm)))) hfr.size
    have hr2 : Rel cx.G w0 D0 R0 ρ { S with heap := rest } a w' := by
     refine hr1.sH (hs := rest) hrest' hfr.size (fun b hb hn => hkeep b hb (fun hm => hn (hsub b hm))) hfr.os hfr.tape hfr.output (fun b hb => .inl (hownR b hb)) (fun b hb => .inr (.inl (hroR b hb)))
    obtain ⟨as, vc2, h2, d2, r2, e2, e3, e4⟩ := bE0 hr2 hw hdw hσ
    have hund' : θ.all (Tm.under ρ.length) = true := by rw [hlen]; exact hund
    have hθ' : (θ ++ as).map (Tm.den (ρ ++ σ)) = θ.map (Tm.den ρ) ++ σ := by rw [List.map_append, aE5 hund', e2]
    unfold bA7 at h2
    dsimp only at h2
    split at h2
    ·rename_i vc3 h3
     cases h2
     have d3 := d2 (by rw [hθ']; exact hpo)
     have hv : (R.res.subst 0 (θ ++ as)).holds (ρ ++ σ) v := by
      have := SV.mO (ρ := []) (σ := ρ ++ σ) (θ := θ ++ as) R.res v
      simp only [List.length_nil, List.nil_append] at this
      rw [this, hθ']; exact hres
     have hhs : aN (ρ ++ σ) (R.heap'.map (Ch.subst 0 (θ ++ as))) w' := by
      have := aN.cJ1 (ρ := []) (σ := ρ ++ σ) (θ := θ ++ as) (hs := R.heap') (w := w')
      simp only [List.length_nil, List.nil_append] at this
      exact this (by rw [hθ']; exact hheap)
     have hoE : owns (ρ ++ σ) (R.heap'.map (Ch.subst 0 (θ ++ as))) = owns (θ.map (Tm.den ρ) ++ σ) R.heap' := by
      have := rV (ρ := []) (σ := ρ ++ σ) (θ := θ ++ as) R.heap'
      simp only [List.length_nil, List.nil_append] at this
      rw [this, hθ']
     have hrE : ros (ρ ++ σ) (R.heap'.map (Ch.subst 0 (θ ++ as))) = ros (θ.map (Tm.den ρ) ++ σ) R.heap' := by
      have := aJ5 (ρ := []) (σ := ρ ++ σ) (θ := θ ++ as) R.heap'
      simp only [List.length_nil, List.nil_append] at this
      rw [this, hθ']
     have hfacts : ∀ f ∈ (aB8 (R.res.subst 0 (θ ++ as)) ++ (R.heap'.map (Ch.subst 0 (θ ++ as))).flatMap vY).filter (Fact.at ((S.aB ++ R.news).length - as.length)), f.den (ρ ++ σ) := by
      intro f hf
      rcases List.mem_append.1 (List.mem_filter.1 hf).1 with hf | hf
      ·exact bO2 hv f hf
      ·exact bE5 hhs f hf
     obtain ⟨vc4, h4, d4⟩ := wR h3 d3 hfacts
     -- the rest's blocks, said of the longer payload
     have hro2 : ∀ b ∈ owns (ρ ++ σ) rest, b ∈ owns ρ rest := by
      intro b hb
      cases hn : R.news with
      | nil =>
       have : σ = [] := by cases σ with | nil => rfl | cons d σ => rw [hn] at hσ; exact hσ.elim
       subst this; rw [List.append_nil] at hb; exact hb
      | cons x xs =>
       rw [hn] at hw
       simp only [uI, fresh] at hw
       split at hw
       ·rename_i hu
        simp only [St.under, Bool.and_eq_true, ← hlen] at hu
        rw [rW hu.2] at hb; exact hb
       ·cases hw
     have hro3 : ∀ b ∈ ros (ρ ++ σ) rest, b ∈ ros ρ rest := by
      intro b hb
      cases hn : R.news with
      | nil =>
       have : σ = [] := by cases σ with | nil => rfl | cons d σ => rw [hn] at hσ; exact hσ.elim
       subst this; rw [List.append_nil] at hb; exact hb
      | cons x xs =>
       rw [hn] at hw
       simp only [uI, fresh] at hw
       split at hw
       ·rename_i hu
        simp only [St.under, Bool.and_eq_true, ← hlen] at hu
        rw [xX hu.2] at hb; exact hb
       ·cases hw
     have hlends : ∀ b ∈ ros (θ.map (Tm.den ρ) ++ σ) R.heap', b ∈ ros (θ.map (Tm.den ρ)) R.heap → b ∈ ros ρ rest := by
      intro b hb hb'
      obtain ⟨c', hc', hbc⟩ := fM.1 hb
      have hany : R.heap'.any jH = true := List.any_eq_true.2 ⟨c', hc', by cases hcr : jH c' with | true => rfl | false => rw [← Ch.uS, cF6 hcr] at hbc; cases hbc⟩
      rw [← hrosE] at hb'
      rcases hros b hb' with h1 | ⟨h1, _⟩
      ·exact h1
      ·rw [hany] at h1; cases h1
     have hin : ∀ b ∈ owns (ρ ++ σ) (R.heap'.map (Ch.subst 0 (θ ++ as))), b ∈ owns ρ H ∨ w.heap.size ≤ b := by
      intro b hb
      rw [hoE] at hb
      exact (hown' b hb).imp (hsub b) id
     have hnot : ∀ b ∈ owns (ρ ++ σ) (R.heap'.map (Ch.subst 0 (θ ++ as))), b ∉ owns ρ rest ∧ b ∉ ros ρ rest := by
      intro b hb
      rw [hoE] at hb
      rcases hown' b hb with h1 | h1
      ·exact ⟨hdisj b h1, fun h2 => hroNo b h2 (hsub b h1)⟩
      ·exact ⟨fun h2 => by have := hrest.dZ h2; omega, fun h2 => by have := hrest.jM h2; omega⟩
     refine ⟨σ, _, _, vc4, v, w', h4, d4, hv, ?_, rfl⟩
     refine ⟨r2.aB, r2.tmps, r2.defers, ⟨fun c hc => ?_, ?_, fun c hc b hb hm => ?_⟩, fun g hg => ⟨(r2.globs g hg).1, fun hm => ?_⟩, r2.frame, fun b hb => ?_, fun b hb => ?_⟩
     ·rcases List.mem_append.1 hc with hc | hc
      ·exact hhs.holds c hc
      ·exact r2.heap.holds c hc
     ·show (owns (ρ ++ σ) (R.heap'.map (Ch.subst 0 (θ ++ as)) ++ rest)).Nodup
      rw [dI]
      exact List.nodup_append.2 ⟨hhs.nodup, r2.heap.nodup, fun x hx y hy e => (hnot x hx).1 (by rw [e]; exact hro2 y hy)⟩
     ·have hm : b ∈ owns (ρ ++ σ) (R.heap'.map (Ch.subst 0 (θ ++ as)) ++ rest) := hm
      rw [dI] at hm
      rcases List.mem_append.1 hc with hc | hc
      ·rcases List.mem_append.1 hm with hm | hm
       ·exact hhs.ro c hc b hb hm
       ·have hb' : b ∈ ros (θ.map (Tm.den ρ) ++ σ) R.heap' := by rw [← hrE]; exact fM.2 ⟨c, hc, hb⟩
        have hm := hro2 b hm
        rcases hro' b hb' with h1 | h1 | h1
        ·exact hdisj b h1 hm
        ·have := hrest.dZ hm; omega
        ·exact hroNo b (hlends b hb' h1) (hownR b hm)
      ·have hb' : b ∈ ros ρ rest := hro3 b (fM.2 ⟨c, hc, hb⟩)
       rcases List.mem_append.1 hm with hm | hm
       ·exact (hnot b hm).2 hb'
       ·exact r2.heap.ro c hc b hb hm
     ·have hm : g.g ∈ owns (ρ ++ σ) (R.heap'.map (Ch.subst 0 (θ ++ as)) ++ rest) := hm
      rw [dI] at hm
      rcases List.mem_append.1 hm with hm | hm
      ·rcases hin _ hm with h1 | h1
       ·exact (hr1.globs g hg).2 h1
       ·have := Glob.lt (hr1.globs g hg).1; omega
      ·exact (r2.globs g hg).2 hm
     ·have hb : b ∈ owns (ρ ++ σ) (R.heap'.map (Ch.subst 0 (θ ++ as)) ++ rest) := hb
      rw [dI] at hb
      rcases List.mem_append.1 hb with hb | hb
      ·rcases hin _ hb with h1 | h1
       ·exact hr1.within b h1
       ·exact .inr (Nat.le_trans hr1.frame.size h1)
      ·exact r2.within b hb
     ·have hb : b ∈ ros (ρ ++ σ) (R.heap'.map (Ch.subst 0 (θ ++ as)) ++ rest) := hb
      rw [vF] at hb
      rcases List.mem_append.1 hb with hb | hb
      ·rw [hrE] at hb
       rcases hro' b hb with h1 | h1 | h1
       ·exact (hr1.within b (hsub b h1)).imp id .inl
       ·exact .inr (.inl (Nat.le_trans hr1.frame.size h1))
       ·exact hr1.within' b (hroR b (hlends b hb h1))
      ·exact r2.within' b hb
    ·cases h2
   ·cases h
  ·cases h
 ·cases h
theorem aO2 {f : FuncId} {args : List SV} {vals : Array Value} (hG : cx.G = G) (hsig : mZ cx E) (hr : Rel G w0 D0 R0 ρ S a w) (h : aD6 cx S f args k = .ok vc) (hd : vc.den E ρ) (ha : aU ρ args vals.toList) :
  (∃ fn b, cx.P.funcs[f]? = some fn ∧ (fn.name == "runtime.NumGoroutine") = false ∧ fn.body = some b) ∧
  Calls cx.P f vals w fun e w' => ∃ v, e = .returned v ∧ Out E G w0 D0 R0 ρ a k (.ok v w') ∧ (xQ cx f = true → Same w w') := by
 subst hG
 unfold aD6 at h
 split at h
 ·cases h
 rename_i c R hfs
 obtain ⟨s, rfl, hpre, hpost, hpost2, hholds, hfn⟩ := hsig f c R hfs
 refine ⟨hfn, ?_⟩
 split at h
 ·cases h
  exact absurd hd.1 (by simp [Tm.den])
 split at h
 ·rename_i hsec
  obtain ⟨θ, hθ, a1, a2, a3, a4, a5, fin⟩ := aO1 hr h hd ha
  refine Calls.mono (hholds w vals _ a1 (by rw [hpre]; exact a2) a3 a4 a5) ?_
  rintro e w' ⟨v, rfl, hfit | ⟨r, hr2, hfit⟩⟩
  ·rw [hpost] at hfit
   obtain ⟨o, q⟩ := fin v w' hfit
   exact ⟨v, rfl, o, fun hq => q (by simpa [xQ, hfs] using hq)⟩
  ·rw [hsec] at hr2; cases hr2
 ·rename_i r hsec
  obtain ⟨⟨v1, e1, d1⟩, v2, e2, d2⟩ := both_ok h hd
  obtain ⟨θ, hθ, a1, a2, a3, a4, a5, fin⟩ := aO1 hr e1 d1 ha
  obtain ⟨θ2, hθ2, _, _, _, _, _, fin2⟩ := aO1 hr e2 d2 ha
  have hrr : r.args = s.args ∧ r.heap = s.heap ∧ r.aB = s.aB := by
   unfold SigR.second at hsec
   split at hsec
   ·cases hsec; exact ⟨rfl, rfl, rfl⟩
   ·cases hsec
  rw [hrr.1, hrr.2.1, hrr.2.2, hθ] at hθ2
  cases hθ2
  refine Calls.mono (hholds w vals _ a1 (by rw [hpre]; exact a2) a3 a4 a5) ?_
  rintro e w' ⟨v, rfl, hfit | ⟨r', hr2, hfit⟩⟩
  ·rw [hpost] at hfit
   obtain ⟨o, q⟩ := fin v w' hfit
   exact ⟨v, rfl, o, fun hq => q (by simpa [xQ, hfs] using hq)⟩
  ·rw [hsec] at hr2
   cases hr2
   rw [hpost2] at hfit
   obtain ⟨o, q⟩ := fin2 v w' hfit
   exact ⟨v, rfl, o, fun hq => q (by rw [hrr.2.1]; simpa [xQ, hfs] using hq)⟩
end
end Go.Vc
namespace Go.Vc
open Go.MapKept
def F2 {α β : Type} (R : α → β → Prop) : List α → List β → Prop
 | [], [] => True
 | a :: as, b :: bs => R a b ∧ F2 R as bs
 | _, _ => False
section
variable {α β : Type} {R R' : α → β → Prop}
theorem F2.len : ∀ {as : List α} {bs : List β}, F2 R as bs → as.length = bs.length
 | [], [], _ => rfl
 | [], _ :: _, h => h.elim
 | _ :: _, [], h => h.elim
 | _ :: _, _ :: _, h => by simp [h.2.len]
theorem F2.imp (f : ∀ a b, R a b → R' a b) : ∀ {as : List α} {bs : List β}, F2 R as bs → F2 R' as bs
 | [], [], _ => trivial
 | [], _ :: _, h => h.elim
 | _ :: _, [], h => h.elim
 | _ :: _, _ :: _, h => ⟨f _ _ h.1, h.2.imp f⟩
theorem F2.imp' : ∀ {as : List α} {bs : List β}, (∀ a b, b ∈ bs → R a b → R' a b) → F2 R as bs → F2 R' as bs
 | [], [], _, _ => trivial
 | [], _ :: _, _, h => h.elim
 | _ :: _, [], _, h => h.elim
 | _ :: _, _ :: _, f, h => ⟨f _ _ (by simp) h.1, h.2.imp' fun a b hb => f a b (by simp [hb])⟩
theorem F2.app1 {a : α} {b : β} (r : R a b) : ∀ {as : List α} {bs : List β}, F2 R as bs → F2 R (as ++ [a]) (bs ++ [b])
 | [], [], _ => ⟨r, trivial⟩
 | [], _ :: _, h => h.elim
 | _ :: _, [], h => h.elim
 | _ :: _, _ :: _, h => ⟨h.1, h.2.app1 r⟩
theorem F2.set {a : α} {b : β} (r : R a b) : ∀ {as : List α} {bs : List β} (j : Nat), F2 R as bs → F2 R (as.set j a) (bs.set j b)
 | [], [], _, _ => trivial
 | [], _ :: _, _, h => h.elim
 | _ :: _, [], _, h => h.elim
 | _ :: _, _ :: _, 0, h => ⟨r, h.2⟩
 | _ :: _, _ :: _, j + 1, h => ⟨h.1, h.2.set r j⟩
theorem F2.erase : ∀ {as : List α} {bs : List β} (j : Nat), F2 R as bs → F2 R (as.eraseIdx j) (bs.eraseIdx j)
 | [], [], _, _ => trivial
 | [], _ :: _, _, h => h.elim
 | _ :: _, [], _, h => h.elim
 | _ :: _, _ :: _, 0, h => h.2
 | _ :: _, _ :: _, j + 1, h => ⟨h.1, h.2.erase j⟩
theorem F2.get : ∀ {as : List α} {bs : List β} {j : Nat} {a : α}, F2 R as bs → as[j]? = some a → ∃ b, bs[j]? = some b ∧ R a b
 | [], _, _, _, _, h => by simp at h
 | _ :: _, [], _, _, h, _ => h.elim
 | _ :: _, y :: _, 0, a, h, he => by simp at he; subst he; exact ⟨y, rfl, h.1⟩
 | _ :: _, _ :: _, j + 1, a, h, he => by
  obtain ⟨b, h1, h2⟩ := h.2.get (j := j) (by simpa using he)
  exact ⟨b, by simpa using h1, h2⟩
theorem F2.mem {as : List α} {bs : List β} (h : F2 R as bs) {b : β} (hb : b ∈ bs) : ∃ a ∈ as, R a b := by
 induction bs generalizing as with
 | nil => cases hb
 | cons y bs ih =>
  cases as with
  | nil => exact h.elim
  | cons x as =>
   rcases List.mem_cons.1 hb with rfl | hb
   ·exact ⟨x, by simp, h.1⟩
   ·obtain ⟨a, ha, hr⟩ := ih h.2 hb
    exact ⟨a, by simp [ha], hr⟩
end
def RA (K E : CK) (e : MapEntry) (r : D) : Prop := K.cells r.key = [e.key] ∧ K.isWord r.key ∧ E.cells r.snd = [e.val] ∧ E.isWord r.snd ∧ r = .L [r.key, r.snd]
def RP (w : World) (K : CK) (ek : EK) (e : MapEntry) (r : D) : Prop :=
 K.cells r.key = [e.key] ∧ K.isWord r.key ∧ e.val = .pointer (some ⟨r.snd.toN, 0, none⟩) ∧ r = .L (r.key :: .N r.snd.toN :: r.toL.drop 2) ∧ fG ek (r.toL.drop 2) ∧
   ∃ cs t fz, w.heap[r.snd.toN]? = some (.cells cs t fz) ∧ gV fz cs.size ∧ cs.toList = eU ek (r.toL.drop 2)
def RK (K : CK) (e : MapEntry) (r : D) : Prop := K.cells r.key = [e.key] ∧ K.isWord r.key
theorem qV {K E : CK} : ∀ {es : List MapEntry} {L : LD}, vH K E es L ↔ F2 (RA K E) es L
 | [], [] => Iff.rfl
 | [], _ :: _ => Iff.rfl
 | _ :: _, [] => Iff.rfl
 | _ :: _, _ :: _ => and_congr Iff.rfl qV
theorem qW {w : World} {K : CK} {ek : EK} : ∀ {es : List MapEntry} {L : LD}, lD w K ek es L ↔ F2 (RP w K ek) es L
 | [], [] => Iff.rfl
 | [], _ :: _ => Iff.rfl
 | _ :: _, [] => Iff.rfl
 | _ :: _, _ :: _ => and_congr Iff.rfl qW
def tC : CK → Option TypeDesc
 | .int k => some (.int k)
 | .str => some .string
 | .bool => some .bool
 | _ => none
theorem bB3 {P : Program} {t : TypeId} {K : CK} (h : aE0 P t = some K) : ∃ d, tC K = some d ∧ P.underlying t = some d := by
 unfold aE0 at h
 split at h
 ·rename_i k hu; cases h; exact ⟨_, rfl, hu⟩
 ·rename_i hu; cases h; exact ⟨_, rfl, hu⟩
 ·rename_i hu; cases h; exact ⟨_, rfl, hu⟩
 ·cases h
theorem aS5 {K : CK} {d : TypeDesc} (hK : tC K = some d) {x : D} {u : Value} (h : K.cells x = [u]) : IsKey d u := by
 cases K with
 | int k => cases hK; simp only [CK.cells, List.cons.injEq, and_true] at h; subst h; rfl
 | str => cases hK; simp only [CK.cells, List.cons.injEq, and_true] at h; subst h; trivial
 | bool => cases hK; simp only [CK.cells, List.cons.injEq, and_true] at h; subst h; trivial
 | _ => cases hK
theorem bT4 {K : CK} {d : TypeDesc} (hK : tC K = some d) {x y : D} (hx : K.word x = x) (hy : K.word y = y) (h : K.cells x = K.cells y) : x = y := by
 cases K with
 | int k => rw [← hx, ← hy]; simp only [CK.cells, List.cons.injEq, Value.int.injEq, true_and, and_true] at h; simp only [CK.word, h]
 | str => rw [← hx, ← hy]; simp only [CK.cells, List.cons.injEq, Value.string.injEq, and_true] at h; simp only [CK.word, h]
 | bool => rw [← hx, ← hy]; simp only [CK.cells, List.cons.injEq, Value.bool.injEq, and_true] at h; simp only [CK.word, h]
 | _ => cases hK
theorem cG4 {K : CK} {d : TypeDesc} (hK : tC K = some d) {x y : D} {u v : Value} (hx : K.cells x = [u]) (hxw : K.word x = x) (hy : K.cells y = [v]) (hyw : K.word y = y) :
  Instr.sameNow d u v = some (iO y x) ∧ (iO y x = true ↔ u = v) := by
 obtain ⟨r, h1, h2⟩ := sameNow_of_keys (aS5 hK hx) (aS5 hK hy)
 have h3 : (iO y x = true ↔ u = v) := by
  rw [aK2 hyw hxw]
  constructor
  ·rintro rfl; rw [hx] at hy; simpa using hy
  ·rintro rfl; exact bT4 hK hyw hxw (by rw [hx, hy])
 refine ⟨?_, h3⟩
 rw [h1]
 congr 1
 cases hr : r with
 | true => exact (h3.2 (h2.1 hr)).symm
 | false =>
  cases hs : iO y x with
  | false => rfl
  | true => rw [h2.2 (h3.1 hs)] at hr; cases hr
theorem wK {K : CK} {d : TypeDesc} (hK : tC K = some d) {x : D} {u : Value} (hx : K.cells x = [u]) (hxw : K.word x = x) : ∀ {es : List MapEntry} {L : LD} (i : Nat), F2 (RK K) es L →
  (Instr.findNow d u es i = some none ∧ sK L x = false ∧ (∀ r, qU L x r = L ++ [r]) ∧ sJ L x = L ∧ ∀ r ∈ L, iO r.key x = false) ∨
  ∃ j e r, Instr.findNow d u es i = some (some (i + j, e.val)) ∧ es[j]? = some e ∧ L[j]? = some r ∧ e.key = u ∧ sK L x = true ∧ vG L x = r ∧ (∀ r', qU L x r' = L.set j r') ∧ sJ L x = L.eraseIdx j ∧ iO r.key x = true
 | [], [], i, _ => .inl ⟨rfl, rfl, fun _ => rfl, rfl, fun _ h => by cases h⟩
 | [], _ :: _, _, h => h.elim
 | _ :: _, [], _, h => h.elim
 | e :: es, r :: L, i, h => by
  obtain ⟨hs, hi⟩ := cG4 hK hx hxw h.1.1 h.1.2.2
  cases hw : iO r.key x with
  | true =>
   rw [hw] at hs
   refine .inr ⟨0, e, r, by simp [Instr.findNow, hs], rfl, rfl, (hi.1 hw).symm, by simp [sK, hw], by simp [vG, hw], fun r' => by simp [qU, hw], by simp [sJ, hw], hw⟩
  | false =>
   rw [hw] at hs
   rcases wK hK hx hxw (i + 1) h.2 with ⟨h1, h2, h3, h4, h5⟩ | ⟨j, e', r', h1, h2, h3, h4, h5, h6, h7, h8, h9⟩
   ·refine .inl ⟨by simp [Instr.findNow, hs, h1], by simpa [sK, hw] using h2, fun r' => by simp [qU, hw, h3], by simp [sJ, hw, h4], fun r' hr => ?_⟩
    rcases List.mem_cons.1 hr with rfl | hr
    ·exact hw
    ·exact h5 r' hr
   ·refine .inr ⟨j + 1, e', r', by simp [Instr.findNow, hs, h1]; omega, by simpa using h2, by simpa using h3, h4, by simp only [sK, List.any_cons, Bool.or_eq_true] at h5 ⊢; exact .inr h5, ?_, fun r'' => by simp [qU, hw, h7], by simp [sJ, hw, h8], h9⟩
    simpa [vG, hw] using h6
theorem bJ5 {L : LD} {r : D} (h : dL L) (hn : ∀ x ∈ L, iO x.key r.key = false) : dL (L ++ [r]) := by
 unfold dL
 rw [List.pairwise_append]
 exact ⟨h, by simp, fun a ha b hb => by rw [List.mem_singleton] at hb; subst hb; exact hn a ha⟩
theorem bJ6 {L : LD} {r r' : D} {j : Nat} (h : dL L) (hj : L[j]? = some r) (hk : r'.key = r.key) : dL (L.set j r') := by
 refine bG4 ?_ h
 rw [List.map_set, hk]
 apply List.ext_getElem?
 intro m
 rw [List.getElem?_set]
 split
 ·rename_i he
  subst he
  split
  ·simp [List.getElem?_map, hj]
  ·rename_i hl; rw [List.getElem?_eq_none (by omega)]
 ·rfl
theorem cB9 {es : List MapEntry} {j : Nat} {e : MapEntry} {f : MapEntry → MapEntry} (h : es[j]? = some e) : (es.toArray.modify j f).toList = es.set j (f e) := by
 rw [Array.toList_modify, ChangeMaps.modify_eq_set f _ j e (by simpa using h)]
theorem bA2 {es : List MapEntry} {j : Nat} {e e' : MapEntry} (h : es[j]? = some e) (hb : e'.born = e.born) : (es.set j e').map (·.born) = es.map (·.born) := by
 rw [List.map_set, hb]
 apply List.ext_getElem?
 intro m
 rw [List.getElem?_set]
 split
 ·rename_i he
  subst he
  split
  ·simp [List.getElem?_map, h]
  ·rename_i hl; rw [List.getElem?_eq_none (by omega)]
 ·rfl
theorem dR.set {w w' : World} {b : Nat} {es : List MapEntry} {clock j : Nat} {e e' : MapEntry} (h : dR w b es clock) (he : es[j]? = some e) (hb : e'.born = e.born) (hw : w'.heap[b]? = some (.map (es.set j e').toArray clock)) : dR w' b (es.set j e') clock := by
 refine ⟨hw, by rw [bA2 he hb]; exact h.2.1, fun x hx => ?_, by simpa using h.2.2.2⟩
 have : x.born ∈ (es.set j e').map (·.born) := List.mem_map_of_mem hx
 rw [bA2 he hb] at this
 obtain ⟨y, hy, hh⟩ := List.mem_map.1 this
 rw [← hh]; exact h.2.2.1 y hy
theorem dR.push {w w' : World} {b : Nat} {es : List MapEntry} {clock : Nat} {e : MapEntry} (h : dR w b es clock) (hb : e.born = clock) (hl : es.length + 1 ≤ maxLen) (hw : w'.heap[b]? = some (.map (es ++ [e]).toArray (clock + 1))) : dR w' b (es ++ [e]) (clock + 1) := by
 refine ⟨hw, ?_, fun x hx => ?_, by simpa using hl⟩
 ·rw [List.map_append, List.nodup_append]
  refine ⟨h.2.1, by simp, fun x hx y hy => ?_⟩
  obtain ⟨z, hz, rfl⟩ := List.mem_map.1 hx
  simp only [List.map_cons, List.map_nil, List.mem_singleton] at hy
  have := h.2.2.1 z hz
  omega
 ·rcases List.mem_append.1 hx with hx | hx
  ·have := h.2.2.1 x hx; omega
  ·rw [List.mem_singleton] at hx; subst hx; omega
theorem dR.erase {w w' : World} {b : Nat} {es : List MapEntry} {clock j : Nat} (h : dR w b es clock) (hw : w'.heap[b]? = some (.map (es.eraseIdx j).toArray clock)) : dR w' b (es.eraseIdx j) clock := by
 have hs := List.eraseIdx_sublist es j
 exact ⟨hw, (hs.map _).nodup h.2.1, fun x hx => h.2.2.1 x (hs.subset hx), Nat.le_trans hs.length_le h.2.2.2⟩
end Go.Vc
namespace Go.Vc
open Go.MapKept
open Go.ChangeMaps (setBlock)
section
variable {P : Program} {w : World} {t k e : TypeId} {d : TypeDesc} {b clock : Nat} {es : List MapEntry} {u v : Value}
theorem vK {o o' : Obj} (hb : w.heap[b]? = some o) : (setBlock w b o').heap[b]? = some o' := (MapKept.heap_set hb).1
theorem vM {o : Obj} {x : Nat} (hx : x ≠ b) : (setBlock w b o).heap[x]? = w.heap[x]? := by
 simp [setBlock, Ne.symm hx]
theorem aK3 {o : Obj} : (setBlock w b o).heap.size = w.heap.size := by simp [setBlock]
theorem bM4 (ht : P.underlying t = some (.map k e)) (hk : P.underlying k = some d) (hb : w.heap[b]? = some (.map es.toArray clock)) (hkey : IsKey d u) (hf : Instr.findNow d u es 0 = some none) :
  (Instr.mapUpdate t (.map (some b)) u v).run P w = .ok () (setBlock w b (.map (es ++ [(⟨u, v, clock⟩ : MapEntry)]).toArray (clock + 1))) := by
 simp [Instr.mapUpdate, run_underlying ht, MapKept.run_getObj_map hb, run_checkKey hk hkey, run_findKey hk hf, MapKept.run_setObj_map _ hb, Result.andThen, setBlock]
theorem bM5 {j : Nat} {e0 : MapEntry} {v0 : Value} (ht : P.underlying t = some (.map k e)) (hk : P.underlying k = some d) (hb : w.heap[b]? = some (.map es.toArray clock)) (hkey : IsKey d u) (hf : Instr.findNow d u es 0 = some (some (j, v0)))
  (he : es[j]? = some e0) (hu : e0.key = u) : (Instr.mapUpdate t (.map (some b)) u v).run P w = .ok () (setBlock w b (.map (es.set j { e0 with key := u, val := v }).toArray clock)) := by
 have h1 : (es.toArray.modify j fun x => { x with key := u, val := v }) = (es.set j { e0 with key := u, val := v }).toArray := Array.toList_inj.1 (by rw [cB9 he])
 have h2 : (((es.toArray[j]?).map (·.key)).getD u) = u := by simp [he, hu]
 have h3 : (Instr.keyThatStays u u).run P w = .ok u w := run_keyThatStays hkey
 simp [Instr.mapUpdate, run_underlying ht, MapKept.run_getObj_map hb, run_checkKey hk hkey, run_findKey hk hf, Result.andThen, setBlock]
 rw [show (Option.map (fun x => x.key) es[j]?).getD u = u from by simp [he, hu]]
 simp [h3, MapKept.run_setObj_map _ hb]
 have h1' := h1
 simp at h1'
 first | rw [h1'] | skip
theorem bM1 {ok : Bool} {r : Option (Nat × Value)} (ht : P.underlying t = some (.map k e)) (hk : P.underlying k = some d) (hb : w.heap[b]? = some (.map es.toArray clock)) (hkey : IsKey d u) (hf : Instr.findNow d u es 0 = some r)
  (hz : r = none → ∃ i, P.info? e = some i ∧ i.zero = some v) :
  (Instr.lookup t (.map (some b)) u ok).run P w = .ok (if ok then .tuple #[(r.map (·.2)).getD v, .bool r.isSome] else (r.map (·.2)).getD v) w := by
 cases r with
 | some x => cases ok <;> simp [Instr.lookup, run_underlying ht, MapKept.run_getObj_map hb, run_checkKey hk hkey, run_findKey hk hf, Result.andThen]
 | none =>
  obtain ⟨i, hi, hz⟩ := hz rfl
  cases ok <;> simp [Instr.lookup, run_underlying ht, MapKept.run_getObj_map hb, run_checkKey hk hkey, run_findKey hk hf, Result.andThen, zeroValue, typeInfo, hi, hz]
theorem cG1 {ty t' : TypeId} (ht : P.underlying t = some (.map k e)) (hk : P.underlying k = some d) (hb : w.heap[b]? = some (.map es.toArray clock)) (hkey : IsKey d u) (hf : Instr.findNow d u es 0 = some none) :
  (Builtin.delete_ #[t, t'] ty #[.map (some b), u]).run P w = .ok (.tuple #[]) (setBlock w b (.map es.toArray clock)) := by
 simp [Builtin.delete_, run_underlying ht, MapKept.run_getObj_map hb, run_checkKey hk hkey, run_findKey hk hf, MapKept.run_setObj_map _ hb, Result.andThen, setBlock]
theorem cG0 {ty t' : TypeId} {j : Nat} {v0 : Value} (ht : P.underlying t = some (.map k e)) (hk : P.underlying k = some d) (hb : w.heap[b]? = some (.map es.toArray clock)) (hkey : IsKey d u) (hf : Instr.findNow d u es 0 = some (some (j, v0))) (hj : j < es.length) :
  (Builtin.delete_ #[t, t'] ty #[.map (some b), u]).run P w = .ok (.tuple #[]) (setBlock w b (.map (es.eraseIdx j).toArray clock)) := by
 have h1 : es.toArray.eraseIdxIfInBounds j = (es.eraseIdx j).toArray := by
  unfold Array.eraseIdxIfInBounds
  rw [dif_pos (by simpa using hj)]
  simp
 simp [Builtin.delete_, run_underlying ht, MapKept.run_getObj_map hb, run_checkKey hk hkey, run_findKey hk hf, MapKept.run_setObj_map _ hb, Result.andThen, setBlock]
theorem cG3 (ht : P.underlying t = some (.map k e)) (hb : w.heap[b]? = some (.map es.toArray clock)) :
  (Instr.range t (.map (some b))).run P w = .ok (.pointer (some ⟨w.heap.size, 0, none⟩)) (w.alloc (.mapIter (some b) clock #[] clock)) := by
 simp [Instr.range, run_underlying ht, MapKept.run_getObj_map hb, Result.andThen]
end
section
variable {E : Env} {G : List Glob} {w0 : World} {D0 R0 : List Nat} {ρ : LD} {S : St} {a : Act} {w : World} {cx : Cx} {vc : VC} {ret : SV → M} {k : SV → St → M}
theorem Rel.dB (h : Rel G w0 D0 R0 ρ S a w) {b : Tm} {kd0 : Kd} {ts : List Tm} (hf : dV b S.heap = some (kd0, ts)) {w' : World} {c : Ch} (hc : c.holds ρ w') (hnd : (c.own ρ).Nodup) (hro : c.ro ρ = [])
  (hown : ∀ x ∈ c.own ρ, x ∈ (Ch.abs kd0 ts).own ρ ∨ w.heap.size ≤ x) (hsz : w.heap.size ≤ w'.heap.size) (hb : ∀ x, x < w.heap.size → x ∉ (Ch.abs kd0 ts).own ρ → w'.heap[x]? = w.heap[x]?)
  (hos : w'.os = w.os) (htape : w'.tape = w.tape) (hout : w'.output = w.output) : Rel G w0 D0 R0 ρ { S with heap := Vc.dB b c S.heap } a w' := by
 obtain ⟨l1, l2, e1, e2, _⟩ := mJ hf
 have ho1 : owns ρ [c] = c.own ρ := by simp [owns]
 have ho2 : owns ρ [Ch.abs kd0 ts] = (Ch.abs kd0 ts).own ρ := by simp [owns]
 have hr1 : ros ρ [c] = [] := by simp [ros, hro]
 refine h.swap (pat := [.abs kd0 ts]) (new := [c]) (rest := l1 ++ l2) (by rw [e1]; exact kN l1 l2 _) (by rw [e2]; exact kN l1 l2 _) ⟨fun c' hc' => ?_, by rw [ho1]; exact hnd, fun c' hc' x hx => ?_⟩ hsz
  (fun x hx hn => hb x hx (by rw [ho2] at hn; exact hn)) hos htape hout (fun x hx => ?_) (fun x hx => by rw [hr1] at hx; cases hx)
 ·rw [List.mem_singleton] at hc'; subst hc'; exact hc
 ·rw [List.mem_singleton] at hc'; subst hc'
  rw [← Ch.uS, hro] at hx; cases hx
 ·rw [ho2]; rw [ho1] at hx; exact hown x hx
theorem aT8 {P : Program} {t : TypeId} {kd : Kd} (h : wY P t = some kd) : ∃ kt e d, P.underlying t = some (.map kt e) ∧ tC (lW kd) = some d ∧ P.underlying kt = some d ∧
  ((∃ K E dE, kd = .mp K E ∧ tC E = some dE) ∨ ∃ K ek, kd = .mpp K ek) := by
 unfold wY at h
 split at h
 ·rename_i kt e hu
  split at h
  ·rename_i K hK
   obtain ⟨d, h1, h2⟩ := bB3 hK
   split at h
   ·split at h
    ·rename_i ek _; cases h; exact ⟨kt, e, d, hu, h1, h2, .inr ⟨_, _, rfl⟩⟩
    ·cases h
   ·split at h
    ·rename_i E hE; cases h
     obtain ⟨dE, g1, _⟩ := bB3 hE
     exact ⟨kt, e, d, hu, h1, h2, .inl ⟨_, _, _, rfl, g1⟩⟩
    ·cases h
  ·cases h
 ·cases h
def lK (w : World) (kd : Kd) (es : List MapEntry) (L : LD) : Prop :=
 match kd with
 | .mp K E => F2 (RA K E) es L
 | .mpp K ek => F2 (RP w K ek) es L
 | _ => False
theorem lK.keys {kd : Kd} {es : List MapEntry} {L : LD} (h : lK w kd es L) : F2 (RK (lW kd)) es L := by
 cases kd with
 | mp K E => exact F2.imp (fun _ _ h => ⟨h.1, h.2.1⟩) h
 | mpp K ek => exact F2.imp (fun _ _ h => ⟨h.1, h.2.1⟩) h
 | _ => exact h.elim
theorem aH0 {t : TypeId} {x : SV} {u : Value} {kd : Kd} {b L : Tm} (hr : Rel G w0 D0 R0 ρ S a w) (h : mapOf cx S t x = .ok (kd, b, L)) (hx : x.holds ρ u) :
  u = .map (some (b.den ρ).toN) ∧ wY cx.P t = some kd ∧ ∃ kd0 ts, dV b S.heap = some (kd0, ts) ∧ xK kd0 ts = some (kd, b, L) ∧ ∃ es clock, dR w (b.den ρ).toN es clock ∧ lK w kd es (L.den ρ).toL ∧ dL (L.den ρ).toL ∧
   (kd.own [b.den ρ, L.den ρ]).Nodup ∧ (∀ y ∈ kd.own [b.den ρ, L.den ρ], y ∈ (Ch.abs kd0 ts).own ρ) := by
 unfold mapOf at h
 split at h
 ·rename_i b0
  split at h
  ·rename_i kd0 ts hf
   split at h
   ·rename_i kd1 b1 L1 hp
    split at h
    ·rename_i hc
     obtain ⟨hc1, rfl⟩ := hc
     cases h
     obtain ⟨l1, l2, e1, e2, ⟨ts', rfl⟩, e4⟩ := mJ hf
     have hh := hr.heap.holds (.abs kd0 (b :: ts')) (by rw [e1]; simp)
     have hnd : ((Ch.abs kd0 (b :: ts')).own ρ).Nodup := by
      have := hr.heap.nodup
      rw [e1, dI, List.nodup_append] at this
      have := this.2.1
      simp only [owns, List.flatMap_cons, List.nodup_append] at this
      exact this.1
     refine ⟨hx, hc1, kd0, _, hf, hp, ?_⟩
     unfold xK at hp
     split at hp
     ·rename_i K EE b2 L2 heq; cases hp; cases heq
      obtain ⟨es, clock, h1, h2, h3⟩ := hh
      exact ⟨es, clock, h1, qV.1 h2, h3, hnd, fun y hy => hy⟩
     ·rename_i K ek b2 L2 heq; cases hp; cases heq
      obtain ⟨es, clock, h1, h2, h3⟩ := hh
      exact ⟨es, clock, h1, qW.1 h2, h3, hnd, fun y hy => hy⟩
     ·rename_i K EE b2 L2 _ _ heq; cases hp; cases heq
      obtain ⟨es, clock, h1, h2, h3, _⟩ := hh
      exact ⟨es, clock, h1, qV.1 h2, h3, by simp [Kd.own], fun y hy => by simp [Kd.own, Ch.own, arg] at hy ⊢; exact .inl hy⟩
     ·rename_i K ek b2 L2 it s heq; cases hp; cases heq
      obtain ⟨es, clock, h1, h2, h3, _⟩ := hh
      refine ⟨es, clock, h1, qW.1 h2, h3, ?_, fun y hy => ?_⟩
      ·have : ((b.den ρ).toN :: (it.den ρ).toN :: aY (L.den ρ).toL).Nodup := hnd
       show ((b.den ρ).toN :: aY (L.den ρ).toL).Nodup
       rw [List.nodup_cons] at this ⊢
       exact ⟨fun hm => this.1 (by simp [hm]), (List.nodup_cons.1 this.2).2⟩
      ·have hy : y ∈ (b.den ρ).toN :: aY (L.den ρ).toL := hy
       show y ∈ (b.den ρ).toN :: (it.den ρ).toN :: aY (L.den ρ).toL
       rcases List.mem_cons.1 hy with rfl | hy
       ·simp
       ·simp [hy]
     ·cases hp
    ·cases h
   ·cases h
  ·cases h
 ·cases h
theorem aG5 {K : CK} {v : SV} {kt : Tm} {u : Value} (h : wQ K v = some kt) (hv : v.holds ρ u) : K.cells (kt.den ρ) = [u] ∧ K.isWord (kt.den ρ) := by
 unfold wQ at h
 split at h
 ·rename_i l hl
  have hl' : v = .one (.lf l) := by
   unfold svLf at hl
   split at hl
   ·cases hl; rfl
   ·cases hl
  subst hl'
  have hv : l.holds ρ u := hv
  have sl0 : tJ ρ [] := fun _ _ _ _ hf => by cases hf
  split at h
  ·rename_i kk
   cases l <;> first | (simp [jI] at h; done) | skip
   rename_i k' t
   simp only [jI] at h
   split at h
   ·rename_i hk; subst hk; cases h
    obtain ⟨rfl, hh⟩ := hv
    exact ⟨rfl, hh, rfl⟩
   ·cases h
  ·cases l <;> first | (simp [jI] at h; done) | skip
   simp only [jI] at h; cases h
   obtain ⟨rfl, hh⟩ := hv
   exact ⟨rfl, hh, rfl⟩
  ·cases l <;> first | (simp [jI] at h; done) | skip
   simp only [jI] at h; cases h
   have hv : u = _ := hv
   subst hv
   exact ⟨rfl, trivial, rfl⟩
  ·cases h
 ·cases h
theorem aJ6 {E : CK} {t : Tm} {l : Lf} {v : Value} (h : xY E t = some l) (hc : E.cells (t.den ρ) = [v]) (hok : E.ok (t.den ρ)) : l.holds ρ v := by
 unfold xY at h
 split at h
 ·rename_i l' hl
  cases h
  have := wU (ρ := ρ) hok
  rw [hl, hc] at this
  obtain ⟨v', r, he, h1, _⟩ := this
  cases he
  exact h1
 ·cases h
theorem aQ5 {cx : Cx} {t : TypeId} {kd : Kd} (hm : wY cx.P t = some kd) {kt : Tm} {v : Value} (hk : (lW kd).cells (kt.den ρ) = [v] ∧ (lW kd).isWord (kt.den ρ)) :
  ∃ ktt e d, cx.P.underlying t = some (.map ktt e) ∧ tC (lW kd) = some d ∧ cx.P.underlying ktt = some d ∧ IsKey d v := by
 obtain ⟨ktt, e, d, h1, h2, h3, _⟩ := aT8 hm
 exact ⟨ktt, e, d, h1, h2, h3, aS5 h2 hk.1⟩
theorem cA8 {t : TypeId} {x ix : SV} {ok : Bool} {u v : Value} (hr : Rel G w0 D0 R0 ρ S a w) (h : aT6 cx S t x ix ok ret = .ok vc) (hd : vc.den E ρ) (hx : x.holds ρ u) (hi : ix.holds ρ v) :
  ∃ z, Met E ρ ret z ∧ ∀ w', Same w w' → (Instr.lookup t u v ok).run cx.P w' = .ok z w' := by
 unfold aT6 at h
 split at h
 ·cases h
 rename_i kd b L hm
 obtain ⟨rfl, hmk, kd0, ts, hf, hpl, es, clock, m1, m2, m3, _⟩ := aH0 hr hm hx
 split at h
 ·cases h
 rename_i kt hkt
 have hk := aG5 hkt hi
 obtain ⟨ktt, e, d, g1, g2, g3, g4⟩ := aQ5 hmk hk
 dsimp only at h
 have hsame : ∀ w', Same w w' → w'.heap[(b.den ρ).toN]? = some (.map es.toArray clock) := fun w' hs => (hs.block _ m1.lt).trans m1.1
 -- the branch of what is there
 have there : ∀ {f : Lf} {vc' : VC}, aR0 kd L kt = some f → ret (if ok then .tup [.lf f, .lf (.bool (.bool true))] else .one (.lf f)) = .ok vc' → vc'.den E ρ → sK (L.den ρ).toL (kt.den ρ) = true →
   ∃ z, Met E ρ ret z ∧ ∀ w', Same w w' → (Instr.lookup t (.map (some (b.den ρ).toN)) v ok).run cx.P w' = .ok z w' := by
  intro f vc' hfl h1 hd1 hhas
  rcases wK g2 hk.1 hk.2.2 0 m2.keys with ⟨_, q2, _⟩ | ⟨j, e0, r, q1, q2, q3, q4, q5, q6, q7, q8⟩
  ·rw [hhas] at q2; cases q2
  ·have hlf : f.holds ρ e0.val := by
    cases kd with
    | mp K EE =>
     obtain ⟨r', hr1, hra⟩ := F2.get m2 q2
     rw [q3] at hr1; cases hr1
     refine aJ6 (t := yA (.o2 .mget L kt)) hfl ?_ ?_
     ·show EE.cells ((vG (L.den ρ).toL (kt.den ρ)).toL.getD 1 default) = _
      rw [q6]; exact hra.2.2.1
     ·show EE.ok ((vG (L.den ρ).toL (kt.den ρ)).toL.getD 1 default)
      rw [q6]; exact hra.2.2.2.1.1
    | mpp K ek =>
     obtain ⟨r', hr1, hra⟩ := F2.get m2 q2
     rw [q3] at hr1; cases hr1
     simp only [aR0] at hfl
     cases hfl
     show e0.val = .pointer (some ⟨((vG (L.den ρ).toL (kt.den ρ)).toL.getD 1 default).toN, 0, none⟩)
     rw [q6]; exact hra.2.2.1
    | _ => cases hfl
   refine ⟨if ok then .tuple #[e0.val, .bool true] else e0.val, ⟨_, vc', h1, hd1, ?_⟩, fun w' hs => ?_⟩
   ·cases ok
    ·exact hlf
    ·exact ⟨_, rfl, _, _, rfl, hlf, _, _, rfl, rfl, rfl⟩
   ·have := bM1 (ok := ok) (v := .bool false) g1 g3 (hsame w' hs) g4 q1 (fun h => by cases h)
    simpa using this
 split at h
 ·cases h
 rename_i f hfl
 have rest : ∀ (c : Bool), (if c = true then obl (.o2 .mhas L kt) (ret (if ok then .tup [.lf f, .lf (.bool (.bool true))] else .one (.lf f))) else match aU4 cx t with
   | some m => both (imp (.o2 .mhas L kt) true (ret (if ok then .tup [.lf f, .lf (.bool (.bool true))] else .one (.lf f)))) (imp (.o2 .mhas L kt) false (ret (if ok then .tup [.lf m, .lf (.bool (.bool false))] else .one (.lf m))))
   | none => .error "lookup: of what?") = .ok vc → ∃ z, Met E ρ ret z ∧ ∀ w', Same w w' → (Instr.lookup t (.map (some (b.den ρ).toN)) v ok).run cx.P w' = .ok z w' := by
  intro c h
  split at h
  ·obtain ⟨h1, v', h2, h3⟩ := aV2 h hd
   exact there hfl h2 h3 h1
  ·split at h
   ·rename_i m hml
    obtain ⟨⟨v1, h1, d1⟩, v2, h2, d2⟩ := both_ok h hd
    cases hhas : sK (L.den ρ).toL (kt.den ρ) with
    | true =>
     obtain ⟨v1', h1', d1'⟩ := iH h1 d1 (by exact hhas)
     exact there hfl h1' d1' hhas
    | false =>
     obtain ⟨v2', h2', d2'⟩ := iH h2 d2 (by exact hhas)
     rcases wK g2 hk.1 hk.2.2 0 m2.keys with ⟨q1, q2, _⟩ | ⟨j, e0, r, q1, q2, q3, q4, q5, q6, q7, q8⟩
     ·unfold aU4 at hml
      rw [g1] at hml
      dsimp only at hml
      split at hml
      ·rename_i i hi'
       split at hml
       ·rename_i z hz
        obtain ⟨hlf, _⟩ := wS (ρ := ρ) hml
        refine ⟨if ok then .tuple #[z, .bool false] else z, ⟨_, v2', h2', d2', ?_⟩, fun w' hs => ?_⟩
        ·cases ok
         ·exact hlf
         ·exact ⟨_, rfl, _, _, rfl, hlf, _, _, rfl, rfl, rfl⟩
        ·have := bM1 (ok := ok) (v := z) g1 g3 (hsame w' hs) g4 q1 (fun _ => ⟨i, hi', hz⟩)
         simpa using this
       ·cases hml
      ·cases hml
     ·rw [hhas] at q5; cases q5
   ·cases h
 exact rest _ h
end
end Go.Vc
namespace Go.Vc
open Go.MapKept
open Go.ChangeMaps (setBlock)
theorem bJ1 {x : Nat} : ∀ {l : List Nat} (j : Nat), l.Nodup → x ∉ l → (l.set j x).Nodup ∧ ∀ y ∈ l.set j x, y = x ∨ y ∈ l
 | [], _, _, _ => ⟨by simp, by simp⟩
 | a :: l, 0, h, hx => by
  rw [List.nodup_cons] at h
  simp only [List.mem_cons, not_or] at hx
  refine ⟨?_, fun y hy => ?_⟩
  ·rw [List.set_cons_zero, List.nodup_cons]; exact ⟨hx.2, h.2⟩
  ·rw [List.set_cons_zero] at hy
   rcases List.mem_cons.1 hy with rfl | hy
   ·exact .inl rfl
   ·exact .inr (by simp [hy])
 | a :: l, j + 1, h, hx => by
  rw [List.nodup_cons] at h
  simp only [List.mem_cons, not_or] at hx
  obtain ⟨h1, h2⟩ := bJ1 j h.2 hx.2
  rw [List.set_cons_succ]
  refine ⟨List.nodup_cons.2 ⟨fun hm => ?_, h1⟩, fun y hy => ?_⟩
  ·rcases h2 a hm with rfl | hm
   ·exact hx.1 rfl
   ·exact h.1 hm
  ·rcases List.mem_cons.1 hy with rfl | hy
   ·exact .inr (by simp)
   ·exact (h2 y hy).imp id fun h => by simp [h]
theorem bE8 {es : List MapEntry} {j : Nat} {e : MapEntry} (hn : (es.map (·.born)).Nodup) (he : es[j]? = some e) : es.findIdx (fun x => x.born == e.born) = j := by
 obtain ⟨hj, hje⟩ := List.getElem?_eq_some_iff.1 he
 rw [List.findIdx_eq hj]
 refine ⟨by simp [hje], fun i hi => ?_⟩
 rw [beq_eq_false_iff_ne]
 intro h
 have hi' : i < es.length := by omega
 have h1 : (es.map (·.born))[i]'(by simpa using hi') = (es.map (·.born))[j]'(by simpa using hj) := by simp only [List.getElem_map]; rw [hje]; exact h
 have := (List.getElem_inj hn).1 h1
 omega
section
variable {E : Env} {G : List Glob} {w0 : World} {D0 R0 : List Nat} {ρ : LD} {S : St} {a : Act} {w : World} {cx : Cx} {vc : VC} {ret : SV → M} {k : SV → St → M}
theorem bO9 {c : Ch} : ∀ {hs r : List Ch}, sS c hs = some r → hs.Perm (c :: r)
 | [], r, h => by simp [sS] at h
 | x :: hs, r, h => by
  simp only [sS] at h
  split at h
  ·rename_i e; cases h; rw [e]
  ·split at h
   ·rename_i r' hr; cases h
    exact (List.Perm.cons x (bO9 hr)).trans (List.Perm.swap c x r')
   ·cases h
theorem bC9 {b pb : Tm} {ps : List Pt} : ∀ {hs r : List Ch}, sS (.box pb ps) hs = some r → dV b r = dV b hs
 | [], r, h => by simp [sS] at h
 | x :: hs, r, h => by
  simp only [sS] at h
  split at h
  ·rename_i e; cases h; subst e; rfl
  ·split at h
   ·rename_i r' hr; cases h
    have ih := bC9 (b := b) hr
    cases x with
    | abs kk ts => cases ts <;> cases kk <;> simp [dV, ih]
    | _ => simpa [dV] using ih
   ·cases h
theorem cB6 {t : TypeId} {x ix y : SV} {kk : St → M} {u v z : Value} (hr : Rel G w0 D0 R0 ρ S a w) (h : aT9 cx S t x ix y kk = .ok vc) (hd : vc.den E ρ) (hx : x.holds ρ u) (hi : ix.holds ρ v) (hy : y.holds ρ z) :
  ∃ S' vc' w', kk S' = .ok vc' ∧ vc'.den E ρ ∧ Rel G w0 D0 R0 ρ S' a w' ∧ (Instr.mapUpdate t u v z).run cx.P w = .ok () w' := by
 unfold aT9 at h
 split at h
 ·cases h
 rename_i kd b L hm
 obtain ⟨rfl, hmk, kd0, ts, hf, hpl, es, clock, m1, m2, m3, m4, m5⟩ := aH0 hr hm hx
 split at h
 ·cases h
 rename_i kt hkt
 have hk := aG5 hkt hi
 obtain ⟨ktt, e, d, g1, g2, g3, g4⟩ := aQ5 hmk hk
 have hbl := m1.lt
 split at h
 ·-- plain values
  rename_i K EE
  split at h
  ·rename_i vt hvt
   have hv := aG5 hvt hy
   dsimp only at h
   obtain ⟨hle, vc', h1, d1⟩ := gI h hd
   generalize hL' : Tm.o3 .mset L kt (.o2 .lcons kt (.o2 .lcons vt .lnil)) = L' at h1 hle
   have hLd : (L'.den ρ).toL = qU (L.den ρ).toL (kt.den ρ) (.L [kt.den ρ, vt.den ρ]) := by rw [← hL']; rfl
   have hra : ∀ n, RA K EE ⟨v, z, n⟩ (.L [kt.den ρ, vt.den ρ]) := fun n => ⟨hk.1, hk.2, hv.1, hv.2, rfl⟩
   have hle : (((L'.den ρ).toL.length : Nat) : Int) ≤ 1000000000 := hle
   rw [hLd] at hle
   have fin : ∀ (es' : List MapEntry) (clock' : Nat), F2 (RA K EE) es' (L'.den ρ).toL → dL (L'.den ρ).toL → dR (setBlock w (b.den ρ).toN (.map es'.toArray clock')) (b.den ρ).toN es' clock' →
     (Instr.mapUpdate t (.map (some (b.den ρ).toN)) v z).run cx.P w = .ok () (setBlock w (b.den ρ).toN (.map es'.toArray clock')) →
     ∃ S' vc' w', kk S' = .ok vc' ∧ vc'.den E ρ ∧ Rel G w0 D0 R0 ρ S' a w' ∧ (Instr.mapUpdate t (.map (some (b.den ρ).toN)) v z).run cx.P w = .ok () w' := by
    intro es' clock' q1 q2 q3 q4
    refine ⟨_, vc', _, h1, d1, hr.dB hf (c := .abs (.mp K EE) [b, L']) ⟨es', clock', q3, qV.2 q1, q2⟩ (by simp [Ch.own, Kd.own]) rfl (fun y hy => .inl (m5 y hy)) (by rw [aK3]; exact Nat.le_refl _) (fun y _ hn => vM fun he => hn ?_) rfl rfl rfl, q4⟩
    subst he; exact m5 _ (by simp [Kd.own, arg])
   rcases wK g2 hk.1 hk.2.2 0 m2.keys with ⟨q1, q2, q3, q4, q5⟩ | ⟨j, e0, r, q1, q2, q3, q4, q5, q6, q7, q8⟩
   ·rw [q3] at hLd hle
    have hlen := F2.len (show F2 (RA K EE) es _ from m2)
    refine fin (es ++ [⟨v, z, clock⟩]) (clock + 1) ?_ ?_ (m1.push rfl ?_ (vK m1.1)) (bM4 g1 g3 m1.1 g4 q1)
    ·rw [hLd]; exact F2.app1 (hra clock) m2
    ·rw [hLd]; exact bJ5 m3 q5
    ·rw [List.length_append] at hle
     simp only [List.length_cons, List.length_nil] at hle
     have : (maxLen : Int) = bW := maxLen_eq
     have : bW = 9223372036854775807 := rfl
     omega
   ·rw [q7] at hLd
    refine fin (es.set j { e0 with key := v, val := z }) clock ?_ ?_ (m1.set q2 rfl (vK m1.1)) (bM5 g1 g3 m1.1 g4 (by simpa using q1) q2 q4)
    ·rw [hLd]; exact F2.set (hra e0.born) j m2
    ·rw [hLd]
     refine bJ6 m3 q3 ?_
     exact ((aK2 (c := K) (F2.get m2.keys q2 |>.elim fun r' hr' => by rw [q3] at hr'; cases hr'.1; exact hr'.2.2.2) hk.2.2).1 q8.2).symm
  ·cases h
 ·-- blocks
  rename_i K ek
  split at h
  ·rename_i pb
   split at h
   ·rename_i ps hb
    split at h
    ·rename_i rt hs hrt hto
     dsimp only at h
     split at h
     ·obtain ⟨hle, vc', h1, d1⟩ := gI h hd
      generalize hL' : Tm.o3 .mset L kt (.o2 .lcons kt (.o2 .lcons (.o1 .asN pb) rt)) = L' at h1 hle
      have hz : z = .pointer (some ⟨(pb.den ρ).toN, 0, none⟩) := hy
      have hLd : (L'.den ρ).toL = qU (L.den ρ).toL (kt.den ρ) (.L (kt.den ρ :: .N (pb.den ρ).toN :: (rt.den ρ).toL)) := by rw [← hL']; rfl
      obtain ⟨cs, te, fz, b1, b2, b3⟩ := rF hr.heap hb
      obtain ⟨b4, b5⟩ := aB0 (ρ := ρ) (hs := []) (fun _ _ _ _ hf => by cases hf) hrt b3
      have hf' : dV b hs = some (kd0, ts) := by rw [bC9 hto]; exact hf
      obtain ⟨l1, l2, e1, e2, _⟩ := mJ hf'
      have p1 : S.heap.Perm ([Ch.abs kd0 ts, .box pb ps] ++ (l1 ++ l2)) := by
       refine (bO9 hto).trans ?_
       rw [e1]
       exact ((kN l1 l2 _).cons _).trans (List.Perm.swap _ _ _)
      have hso := (aF8.1 (hr.heap.perm p1)).1
      have ho2 : owns ρ [Ch.abs kd0 ts, .box pb ps] = (Ch.abs kd0 ts).own ρ ++ [(pb.den ρ).toN] := by simp [owns, Ch.own]
      have hpn : (pb.den ρ).toN ∉ (Ch.abs kd0 ts).own ρ := by
       have := hso.nodup
       rw [ho2, List.nodup_append] at this
       intro hm
       exact this.2.2 _ hm _ (by simp) rfl
      have hown : Kd.own (.mpp K ek) [b.den ρ, L.den ρ] = (b.den ρ).toN :: aY (L.den ρ).toL := rfl
      rw [hown] at m4 m5
      have hnd := List.nodup_cons.1 m4
      have hpb : (pb.den ρ).toN ≠ (b.den ρ).toN := fun he => hpn (m5 _ (by rw [he]; simp))
      have hpa : (pb.den ρ).toN ∉ aY (L.den ρ).toL := fun hm => hpn (m5 _ (by simp [hm]))
      have hle : (((L'.den ρ).toL.length : Nat) : Int) ≤ 1000000000 := hle
      rw [hLd] at hle
      have hrp : ∀ n o, RP (setBlock w (b.den ρ).toN o) K ek ⟨v, z, n⟩ (.L (kt.den ρ :: .N (pb.den ρ).toN :: (rt.den ρ).toL)) :=
       fun n o => ⟨hk.1, hk.2, hz, rfl, b5, cs, te, fz, (vM hpb).trans b1, b2, b4⟩
      have hold : ∀ o, F2 (RP (setBlock w (b.den ρ).toN o) K ek) es (L.den ρ).toL := fun o =>
       F2.imp' (fun e r hrm ⟨c1, c2, c3, c4, c5, cs, t, fz, c6, c7⟩ => ⟨c1, c2, c3, c4, c5, cs, t, fz, (vM fun he => hnd.1 (by rw [← he]; exact List.mem_map_of_mem hrm)).trans c6, c7⟩) m2
      have fin : ∀ (es' : List MapEntry) (clock' : Nat), F2 (RP (setBlock w (b.den ρ).toN (.map es'.toArray clock')) K ek) es' (L'.den ρ).toL → dL (L'.den ρ).toL → dR (setBlock w (b.den ρ).toN (.map es'.toArray clock')) (b.den ρ).toN es' clock' →
        (aY (L'.den ρ).toL).Nodup → (∀ y ∈ aY (L'.den ρ).toL, y = (pb.den ρ).toN ∨ y ∈ aY (L.den ρ).toL) →
        (Instr.mapUpdate t (.map (some (b.den ρ).toN)) v z).run cx.P w = .ok () (setBlock w (b.den ρ).toN (.map es'.toArray clock')) →
        ∃ S' vc' w', kk S' = .ok vc' ∧ vc'.den E ρ ∧ Rel G w0 D0 R0 ρ S' a w' ∧ (Instr.mapUpdate t (.map (some (b.den ρ).toN)) v z).run cx.P w = .ok () w' := by
       intro es' clock' q1 q2 q3 q4 q5 q6
       have ho1 : owns ρ [Ch.abs (.mpp K ek) [b, L']] = (b.den ρ).toN :: aY (L'.den ρ).toL := by simp [owns, Ch.own, Kd.own, arg]
       refine ⟨_, vc', _, h1, d1, hr.swap (new := [.abs (.mpp K ek) [b, L']]) p1 (by rw [e2]; exact kN l1 l2 _) ⟨fun c hc => ?_, ?_, fun c hc y hy => ?_⟩ (by rw [aK3]; exact Nat.le_refl _) (fun y _ hn => vM fun he => hn ?_) rfl rfl rfl (fun y hy => .inl ?_) (fun y hy => ?_), q6⟩
       ·rw [List.mem_singleton] at hc; subst hc
        exact ⟨es', clock', q3, qW.2 q1, q2⟩
       ·rw [ho1]
        refine List.nodup_cons.2 ⟨fun hm => ?_, q4⟩
        rcases q5 _ hm with he | hm
        ·exact hpb he.symm
        ·exact hnd.1 hm
       ·rw [List.mem_singleton] at hc; subst hc; cases hy
       ·rw [ho2]; subst he; exact List.mem_append.2 (.inl (m5 _ (by simp)))
       ·rw [ho1] at hy; rw [ho2, List.mem_append]
        rcases List.mem_cons.1 hy with rfl | hy
        ·exact .inl (m5 _ (by simp))
        ·rcases q5 _ hy with rfl | hy
         ·exact .inr (by simp)
         ·exact .inl (m5 _ (by simp [hy]))
       ·simp [ros, Ch.ro, Kd.ro] at hy
      rcases wK g2 hk.1 hk.2.2 0 m2.keys with ⟨q1, q2, q3, q4, q5⟩ | ⟨j, e0, r, q1, q2, q3, q4, q5, q6, q7, q8⟩
      ·rw [q3] at hLd hle
       have hlen := F2.len (show F2 (RP w K ek) es _ from m2)
       have hadr : aY (L'.den ρ).toL = aY (L.den ρ).toL ++ [(pb.den ρ).toN] := by rw [hLd]; simp [aY, D.snd]
       refine fin (es ++ [⟨v, z, clock⟩]) (clock + 1) ?_ ?_ (m1.push rfl ?_ (vK m1.1)) ?_ ?_ (bM4 g1 g3 m1.1 g4 q1)
       ·rw [hLd]; exact F2.app1 (hrp clock _) (hold _)
       ·rw [hLd]; exact bJ5 m3 q5
       ·rw [List.length_append] at hle
        simp only [List.length_cons, List.length_nil] at hle
        have : (maxLen : Int) = bW := maxLen_eq
        have : bW = 9223372036854775807 := rfl
        omega
       ·rw [hadr, List.nodup_append]
        exact ⟨hnd.2, by simp, fun x hx y hy he => hpa (by rw [List.mem_singleton] at hy; rw [← hy, ← he]; exact hx)⟩
       ·intro y hy
        rw [hadr, List.mem_append, List.mem_singleton] at hy
        exact hy.symm
      ·rw [q7] at hLd
       have hadr : aY (L'.den ρ).toL = (aY (L.den ρ).toL).set j (pb.den ρ).toN := by rw [hLd]; simp [aY, List.map_set, D.snd]
       obtain ⟨n1, n2⟩ := bJ1 j hnd.2 hpa
       refine fin (es.set j { e0 with key := v, val := z }) clock ?_ ?_ (m1.set q2 rfl (vK m1.1)) (by rw [hadr]; exact n1) (by rw [hadr]; exact n2) (bM5 g1 g3 m1.1 g4 (by simpa using q1) q2 q4)
       ·rw [hLd]; exact F2.set (hrp e0.born _) j (hold _)
       ·rw [hLd]
        refine bJ6 m3 q3 ?_
        exact ((aK2 (c := K) (F2.get m2.keys q2 |>.elim fun r' hr' => by rw [q3] at hr'; cases hr'.1; exact hr'.2.2.2) hk.2.2).1 q8.2).symm
     ·cases h
    ·cases h
   ·cases h
  ·cases h
 ·cases h
theorem bU4 {t t' ty : TypeId} {x ix : SV} {u v : Value} (hr : Rel G w0 D0 R0 ρ S a w) (h : aO8 cx S t x ix k = .ok vc) (hd : vc.den E ρ) (hx : x.holds ρ u) (hi : ix.holds ρ v) :
  Out E G w0 D0 R0 ρ a k ((Builtin.delete_ #[t, t'] ty #[u, v]).run cx.P w) := by
 unfold aO8 at h
 split at h
 ·cases h
 rename_i kd b L hm
 obtain ⟨rfl, hmk, kd0, ts, hf, hpl, es, clock, m1, m2, m3, m4, m5⟩ := aH0 hr hm hx
 split at h
 ·cases h
 rename_i kt hkt
 have hk := aG5 hkt hi
 obtain ⟨ktt, e, d, g1, g2, g3, g4⟩ := aQ5 hmk hk
 generalize hL' : Tm.o2 .mdel L kt = L' at h
 have hLd : (L'.den ρ).toL = sJ (L.den ρ).toL (kt.den ρ) := by rw [← hL']; rfl
 have fin : ∀ (es' : List MapEntry), (∀ {w' : World}, (∀ y ∈ aY (L.den ρ).toL, kd = kd → y ≠ (b.den ρ).toN → w'.heap[y]? = w.heap[y]?) → True) → (∀ {R : MapEntry → D → Prop}, F2 R es (L.den ρ).toL → F2 R es' (L'.den ρ).toL) → (L'.den ρ).toL.Sublist (L.den ρ).toL → dR (setBlock w (b.den ρ).toN (.map es'.toArray clock)) (b.den ρ).toN es' clock →
   (Builtin.delete_ #[t, t'] ty #[.map (some (b.den ρ).toN), v]).run cx.P w = .ok (.tuple #[]) (setBlock w (b.den ρ).toN (.map es'.toArray clock)) →
   Out E G w0 D0 R0 ρ a k ((Builtin.delete_ #[t, t'] ty #[.map (some (b.den ρ).toN), v]).run cx.P w) := by
  intro es' _ q1 q2 q3 q4
  have hsub : (kd.own [b.den ρ, L'.den ρ]).Sublist (kd.own [b.den ρ, L.den ρ]) := by
   cases kd with
   | mp K EE => exact List.Sublist.refl _
   | mpp K ek => exact (q2.map _).cons_cons _
   | _ => exact m2.elim
  refine ⟨[], .tup [], _, vc, .tuple #[], _, h, by simpa using hd, ⟨#[], rfl, rfl⟩, ?_, q4⟩
  rw [List.append_nil]
  refine hr.dB hf (c := .abs kd [b, L']) ?_ (hsub.nodup m4) ?_ (fun y hy => .inl (m5 y (hsub.subset hy))) (by rw [aK3]; exact Nat.le_refl _) (fun y _ hn => vM fun he => hn ?_) rfl rfl rfl
  ·have hkk : dL (L'.den ρ).toL := m3.sublist q2
   cases kd with
   | mp K EE => exact ⟨es', clock, q3, qV.2 (q1 m2), hkk⟩
   | mpp K ek =>
    refine ⟨es', clock, q3, qW.2 (q1 ?_), hkk⟩
    have hnd : ((b.den ρ).toN :: aY (L.den ρ).toL).Nodup := m4
    rw [List.nodup_cons] at hnd
    exact F2.imp' (fun e r hrm ⟨c1, c2, c3, c4, c5, cs, t, fz, c6, c7⟩ => ⟨c1, c2, c3, c4, c5, cs, t, fz, (vM fun he => hnd.1 (by rw [← he]; exact List.mem_map_of_mem hrm)).trans c6, c7⟩) m2
   | _ => exact m2.elim
  ·cases kd with
   | deep => exact m2.elim
   | _ => rfl
  ·subst he
   refine m5 _ ?_
   cases kd with
   | mp => simp [Kd.own, arg]
   | mpp => simp [Kd.own, arg]
   | _ => exact m2.elim
 rcases wK g2 hk.1 hk.2.2 0 m2.keys with ⟨q1, q2, q3, q4, q5⟩ | ⟨j, e0, r, q1, q2, q3, q4, q5, q6, q7, q8, q9⟩
 ·rw [q4] at hLd
  refine fin es (fun _ => trivial) (fun hh => by rw [hLd]; exact hh) (by rw [hLd]; exact List.Sublist.refl _) ?_ (cG1 g1 g3 m1.1 g4 q1)
  exact ⟨vK m1.1, m1.2⟩
 ·rw [q8] at hLd
  refine fin (es.eraseIdx j) (fun _ => trivial) (fun hh => by rw [hLd]; exact hh.erase j) (by rw [hLd]; exact List.eraseIdx_sublist _ _) (m1.erase (vK m1.1)) (cG0 g1 g3 m1.1 g4 (by simpa using q1) (List.getElem?_eq_some_iff.1 q2).1)
end
end Go.Vc
namespace Go.Vc
open Go.MapKept
open Go.ChangeMaps (setBlock)
section
variable {E : Env} {G : List Glob} {w0 : World} {D0 R0 : List Nat} {ρ : LD} {S : St} {a : Act} {w : World} {cx : Cx} {vc : VC} {ret : SV → M} {k : SV → St → M}
theorem bD9 {s : Srt} {f : Tm → St → M} (h : fresh S s f = .ok vc) : S.under = true := by
 unfold fresh at h
 split at h
 ·rename_i hu; exact hu
 ·cases h
theorem bI3 {t : TypeId} {r : Option Value} (hr : Rel G w0 D0 R0 ρ S a w) (h : aG9 cx S t k = .ok vc) (hd : vc.den E ρ) (hk : ∀ x, r = some x → ∃ n, x = .int .i64 n) :
  Out E G w0 D0 R0 ρ a k ((Instr.makeMap t r).run cx.P w) := by
 unfold aG9 at h
 split at h
 ·rename_i kd hkd
  obtain ⟨kt, e, d, h1, _, _, h4⟩ := aT8 hkd
  have hrun : (Instr.makeMap t r).run cx.P w = .ok (.map (some w.heap.size)) (w.alloc (.map #[] 0)) := by
   cases r with
   | none => rfl
   | some x =>
    obtain ⟨n, rfl⟩ := hk x rfl
    simp [Instr.makeMap, run_underlying h1, Result.andThen, asInt, asIntOf]
  obtain ⟨vc2, g1, g2, g3, g4⟩ := nJ hr h hd (d := .N w.heap.size) ⟨_, rfl⟩
  refine ⟨[.N w.heap.size], _, _, vc2, _, _, g1, g2, ?_, ?_, hrun⟩
  ·simp only [SV.holds, S0.holds, Lf.holds, g4]; rfl
  ·have hm : dR (w.alloc (.map #[] 0)) ((Tm.at S.aB.length).den (ρ ++ [.N w.heap.size])).toN [] 0 := by
    rw [g4]; exact ⟨alloc_at w _, by simp, by simp, by simp⟩
   have hown : ∀ b ∈ (Ch.abs kd [.at S.aB.length, .lnil]).own (ρ ++ [.N w.heap.size]), w.heap.size ≤ b := by
    intro b hb
    have : b = ((Tm.at S.aB.length).den (ρ ++ [.N w.heap.size])).toN := by
     rcases h4 with ⟨K, EE, dE, rfl, _⟩ | ⟨K, ek, rfl⟩ <;> simpa [Ch.own, Kd.own, arg, aY, Tm.den] using hb
    rw [this, g4]; exact Nat.le_refl _
   refine g3.new (kX w _) (c := .abs kd [.at S.aB.length, .lnil]) ?_ (fun b hb => hown b (Ch.wZ.2 hb)) (fun b hb => ?_) ?_
   ·rcases h4 with ⟨K, EE, dE, rfl, _⟩ | ⟨K, ek, rfl⟩
    ·exact ⟨[], 0, hm, trivial, by simp [dL, arg, Tm.den]⟩
    ·exact ⟨[], 0, hm, trivial, by simp [dL, arg, Tm.den]⟩
   ·rcases h4 with ⟨K, EE, dE, rfl, _⟩ | ⟨K, ek, rfl⟩ <;> cases hb
   ·rcases h4 with ⟨K, EE, dE, rfl, _⟩ | ⟨K, ek, rfl⟩ <;> simp [Ch.own, Kd.own, arg, aY, Tm.den]
 ·cases h
theorem lK.congr {w' : World} {kd : Kd} {es : List MapEntry} {L : LD} (h : lK w kd es L) (hb : ∀ b ∈ aY L, b < w.heap.size → w'.heap[b]? = w.heap[b]?) : lK w' kd es L := by
 cases kd with
 | mp K EE => exact h
 | mpp K ek =>
  exact F2.imp' (fun e r hrm ⟨c1, c2, c3, c4, c5, cs, t, fz, c6, c7⟩ => ⟨c1, c2, c3, c4, c5, cs, t, fz, (hb _ (List.mem_map_of_mem hrm) (Array.getElem?_eq_some_iff.1 c6).1).trans c6, c7⟩) h
 | _ => exact h.elim
theorem cF0 {t : TypeId} {x : SV} {u : Value} (hr : Rel G w0 D0 R0 ρ S a w) (h : rangeS cx S t x k = .ok vc) (hd : vc.den E ρ) (hx : x.holds ρ u) :
  Out E G w0 D0 R0 ρ a k ((Instr.range t u).run cx.P w) := by
 unfold rangeS at h
 split at h
 ·cases h
 rename_i kd b L hm
 obtain ⟨rfl, hmk, kd0, ts, hf, hpl, es, clock, m1, m2, m3, m4, m5⟩ := aH0 hr hm hx
 obtain ⟨kt, e, d, t1, _, _, t4⟩ := aT8 hmk
 have hu := bD9 h
 obtain ⟨vc2, g1, g2, g3, g4⟩ := nJ hr h hd (d := .N w.heap.size) ⟨_, rfl⟩
 have hin : Ch.abs kd0 ts ∈ S.heap := by obtain ⟨l1, l2, e1, _⟩ := mJ hf; rw [e1]; simp
 have hbL : (b.den (ρ ++ [.N w.heap.size])) = b.den ρ ∧ (L.den (ρ ++ [.N w.heap.size])) = L.den ρ := by
  simp only [St.under, Bool.and_eq_true, ← cO hr.aB] at hu
  have hc : ts.all (Tm.under ρ.length) = true := List.all_eq_true.1 hu.2 _ hin
  unfold xK at hpl
  split at hpl <;> first | (cases hpl; simp only [List.all_cons, Bool.and_eq_true] at hc; exact ⟨Tm.bH hc.1, Tm.bH hc.2.1⟩) | cases hpl
 split at g1
 ·rename_i c hc
  have hf' : dV b ({ S with aB := S.aB ++ [.N] } : St).heap = some (kd0, ts) := hf
  refine ⟨[.N w.heap.size], _, _, vc2, _, _, g1, g2, ?_, ?_, cG3 t1 m1.1⟩
  ·simp only [SV.holds, S0.holds, Lf.holds, g4]; rfl
  ·have hold : ∀ y, y < w.heap.size → (w.alloc (.mapIter (some (b.den ρ).toN) clock #[] clock)).heap[y]? = w.heap[y]? := (kX w _).block
   have hm' : dR (w.alloc (.mapIter (some (b.den ρ).toN) clock #[] clock)) (b.den (ρ ++ [.N w.heap.size])).toN es clock := by rw [hbL.1]; exact m1.congr (hold _ m1.lt)
   have hp' : lK (w.alloc (.mapIter (some (b.den ρ).toN) clock #[] clock)) kd es (L.den (ρ ++ [.N w.heap.size])).toL := by rw [hbL.2]; exact m2.congr fun y _ hy => hold y hy
   have hk' : dL (L.den (ρ ++ [.N w.heap.size])).toL := by rw [hbL.2]; exact m3
   have hi' : oJ (w.alloc (.mapIter (some (b.den ρ).toN) clock #[] clock)) ((Tm.at S.aB.length).den (ρ ++ [.N w.heap.size])).toN (b.den (ρ ++ [.N w.heap.size])).toN es clock (L.den (ρ ++ [.N w.heap.size])).toL [] := by
    rw [g4, hbL.1]; exact ⟨[], alloc_at w _, by simp, rfl, by simp⟩
   have hlt : ∀ y ∈ kd.own [b.den ρ, L.den ρ], y < w.heap.size := fun y hy => hr.heap.dZ (kM.2 ⟨_, hin, Ch.wZ.1 (m5 y hy)⟩)
   have hits : ((Tm.at S.aB.length).den (ρ ++ [.N w.heap.size])).toN = w.heap.size := by rw [g4]; rfl
   have hunder : (Ch.abs kd0 ts).own (ρ ++ [.N w.heap.size]) = (Ch.abs kd0 ts).own ρ := by
    simp only [St.under, Bool.and_eq_true, ← cO hr.aB] at hu
    exact Ch.aV8 (List.all_eq_true.1 hu.2 _ hin)
   have hcown : (c.own (ρ ++ [.N w.heap.size])).Nodup ∧ c.ro (ρ ++ [.N w.heap.size]) = [] ∧ c.holds (ρ ++ [.N w.heap.size]) (w.alloc (.mapIter (some (b.den ρ).toN) clock #[] clock)) ∧
     ∀ y ∈ c.own (ρ ++ [.N w.heap.size]), y ∈ kd.own [b.den ρ, L.den ρ] ∨ w.heap.size ≤ y := by
    rcases t4 with ⟨K, EE, dE, rfl, _⟩ | ⟨K, ek, rfl⟩
    ·simp only [kY] at hc; cases hc
     refine ⟨?_, rfl, ⟨es, clock, hm', qV.2 hp', hk', hi'⟩, ?_⟩
     ·simp only [Ch.own, Kd.own, arg, List.map_cons, List.getD, List.getElem?_cons_zero, List.getElem?_cons_succ, Option.getD_some, hits, hbL.1]
      have := hlt (b.den ρ).toN (by simp [Kd.own, arg])
      simp only [List.nodup_cons, List.mem_singleton, List.not_mem_nil, not_false_eq_true, List.nodup_nil, and_true]; omega
     ·simp only [Ch.own, Kd.own, arg, List.map_cons, List.getD, List.getElem?_cons_zero, List.getElem?_cons_succ, Option.getD_some, hits, hbL.1]
      intro y hy
      simp only [List.mem_cons, List.not_mem_nil, or_false] at hy
      rcases hy with rfl | rfl
      ·exact .inl (by simp)
      ·exact .inr (Nat.le_refl _)
    ·simp only [kY] at hc; cases hc
     have hnd : ((b.den ρ).toN :: aY (L.den ρ).toL).Nodup := m4
     have hlt' : ∀ y ∈ (b.den ρ).toN :: aY (L.den ρ).toL, y < w.heap.size := hlt
     refine ⟨?_, rfl, ⟨es, clock, hm', qW.2 hp', hk', hi'⟩, ?_⟩
     ·simp only [Ch.own, Kd.own, arg, List.map_cons, List.getD, List.getElem?_cons_zero, List.getElem?_cons_succ, Option.getD_some, hits, hbL.1, hbL.2]
      rw [List.nodup_cons] at hnd ⊢
      refine ⟨fun hm => ?_, List.nodup_cons.2 ⟨fun hm => ?_, hnd.2⟩⟩
      ·rcases List.mem_cons.1 hm with he | hm
       ·have := hlt' _ (List.mem_cons_self ..); omega
       ·exact hnd.1 hm
      ·have := hlt' _ (List.mem_cons_of_mem _ hm); omega
     ·simp only [Ch.own, Kd.own, arg, List.map_cons, List.getD, List.getElem?_cons_zero, List.getElem?_cons_succ, Option.getD_some, hits, hbL.1, hbL.2]
      intro y hy
      rcases List.mem_cons.1 hy with rfl | hy
      ·exact .inl (by simp)
      ·rcases List.mem_cons.1 hy with rfl | hy
       ·exact .inr (Nat.le_refl _)
       ·exact .inl (by simp [hy])
   obtain ⟨c1, c2, c3, c4⟩ := hcown
   refine g3.dB hf' c3 c1 c2 (fun y hy => (c4 y hy).imp (fun h => by rw [hunder]; exact m5 y h) id) (kX w _).size (fun y hy _ => hold y hy) rfl rfl rfl
 ·cases g1
theorem bF8 {it b L s : Tm} {kd : Kd} (hr : Rel G w0 D0 R0 ρ S a w) (h : aG3 S it = some (b, kd, L, s)) :
  ∃ kd', dV b S.heap = some (kd', [b, L, it, s]) ∧ kY kd b L it s = some (.abs kd' [b, L, it, s]) ∧ ∃ es clock, dR w (b.den ρ).toN es clock ∧ lK w kd es (L.den ρ).toL ∧ dL (L.den ρ).toL ∧
   oJ w (it.den ρ).toN (b.den ρ).toN es clock (L.den ρ).toL (s.den ρ).toL ∧ ((Ch.abs kd' [b, L, it, s]).own ρ).Nodup := by
 unfold aG3 at h
 split at h
 ·rename_i b0 hb0
  split at h
  ·rename_i kd' b' L' it' s' hf
   split at h
   ·rename_i hit
    subst hit
    split at h
    ·rename_i kd1 _ _ hp
     cases h
     obtain ⟨l1, l2, e1, e2, ⟨ts', e3⟩, e4⟩ := mJ hf
     cases e3
     have hh := hr.heap.holds (.abs kd' [b, L, it', s]) (by rw [e1]; simp)
     have hnd : ((Ch.abs kd' [b, L, it', s]).own ρ).Nodup := by
      have := hr.heap.nodup
      rw [e1, dI, List.nodup_append] at this
      have := this.2.1
      simp only [owns, List.flatMap_cons, List.nodup_append] at this
      exact this.1
     unfold xK at hp
     split at hp
     ·rename_i heq; cases heq
     ·rename_i heq; cases heq
     ·rename_i K EE b2 L2 _ _ heq; cases heq; cases hp
      obtain ⟨es, clock, h1, h2, h3, h4⟩ := hh
      exact ⟨_, hf, rfl, es, clock, h1, qV.1 h2, h3, h4, hnd⟩
     ·rename_i K ek b2 L2 it s heq; cases heq; cases hp
      obtain ⟨es, clock, h1, h2, h3, h4⟩ := hh
      exact ⟨_, hf, rfl, es, clock, h1, qW.1 h2, h3, h4, hnd⟩
     ·cases hp
    ·cases h
   ·cases h
  ·cases h
 ·cases h
theorem bG5 {f : Fact} {kk : M} (h : aG6 f kk = .ok vc) (hd : vc.den E ρ) (hf : f.den ρ) : ∃ vc', kk = .ok vc' ∧ vc'.den E ρ := by
 unfold aG6 at h
 split at h
 ·cases h; exact ⟨_, rfl, hd hf⟩
 ·cases h
theorem bA8 {kd : Kd} {r : Tm} {l : Lf} {es : List MapEntry} {L : LD} {e : MapEntry} {j : Nat} (h : aD7 kd r = some l) (hp : lK w kd es L) (he : es[j]? = some e) (hj : L[j]? = some (r.den ρ)) : l.holds ρ e.val := by
 cases kd with
 | mp K EE =>
  obtain ⟨r', hr1, hra⟩ := F2.get hp he
  rw [hj] at hr1; cases hr1
  exact aJ6 (t := yA r) h hra.2.2.1 hra.2.2.2.1.1
 | mpp K ek =>
  obtain ⟨r', hr1, hra⟩ := F2.get hp he
  rw [hj] at hr1; cases hr1
  simp only [aD7] at h; cases h
  exact hra.2.2.1
 | _ => exact hp.elim
theorem cF7 {kd : Kd} {es : List MapEntry} {L : LD} {r : D} (hp : lK w kd es L) (hr : r ∈ L) : ∃ x, r = .L x := by
 cases kd with
 | mp K EE => obtain ⟨e, _, h⟩ := F2.mem hp hr; exact ⟨_, h.2.2.2.2⟩
 | mpp K ek => obtain ⟨e, _, h⟩ := F2.mem hp hr; exact ⟨_, h.2.2.2.1⟩
 | _ => exact hp.elim
theorem lK.len {kd : Kd} {es : List MapEntry} {L : LD} (h : lK w kd es L) : es.length = L.length := h.keys.len
theorem cC4 {x : SV} {u : Value} {ty : TypeId} (hr : Rel G w0 D0 R0 ρ S a w) (h : aU7 S x k = .ok vc) (hd : vc.den E ρ) (hx : x.holds ρ u) :
  Out E G w0 D0 R0 ρ a k ((Instr.next u false ty).run cx.P w) := by
 unfold aU7 at h
 split at h
 ·rename_i it
  split at h
  ·rename_i b kd L s hit
   have hx : u = .pointer (some ⟨(it.den ρ).toN, 0, none⟩) := hx
   subst hx
   obtain ⟨kd', hf, hik, es, clock, m1, m2, m3, m4, m5⟩ := bF8 hr hit
   obtain ⟨seen, i1, i2, i3, i4⟩ := m4
   obtain ⟨⟨v1, h1, d1⟩, v2, h2, d2⟩ := both_ok h hd
   have hLn : (L.den ρ).toL.Nodup := aV4 (c := lW kd) m3 fun r hr => by obtain ⟨e, _, h⟩ := F2.mem m2.keys hr; exact h.2.2
   have hown : ∀ y ∈ kd.own [b.den ρ, L.den ρ], y ∈ (Ch.abs kd' [b, L, it, s]).own ρ := by
    intro y hy
    cases kd with
    | mp K EE => simp only [kY] at hik; cases hik; simp [Kd.own, Ch.own, arg] at hy ⊢; exact .inl hy
    | mpp K ek =>
     simp only [kY] at hik; cases hik
     have hy : y ∈ (b.den ρ).toN :: aY (L.den ρ).toL := hy
     show y ∈ (b.den ρ).toN :: (it.den ρ).toN :: aY (L.den ρ).toL
     rcases List.mem_cons.1 hy with rfl | hy
     ·simp
     ·simp [hy]
    | _ => exact m2.elim
   have hitb : (it.den ρ).toN ≠ (b.den ρ).toN := by
    intro he
    cases kd with
    | mp K EE => simp only [kY] at hik; cases hik; simp [Ch.own, Kd.own, arg, he] at m5
    | mpp K ek => simp only [kY] at hik; cases hik; simp [Ch.own, Kd.own, arg, he] at m5
    | _ => exact m2.elim
   have hrow : ∀ {e : MapEntry} {j : Nat} {r : D}, es[j]? = some e → (L.den ρ).toL[j]? = some r → (L.den ρ).toL.getD (es.findIdx fun x => x.born == e.born) default = r := by
    intro e j r he hj
    rw [bE8 m1.2.1 he, List.getD, hj]; rfl
   rcases run_next_at (P := cx.P) w ty (it.den ρ).toN (b.den ρ).toN clock clock seen.toArray es.toArray clock i1 m1.1 (fun x hx => m1.2.2.1 x (by simpa using hx)) (Nat.le_refl _) with ⟨q1, q2⟩ | ⟨e, he, w1, hw1, q2⟩
   ·-- nothing is left
    have hall : ∀ e ∈ es, e.born ∈ seen := by
     intro e he
     have hz : leftOf es.toArray seen.toArray = #[] := Array.eq_empty_of_size_eq_zero q1
     unfold leftOf at hz
     rw [Array.filter_eq_empty_iff] at hz
     have := hz e (by simpa using he)
     simpa using this
    have hperm : (s.den ρ).toL.Perm (L.den ρ).toL := by
     obtain ⟨n1, n2⟩ := aS8 m2.len hLn i2 i4
     rw [← i3] at n1 n2
     rw [List.perm_ext_iff_of_nodup n1 hLn]
     intro r
     refine ⟨n2 r, fun hm => ?_⟩
     obtain ⟨j, hj⟩ := List.mem_iff_getElem?.1 hm
     have hjl : j < es.length := by rw [m2.len]; exact (List.getElem?_eq_some_iff.1 hj).1
     have he : es[j]? = some es[j] := List.getElem?_eq_getElem hjl
     rw [i3, List.mem_map]
     exact ⟨es[j].born, hall _ (List.getElem_mem hjl), hrow he hj⟩
    obtain ⟨v3, h3, d3⟩ := bG5 h1 d1 (show Fact.den ρ (.allCame L s) from hperm)
    refine ⟨[], _, _, v3, _, w, h3, by simpa using d3, ⟨_, rfl, _, _, rfl, rfl, rfl⟩, ?_, q2⟩
    rw [List.append_nil]
    refine hr.dB hf (c := .abs kd [b, L]) ?_ ?_ ?_ (fun y hy => .inl (hown y hy)) (Nat.le_refl _) (fun _ _ _ => rfl) rfl rfl rfl
    ·cases kd with
     | mp K EE => exact ⟨es, clock, m1, qV.2 m2, m3⟩
     | mpp K ek => exact ⟨es, clock, m1, qW.2 m2, m3⟩
     | _ => exact m2.elim
    ·cases kd with
     | mp K EE => simp [Ch.own, Kd.own]
     | mpp K ek =>
      simp only [kY] at hik; cases hik
      have m5 : ((b.den ρ).toN :: (it.den ρ).toN :: aY (L.den ρ).toL).Nodup := m5
      show ((b.den ρ).toN :: aY (L.den ρ).toL).Nodup
      rw [List.nodup_cons] at m5 ⊢
      exact ⟨fun hm => m5.1 (by simp [hm]), (List.nodup_cons.1 m5.2).2⟩
     | _ => exact m2.elim
    ·cases kd with
     | deep => exact m2.elim
     | _ => rfl
   ·-- a row
    have he' : e ∈ es ∧ e.born ∉ seen := by
     unfold leftOf at he
     simpa using he
    obtain ⟨j, hj⟩ := List.mem_iff_getElem?.1 he'.1
    have hjl : j < (L.den ρ).toL.length := by rw [← m2.len]; exact (List.getElem?_eq_some_iff.1 hj).1
    obtain ⟨r, hrj⟩ : ∃ r, (L.den ρ).toL[j]? = some r := ⟨_, List.getElem?_eq_getElem hjl⟩
    have hrm := List.mem_of_getElem? hrj
    obtain ⟨rx, hrx⟩ := cF7 m2 hrm
    have hu := bD9 h2
    obtain ⟨vc2, g1, g2, g3, g4⟩ := nJ hr h2 d2 (d := r) ⟨rx, hrx⟩
    have hin : Ch.abs kd' [b, L, it, s] ∈ S.heap := by obtain ⟨l1, l2, e1, _⟩ := mJ hf; rw [e1]; simp
    have hun : (Ch.abs kd' [b, L, it, s]).under ρ.length = true := by
     simp only [St.under, Bool.and_eq_true, ← cO hr.aB] at hu
     exact List.all_eq_true.1 hu.2 _ hin
    have hun' : (Tm.under ρ.length b = true ∧ Tm.under ρ.length L = true ∧ Tm.under ρ.length it = true ∧ Tm.under ρ.length s = true) := by
     have : [b, L, it, s].all (Tm.under ρ.length) = true := hun
     simpa [Bool.and_eq_true] using this
    have eb := Tm.bH (σ := [r]) hun'.1
    have eL := Tm.bH (σ := [r]) hun'.2.1
    have eit := Tm.bH (σ := [r]) hun'.2.2.1
    have es' := Tm.bH (σ := [r]) hun'.2.2.2
    split at g1
    ·rename_i kl vl c hkl hvl hc
     have hns : r ∉ (s.den ρ).toL := by
      rw [i3, List.mem_map]
      rintro ⟨n, hn, hnr⟩
      obtain ⟨e2, he2, hb2⟩ := i4 n hn
      obtain ⟨j2, hj2⟩ := List.mem_iff_getElem?.1 he2
      have hj2l : j2 < (L.den ρ).toL.length := by rw [← m2.len]; exact (List.getElem?_eq_some_iff.1 hj2).1
      subst hb2
      have h3 := hrow hj2 (List.getElem?_eq_getElem hj2l)
      rw [hnr] at h3
      have hjj : (L.den ρ).toL[j] = (L.den ρ).toL[j2] := by
       have := (List.getElem?_eq_some_iff.1 hrj).2
       rw [this, h3]
      have := (List.getElem_inj hLn).1 hjj
      subst this
      rw [hj] at hj2
      cases hj2
      exact he'.2 hn
     obtain ⟨v3, h3, d3⟩ := bG5 g1 g2 (show Fact.den (ρ ++ [r]) (.comes L s (.at S.aB.length)) from by
      refine ⟨?_, ?_⟩
      ·rw [g4, eL]; exact hrm
      ·rw [g4, es']; exact hns)
     have hw1' : w1.heap = w.heap ∧ w1.os = w.os ∧ w1.tape = w.tape ∧ w1.output = w.output := by rcases hw1 with rfl | rfl <;> exact ⟨rfl, rfl, rfl, rfl⟩
     obtain ⟨rk, hrk1, hrk⟩ := F2.get m2.keys hj
     rw [hrj] at hrk1; cases hrk1
     refine ⟨[r], _, _, v3, _, _, h3, d3, ⟨_, rfl, _, _, rfl, rfl, _, _, rfl, ?_, _, _, rfl, ?_, rfl⟩, ?_, q2⟩
     ·refine aJ6 (t := .o2 .lget (.at S.aB.length) (.int 0)) hkl ?_ ?_
      ·show (lW kd).cells (((Tm.at S.aB.length).den (ρ ++ [r])).toL.getD 0 default) = _
       rw [g4]; exact hrk.1
      ·show (lW kd).ok (((Tm.at S.aB.length).den (ρ ++ [r])).toL.getD 0 default)
       rw [g4]; exact hrk.2.1
     ·exact bA8 hvl m2 hj (by rw [g4]; exact hrj)
     ·have hf' : dV b ({ S with aB := S.aB ++ [.L] } : St).heap = some (kd', [b, L, it, s]) := hf
      have hh0 : ∀ y, y ≠ (it.den ρ).toN → (setBlock w1 (it.den ρ).toN (.mapIter (some (b.den ρ).toN) clock (seen.toArray.push e.born) clock)).heap[y]? = w.heap[y]? := by
       intro y hy
       rw [vM hy, hw1'.1]
      have hit1 : w1.heap[(it.den ρ).toN]? = some (.mapIter (some (b.den ρ).toN) clock seen.toArray clock) := by rw [hw1'.1]; exact i1
      have hm' : dR (setBlock w1 (it.den ρ).toN (.mapIter (some (b.den ρ).toN) clock (seen.toArray.push e.born) clock)) (b.den (ρ ++ [r])).toN es clock := by
       rw [eb]; exact m1.congr (hh0 _ (Ne.symm hitb))
      have hi' : oJ (setBlock w1 (it.den ρ).toN (.mapIter (some (b.den ρ).toN) clock (seen.toArray.push e.born) clock)) (it.den (ρ ++ [r])).toN (b.den (ρ ++ [r])).toN es clock (L.den (ρ ++ [r])).toL ((s.den (ρ ++ [r])).toL ++ [r]) := by
       rw [eb, eL, eit, es']
       refine ⟨seen ++ [e.born], ?_, ?_, ?_, ?_⟩
       ·rw [vK hit1]; simp
       ·rw [List.nodup_append]
        exact ⟨i2, by simp, fun x hx y hy he => he'.2 (by rw [List.mem_singleton] at hy; rw [← hy, ← he]; exact hx)⟩
       ·rw [List.map_append, ← i3]
        simp only [List.map_cons, List.map_nil]
        rw [hrow hj hrj]
       ·intro n hn
        rcases List.mem_append.1 hn with hn | hn
        ·exact i4 n hn
        ·rw [List.mem_singleton] at hn; subst hn; exact ⟨e, he'.1, rfl⟩
      have hsz : (setBlock w1 (it.den ρ).toN (.mapIter (some (b.den ρ).toN) clock (seen.toArray.push e.born) clock)).heap.size = w.heap.size := by rw [aK3, hw1'.1]
      have hS : ((Tm.o2 .lapp s (.o2 .lcons (.at S.aB.length) .lnil)).den (ρ ++ [r])).toL = (s.den (ρ ++ [r])).toL ++ [r] := by
       show (s.den (ρ ++ [r])).toL ++ [(Tm.at S.aB.length).den (ρ ++ [r])] = _
       rw [g4]
      rw [← hS] at hi'
      have hownE : (Ch.abs kd' [b, L, it, s]).own (ρ ++ [r]) = (Ch.abs kd' [b, L, it, s]).own ρ := Ch.aV8 hun
      have hcc : c.own (ρ ++ [r]) = (Ch.abs kd' [b, L, it, s]).own ρ ∧ c.ro (ρ ++ [r]) = [] ∧ c.holds (ρ ++ [r]) (setBlock w1 (it.den ρ).toN (.mapIter (some (b.den ρ).toN) clock (seen.toArray.push e.born) clock)) := by
       cases kd with
       | mp K EE =>
        simp only [kY] at hik hc; cases hik; cases hc
        refine ⟨?_, rfl, es, clock, hm', qV.2 ?_, ?_, hi'⟩
        ·rw [← hownE]; rfl
        ·show F2 _ es (L.den (ρ ++ [r])).toL
         rw [eL]; exact m2
        ·show dL (L.den (ρ ++ [r])).toL
         rw [eL]; exact m3
       | mpp K ek =>
        simp only [kY] at hik hc; cases hik; cases hc
        have m5 : ((b.den ρ).toN :: (it.den ρ).toN :: aY (L.den ρ).toL).Nodup := m5
        refine ⟨?_, rfl, es, clock, hm', qW.2 ?_, ?_, hi'⟩
        ·rw [← hownE]; rfl
        ·show F2 _ es (L.den (ρ ++ [r])).toL
         rw [eL]
         refine lK.congr (kd := .mpp K ek) m2 fun y hy _ => hh0 y fun he => ?_
         rw [List.nodup_cons] at m5
         exact (List.nodup_cons.1 m5.2).1 (he ▸ hy)
        ·show dL (L.den (ρ ++ [r])).toL
         rw [eL]; exact m3
       | _ => exact m2.elim
      obtain ⟨c1, c2, c3⟩ := hcc
      refine g3.dB hf' c3 (by rw [c1]; exact m5) c2 (fun y hy => .inl (by rw [hownE, ← c1]; exact hy)) (by rw [hsz]; exact Nat.le_refl _) (fun y _ hn => hh0 y fun he => hn ?_) hw1'.2.1 hw1'.2.2.1 hw1'.2.2.2
      rw [hownE, he]
      cases kd with
      | mp K EE => simp only [kY] at hik; cases hik; simp [Ch.own, Kd.own, arg]
      | mpp K ek => simp only [kY] at hik; cases hik; simp [Ch.own, Kd.own, arg]
      | _ => exact m2.elim
    ·cases g1
  ·cases h
 ·cases h
theorem bV5 {x : SV} {u : Value} (hr : Rel G w0 D0 R0 ρ S a w) (h : aP7 S x ret = .ok vc) (hd : vc.den E ρ) (hx : x.holds ρ u) :
  ∃ z, Met E ρ ret z ∧ ∀ w', Same w w' → (Instr.entry u).run cx.P w' = .ok z w' := by
 unfold aP7 at h
 split at h
 ·rename_i it
  split at h
  ·rename_i b kd L s r hit
   split at h
   ·rename_i kl vl hkl hvl
    have hx : u = .pointer (some ⟨(it.den ρ).toN, 0, none⟩) := hx
    subst hx
    obtain ⟨kd', hf, hik, es, clock, m1, m2, m3, m4, m5⟩ := bF8 hr hit
    have m4l := m4.lt
    obtain ⟨seen, i1, i2, i3, i4⟩ := m4
    have hS : ((Tm.o2 .lapp s (.o2 .lcons r .lnil)).den ρ).toL = (s.den ρ).toL ++ [r.den ρ] := rfl
    rw [hS] at i3
    obtain ⟨sn, n, rfl⟩ : ∃ sn n, seen = sn ++ [n] := by
     rcases List.eq_nil_or_concat seen with rfl | ⟨sn, n, rfl⟩
     ·simp at i3
     ·exact ⟨sn, n, by simp⟩
    rw [List.map_append] at i3
    have i3' := List.append_inj' i3 rfl
    simp only [List.map_cons, List.map_nil, List.cons.injEq, and_true] at i3'
    obtain ⟨e, he, hb⟩ := i4 n (by simp)
    subst hb
    obtain ⟨j, hj⟩ := List.mem_iff_getElem?.1 he
    have hjl : j < (L.den ρ).toL.length := by rw [← m2.len]; exact (List.getElem?_eq_some_iff.1 hj).1
    have hrj : (L.den ρ).toL[j]? = some (r.den ρ) := by
     have := i3'.2
     rw [bE8 m1.2.1 hj, List.getD, List.getElem?_eq_getElem hjl] at this
     rw [List.getElem?_eq_getElem hjl, this]; rfl
    obtain ⟨rk, hrk1, hrk⟩ := F2.get m2.keys hj
    rw [hrj] at hrk1; cases hrk1
    refine ⟨_, ⟨_, vc, h, hd, ⟨_, rfl, _, _, rfl, ?_, _, _, rfl, ?_, rfl⟩⟩, fun w' hs => run_entry_at w' (it.den ρ).toN (b.den ρ).toN clock sn.toArray es.toArray clock e ?_ ((hs.block _ m1.lt).trans m1.1) (by simpa using he) (by simpa using m1.2.1)⟩
    ·exact aJ6 (t := .o2 .lget r (.int 0)) hkl hrk.1 hrk.2.1
    ·exact bA8 hvl m2 hj hrj
    ·rw [hs.block _ m4l, i1]; simp
   ·cases h
  ·cases h
 ·cases h
end
end Go.Vc
namespace Go.Vc
section
variable {E : Env} {G : List Glob} {w0 : World} {D0 R0 : List Nat} {ρ : LD} {S : St} {a : Act} {w : World} {cx : Cx} {vc : VC} {ret : SV → M} {k : SV → St → M}
theorem Rel.news : ∀ {cs : List Ch} {S : St}, Rel G w0 D0 R0 ρ S a w → (∀ c ∈ cs, c.holds ρ w ∧ jH c = true ∧ ∀ b, c.fK ρ b → b ∈ ros ρ S.heap) → Rel G w0 D0 R0 ρ { S with heap := cs ++ S.heap } a w
 | [], _, h, _ => h
 | c :: cs, S, h, hc => by
  have h1 := Rel.news (cs := cs) h fun c' hc' => hc c' (by simp [hc'])
  obtain ⟨c1, c2, c3⟩ := hc c (by simp)
  have hno := aV6 (ρ := ρ) c2
  exact h1.new (Ext.refl w) (c := c) c1 (fun b hb => by rw [← Ch.wZ, hno] at hb; cases hb) (fun b hb => .inr (by show b ∈ ros ρ (cs ++ S.heap); rw [vF]; exact List.mem_append.2 (.inr (c3 b hb)))) (by rw [hno]; exact List.nodup_nil)
theorem bR3 (ek : EK) (d : D) : EK.len ek ((asK ek).den d) = EK.len ek d ∧ EK.cells ek ((asK ek).den d) = EK.cells ek d ∧ aO ek ((asK ek).den d) = aO ek d ∧ (EK.ok ek ((asK ek).den d) ↔ EK.ok ek d) := by
 rcases ek with _ | ⟨c, _ | ⟨c', cs⟩⟩
 ·exact ⟨rfl, rfl, rfl, Iff.rfl⟩
 ·cases c <;> exact ⟨rfl, rfl, rfl, Iff.rfl⟩
 ·cases c <;> exact ⟨rfl, rfl, rfl, Iff.rfl⟩
def aU5 (t : Tm) (ek : EK) : List Ch := .rsl (.o1 .asV (.o2 .lget t (.int 0))) ek (.o1 (asK ek) (.o2 .lget t (.int 1))) :: (if fV ek then [] else [.abs (.deep ek) [.o1 (asK ek) (.o2 .lget t (.int 1))]])
theorem bI6 {t : Tm} {ek : EK} (hok : (CK.sl ek).ok (t.den ρ)) (hdp : (CK.sl ek).deep w (t.den ρ)) : ∀ c ∈ aU5 t ek, c.holds ρ w ∧ jH c = true ∧ ∀ b, c.fK ρ b → b ∈ (CK.sl ek).blks (t.den ρ) := by
 have e0 : ((Tm.o1 .asV (.o2 .lget t (.int 0))).den ρ).toV = slV (t.den ρ) := rfl
 have e1 : (Tm.o1 (asK ek) (.o2 .lget t (.int 1))).den ρ = (asK ek).den (slC (t.den ρ)) := rfl
 obtain ⟨k1, k2, k3, k4⟩ := bR3 ek (slC (t.den ρ))
 intro c hc
 rcases List.mem_cons.1 hc with rfl | hc
 ·refine ⟨⟨?_, ?_⟩, rfl, fun b hb => ?_⟩
  ·rw [e0, e1, k1, k2]; exact hdp.1
  ·rw [e1, k4]; exact (aE1 ek _).1 hok.2
  ·have hb : roB ((Tm.o1 .asV (.o2 .lget t (.int 0))).den ρ).toV = some b := hb
   rw [e0] at hb
   simp [CK.blks, hb]
 ·split at hc
  ·cases hc
  ·rw [List.mem_singleton] at hc; subst hc
   refine ⟨?_, rfl, fun b hb => ?_⟩
   ·show jU w ek ((asK ek).den (slC (t.den ρ)))
    unfold jU
    rw [k3]; exact hdp.2
   ·have hb : b ∈ fF ek ((asK ek).den (slC (t.den ρ))) := hb
    unfold fF at hb
    rw [k3] at hb
    simp only [CK.blks, List.mem_append]
    exact .inr hb
theorem bI7 {row : Tm} : ∀ {cs : EK} {j : Nat}, fG cs ((row.den ρ).toL.drop j) → oQ w cs ((row.den ρ).toL.drop j) → ∀ c ∈ uT row j cs, c.holds ρ w ∧ jH c = true ∧ ∀ b, c.fK ρ b → b ∈ jD cs ((row.den ρ).toL.drop j)
 | [], _, _, _, c, hc => by cases hc
 | ck :: cs, j, hok, hdp, c, hc => by
  cases hd : (row.den ρ).toL.drop j with
  | nil => rw [hd] at hok; exact hok.elim
  | cons x xs =>
   have hx : (Tm.o2 .lget row (.int j)).den ρ = x := by
    show (row.den ρ).toL.getD (Int.toNat (j : Int)) default = x
    have : (row.den ρ).toL[j]? = some x := by rw [← List.head?_drop, hd]; rfl
    simp [List.getD, this]
   have hxs : (row.den ρ).toL.drop (j + 1) = xs := by rw [← List.tail_drop, hd]; rfl
   rw [hd] at hok hdp
   have more : c ∈ uT row (j + 1) cs → c.holds ρ w ∧ jH c = true ∧ ∀ b, c.fK ρ b → b ∈ jD (ck :: cs) (x :: xs) := by
    intro hc
    obtain ⟨h1, h2, h3⟩ := bI7 (cs := cs) (j := j + 1) (by rw [hxs]; exact hok.2) (by rw [hxs]; exact hdp.2) c hc
    refine ⟨h1, h2, fun b hb => ?_⟩
    have := h3 b hb
    rw [hxs] at this
    simp [jD, this]
   cases ck with
   | sl ek =>
    have hc : c ∈ aU5 (.o2 .lget row (.int j)) ek ++ uT row (j + 1) cs := hc
    rcases List.mem_append.1 hc with hc | hc
    ·obtain ⟨h1, h2, h3⟩ := bI6 (ρ := ρ) (w := w) (t := .o2 .lget row (.int j)) (ek := ek) (by rw [hx]; exact hok.1) (by rw [hx]; exact hdp.1) c hc
     refine ⟨h1, h2, fun b hb => ?_⟩
     have := h3 b hb
     rw [hx] at this
     simp [jD, this]
    ·exact more hc
   | _ => exact more hc
theorem bW7 {wd : Nat} {hs : List Ch} {lk : EK} {I V Lv L0 : Tm} (h : aQ8 wd hs = some (lk, I, V, Lv, L0)) : (∃ o, aZ V hs = some (o, lk, Lv)) ∧ fV lk = true ∧ oP (dJ V hs) [.sl lk] I = true := by
 unfold aQ8 at h
 split at h
 ·split at h
  ·split at h
   ·rename_i hf
    split at h
    ·rename_i hc
     obtain ⟨rfl, h1, h2⟩ := hc
     cases h
     exact ⟨⟨_, hf⟩, h1, h2⟩
    ·cases h
   ·cases h
  ·cases h
 ·cases h
theorem bD4 {E : Env} {cx : Cx} {d : Option Tmp} {k : St → M} {vc : VC} (hr : Rel G w0 D0 R0 ρ S a w) (h : aQ9 cx d S k = .ok vc) (hd : vc.den E ρ) : ∃ S' vc', k S' = .ok vc' ∧ vc'.den E ρ ∧ Rel G w0 D0 R0 ρ S' a w := by
 unfold aQ9 at h
 split at h
 ·rename_i lk I V Lv L0 hfo
  obtain ⟨an, _, hfo⟩ := Option.bind_eq_some_iff.1 hfo
  split at h
  ·rename_i vc' hk
   cases h
   obtain ⟨q1, q2⟩ := hd
   have e := E.same _ _ q1
   obtain ⟨⟨o, hf⟩, hfl, hdi⟩ := bW7 hfo
   obtain ⟨hr1, hro⟩ := aF4 hr hf
   obtain ⟨hrd, _⟩ := lY hr.heap hf
   obtain ⟨d1, d2⟩ := wE hr1.heap hdi
   have hmem : ∀ x ∈ (L0.den ρ).toL, x ∈ (I.den ρ).toL ∨ x = .L [.V (V.den ρ).toV, Lv.den ρ] := fun x hx => by
    rw [← e] at hx
    have hx : x ∈ ((I.den ρ).toL ++ [D.L [.V (V.den ρ).toV, Lv.den ρ]]).take (Tm.den ρ (.o1 .llen L0)).toI.toNat := hx
    rcases List.mem_append.1 (List.mem_of_mem_take hx) with hx | hx
    ·exact .inl hx
    ·exact .inr (by simpa using hx)
   refine ⟨_, vc', hk, q2, hr1.deep (fun x hx => ?_) (fun b hb => ?_)⟩
   ·rcases hmem x hx with hx | rfl
    ·exact d1 x hx
    ·exact ⟨⟨hrd, fun y _ => (zH hfl).1⟩, trivial⟩
   ·obtain ⟨x, hx, hb⟩ := List.mem_flatMap.1 hb
    rcases hmem x hx with hx | rfl
    ·exact d2 b (List.mem_flatMap.2 ⟨x, hx, hb⟩)
    ·have hb : b ∈ ((roB (V.den ρ).toV).toList ++ (aO lk (Lv.den ρ)).flatMap fun x => jD lk (lN lk x)) ++ [] := hb
     rw [List.append_nil, List.mem_append] at hb
     rcases hb with hb | hb
     ·exact hro b (by simpa using hb)
     ·obtain ⟨y, _, hy⟩ := List.mem_flatMap.1 hb
      rw [(zH (w := w) hfl).2] at hy; cases hy
  ·cases h
 ·exact ⟨S, vc, h, hd, hr⟩
theorem aZ3 {E : Env} {cx : Cx} {d : Option Tmp} {S : St} {k : SV → M} {z : Value} (h : Met E ρ (fun v => aM5 cx d S v k) z) : Met E ρ k z := by
 obtain ⟨x, vc, h1, h2, h3⟩ := h
 dsimp only at h1
 unfold aM5 at h1
 split at h1
 ·rename_i d t
  split at h1
  ·split at h1
   ·rename_i b _
    split at h1
    ·rename_i vc' hk
     cases h1
     obtain ⟨q1, q2⟩ := h2
     have e : t.den ρ = b.den ρ := E.same _ _ q1
     refine ⟨_, vc', hk, q2, ?_⟩
     simp only [SV.holds, S0.holds, Lf.holds] at h3 ⊢
     rw [← e]; exact h3
    ·cases h1
   ·exact ⟨_, vc, h1, h2, h3⟩
  ·exact ⟨_, vc, h1, h2, h3⟩
 ·exact ⟨_, vc, h1, h2, h3⟩
theorem bE4 {cx : Cx} {x : SV} {u : Value} (hx : x.holds ρ u) : (aR8 cx S x).holds ρ u := by
 unfold aR8
 split
 ·rename_i g o
  split
  ·simp only [SV.holds, S0.holds, Lf.holds] at hx ⊢
   subst hx
   exact ⟨⟨g, 0, none⟩, 1, 1, rfl, rfl, Int.le_refl _, by show (0 : Int) < 1; omega, by simp [Tm.den]⟩
  ·exact hx
 ·exact hx
theorem bC5 {x : SV} {u : Value} (hr : Rel G w0 D0 R0 ρ S a w) (hx : x.holds ρ u) : Rel G w0 D0 R0 ρ (aP6 S x) a w := by
 unfold aP6
 split
 ·rename_i ta i es o
  split
  ·rename_i own ek L hf
   split
   ·exact hr
   ·split
    ·rename_i hdeep
     obtain ⟨d1, d2⟩ := wE hr.heap hdeep
     obtain ⟨hrd, hok⟩ := lY hr.heap hf
     have hlen : 0 ≤ (i.den ρ).toI ∧ (i.den ρ).toI < ek.len (L.den ρ) := by
      obtain ⟨ad, n, c, h1, _, h2, h3, _⟩ := hx
      rcases hrd with ⟨h4, h5, _⟩ | ⟨ad', cap, h4, h5, _⟩ | ⟨ad', cap, h4, _⟩
      ·rw [h4] at h1; cases h1
      ·rw [h4] at h1; cases h1; omega
      ·rw [h4] at h1; cases h1; exact ⟨h2, h3⟩
     have hel := len_eq ek (L.den ρ)
     obtain ⟨y, hy⟩ : ∃ y, (aO ek (L.den ρ))[(i.den ρ).toI.toNat]? = some y := ⟨_, List.getElem?_eq_getElem (by omega)⟩
     have hm := List.mem_of_getElem? hy
     have hck := (aE1 ek (L.den ρ)).2 hok y hm
     have hdp := d1 y hm
     have hbl : ∀ b ∈ jD ek (lN ek y), b ∈ ros ρ S.heap := fun b hb => d2 b (by rw [fF, List.mem_flatMap]; exact ⟨y, hm, hb⟩)
     refine Rel.news hr fun c hc => ?_
     have hc := (List.mem_filter.1 hc).1
     rcases ek with _ | ⟨c0, _ | ⟨c1, cs⟩⟩
     ·cases hc
     ·cases c0 with
      | sl ek' =>
       have hc : c ∈ aU5 (.o2 .lget L i) ek' := hc
       have hyd : (Tm.o2 .lget L i).den ρ = y := by
        show (L.den ρ).toL.getD (i.den ρ).toI.toNat default = y
        have hy : (L.den ρ).toL[(i.den ρ).toI.toNat]? = some y := hy
        rw [List.getD, hy]; rfl
       obtain ⟨h1, h2, h3⟩ := bI6 (ρ := ρ) (w := w) (t := .o2 .lget L i) (ek := ek') (by rw [hyd]; exact hck.1) (by rw [hyd]; exact hdp.1) c hc
       refine ⟨h1, h2, fun b hb => hbl b ?_⟩
       have := h3 b hb
       rw [hyd] at this
       simp [jD, lN, this]
      | _ => cases hc
     ·have hc : c ∈ uT (.o1 .asL (.o2 .lget L i)) 0 (c0 :: c1 :: cs) := by cases c0 <;> exact hc
      have hte : aO (c0 :: c1 :: cs) (L.den ρ) = (L.den ρ).toL := by cases c0 <;> rfl
      rw [hte] at hy
      have her : lN (c0 :: c1 :: cs) y = y.toL := rfl
      rw [her] at hck hdp hbl
      have hyd : (((Tm.o1 .asL (.o2 .lget L i)).den ρ).toL).drop 0 = y.toL := by
       show ((L.den ρ).toL.getD (i.den ρ).toI.toNat default).toL = y.toL
       rw [List.getD, hy]; rfl
      obtain ⟨h1, h2, h3⟩ := bI7 (ρ := ρ) (w := w) (row := .o1 .asL (.o2 .lget L i)) (cs := c0 :: c1 :: cs) (j := 0) (by rw [hyd]; exact hck) (by rw [hyd]; exact hdp) c hc
      refine ⟨h1, h2, fun b hb => hbl b ?_⟩
      have := h3 b hb
      rw [hyd] at this
      exact this
    ·exact hr
  ·exact hr
 ·exact hr
theorem aN5 (hr : Rel G w0 D0 R0 ρ S a w) : ∀ {xs : List Operand} {bs : List Tm}, vW cx S xs = .ok bs → xs.map a.eval = bs.map fun b => Value.pointer (some ⟨(b.den ρ).toN, 0, none⟩)
 | [], bs, h => by simp only [vW] at h; cases h; rfl
 | x :: xs, bs, h => by
  simp only [vW] at h
  split at h
  ·rename_i b bs' hx hxs
   cases h
   have h1 : a.eval x = _ := aX hr hx
   simp only [List.map_cons, aN5 hr hxs, h1]
  ·cases h
  ·cases h
  ·cases h
theorem aX8 : ∀ (bs : List Tm), aU ρ (bs.map aA3) (bs.map fun b => Value.pointer (some ⟨(b.den ρ).toN, 0, none⟩))
 | [] => rfl
 | _ :: bs => ⟨_, _, rfl, rfl, aX8 bs⟩
end
end Go.Vc