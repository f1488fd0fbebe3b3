/-
 The reader: plain conditions, first part.
 The reader: plain conditions, second part.
 What init and ask say: plain conditions.
 An instruction is read: plain conditions.
 A line is taken: plain conditions.
-/
import Derived.Test.YtfhmokjjjnjhjaaGreatDoorReadq
set_option linter.unusedVariables false
set_option linter.unusedSimpArgs false
set_option linter.unnecessarySimpa false
open _root_.Go.IntKind (wrap)
namespace Go.Vc
set_option linter.unusedSimpArgs false
set_option maxRecDepth 10000
open Lt (Rd)
theorem aW.pure : aW.Pure := by
 unfold aW.Pure
 repeat' first | refine And.intro ?_ ?_ | intro _
 all_goals simp_all [aW.sig]
theorem map_nil {l : LD} {t : List Lx.Tok} (h : l = t.map aV) : (l.length : Int) = 0 ↔ t = [] := by subst h; cases t <;> simp; omega
theorem vX {a : Tx} {s : BA} : bx a = s ↔ a = tx s := ⟨fun h => by rw [← h]; rfl, fun h => by rw [h, bx_tx]⟩
theorem bT2 {a : Tx} {A : Array UInt8} : ((⟨A⟩ : BA) = bx a ↔ a = A.toList) ∧ (bx a = (⟨A⟩ : BA) ↔ a = A.toList) := ⟨eq_comm.trans vX, vX⟩
theorem fO.pure : fO.Pure := by
 unfold fO.Pure
 repeat' first | trivial | omega | refine And.intro ?_ ?_ | intro _
 all_goals
  rename_i r hr
  obtain ⟨h1, h2⟩ := hr
  simp only [arg_z, arg_s, D.toL_L, D.toI_I] at h1 h2
  obtain ⟨t, e⟩ := r
  simp only at h1 h2
  cases t <;> simp_all [aW.sig, bF, Rd.next, Rd.fail, aV] <;> try first | omega | rfl
theorem eG.pure : eG.Pure := by
 unfold eG.Pure
 repeat' first | trivial | refine And.intro ?_ ?_ | intro _
 all_goals
  obtain ⟨⟨a1, a2⟩, a3, a4, a5⟩ := ‹fO.sig.post _› _ ‹bF _ _ _›
  simp_all [aW.sig, bF, Rd.word, Rd.fail]
  try grind
theorem gY.pure : gY.Pure := by
 unfold gY.Pure
 repeat' first | trivial | refine And.intro ?_ ?_ | intro _
 all_goals
  obtain ⟨⟨a1, a2⟩, a3, a4, a5⟩ := ‹fO.sig.post _› _ ‹bF _ _ _›
  simp_all [aW.sig, bF, Rd.sign, Rd.fail, vX]
  try grind
theorem dM.pure : dM.Pure := by
 unfold dM.Pure
 repeat' first | trivial | refine And.intro ?_ ?_ | intro _
 all_goals
  obtain ⟨⟨a1, a2⟩, a3, a4, a5⟩ := ‹fO.sig.post _› _ ‹bF _ _ _›
  simp_all [aW.sig, bF, Rd.number, Rd.fail]
  try grind
theorem aS6 (s : BA) : Lt.mV (tx s) = true ↔ s.size = 2 ∧ byteAt s 0 = 114 ∧ 48 ≤ byteAt s 1 ∧ byteAt s 1 ≤ 57 := by
 have hl : (tx s).length = s.size := rfl
 have b0 : byteAt s 0 = ((tx s).getD 0 0).toNat := rfl
 have b1 : byteAt s 1 = ((tx s).getD 1 0).toNat := rfl
 rw [b0, b1, ← hl]
 have key : ∀ a b : UInt8, Lt.mV [a, b] = true ↔ (a.toNat : Int) = 114 ∧ 48 ≤ (b.toNat : Int) ∧ (b.toNat : Int) ≤ 57 := fun a b => by
  by_cases e : a = 114
  ·subst e
   have : Lt.mV [114, b] = (decide (48 ≤ b.toNat) && decide (b.toNat ≤ 57)) := rfl
   simp [this]; omega
  ·have h1 : a.toNat ≠ 114 := fun h => e (UInt8.toNat_inj.1 h)
   have h2 : Lt.mV [a, b] = false := by unfold Lt.mV; split <;> simp_all
   rw [h2]; simp; omega
 rcases htx : tx s with _ | ⟨a, _ | ⟨b, _ | ⟨c, r⟩⟩⟩
 ·simp [Lt.mV]
 ·simp [Lt.mV]
 ·simpa using key a b
 ·simp [Lt.mV]
theorem aN9 (w : Tx) (k : Int) : byteAt (bx w) k = (w.getD k.toNat 0).toNat := rfl
theorem cK5 {i : Int} (h : 0 ≤ i) (h' : i < 256) : IntKind.u8.wrap i = i := by simp [wrap, IntKind.bits, IntKind.signed]; omega
theorem jY.pure : jY.Pure := by
 unfold jY.Pure
 repeat' first | trivial | refine And.intro ?_ ?_ | intro _
 all_goals first | omega | (rename_i s0 _ _ _; skip) | skip
 all_goals show _ = Lt.mV _
 all_goals (rw [Bool.eq_iff_iff, aS6]; simp; omega)
theorem dA.pure : dA.Pure := by
 unfold dA.Pure
 repeat' first | trivial | refine And.intro ?_ ?_ | intro _
 all_goals try (have hr : _ = Lt.mV _ := ‹jY.sig.post _›; simp only [arg_s, arg_z, D.toB_B, D.toS_S] at hr; have hb := (aS6 _).1 (hr.symm.trans (by assumption)); clear hr)
 all_goals try omega
 all_goals
  obtain ⟨⟨a1, a2⟩, a3⟩ := ‹eG.sig.post _› _ ‹bF _ _ _›
  try rw [cK5 (by omega) (by omega), i64 (by omega) (by omega)]
  simp_all [aW.sig, bF, Rd.reg, Rd.fail, jY.sig, eX, aN9]
  try grind
theorem gX.pure : gX.Pure := by
 unfold gX.Pure
 repeat' first | trivial | refine And.intro ?_ ?_ | intro _
 all_goals
  obtain ⟨⟨a1, a2⟩, a3⟩ := ‹eG.sig.post _› _ ‹bF _ _ _›
  simp_all [aW.sig, bF, Rd.loc, Rd.fail, bC.sig, eX]
  try grind
theorem jK.pure : jK.Pure := by
 unfold jK.Pure
 repeat' first | trivial | refine And.intro ?_ ?_ | intro _
 all_goals
  obtain ⟨⟨a1, a2⟩, a3⟩ := ‹eG.sig.post _› _ ‹bF _ _ _›
  simp_all [aW.sig, bF, Rd.side, Rd.fail, bT2]
  try grind
end Go.Vc
namespace Go.Vc
set_option linter.unusedSimpArgs false
set_option maxRecDepth 10000
open Lt (Rd)
theorem aF9 {α : Type} {p : α → Bool} {d : α} : ∀ {q : List α} {i : Nat}, i < q.length → p (q.getD i d) = true → (∀ k : Nat, k < i → p (q.getD k d) = false) → Lt.idxBy p q = i
 | [], _, h, _, _ => absurd h (by simp)
 | x :: q, 0, _, h, _ => by have h : p x = true := h; simp [Lt.idxBy, List.findIdx?_cons, h]
 | x :: q, i + 1, hi, h, h' => by
  have h0 : p x = false := h' 0 (by omega)
  have ih := aF9 (p := p) (d := d) (q := q) (i := i) (by simpa using hi) h fun k hk => h' (k + 1) (by omega)
  unfold Lt.idxBy at ih ⊢
  rw [List.findIdx?_cons, h0]
  cases hf : q.findIdx? p with
  | none => rw [hf] at ih; simp only at ih; omega
  | some j => rw [hf] at ih; simp only at ih; simp; omega
theorem aS1 {α : Type} {p : α → Bool} {d : α} {q : List α} (h : ∀ k : Nat, k < q.length → p (q.getD k d) = false) : Lt.idxBy p q = -1 := by
 have : q.findIdx? p = none := List.findIdx?_eq_none_iff.2 fun x hx => by
  obtain ⟨k, hk, rfl⟩ := List.mem_iff_getElem.1 hx
  simpa [List.getD, hk] using h k hk
 simp [Lt.idxBy, this]
theorem bE7 {α : Type} {p : α → Bool} {q : List α} : decide (0 ≤ Lt.idxBy p q) = q.any p := by
 unfold Lt.idxBy
 cases h : q.findIdx? p with
 | none => simp; intro x hx; exact List.findIdx?_eq_none_iff.1 h x hx
 | some i => simp; obtain ⟨hi, h1, _⟩ := List.findIdx?_eq_some_iff_getElem.1 h; exact ⟨_, List.getElem_mem hi, h1⟩
theorem cJ4 {a b : BA} : (tx a == tx b) = decide (a = b) := by
 by_cases h : a = b
 ·subst h; simp
 ·have : tx a ≠ tx b := fun e => h (sZ e)
  simp [h, this]
theorem nc1 {n : Nat} : ((n : Int) = 1 ↔ n = 1) ∧ ((n : Int) = 2 ↔ n = 2) := ⟨by omega, by omega⟩
theorem bZ.pure : bZ.Pure := by
 unfold bZ.Pure
 repeat' first | trivial | omega | refine And.intro ?_ ?_ | intro _
 all_goals
  rename_i r hr
  obtain ⟨h1, h2⟩ := hr
  simp only [arg_z, arg_s, D.toL_L, D.toI_I] at h1 h2
  obtain ⟨t, e⟩ := r
  simp only at h1 h2
  cases t <;> simp_all [bF, Rd.accept, aV, vX, nc1] <;> try first | omega | grind
theorem aW0 (r : Rd) : 0 ≤ r.reg.1 ∧ r.reg.1 ≤ 7 := by
 unfold Rd.reg
 split
 ·simp
 split
 ·simp
 rename_i h
 have hb := (aS6 (bx r.word.1)).1 (by simpa using h)
 split
 ·simp
 ·rw [aN9, aN9] at hb
  simp only [Int.toNat_one] at hb
  simp only; omega
theorem eF.pure : eF.Pure := by
 intro n0 v1 l2 i3 _ _ _ n4
 have num : ∀ {v5 l6 i7 i8}, dM.sig.post [.N n0, .V v1, .L l2, .I i3, .V v5, .L l6, .I i7, .I i8] → (∀ r : Rd, l2 = r.t.map aV → r.isNum = true) → eF.sig.post [.N n0, .V v1, .L l2, .I i3, .V v5, .L l6, .I i7, .B false, .I i8] := fun {v5 l6 i7 i8} h hn r hr => by
  obtain ⟨a, b⟩ := h r hr
  rw [Rd.arg, if_pos (hn r hr.1)]; exact ⟨a, rfl, b⟩
 have reg : ∀ {v5 l6 i7 i8}, dA.sig.post [.N n0, .V v1, .L l2, .I i3, .V v5, .L l6, .I i7, .I i8] → (∀ r : Rd, l2 = r.t.map aV → r.isNum = false) → eF.sig.post [.N n0, .V v1, .L l2, .I i3, .V v5, .L l6, .I i7, .B true, .I (IntKind.u64.wrap i8)] := fun {v5 l6 i7 i8} h hn r hr => by
  obtain ⟨a, b⟩ := h r hr
  have b : i8 = r.reg.1 := b
  have := aW0 r
  rw [Rd.arg, if_neg (by rw [hn r hr.1]; simp), cK6 (by omega) (by omega)]
  exact ⟨a, rfl, by show i8 = ((r.reg.1.toNat : Nat) : Int); omega⟩
 refine ⟨fun h0 => ⟨fun h2 => ⟨trivial, fun _ _ _ _ h _ _ _ => num h fun r hr => ?_⟩, fun h2 => ⟨trivial, fun _ _ _ _ h _ _ _ => reg h fun r hr => ?_⟩⟩, fun h0 => ⟨trivial, fun _ _ _ _ h _ _ _ => reg h fun r hr => ?_⟩⟩
 all_goals
  obtain ⟨t, e⟩ := r
  cases t <;> simp_all [Rd.isNum, aV, nc1] <;> omega
theorem gZ.pure : gZ.Pure := by
 intro v0 l1 s2 _ _ hp
 obtain ⟨hp, xs0, hx0⟩ := hp
 simp only [arg_z, arg_s, D.toL_L] at hp hx0
 have rw1 : ∀ xs, l1 = txR xs → l1.length = xs.length ∧ ∀ k : Nat, k < xs.length → (l1.getD k default).toS = bx (xs.getD k []) := fun xs h => by
  subst h; exact ⟨by simp [txR], fun k hk => by rw [txR, getD_map (fun s => .S (bx s)) xs [] hk]; rfl⟩
 refine ⟨⟨by simp, by simp, fun xs h k hk => absurd hk (by simp)⟩, fun i3 _ hI => ?_⟩
 obtain ⟨a1, a2, a3⟩ := hI
 simp only [arg_z, arg_s, D.toL_L, D.toI_I, D.toS_S] at a1 a2 a3
 refine ⟨fun hlt => ⟨a1, fun _ => ⟨fun he xs hx => ?_, fun he => ?_⟩⟩, fun hge xs hx => ?_⟩
 ·obtain ⟨e1, e2⟩ := rw1 xs hx
  have he := he.trans (e2 i3.toNat (by omega))
  have := aF9 (p := (· == tx s2)) (d := []) (q := xs) (i := i3.toNat) (by omega) (by rw [he]; simp) fun k hk => a3 xs hx k (by omega)
  show i3 = Lt.idxBy (· == tx s2) xs
  rw [this]; omega
 ·rw [i64 (by omega) (by omega)]
  refine ⟨⟨by simp; omega, by simp only [arg_z, arg_s, D.toI_I, D.toL_L]; omega, fun xs hx k hk => ?_⟩, by simp only [gZ.I0M, arg_z, arg_s, D.toI_I, D.toL_L]; omega⟩
  simp only [arg_z, arg_s, D.toI_I, D.toS_S] at hk ⊢
  by_cases e : (k : Int) < i3
  ·exact a3 xs hx k e
  ·have : k = i3.toNat := by omega
   subst this
   obtain ⟨e1, e2⟩ := rw1 xs hx
   rw [e2 _ (by omega), ne_comm, ne_eq, vX] at he
   simpa using he
 ·obtain ⟨e1, e2⟩ := rw1 xs hx
  exact (aS1 (p := (· == tx s2)) (d := []) (q := xs) fun k hk => a3 xs hx k (by omega)).symm
theorem cName.pure : cName.Pure := by
 intro s0 i1 n2 s3 _ _ _ _ n4
 show (s0.toList == s3.toList) = decide (s0 = s3)
 rw [Bool.eq_iff_iff, bytes_eq]; simp
theorem lM.pure : lM.Pure := by
 unfold lM.Pure
 repeat' first | refine And.intro ?_ ?_ | intro _
 all_goals
  show _ = Lt.iC _ _
  simp_all [Lt.iC, vU, cJ4]
  try grind
theorem dK.pure : dK.Pure := by
 intro v0 l1 n2 s3 _ _ hp
 have hp : l1.length ≤ 1000000000 := hp
 have rw1 : ∀ q : List (Tx × Nat), l1 = q.map bD → l1.length = q.length ∧ ∀ k : Nat, k < q.length → (l1.getD k default) = bD (q.getD k ([], 0)) := fun q h => by
  subst h; exact ⟨by simp, fun k hk => getD_map bD q ([], 0) hk⟩
 refine ⟨⟨by simp, by simp, fun xs h k hk => absurd hk (by simp)⟩, fun i4 _ hI => ?_⟩
 obtain ⟨a1, a2, a3⟩ := hI
 simp only [arg_z, arg_s, D.toL_L, D.toI_I, D.toS_S] at a1 a2 a3
 refine ⟨fun hlt => ⟨a1, fun _ => ⟨trivial, fun b5 h5 => ?_⟩⟩, fun hge q hq => ?_⟩
 ·have hb : ∀ q : List (Tx × Nat), l1 = q.map bD → b5 = ((q.getD i4.toNat ([], 0)).1 == tx s3) := fun q hq => by
   obtain ⟨e1, e2⟩ := rw1 q hq
   have h5 : b5 = decide (((l1.getD i4.toNat default).toL.getD 0 default).toS = s3) := h5
   rw [h5, e2 _ (by omega)]
   show decide (bx (q.getD i4.toNat ([], 0)).1 = s3) = _
   rw [Bool.eq_iff_iff, decide_eq_true_iff, vX]; simp
  refine ⟨fun he q hq => ?_, fun he => ?_⟩
  ·obtain ⟨e1, e2⟩ := rw1 q hq
   have := aF9 (p := fun i => i.1 == tx s3) (d := ([], 0)) (q := q) (i := i4.toNat) (by omega) (by rw [← hb q hq, he]) fun k hk => a3 q hq k (by omega)
   show i4 = Lt.idxBy (fun i => i.1 == tx s3) q
   rw [this]; omega
  ·rw [i64 (by omega) (by omega)]
   refine ⟨⟨by simp; omega, by simp only [arg_z, arg_s, D.toI_I, D.toL_L]; omega, fun q hq k hk => ?_⟩, by simp only [dK.I0M, arg_z, arg_s, D.toI_I, D.toL_L]; omega⟩
   simp only [arg_z, arg_s, D.toI_I, D.toS_S] at hk ⊢
   by_cases e : (k : Int) < i4
   ·exact a3 q hq k e
   ·have : k = i4.toNat := by omega
    subst this
    rw [← hb q hq, he]
 ·obtain ⟨e1, e2⟩ := rw1 q hq
  exact (aS1 (p := fun i => i.1 == tx s3) (d := ([], 0)) (q := q) fun k hk => a3 q hq k (by omega)).symm
theorem mP.pure : mP.Pure := by
 intro v0 l1 n2 s3 _ _ hp
 refine ⟨hp, fun i4 h4 _ => fun q hq => ?_⟩
 show decide (0 ≤ i4) = _
 rw [show i4 = Lt.idxBy (fun i => i.1 == tx s3) q from h4 q hq, bE7]; rfl
theorem fZ.pure : fZ.Pure := by
 intro v0 l1 n2 i3 i4 i5 s6 _ _ _ _ _ hp
 have hp : l1.length ≤ 1000000000 := hp
 have rw1 : ∀ q : List Lt.Ask, l1 = q.map fB → l1.length = q.length ∧ ∀ k : Nat, k < q.length → (l1.getD k default) = fB (q.getD k ⟨0, 0, 0, []⟩) := fun q h => by
  subst h; exact ⟨by simp, fun k hk => getD_map fB q _ hk⟩
 refine ⟨⟨by simp, by simp, fun xs h k hk => absurd hk (by simp)⟩, fun i7 _ hI => ?_⟩
 obtain ⟨a1, a2, a3⟩ := hI
 simp only [arg_z, arg_s, D.toL_L, D.toI_I] at a1 a2 a3
 refine ⟨fun hlt => ⟨a1, fun _ => ⟨trivial, fun b8 h8 => ?_⟩⟩, fun hge q hq => ?_⟩
 ·have hb : ∀ q : List Lt.Ask, l1 = q.map fB → b8 = Lt.iC ⟨i3, i4, i5.toNat, tx s6⟩ (q.getD i7.toNat ⟨0, 0, 0, []⟩) := fun q hq => by
   obtain ⟨e1, e2⟩ := rw1 q hq
   rw [e2 _ (by omega)] at h8
   have h8 : b8 = Lt.iC ⟨i3, i4, i5.toNat, tx s6⟩ ⟨(q.getD i7.toNat ⟨0, 0, 0, []⟩).th, (q.getD i7.toNat ⟨0, 0, 0, []⟩).at_, ((q.getD i7.toNat ⟨0, 0, 0, []⟩).v : Int).toNat, (q.getD i7.toNat ⟨0, 0, 0, []⟩).loc⟩ := h8
   exact h8
  refine ⟨fun he q hq => ?_, fun he => ?_⟩
  ·obtain ⟨e1, e2⟩ := rw1 q hq
   have := aF9 (p := Lt.iC ⟨i3, i4, i5.toNat, tx s6⟩) (d := ⟨0, 0, 0, []⟩) (q := q) (i := i7.toNat) (by omega) (by rw [← hb q hq, he]) fun k hk => a3 q hq k (by omega)
   show i7 = Lt.idxBy (Lt.iC ⟨i3, i4, i5.toNat, tx s6⟩) q
   rw [this]; omega
  ·rw [i64 (by omega) (by omega)]
   refine ⟨⟨by simp; omega, by simp only [arg_z, arg_s, D.toI_I, D.toL_L]; omega, fun q hq k hk => ?_⟩, by simp only [fZ.I0M, arg_z, arg_s, D.toI_I, D.toL_L]; omega⟩
   simp only [arg_z, arg_s, D.toI_I] at hk
   by_cases e : (k : Int) < i7
   ·exact a3 q hq k e
   ·have : k = i7.toNat := by omega
    subst this
    exact (hb q hq).symm.trans he
 ·obtain ⟨e1, e2⟩ := rw1 q hq
  exact (aS1 (p := Lt.iC ⟨i3, i4, i5.toNat, tx s6⟩) (d := ⟨0, 0, 0, []⟩) (q := q) fun k hk => a3 q hq k (by omega)).symm
theorem mW.pure : mW.Pure := by
 intro v0 l1 n2 i3 i4 i5 s6 _ _ _ _ _ hp
 refine ⟨hp, fun i7 h7 _ => fun q hq => ?_⟩
 show decide (0 ≤ i7) = _
 rw [show i7 = Lt.idxBy (Lt.iC ⟨i3, i4, i5.toNat, tx s6⟩) q from h7 q hq, bE7]; rfl
end Go.Vc
namespace Go.Vc
set_option linter.unusedSimpArgs false
set_option maxRecDepth 10000
open Lt (Rd)
theorem kK (r : Rd) (e : Int) : (r.fail e).t = r.t := by unfold Rd.fail; split <;> rfl
theorem aP9 (r : Rd) (e : Int) : (r.fail e).err = if r.err = 0 then e else r.err := by unfold Rd.fail; split <;> simp_all
theorem pG (r : Rd) : r.next.2.t.length ≤ r.t.length := by
 unfold Rd.next
 split
 ·rw [kK]; omega
 ·rename_i h; split
  ·rw [kK]; omega
  ·rw [h]; simp
theorem aH6 {r : Rd} (h : r.t ≠ []) (he : r.err = 0) : r.next.2.t.length + 1 = r.t.length := by
 unfold Rd.next
 split
 ·rename_i e; exact absurd e h
 ·rename_i h; rw [if_neg (by simpa using he), h]; simp
theorem aM0 (r : Rd) : r.word.2.t = r.next.2.t := by simp only [Rd.word]; split <;> simp [kK]
theorem aT5 (r : Rd) : r.loc.2.t = r.next.2.t := by simp only [Rd.loc]; split <;> simp [kK, aM0]
theorem aB5 (r : Rd) (s : Tx) : (r.sign s).t = r.next.2.t := by simp only [Rd.sign]; split <;> simp [kK]
theorem uU (r : Rd) : r.number.2.t = r.next.2.t := by simp only [Rd.number]; split <;> simp [kK]
theorem cF2 (r : Rd) : r.reg.2.t = r.next.2.t := by
 simp only [Rd.reg]
 split
 ·exact aM0 r
 split
 ·simp [kK, aM0]
 split <;> simp [kK, aM0]
theorem bO0 {k : Nat} {d : List (Tx × Nat)} {r : Rd} (hk : 0 < k) (h : r.t = [] ∨ r.err ≠ 0) : Lt.jZ k d r = (d, r) := by
 obtain ⟨k, rfl⟩ : ∃ n, k = n + 1 := ⟨k - 1, by omega⟩
 rw [Lt.jZ, if_pos h]
theorem dF.pure : dF.Pure := by
 intro n0 v1 l2 v3 v4 n5 v6 l7 i8 _ _ _ hp
 obtain ⟨hb, d0, r0, hd0, hr0⟩ := hp
 refine ⟨fun d r hd hr => ⟨d, r, r.t.length + 1, hd, hr, by omega, by omega, rfl⟩, fun v9 l10 v11 l12 i13 _ _ _ hI => ⟨fun h0 => ⟨fun he => ⟨trivial, fun v14 l15 i16 s17 hL _ _ _ n18 => ⟨trivial, fun v19 l20 i21 hS _ _ => ⟨trivial, fun v22 l23 i24 i25 hN h25 _ _ => ⟨?_, fun b26 hH => ?_⟩⟩⟩⟩, fun he => ?_⟩, fun h0 => ?_⟩⟩
 ·obtain ⟨d', r', k, e1, e2, e3, e4, e5⟩ := hI d0 r0 hd0 hr0
  simp only [arg_z, arg_s, D.toL_L] at hd0 e1 hb
  have := hr0.1
  simp only [arg_z, arg_s, D.toL_L] at this
  rw [hd0, this, List.length_map, List.length_map] at hb
  show l10.length ≤ 1000000000
  rw [e1, List.length_map]; omega
 ·have len : ∀ R : D, ((l10 ++ [R]).length : Int) ≤ 5864062014805 := fun R => by
   obtain ⟨d', r', k, e1, e2, e3, e4, e5⟩ := hI d0 r0 hd0 hr0
   simp only [arg_z, arg_s, D.toL_L] at hd0 e1 hb
   have := hr0.1
   simp only [arg_z, arg_s, D.toL_L] at this
   rw [hd0, this, List.length_map, List.length_map] at hb
   rw [e1]; simp; omega
  have key : ∀ e', e' = (if b26 = true ∧ i24 = 0 then 14 else i24) → dF.I0 [.N n0, .V v1, .L l2, .V v3, .V v4, .N n5, .V v6, .L l7, .I i8, .L (l10 ++ [.L [.S s17, .I i25]]), .L l23, .I e'] ∧
    dF.I0M [.N n0, .V v1, .L l2, .V v3, .V v4, .N n5, .V v6, .L l7, .I i8, .L (l10 ++ [.L [.S s17, .I i25]]), .L l23, .I e'] < dF.I0M [.N n0, .V v1, .L l2, .V v3, .V v4, .N n5, .V v6, .L l7, .I i8, .L l10, .L l12, .I i13] := by
   intro e' hE
   have main : ∀ d r, l2 = d.map bD → bF [.N n0, .V v1, .L l2, .V v3, .V v4, .N n5, .V v6, .L l7, .I i8] 7 r → ∃ d' r' k, l10 ++ [.L [.S s17, .I i25]] = List.map bD d' ∧ (l23 = r'.t.map aV ∧ e' = r'.err) ∧ r'.t.length < k ∧ d'.length + r'.t.length ≤ d.length + r.t.length ∧ Lt.jZ (r.t.length + 1) d r = Lt.jZ k d' r' ∧ l23.length < l12.length := by
    intro d r hd hr
    obtain ⟨d', r', k, e1, ⟨e2, e2'⟩, e3, e4, e5⟩ := hI d r hd hr
    simp only [arg_z, arg_s, D.toL_L, D.toI_I] at e1 e2 e2'
    have hne : r'.t ≠ [] := fun h => by rw [e2, h] at h0; simp at h0
    obtain ⟨k, rfl⟩ : ∃ n, k = n + 1 := ⟨k - 1, by omega⟩
    obtain ⟨p1, p2⟩ := hL r' ⟨e2, e2'⟩
    have q : bF [.N n5, .V v19, .L l20, .I i21] 2 (r'.loc.2.sign [61]) := hS r'.loc.2 p1
    obtain ⟨q1, q2⟩ := hN _ q
    have hh := hH d' e1
    simp only [arg_z, arg_s, D.toL_L, D.toI_I, D.toS_S, D.toB_B] at p2 q2 hh
    obtain ⟨m1, m2⟩ := q1
    simp only [arg_z, arg_s, D.toL_L, D.toI_I] at m1 m2
    have t1 := aH6 hne (by omega)
    have t2 := pG r'.loc.2
    have t3 := pG (r'.loc.2.sign [61])
    rw [aT5] at t2
    rw [aB5] at t3
    refine ⟨d' ++ [(r'.loc.1, ((r'.loc.2.sign [61]).number).1)], if d'.any (fun i => i.1 == r'.loc.1) then ((r'.loc.2.sign [61]).number).2.fail 14 else ((r'.loc.2.sign [61]).number).2, k, ?_, ⟨?_, ?_⟩, ?_, ?_, ?_, ?_⟩
    ·rw [e1, List.map_append, p2, q2]; rfl
    ·rw [m1]; split <;> simp [kK] <;> rfl
    ·have hb' : b26 = d'.any (fun i => i.1 == r'.loc.1) := by rw [hh, p2]; rfl
     rw [← hb']
     cases b26
     ·simp only [Bool.false_eq_true, false_and, if_false] at hE ⊢; rw [hE, m2]
     ·simp only [true_and, if_true] at hE ⊢; rw [hE, aP9, m2]
    ·have : (if d'.any (fun i => i.1 == r'.loc.1) then ((r'.loc.2.sign [61]).number).2.fail 14 else ((r'.loc.2.sign [61]).number).2).t = ((r'.loc.2.sign [61]).number).2.t := by split <;> simp [kK]
     rw [this, uU]
     omega
    ·have : (if d'.any (fun i => i.1 == r'.loc.1) then ((r'.loc.2.sign [61]).number).2.fail 14 else ((r'.loc.2.sign [61]).number).2).t = ((r'.loc.2.sign [61]).number).2.t := by split <;> simp [kK]
     rw [this, uU, List.length_append]
     simp only [List.length_cons, List.length_nil]; omega
    ·rw [e5, Lt.jZ, if_neg (by simp only [not_or]; exact ⟨hne, by simp; omega⟩)]
    ·rw [m1, e2, List.length_map, List.length_map, uU]
     omega
   refine ⟨fun d r hd hr => ?_, ?_⟩
   ·obtain ⟨d', r', k, a, b, c, e, f, _⟩ := main d r hd hr
    exact ⟨d', r', k, a, b, c, e, f⟩
   ·obtain ⟨_, _, _, _, _, _, _, _, h⟩ := main d0 r0 hd0 hr0
    exact h
  have kT : ∀ {i27}, b26 = true → aW.sig.post [.N n5, .V v22, .L l23, .I i24, .I 14, .I i27] → i27 = (if b26 = true ∧ i24 = 0 then 14 else i24) := fun {i27} hb h => by
   have h : i27 = if i24 = 0 then 14 else i24 := h
   rw [h, hb]; simp
  repeat' first | exact key _ (kT (by assumption) (by assumption)) | exact key _ (by simp [*]) | exact len _ | trivial | refine And.intro ?_ ?_ | intro _
 ·intro d r hd hr
  obtain ⟨d', r', k, e1, e2, e3, e4, e5⟩ := hI d r hd hr
  have := e2.2
  simp only [arg_z, arg_s, D.toI_I] at this
  rw [e5, bO0 (by omega) (.inr (by omega))]
  exact ⟨e1, e2⟩
 ·intro d r hd hr
  obtain ⟨d', r', k, e1, e2, e3, e4, e5⟩ := hI d r hd hr
  have := e2.1
  simp only [arg_z, arg_s, D.toL_L] at this
  rw [e5, bO0 (by omega) (.inl (by rw [this, List.length_map] at h0; exact List.eq_nil_of_length_eq_zero (by omega)))]
  exact ⟨e1, e2⟩
theorem aZ7 {k : Nat} {d : List Lt.Ask} {r : Rd} (hk : 0 < k) (h : r.t = [] ∨ r.err ≠ 0) : Lt.iU k d r = (d, r) := by
 obtain ⟨k, rfl⟩ : ∃ n, k = n + 1 := ⟨k - 1, by omega⟩
 rw [Lt.iU]
 split
 ·rfl
 ·rename_i e; rw [if_pos (h.resolve_left (by rw [e]; simp))]
theorem aZ6 (r : Rd) (t : Lx.Tok) : (Lt.dD r t).2.t.length ≤ r.next.2.t.length := by
 unfold Lt.dD
 split
 ·simp only [cF2]
  have h1 := pG ((r.number.2).sign [58])
  have h2 := pG r.number.2
  rw [aB5] at h1; rw [uU] at h2; omega
 ·simp only [aT5]; omega
theorem bJ.pure : bJ.Pure := by
 intro n0 v1 v2 v3 l4 n5 v6 l7 i8 _ _ _ hp
 obtain ⟨hb, d0, r0, hd0, hr0⟩ := hp
 refine ⟨fun d r hd hr => ⟨d, r, r.t.length + 1, hd, hr, by omega, by omega, rfl⟩, fun v9 l10 v11 l12 i13 _ _ _ hI => ⟨fun h0 => ⟨fun he n14 => ?_, fun he => ?_⟩, fun h0 => ?_⟩⟩
 ·have short : l10.length ≤ 100000000 := by
   obtain ⟨d', r', k, e1, e2, e3, e4, e5⟩ := hI d0 r0 hd0 hr0
   simp only [arg_z, arg_s, D.toL_L] at hd0 e1 hb
   have := hr0.1
   simp only [arg_z, arg_s, D.toL_L] at this
   rw [hd0, this, List.length_map, List.length_map] at hb
   rw [e1, List.length_map]; omega
  have len : ∀ R : D, ((l10 ++ [R]).length : Int) ≤ 3518437208883 := fun R => by simp; omega
  have key : ∀ {th at_ v s e l}, (∀ r' : Rd, l12 = r'.t.map aV → i13 = r'.err → ∃ t ts, r'.t = t :: ts ∧ (∀ d' : List Lt.Ask, l10 = d'.map fB → ∃ v', ((Lt.dD r' t).2.sign [61]).number = (v.toNat, v') ∧ 0 ≤ v ∧ l = v'.t.map aV ∧ e = (if d'.any (Lt.iC (Lt.dD r' t).1) = true then v'.fail 14 else v').err) ∧ (Lt.dD r' t).1 = ⟨th, at_, 0, tx s⟩) →
    bJ.I0 [.N n0, .V v1, .V v2, .V v3, .L l4, .N n5, .V v6, .L l7, .I i8, .L (l10 ++ [.L [.I th, .I at_, .I v, .S s]]), .L l, .I e] ∧ bJ.I0M [.N n0, .V v1, .V v2, .V v3, .L l4, .N n5, .V v6, .L l7, .I i8, .L (l10 ++ [.L [.I th, .I at_, .I v, .S s]]), .L l, .I e] < bJ.I0M [.N n0, .V v1, .V v2, .V v3, .L l4, .N n5, .V v6, .L l7, .I i8, .L l10, .L l12, .I i13] := by
   intro th at_ v s e l H
   have main : ∀ d r, l4 = d.map fB → bF [.N n0, .V v1, .V v2, .V v3, .L l4, .N n5, .V v6, .L l7, .I i8] 7 r → ∃ d' r' k, l10 ++ [.L [.I th, .I at_, .I v, .S s]] = List.map fB d' ∧ (l = r'.t.map aV ∧ e = r'.err) ∧ r'.t.length < k ∧ d'.length + r'.t.length ≤ d.length + r.t.length ∧ Lt.iU (r.t.length + 1) d r = Lt.iU k d' r' ∧ l.length < l12.length := by
    intro d r hd hr
    obtain ⟨d', r', k, e1, ⟨e2, e2'⟩, e3, e4, e5⟩ := hI d r hd hr
    simp only [arg_z, arg_s, D.toL_L, D.toI_I] at e1 e2 e2'
    obtain ⟨t, ts, ht, g, g2⟩ := H r' e2 e2'
    obtain ⟨v', g1, gv, gl, ge⟩ := g d' e1
    obtain ⟨k, rfl⟩ : ∃ n, k = n + 1 := ⟨k - 1, by omega⟩
    have t1 := aH6 (r := r') (by rw [ht]; simp) (by omega)
    have t2 := aZ6 r' t
    have t3 := pG (Lt.dD r' t).2
    have t4 := pG ((Lt.dD r' t).2.sign [61])
    rw [aB5] at t4
    have hv' : v'.t = (((Lt.dD r' t).2.sign [61]).next).2.t := by rw [← uU, g1]
    have hf : (if d'.any (Lt.iC (Lt.dD r' t).1) = true then v'.fail 14 else v').t = v'.t := by split <;> simp [kK]
    refine ⟨d' ++ [{ (Lt.dD r' t).1 with v := v.toNat }], if d'.any (Lt.iC (Lt.dD r' t).1) = true then v'.fail 14 else v', k, ?_, ⟨by rw [hf, gl], ge⟩, ?_, ?_, ?_, ?_⟩
    ·rw [e1, List.map_append, g2]
     simp only [List.map_cons, List.map_nil, fB, bx_tx, Int.toNat_of_nonneg gv]
    ·rw [hf, hv']; omega
    ·rw [hf, hv', List.length_append]; simp only [List.length_cons, List.length_nil]; omega
    ·rw [e5, Lt.iU]
     simp only [ht]
     rw [if_neg (by omega), g1]
    ·rw [gl, e2, List.length_map, List.length_map, hv']; omega
   refine ⟨fun d r hd hr => ?_, ?_⟩
   ·obtain ⟨d', r', k, a, b, c, e, f, _⟩ := main d r hd hr
    exact ⟨d', r', k, a, b, c, e, f⟩
   ·obtain ⟨_, _, _, _, _, _, _, _, h⟩ := main d0 r0 hd0 hr0
    exact h
  have eh : ∀ {b : Bool} {i i' : Int} {v' : Rd} {p : Bool}, b = p → i = v'.err → (b = true → i' = if i = 0 then 14 else i) → (b = false → i' = i) → i' = (if p = true then v'.fail 14 else v').err := fun {b i i' v' p} h1 h2 h3 h4 => by
   subst h1; cases b
   ·rw [h4 rfl]; simpa using h2
   ·rw [h3 rfl]; simp [aP9, h2]
  refine ⟨fun h2 => ⟨trivial, fun v15 l16 i17 i18 hN h18 _ _ => ⟨trivial, fun v19 l20 i21 hS _ _ => ⟨trivial, fun v22 l23 i24 i25 hR _ _ _ => ⟨trivial, fun v26 l27 i28 hS' _ _ => ⟨trivial, fun v29 l30 i31 i32 hN' h32 _ _ => ⟨?_, fun b33 hH => ?_⟩⟩⟩⟩⟩⟩, fun h2 => ⟨trivial, fun v15 l16 i17 s18 hL _ _ _ => ⟨trivial, fun v19 l20 i21 hS' _ _ => ⟨trivial, fun v22 l23 i24 i25 hN' h25 _ _ => ⟨?_, fun b26 hH => ?_⟩⟩⟩⟩⟩
  ·show l10.length ≤ 1000000000; omega
  ·have K : ∀ i34, (b33 = true → i34 = if i31 = 0 then 14 else i31) → (b33 = false → i34 = i31) → _ := fun i34 q1 q2 => key (th := IntKind.i64.wrap (fC i18 4)) (at_ := i25) (v := i32) (s := ⟨#[]⟩) (e := i34) (l := l30) fun r' a1 a2 => by
    obtain ⟨t, ts, ht⟩ : ∃ t ts, r'.t = t :: ts := by
     cases h : r'.t with
     | nil => rw [a1, h] at h0; simp at h0
     | cons t ts => exact ⟨t, ts, rfl⟩
    have hk : t.kind = 2 := by
     rw [a1, ht] at h2
     have h2 : (t.kind : Int) = 2 := h2
     omega
    obtain ⟨x1, x2⟩ := hN r' ⟨a1, a2⟩
    have x3 : bF [.N n5, .V v19, .L l20, .I i21] 2 (r'.number.2.sign [58]) := hS _ x1
    obtain ⟨x4, x5⟩ := hR _ x3
    have x6 : bF [.N n5, .V v26, .L l27, .I i28] 2 ((r'.number.2.sign [58]).reg.2.sign [61]) := hS' _ x4
    obtain ⟨x7, x8⟩ := hN' _ x6
    have hq : Lt.dD r' t = (⟨min (r'.number.1 : Int) 4, (r'.number.2.sign [58]).reg.1, 0, []⟩, (r'.number.2.sign [58]).reg.2) := by unfold Lt.dD; rw [if_pos hk]
    have x2 : i18 = r'.number.1 := x2
    have x5 : i25 = (r'.number.2.sign [58]).reg.1 := x5
    have x8 : i32 = ((r'.number.2.sign [58]).reg.2.sign [61]).number.1 := x8
    have hm : IntKind.i64.wrap (fC i18 4) = min (r'.number.1 : Int) 4 := by
     have : fC i18 4 = min i18 4 := by unfold fC; omega
     rw [this, i64 (by omega) (by omega), x2]
    refine ⟨t, ts, ht, fun d' hd' => ?_, by rw [hq, hm, x5]; rfl⟩
    rw [hq]
    have hh : b33 = d'.any (Lt.iC ⟨IntKind.i64.wrap (fC i18 4), i25, i32.toNat, []⟩) := hH d' hd'
    rw [hm, x5] at hh
    exact ⟨((r'.number.2.sign [58]).reg.2.sign [61]).number.2, by rw [x8]; rfl, h32.1, x7.1, eh hh x7.2 q1 q2⟩
   repeat' first | exact K _ (fun _ => by assumption) (fun h => absurd h (by simp [*])) | exact K _ (fun h => absurd h (by simp [*])) (fun _ => rfl) | exact len _ | trivial | refine And.intro ?_ ?_ | intro _
  ·show l10.length ≤ 1000000000; omega
  ·have K : ∀ i34, (b26 = true → i34 = if i24 = 0 then 14 else i24) → (b26 = false → i34 = i24) → _ := fun i34 q1 q2 => key (th := -1) (at_ := 0) (v := i25) (s := s18) (e := i34) (l := l23) fun r' a1 a2 => by
    obtain ⟨t, ts, ht⟩ : ∃ t ts, r'.t = t :: ts := by
     cases h : r'.t with
     | nil => rw [a1, h] at h0; simp at h0
     | cons t ts => exact ⟨t, ts, rfl⟩
    have hk : t.kind ≠ 2 := by
     rw [a1, ht] at h2
     have h2 : (t.kind : Int) ≠ 2 := h2
     omega
    obtain ⟨x1, x2⟩ := hL r' ⟨a1, a2⟩
    have x6 : bF [.N n5, .V v19, .L l20, .I i21] 2 (r'.loc.2.sign [61]) := hS' _ x1
    obtain ⟨x7, x8⟩ := hN' _ x6
    have x2 : s18 = bx r'.loc.1 := x2
    have x8 : i25 = (r'.loc.2.sign [61]).number.1 := x8
    have hq : Lt.dD r' t = (⟨-1, 0, 0, r'.loc.1⟩, r'.loc.2) := by unfold Lt.dD; rw [if_neg hk]
    refine ⟨t, ts, ht, fun d' hd' => ?_, by rw [hq, x2]; rfl⟩
    rw [hq]
    have hh : b26 = d'.any (Lt.iC ⟨-1, 0, i25.toNat, tx s18⟩) := hH d' hd'
    rw [x2] at hh
    exact ⟨(r'.loc.2.sign [61]).number.2, by rw [x8]; rfl, h25.1, x7.1, eh hh x7.2 q1 q2⟩
   repeat' first | exact K _ (fun _ => by assumption) (fun h => absurd h (by simp [*])) | exact K _ (fun h => absurd h (by simp [*])) (fun _ => rfl) | exact len _ | trivial | refine And.intro ?_ ?_ | intro _
 ·intro d r hd hr
  obtain ⟨d', r', k, e1, e2, e3, e4, e5⟩ := hI d r hd hr
  have := e2.2
  simp only [arg_z, arg_s, D.toI_I] at this
  rw [e5, aZ7 (by omega) (.inr (by omega))]
  exact ⟨e1, e2⟩
 ·intro d r hd hr
  obtain ⟨d', r', k, e1, e2, e3, e4, e5⟩ := hI d r hd hr
  have := e2.1
  simp only [arg_z, arg_s, D.toL_L] at this
  rw [e5, aZ7 (by omega) (.inl (by rw [this, List.length_map] at h0; exact List.eq_nil_of_length_eq_zero (by omega)))]
  exact ⟨e1, e2⟩
end Go.Vc
namespace Go.Vc
set_option linter.unusedSimpArgs false
set_option maxRecDepth 10000
open Lt (Rd Rg)
theorem iE {n : Nat} {v v' : Value} {l l' : LD} {i i' : Int} {s : BA} {b : Bool} {r : Rd} (h : bZ.sig.post [.N n, .V v, .L l, .I i, .S s, .V v', .L l', .I i', .B b]) (hr : l = r.t.map aV ∧ i = r.err) :
  (l' = (r.accept (tx s)).2.t.map aV ∧ i' = (r.accept (tx s)).2.err) ∧ b = (r.accept (tx s)).1 := h r hr
theorem aA6 {n : Nat} {v v' : Value} {l l' : LD} {i i' j : Int} {r : Rd} (h : dA.sig.post [.N n, .V v, .L l, .I i, .V v', .L l', .I i', .I j]) (hr : l = r.t.map aV ∧ i = r.err) :
  (l' = r.reg.2.t.map aV ∧ i' = r.reg.2.err) ∧ j = r.reg.1 := h r hr
theorem jL.pure : jL.Pure := by
 intro n0 v1 l2 i3 n4 i5 i6 i7 b8 i9 b10 i11 b12 b13 i14 i15 i16 i17 s18
 intros
 refine ⟨trivial, fun b19 b20 hk n21 => ?_⟩
 have k1 : b19 = Lt.reads i5 := hk.1
 have k2 : b20 = Lt.writes i5 := hk.2
 have fin : ∀ {v l i} {r a m e : Rd} {x y z : Bool} {j : Int}, (a, x) = ((r.acq i5).2, (r.acq i5).1) → (m, y) = ((a.rel i5).2, (a.rel i5).1) → m.accept [100, 101, 112] = (z, e) → (l = (if z then e.reg.2 else e).t.map aV ∧ i = (if z then e.reg.2 else e).err) → j = (if z then e.reg.1 + 1 else i14) →
   bF [.N n0, .V v1, .L l2, .I i3, .N n4, .I i5, .I i6, .I i7, .B b8, .I i9, .B b10, .I i11, .B b12, .B b13, .I i14, .I i15, .I i16, .I i17, .S s18, .V v, .L l, .I i, .I i5, .I i6, .I i7, .B b8, .I i9, .B b10, .I i11, .B x, .B y, .I j, .I i15, .I i16, .I i17] 20 (r.tail ⟨i5, i6, i7, b8, i9.toNat, b10, i11.toNat, b12, b13, i14, i15, i16, i17⟩).2 ∧
   bK [.N n0, .V v1, .L l2, .I i3, .N n4, .I i5, .I i6, .I i7, .B b8, .I i9, .B b10, .I i11, .B b12, .B b13, .I i14, .I i15, .I i16, .I i17, .S s18, .V v, .L l, .I i, .I i5, .I i6, .I i7, .B b8, .I i9, .B b10, .I i11, .B x, .B y, .I j, .I i15, .I i16, .I i17] 22 = (r.tail ⟨i5, i6, i7, b8, i9.toNat, b10, i11.toNat, b12, b13, i14, i15, i16, i17⟩).1 := by
  intro v l i r a m e x y z j h1 h2 h3 h4 h5
  obtain ⟨rfl, rfl⟩ := Prod.mk.inj h1
  obtain ⟨rfl, rfl⟩ := Prod.mk.inj h2
  simp only [Rd.tail, h3]
  cases z
  ·exact ⟨h4, by rw [h5]; rfl⟩
  ·exact ⟨h4, by rw [h5]; rfl⟩
 have w : ∀ {r : Rd}, IntKind.i64.wrap (r.reg.1 + 1) = r.reg.1 + 1 := fun {r} => by have := aW0 r; exact i64 (by omega) (by omega)
 have aT : ∀ {r : Rd}, b19 = true → r.acq i5 = r.accept [97, 99, 113] := fun {r} h => by rw [Rd.acq, if_pos (by rw [← k1, h])]
 have aF : ∀ {r : Rd}, b19 = false → r.acq i5 = (false, r) := fun {r} h => by rw [Rd.acq, if_neg (by rw [← k1, h]; simp)]
 have lT : ∀ {r : Rd}, b20 = true → r.rel i5 = r.accept [114, 101, 108] := fun {r} h => by rw [Rd.rel, if_pos (by rw [← k2, h])]
 have lF : ∀ {r : Rd}, b20 = false → r.rel i5 = (false, r) := fun {r} h => by rw [Rd.rel, if_neg (by rw [← k2, h]; simp)]
 refine ⟨fun ha => ⟨trivial, fun v22 l23 i24 b25 A _ _ => ⟨fun hl => ⟨trivial, fun v26 l27 i28 b29 B _ _ => ⟨trivial, fun v30 l31 i32 b33 C _ _ => ⟨fun hd => ⟨trivial, fun v34 l35 i36 i37 R _ _ _ => fun r hr => ?_⟩, fun hd => fun r hr => ?_⟩⟩⟩, fun hl => ⟨trivial, fun v26 l27 i28 b29 C _ _ => ⟨fun hd => ⟨trivial, fun v30 l31 i32 i33 R _ _ _ => fun r hr => ?_⟩, fun hd => fun r hr => ?_⟩⟩⟩⟩,
  fun ha => ⟨fun hl => ⟨trivial, fun v22 l23 i24 b25 B _ _ => ⟨trivial, fun v26 l27 i28 b29 C _ _ => ⟨fun hd => ⟨trivial, fun v30 l31 i32 i33 R _ _ _ => fun r hr => ?_⟩, fun hd => fun r hr => ?_⟩⟩⟩, fun hl => ⟨trivial, fun v22 l23 i24 b25 C _ _ => ⟨fun hd => ⟨trivial, fun v26 l27 i28 i29 R _ _ _ => fun r hr => ?_⟩, fun hd => fun r hr => ?_⟩⟩⟩⟩
 ·obtain ⟨x1, y1⟩ := iE A hr
  obtain ⟨x2, y2⟩ := iE B x1
  obtain ⟨x3, y3⟩ := iE C x2
  obtain ⟨x4, y4⟩ := aA6 R x3
  exact fin (by rw [aT ha, y1]; rfl) (by rw [lT hl, y2]; rfl) (Prod.ext (y3.symm.trans hd) rfl) x4 (by rw [y4, w]; rfl)
 ·obtain ⟨x1, y1⟩ := iE A hr
  obtain ⟨x2, y2⟩ := iE B x1
  obtain ⟨x3, y3⟩ := iE C x2
  exact fin (by rw [aT ha, y1]; rfl) (by rw [lT hl, y2]; rfl) (Prod.ext (y3.symm.trans hd) rfl) x3 rfl
 ·obtain ⟨x1, y1⟩ := iE A hr
  obtain ⟨x3, y3⟩ := iE C x1
  obtain ⟨x4, y4⟩ := aA6 R x3
  exact fin (by rw [aT ha, y1]; rfl) (by rw [lF hl] <;> rfl) (Prod.ext (y3.symm.trans hd) rfl) x4 (by rw [y4, w]; rfl)
 ·obtain ⟨x1, y1⟩ := iE A hr
  obtain ⟨x3, y3⟩ := iE C x1
  exact fin (by rw [aT ha, y1]; rfl) (by rw [lF hl] <;> rfl) (Prod.ext (y3.symm.trans hd) rfl) x3 rfl
 ·obtain ⟨x2, y2⟩ := iE B hr
  obtain ⟨x3, y3⟩ := iE C x2
  obtain ⟨x4, y4⟩ := aA6 R x3
  exact fin (by rw [aF ha]) (by rw [lT hl, y2]; rfl) (Prod.ext (y3.symm.trans hd) rfl) x4 (by rw [y4, w]; rfl)
 ·obtain ⟨x2, y2⟩ := iE B hr
  obtain ⟨x3, y3⟩ := iE C x2
  exact fin (by rw [aF ha]) (by rw [lT hl, y2]; rfl) (Prod.ext (y3.symm.trans hd) rfl) x3 rfl
 ·obtain ⟨x3, y3⟩ := iE C hr
  obtain ⟨x4, y4⟩ := aA6 R x3
  exact fin (by rw [aF ha]) (by rw [lF hl] <;> rfl) (Prod.ext (y3.symm.trans hd) rfl) x4 (by rw [y4, w]; rfl)
 ·obtain ⟨x3, y3⟩ := iE C hr
  exact fin (by rw [aF ha]) (by rw [lF hl] <;> rfl) (Prod.ext (y3.symm.trans hd) rfl) x3 rfl
theorem nT {s F : Rg → Rg} {n0 : Nat} {v1 : Value} {l2 l4 l8 l' : LD} {i3 i9 i' : Int} {i10 i11 i12 i14 i16 i19 i20 i21 i22 j10 j11 j12 j14 j16 j19 j20 j21 j22 : Int} {b13 b15 b17 b18 c13 c15 c17 c18 : Bool} {s23 s' : BA}
  (hJ : rgJ s [.N n0, .V v1, .L l2, .I i3, .L l4, .L l8, .I i9, .I i10, .I i11, .I i12, .B b13, .I i14, .B b15, .I i16, .B b17, .B b18, .I i19, .I i20, .I i21, .I i22, .S s23]) (H : ∀ g : Rg, (l8 = g.r.t.map aV ∧ i9 = g.r.err) → g.x = ⟨i10, i11, i12, b13, i14.toNat, b15, i16.toNat, b17, b18, i19, i20, i21, i22⟩ → s23 = bx g.l → (l' = (F g).r.t.map aV ∧ i' = (F g).r.err) ∧ (F g).x = ⟨j10, j11, j12, c13, j14.toNat, c15, j16.toNat, c17, c18, j19, j20, j21, j22⟩ ∧ s' = bx (F g).l) :
  rgJ (fun g => F (s g)) [.N n0, .V v1, .L l2, .I i3, .L l4, .L l', .I i', .I j10, .I j11, .I j12, .B c13, .I j14, .B c15, .I j16, .B c17, .B c18, .I j19, .I j20, .I j21, .I j22, .S s'] :=
 ⟨hJ.1, fun r hr => by obtain ⟨a, b, c, d⟩ := hJ.2 r hr; obtain ⟨e, f, g⟩ := H _ b c.symm d; exact ⟨a, e, f.symm, g⟩⟩
theorem bJ3 {n : Nat} {v v' : Value} {l l' : LD} {i i' j : Int} {r : Rd} (h : dM.sig.post [.N n, .V v, .L l, .I i, .V v', .L l', .I i', .I j]) (hr : l = r.t.map aV ∧ i = r.err) :
  (l' = r.number.2.t.map aV ∧ i' = r.number.2.err) ∧ j = r.number.1 := h r hr
theorem aM9 {n : Nat} {v v' : Value} {l l' : LD} {i i' j : Int} {b : Bool} {r : Rd} (h : eF.sig.post [.N n, .V v, .L l, .I i, .V v', .L l', .I i', .B b, .I j]) (hr : l = r.t.map aV ∧ i = r.err) :
  (l' = r.arg.2.t.map aV ∧ i' = r.arg.2.err) ∧ b = r.arg.1.1 ∧ j = r.arg.1.2 := h r hr
theorem bN2 {n : Nat} {v v' : Value} {l l' : LD} {i i' j : Int} {r : Rd} (h : jK.sig.post [.N n, .V v, .L l, .I i, .V v', .L l', .I i', .I j]) (hr : l = r.t.map aV ∧ i = r.err) :
  (l' = r.side.2.t.map aV ∧ i' = r.side.2.err) ∧ j = r.side.1 := h r hr
theorem cA4 {n : Nat} {v v' : Value} {l l' : LD} {i i' : Int} {s : BA} {r : Rd} (h : gX.sig.post [.N n, .V v, .L l, .I i, .V v', .L l', .I i', .S s]) (hr : l = r.t.map aV ∧ i = r.err) :
  (l' = r.loc.2.t.map aV ∧ i' = r.loc.2.err) ∧ s = bx r.loc.1 := h r hr
theorem cK1 {n : Nat} {v v' : Value} {l l' : LD} {i i' : Int} {s : BA} {r : Rd} (h : eG.sig.post [.N n, .V v, .L l, .I i, .V v', .L l', .I i', .S s]) (hr : l = r.t.map aV ∧ i = r.err) :
  (l' = r.word.2.t.map aV ∧ i' = r.word.2.err) ∧ s = bx r.word.1 := h r hr
theorem aI.c4 : ∀ {n0 v1 l2 i3 l4}, aI.C4 n0 v1 l2 i3 l4 := by
 intro n0 v1 l2 i3 l4
 intro n5 n6 v7 l8 i9 i10 i11 i12 b13 i14 b15 i16 b17 b18 i19 i20 i21 i22 s23 h9 _ h10 h11 h12 h14 h16 h19 h20 h21 h22 _ hJ
 intro r hr
 obtain ⟨a, b, c, d⟩ := hJ.2 r hr
 have : r.instr = r.op.rd.loc.args.tail.skip := if_neg a
 rw [this]; exact ⟨b, c, d⟩
theorem aI.c3 : ∀ {n0 v1 l2 i3 l4}, aI.C3 n0 v1 l2 i3 l4 := by
 intro n0 v1 l2 i3 l4
 intro n5 n6 v7 l8 i9 i10 i11 i12 b13 i14 b15 i16 b17 b18 i19 i20 i21 i22 s23 h9 _ h10 h11 h12 h14 h16 h19 h20 h21 h22 _ hJ
 refine ⟨fun h => ⟨trivial, fun v24 l25 i26 i27 hN h27 _ _ => ⟨nT (F := Rg.skip) hJ fun g b c d => ?_, aI.c4⟩⟩, fun h => ⟨nT (F := Rg.skip) hJ fun g b c d => ?_, aI.c4⟩⟩
 ·obtain ⟨x1, x2⟩ := bJ3 hN b
  have hm : IntKind.i64.wrap (fC i27 9) = min (g.r.number.1 : Int) 9 := by
   have : fC i27 9 = min i27 9 := by unfold fC; omega
   rw [this, i64 (by omega) (by omega), x2]
  rw [Rg.skip, if_pos (by rw [c]; exact h), hm]
  exact ⟨x1, by rw [c], d⟩
 ·rw [Rg.skip, if_neg (by rw [c]; show ¬ i10 > 15; omega)]
  exact ⟨b, c, d⟩
theorem aI.c2 : ∀ {n0 v1 l2 i3 l4}, aI.C2 n0 v1 l2 i3 l4 := by
 intro n0 v1 l2 i3 l4
 intro n5 n6 v7 l8 i9 i10 i11 i12 b13 i14 b15 i16 b17 b18 i19 i20 i21 i22 s23 h9 _ h10 h11 h12 h14 h16 h19 h20 h21 h22 _ hJ
 refine ⟨trivial, fun b24 hM => ?_⟩
 have hM : b24 = Lt.lV i10 := hM
 refine ⟨fun h => ⟨trivial, fun v25 l26 i27 i28 i29 i30 b31 i32 b33 i34 b35 b36 i37 i38 i39 i40 hT _ _ _ _ _ _ _ _ _ _ _ => ⟨nT (F := Rg.tail) hJ fun g b c d => ?_, aI.c3⟩⟩, fun h => ⟨nT (F := Rg.tail) hJ fun g b c d => ?_, aI.c3⟩⟩
 ·obtain ⟨x1, x2⟩ := hT g.r b
  rw [Rg.tail, if_pos (by rw [c]; exact hM.symm.trans h), c]
  exact ⟨x1, x2.symm, d⟩
 ·rw [Rg.tail, if_neg (by rw [c]; show ¬ Lt.lV i10 = true; rw [← hM, h]; simp)]
  exact ⟨b, c, d⟩
theorem aI.c1 : ∀ {n0 v1 l2 i3 l4}, aI.C1 n0 v1 l2 i3 l4 := by
 intro n0 v1 l2 i3 l4
 intro n5 n6 v7 l8 i9 i10 i11 i12 b13 i14 b15 i16 b17 b18 i19 i20 i21 i22 s23 h9 _ h10 h11 h12 h14 h16 h19 h20 h21 h22 _ hJ
 have two : ∀ {v26 l27 i28 b29 i30 v31 l32 i33 b34 i35}, eF.sig.post [.N n0, .V v7, .L l8, .I i9, .V v26, .L l27, .I i28, .B b29, .I i30] → eF.sig.post [.N n0, .V v26, .L l27, .I i28, .V v31, .L l32, .I i33, .B b34, .I i35] → i10 ≠ 1 → Lt.writes i10 = false → i10 < 9 ∨ i10 > 15 →
   aI.J2 [.N n0, .V v1, .L l2, .I i3, .L l4, .L l32, .I i33, .I i10, .I i11, .I i12, .B b29, .I i30, .B b34, .I i35, .B b17, .B b18, .I i19, .I i20, .I i21, .I i22, .S s23] := fun {v26 l27 i28 b29 i30 v31 l32 i33 b34 i35} h1 h2 e1 e2 e3 => nT (F := Rg.args) hJ fun g b c d => by
  obtain ⟨x1, x2, x3⟩ := aM9 h1 b
  obtain ⟨y1, y2, y3⟩ := aM9 h2 x1
  rw [Rg.args, if_neg (by rw [c]; exact e1), if_neg (by rw [c]; show ¬ Lt.writes i10 = true; rw [e2]; simp), if_pos (by rw [c]; exact e3)]
  refine ⟨y1, ?_, d⟩
  simp only [Rg.a, Rg.b, c, x2, x3, y2, y3, Int.toNat_natCast]
 refine ⟨fun h => ⟨trivial, fun v24 l25 i26 i27 hN h27 _ _ => ⟨nT (F := Rg.args) hJ fun g b c d => ?_, aI.c2⟩⟩, fun h => ⟨trivial, fun b24 b25 hO => ?_⟩⟩
 ·obtain ⟨x1, x2⟩ := bJ3 hN b
  rw [Rg.args, if_pos (by rw [c]; exact h)]
  refine ⟨x1, ?_, d⟩
  simp only [c, x2, Int.toNat_natCast]
 have hW : b25 = Lt.writes i10 := hO.2
 refine ⟨fun hb => ⟨trivial, fun v26 l27 i28 b29 i30 hA _ _ _ => ⟨nT (F := Rg.args) hJ fun g b c d => ?_, aI.c2⟩⟩, fun hb => ⟨fun h9' => ⟨trivial, fun v26 l27 i28 b29 i30 hA _ _ _ => ⟨trivial, fun v31 l32 i33 b34 i35 hB _ _ _ => ⟨two hA hB h (hW.symm.trans hb) (.inl h9'), aI.c2⟩⟩⟩, fun h9' => ⟨fun h15 => ⟨trivial, fun v26 l27 i28 b29 i30 hA _ _ _ => ⟨trivial, fun v31 l32 i33 b34 i35 hB _ _ _ => ⟨two hA hB h (hW.symm.trans hb) (.inr h15), aI.c2⟩⟩⟩, fun h15 => ⟨fun hf => ⟨trivial, fun v26 l27 i28 i29 hA _ _ _ => ⟨trivial, fun v30 l31 i32 i33 hB _ _ _ => ⟨nT (F := Rg.args) hJ fun g b c d => ?_, aI.c2⟩⟩⟩, fun hf => ⟨nT (F := Rg.args) hJ fun g b c d => ?_, aI.c2⟩⟩⟩⟩⟩
 ·obtain ⟨x1, x2, x3⟩ := aM9 hA b
  rw [Rg.args, if_neg (by rw [c]; exact h), if_pos (by rw [c]; exact hW.symm.trans hb)]
  refine ⟨x1, ?_, d⟩
  simp only [Rg.a, c, x2, x3, Int.toNat_natCast]
 ·obtain ⟨x1, x2⟩ := bN2 hA b
  obtain ⟨y1, y2⟩ := bN2 hB x1
  rw [Rg.args, if_neg (by rw [c]; exact h), if_neg (by rw [c]; show ¬ Lt.writes i10 = true; rw [← hW, hb]; simp), if_neg (by rw [c]; show ¬ (i10 < 9 ∨ i10 > 15); omega), if_pos (by rw [c]; exact hf)]
  refine ⟨y1, ?_, d⟩
  simp only [Rg.ps, c, x2, y2]
 ·rw [Rg.args, if_neg (by rw [c]; exact h), if_neg (by rw [c]; show ¬ Lt.writes i10 = true; rw [← hW, hb]; simp), if_neg (by rw [c]; show ¬ (i10 < 9 ∨ i10 > 15); omega), if_neg (by rw [c]; exact hf)]
  exact ⟨b, c, d⟩
theorem aI.c0 : ∀ {n0 v1 l2 i3 l4}, aI.C0 n0 v1 l2 i3 l4 := by
 intro n0 v1 l2 i3 l4
 intro n5 n6 v7 l8 i9 i10 i11 i12 b13 i14 b15 i16 b17 b18 i19 i20 i21 i22 s23 h9 _ h10 h11 h12 h14 h16 h19 h20 h21 h22 _ hJ
 refine ⟨trivial, fun b24 hM => ?_⟩
 have hM : b24 = Lt.lV i10 := hM
 refine ⟨fun h => ⟨trivial, fun v25 l26 i27 s28 hL _ _ _ => ⟨nT (F := Rg.loc) hJ fun g b c d => ?_, aI.c1⟩⟩, fun h => ⟨nT (F := Rg.loc) hJ fun g b c d => ?_, aI.c1⟩⟩
 ·obtain ⟨x1, x2⟩ := cA4 hL b
  rw [Rg.loc, if_pos (by rw [c]; exact hM.symm.trans h)]
  exact ⟨x1, c, x2⟩
 ·rw [Rg.loc, if_neg (by rw [c]; show ¬ Lt.lV i10 = true; rw [← hM, h]; simp)]
  exact ⟨b, c, d⟩
theorem aI.pure : aI.Pure := by
 intro n0 v1 l2 i3 l4 _ _ _ hp
 have K : aI.K0 n0 v1 l2 i3 l4 := by
  refine ⟨trivial, fun v7 l8 i9 s10 hW _ _ _ => ?_⟩
  obtain ⟨v, hv⟩ := hp
  have hv : l4 = [.L [.V v, .L (txR Lt.names)]] := hv
  have hx : (((l4.getD (0 : Int).toNat default).toL.getD (1 : Int).toNat default)).toL = txR Lt.names := by rw [hv]; rfl
  rw [hx]
  refine ⟨⟨show (txR Lt.names).length ≤ 1000000000 by decide, Lt.names, rfl⟩, fun i11 hI _ => ?_⟩
  have hI : i11 = Lt.idxBy (· == tx s10) Lt.names := hI _ rfl
  have hop : ∀ r : Rd, l2 = r.t.map aV ∧ i3 = r.err → kZ i11 0 = r.op.x.op ∧ (l8 = r.word.2.t.map aV ∧ i9 = r.word.2.err) := fun r hr => by
   obtain ⟨a, b⟩ := cK1 hW hr
   refine ⟨?_, a⟩
   show kZ i11 0 = max (Lt.idxBy (· == r.word.1) Lt.names) 0
   rw [hI, b]; unfold kZ; simp only [tx_bx]; omega
  generalize kZ i11 0 = m at hop
  refine ⟨fun h0 => ⟨trivial, fun i12 hF _ => fun r hr => ?_⟩, fun h0 => ⟨trivial, fun b12 hS => ?_⟩⟩
  ·obtain ⟨a, b⟩ := hop r hr
   have hF : i12 = if i9 = 0 then 10 else i9 := hF
   have : r.instr = { r.op with r := r.op.r.fail 10 } := if_pos (by rw [← a]; exact h0)
   rw [this]
   refine ⟨⟨by rw [kK]; exact b.1, ?_⟩, ?_, rfl⟩
   ·show i12 = (r.word.2.fail 10).err
    rw [hF, aP9, b.2]
   ·show (⟨m, 0, 0, false, 0, false, 0, false, false, 0, 0, 0, 0⟩ : Lt.Ins) = r.op.x
    rw [a]; rfl
  have hS : b12 = Lt.sets m := hS
  refine ⟨fun hb => ⟨trivial, fun v13 l14 i15 i16 hR _ _ _ => ⟨⟨⟨v, hv⟩, fun r hr => ?_⟩, aI.c0⟩⟩, fun hb => ⟨⟨⟨v, hv⟩, fun r hr => ?_⟩, aI.c0⟩⟩
  ·obtain ⟨a, b⟩ := hop r hr
   obtain ⟨x1, x2⟩ := aA6 hR b
   have : r.op.rd = { r.op with x := { r.op.x with rd := r.op.r.reg.1 }, r := r.op.r.reg.2 } := if_pos (by rw [← a, ← hS]; exact hb)
   refine ⟨by rw [← a]; exact h0, ?_⟩
   dsimp only
   rw [this]
   exact ⟨x1, by show (⟨m, i16, 0, false, 0, false, 0, false, false, 0, 0, 0, 0⟩ : Lt.Ins) = { r.op.x with rd := r.op.r.reg.1 }; rw [x2, a]; rfl, rfl⟩
  ·obtain ⟨a, b⟩ := hop r hr
   have : r.op.rd = r.op := if_neg (by rw [← a, ← hS, hb]; simp)
   refine ⟨by rw [← a]; exact h0, ?_⟩
   dsimp only
   rw [this]
   exact ⟨b, by show (⟨m, 0, 0, false, 0, false, 0, false, false, 0, 0, 0, 0⟩ : Lt.Ins) = r.op.x; rw [a]; rfl, rfl⟩
 exact fun _ _ => ⟨K, K⟩
end Go.Vc
namespace Go.Vc
set_option linter.unusedSimpArgs false
set_option maxRecDepth 10000
open Lt (Rd Rg)
theorem aM2 (r : Rd) (s : Tx) : (r.accept s).2.t.length ≤ r.t.length := by
 unfold Rd.accept
 split
 ·exact Nat.le_refl _
 ·rename_i h; split
  ·exact Nat.le_refl _
  ·rw [h]; simp
theorem bZ6 {I : LD} {p : List (List (Lt.Ins × Tx))} {r : D} {q : List (Lt.Ins × Tx)} (h : oZ I p) (hr : ∃ v : Value, r = .L [.V v, .L (q.map nP)]) : oZ (I ++ [r]) (p ++ [q]) := by
 induction I generalizing p with
 | nil => cases p with
  | nil => exact ⟨hr, trivial⟩
  | cons a p => exact h.elim
 | cons a I ih => cases p with
  | nil => exact h.elim
  | cons b p => exact ⟨h.1, ih h.2⟩
theorem wV {I : LD} {p : List (List (Lt.Ins × Tx))} (h : oZ I p) : I.length = p.length := by
 induction I generalizing p with
 | nil => cases p with
  | nil => rfl
  | cons a p => exact h.elim
 | cons a I ih => cases p with
  | nil => exact h.elim
  | cons b p => simp [ih h.2]
theorem aL4 {L0 I : LD} {v ll : D} {T : List (List (Lt.Ins × Tx))} (h : aY5 L0 I v ll T) : oZ L0 T := by
 rcases h with ⟨rfl, _, _, rfl⟩ | ⟨p, q, rfl, hp, hq, rfl⟩
 ·trivial
 ·exact bZ6 hp ⟨_, by rw [hq]⟩
theorem cI9 {L0 I : LD} {v ll : D} {T : List (List (Lt.Ins × Tx))} (h : aY5 L0 I v ll T) : L0.length = T.length := wV (aL4 h)
def tkI (t : List Lx.Tok) : Bool × Rd := (Rd.mk t 0).accept [105, 110, 105, 116]
def tkT (t : List Lx.Tok) : Bool × Rd := (tkI t).2.accept [116, 104, 114, 101, 97, 100]
def tkA (t : List Lx.Tok) : Bool × Rd := (tkT t).2.accept [97, 115, 107]
theorem sU (d : Lt.bI) (t : List Lx.Tok) : Lt.take d t =
  if (tkI t).1 then (if d.threads ≠ [] then (d, 16) else Lt.fin { d with inits := (Lt.jZ ((tkI t).2.t.length + 1) d.inits (tkI t).2).1 } (Lt.jZ ((tkI t).2.t.length + 1) d.inits (tkI t).2).2)
  else if (tkT t).1 then (if d.asks ≠ [] then (d, 16) else Lt.fin { d with threads := d.threads ++ [[]] } (tkT t).2)
  else if (tkA t).1 then (if d.threads = [] then (d, 16) else Lt.fin { d with asks := (Lt.iU ((tkA t).2.t.length + 1) d.asks (tkA t).2).1 } (Lt.iU ((tkA t).2.t.length + 1) d.asks (tkA t).2).2)
  else if (tkA t).2.instr.r.err = 0 ∧ (d.threads = [] ∨ d.asks ≠ []) then (d, 16)
  else if (tkA t).2.instr.r.err = 0 then Lt.fin { d with threads := Lt.uO d.threads ((tkA t).2.instr.x, (tkA t).2.instr.l) } (tkA t).2.instr.r else Lt.fin d (tkA t).2.instr.r := rfl
theorem aY6 (t : List Lx.Tok) : (tkI t).2.t.length ≤ t.length ∧ (tkA t).2.t.length ≤ t.length := by
 have h1 := aM2 (Rd.mk t 0) [105, 110, 105, 116]
 have h2 := aM2 (tkI t).2 [116, 104, 114, 101, 97, 100]
 have h3 := aM2 (tkT t).2 [97, 115, 107]
 exact ⟨h1, Nat.le_trans h3 (Nat.le_trans h2 h1)⟩
theorem bG6 (p : List (List (Lt.Ins × Tx))) (q : List (Lt.Ins × Tx)) (x : Lt.Ins × Tx) : Lt.uO (p ++ [q]) x = p ++ [q ++ [x]] := by simp [Lt.uO]
theorem aK.c0 : ∀ {n0 v1 l2 v3 l4 v5 l6 v7 l8 l9 v10 l11 l12}, aK.C0 n0 v1 l2 v3 l4 v5 l6 v7 l8 l9 v10 l11 l12 := by
 intro n0 v1 l2 v3 l4 v5 l6 v7 l8 l9 v10 l11 l12 n13 v14 l15 v16 l17 v18 l19 v20 l21 l22 v23 l24 i25 _ _ _ _ _ _ hJ
 have key : ∀ c : Int, (∀ r : Rd, l24 = r.t.map aV → i25 = r.err → c = if r.err = 0 ∧ r.t ≠ [] then 10 else r.err) → (aK.sig 0).post [.N n0, .V v1, .L l2, .V v3, .L l4, .V v5, .L l6, .V v7, .L l8, .L l9, .V v10, .L l11, .L l12, .V v14, .L l15, .V v16, .L l17, .V v18, .L l19, .V v20, .L l21, .L l22, .I c] := fun c h d t hd ht => by
  obtain ⟨d', r, h1, ⟨h2, h3⟩, h4⟩ := hJ d t hd ht
  have hc := h r h2 h3
  rw [h4, Lt.fin]
  split <;> rename_i hh
  ·rw [if_pos hh] at hc; exact ⟨h1, hc⟩
  ·rw [if_neg hh] at hc; exact ⟨h1, hc⟩
 refine ⟨fun h => ⟨fun h' => key _ fun r a b => ?_, fun h' => key _ fun r a b => ?_⟩, fun h => key _ fun r a b => ?_⟩
 ·rw [if_pos ⟨by omega, fun e => by rw [a, e] at h'; simp at h'⟩]
 ·rw [if_neg fun e => e.2 (by rw [a, List.length_map] at h'; exact List.eq_nil_of_length_eq_zero (by omega)), b]
 ·rw [if_neg fun e => h (by rw [b]; exact e.1), b]
theorem aX2 {d : Lt.bI} {n : Nat} (h : tX d n) : d.inits.length ≤ n ∧ d.asks.length ≤ n ∧ d.threads.length ≤ n ∧ ∀ t ∈ d.threads, t.length ≤ n := by
 unfold tX iF at h
 have : ∀ T : List (List (Lt.Ins × Tx)), T.length ≤ (T.map fun t => t.length + 1).sum ∧ ∀ t ∈ T, t.length ≤ (T.map fun t => t.length + 1).sum := fun T => by
  induction T with
  | nil => simp
  | cons a T ih =>
   simp only [List.map_cons, List.sum_cons, List.length_cons, List.mem_cons, forall_eq_or_imp]
   exact ⟨by omega, by omega, fun t ht => by have := ih.2 t ht; omega⟩
 obtain ⟨h1, h2⟩ := this d.threads
 exact ⟨by omega, by omega, by omega, fun t ht => by have := h2 t ht; omega⟩
theorem aK.pure : aK.Pure := by
 intro n0 v1 l2 v3 l4 v5 l6 v7 l8 l9 v10 l11 l12 _ _ _ _ _ _ hp n13
 obtain ⟨hnm, d0, t0, hd0, ht0, hs0, hl0⟩ := hp
 have ht0 : l11 = t0.map aV := ht0
 obtain ⟨s1, s2, s3, s4⟩ := aX2 hs0
 have hlen : ∀ d : Lt.bI, dP [.N n0, .V v1, .L l2, .V v3, .L l4, .V v5, .L l6, .V v7, .L l8, .L l9, .V v10, .L l11, .L l12] 1 d → l2.length = d.inits.length ∧ l6.length = d.asks.length ∧ l4.length = d.threads.length := fun d h => by
  obtain ⟨a, b, c⟩ := h
  have a : l2 = d.inits.map bD := a
  have b : l6 = d.asks.map fB := b
  exact ⟨by rw [a, List.length_map], by rw [b, List.length_map], cI9 (L0 := l4) (I := l9) c⟩
 have hl := hlen d0 hd0
 have e0 : ∀ d : Lt.bI, (d.threads = [] ↔ d.threads.length = 0) ∧ (d.asks = [] ↔ d.asks.length = 0) := fun d => by simp
 have r0 : ∀ t : List Lx.Tok, l11 = t.map aV → l11 = (Rd.mk t 0).t.map aV ∧ (0 : Int) = (Rd.mk t 0).err := fun t h => ⟨h, rfl⟩
 have same : (∀ d t, dP [.N n0, .V v1, .L l2, .V v3, .L l4, .V v5, .L l6, .V v7, .L l8, .L l9, .V v10, .L l11, .L l12] 1 d → l11 = t.map aV → Lt.take d t = (d, 16)) → (aK.sig 0).post [.N n0, .V v1, .L l2, .V v3, .L l4, .V v5, .L l6, .V v7, .L l8, .L l9, .V v10, .L l11, .L l12, .V v1, .L l2, .V v3, .L l4, .V v5, .L l6, .V v7, .L l8, .L l9, .I 16] := fun h d t hd ht => by
  rw [h d t hd ht]; exact ⟨hd, rfl⟩
 refine ⟨trivial, fun v14 l15 i16 b17 hA _ _ => ?_⟩
 have A : ∀ t, l11 = t.map aV → (l15 = (tkI t).2.t.map aV ∧ i16 = (tkI t).2.err) ∧ b17 = (tkI t).1 := fun t ht => iE hA (r0 t ht)
 refine ⟨fun hb => ⟨fun h4 => same fun d t hd ht => ?_, fun h4 => ⟨⟨?_, ?_⟩, fun v18 l19 v20 l21 i22 hS _ _ _ => ⟨fun d t hd ht => ?_, aK.c0⟩⟩⟩, fun hb => ⟨trivial, fun v18 l19 i20 b21 hH _ _ => ?_⟩⟩
 ·have := hlen d hd
  rw [sU, if_pos ((A t ht).2.symm.trans hb), if_pos (by rw [ne_eq, (e0 d).1]; omega)]
 ·show l2.length + l15.length ≤ 100000000
  rw [(A t0 ht0).1.1, List.length_map]
  have := aY6 t0
  omega
 ·exact ⟨d0.inits, _, hd0.1, (A t0 ht0).1⟩
 ·have := hlen d hd
  obtain ⟨x1, x2⟩ := hS d.inits _ hd.1 (A t ht).1
  refine ⟨{ d with inits := _ }, _, ⟨x1, hd.2.1, hd.2.2⟩, x2, ?_⟩
  rw [sU, if_pos ((A t ht).2.symm.trans hb), if_neg (by rw [ne_eq, (e0 d).1]; omega)]
 have H : ∀ t, l11 = t.map aV → (l19 = (tkT t).2.t.map aV ∧ i20 = (tkT t).2.err) ∧ b21 = (tkT t).1 := fun t ht => iE hH (A t ht).1
 have nA : ∀ t, l11 = t.map aV → ¬ (tkI t).1 = true := fun t ht => by rw [← (A t ht).2, hb]; simp
 refine ⟨fun hb' => ⟨fun h6 => same fun d t hd ht => ?_, fun h6 => ⟨?_, fun v22 v23 => ⟨?_, fun _ v24 => ⟨fun d t hd ht => ?_, aK.c0⟩⟩⟩⟩, fun hb' => ⟨trivial, fun v22 l23 i24 b25 hQ _ _ => ?_⟩⟩
 ·have := hlen d hd
  rw [sU, if_neg (nA t ht), if_pos ((H t ht).2.symm.trans hb'), if_pos (by rw [ne_eq, (e0 d).2]; omega)]
 ·show D.L _ = D.L _
  have h := hd0.2.2
  rcases h with ⟨e1, e2, e3, e4⟩ | ⟨p, q, e1, e2, e3, e4⟩
  ·have e1 : l4 = [] := e1
   rw [e1]; rfl
  ·have e4 : l4 = l9 ++ [.L [.V v7, .L l8]] := e4
   exact congrArg D.L (by rw [e4, List.take_of_length_le (by simp)])
 ·simp; omega
 ·have := hlen d hd
  refine ⟨{ d with threads := d.threads ++ [[]] }, _, ⟨hd.1, hd.2.1, .inr ⟨d.threads, [], rfl, aL4 hd.2.2, rfl, rfl⟩⟩, (H t ht).1, ?_⟩
  rw [sU, if_neg (nA t ht), if_pos ((H t ht).2.symm.trans hb'), if_neg (by rw [ne_eq, (e0 d).2]; omega)]
 have Q : ∀ t, l11 = t.map aV → (l23 = (tkA t).2.t.map aV ∧ i24 = (tkA t).2.err) ∧ b25 = (tkA t).1 := fun t ht => iE hQ (H t ht).1
 have nH : ∀ t, l11 = t.map aV → ¬ (tkT t).1 = true := fun t ht => by rw [← (H t ht).2, hb']; simp
 refine ⟨fun hb'' => ⟨fun h4 => same fun d t hd ht => ?_, fun h4 => ⟨⟨?_, ?_⟩, fun v26 l27 v28 l29 i30 hS _ _ _ => ⟨fun d t hd ht => ?_, aK.c0⟩⟩⟩, fun hb'' => ⟨hnm, fun v26 l27 i28 i29 i30 i31 b32 i33 b34 i35 b36 b37 i38 i39 i40 i41 s42 hI _ _ _ p33 p35 _ _ _ _ _ _ _ n43 => ?_⟩⟩
 ·have := hlen d hd
  rw [sU, if_neg (nA t ht), if_neg (nH t ht), if_pos ((Q t ht).2.symm.trans hb''), if_pos (by rw [(e0 d).1]; omega)]
 ·show l6.length + l23.length ≤ 100000000
  rw [(Q t0 ht0).1.1, List.length_map]
  have := aY6 t0
  omega
 ·exact ⟨d0.asks, _, hd0.2.1, (Q t0 ht0).1⟩
 ·have := hlen d hd
  obtain ⟨x1, x2⟩ := hS d.asks _ hd.2.1 (Q t ht).1
  refine ⟨{ d with asks := (Lt.iU ((tkA t).2.t.length + 1) d.asks (tkA t).2).1 }, _, ⟨hd.1, x1, hd.2.2⟩, x2, ?_⟩
  rw [sU, if_neg (nA t ht), if_neg (nH t ht), if_pos ((Q t ht).2.symm.trans hb''), if_neg (by rw [(e0 d).1]; omega)]
 have nQ : ∀ t, l11 = t.map aV → ¬ (tkA t).1 = true := fun t ht => by rw [← (Q t ht).2, hb'']; simp
 have I : ∀ t, l11 = t.map aV → (l27 = (tkA t).2.instr.r.t.map aV ∧ i28 = (tkA t).2.instr.r.err) ∧ (⟨i29, i30, i31, b32, i33.toNat, b34, i35.toNat, b36, b37, i38, i39, i40, i41⟩ : Lt.Ins) = (tkA t).2.instr.x ∧ s42 = bx (tkA t).2.instr.l := fun t ht => hI _ (Q t ht).1
 have tk : ∀ d t, l11 = t.map aV → Lt.take d t = _ := fun d t ht => by rw [sU, if_neg (nA t ht), if_neg (nH t ht), if_neg (nQ t ht)]
 refine ⟨fun hz => ⟨fun h4 => same fun d t hd ht => ?_, fun h4 => ⟨fun h6 => same fun d t hd ht => ?_, fun h6 => ?_⟩⟩, fun hz => ⟨fun d t hd ht => ⟨d, _, hd, (I t ht).1, ?_⟩, aK.c0⟩⟩
 ·have := hlen d hd
  rw [tk d t ht, if_pos ⟨by rw [← (I t ht).1.2, hz], .inl (by rw [(e0 d).1]; omega)⟩]
 ·have := hlen d hd
  rw [tk d t ht, if_pos ⟨by rw [← (I t ht).1.2, hz], .inr (by rw [ne_eq, (e0 d).2]; omega)⟩]
 ·have w : IntKind.i64.wrap (((l4.length : Nat) : Int) - 1) = (l4.length : Int) - 1 := i64 (by omega) (by omega)
  have b1 : (0 : Int) ≤ IntKind.i64.wrap (((l4.length : Nat) : Int) - 1) := by omega
  have b2 : IntKind.i64.wrap (((l4.length : Nat) : Int) - 1) < ((l4.length : Nat) : Int) := by omega
  have wn : (IntKind.i64.wrap (((l4.length : Nat) : Int) - 1)).toNat = l4.length - 1 := by omega
  have sh : ∀ d : Lt.bI, dP [.N n0, .V v1, .L l2, .V v3, .L l4, .V v5, .L l6, .V v7, .L l8, .L l9, .V v10, .L l11, .L l12] 1 d → ∃ p q, d.threads = p ++ [q] ∧ oZ l9 p ∧ l8 = q.map nP ∧ l4 = l9 ++ [.L [.V v7, .L l8]] := fun d hd => by
   rcases hd.2.2 with ⟨e1, _⟩ | h
   ·have e1 : l4 = [] := e1
    rw [e1] at h4; exact absurd rfl h4
   ·exact h
  obtain ⟨p0, q0, y1, y2, y3, y4⟩ := sh d0 hd0
  have hS : sameD [D.V ((l4.getD (IntKind.i64.wrap (((l4.length : Nat) : Int) - (1 : Int))).toNat default).toL.getD (0 : Int).toNat default).toV, .V v7] := by
   show D.V _ = D.V _
   rw [wn, y4]; simp [List.getD]
  have l8s : l8.length ≤ 10000000 := by
   rw [y3, List.length_map]
   exact s4 q0 (by rw [y1]; simp)
  have len : ∀ R : D, ((l8 ++ [R]).length : Int) ≤ 1256584717458 := fun R => by simp; omega
  have hJ : ∀ v45 : Value, aK.J0 [.N n0, .V v1, .L l2, .V v3, .L l4, .V v5, .L l6, .V v7, .L l8, .L l9, .V v10, .L l11, .L l12, .V v1, .L l2, .V v3, .L (l4.set (IntKind.i64.wrap (((l4.length : Nat) : Int) - (1 : Int))).toNat (.L [.V v45, .L (l8 ++ [.L [.I i29, .I i30, .I i31, .B b32, .I i33, .B b34, .I i35, .B b36, .B b37, .I i38, .I i39, .I i40, .I i41, .S s42]])])), .V v5, .L l6, .V v45, .L (l8 ++ [.L [.I i29, .I i30, .I i31, .B b32, .I i33, .B b34, .I i35, .B b36, .B b37, .I i38, .I i39, .I i40, .I i41, .S s42]]), .L l9, .V v26, .L l27, .I i28] := fun v45 d t hd ht => by
   have := hlen d hd
   obtain ⟨p, q, z1, z2, z3, z4⟩ := sh d hd
   obtain ⟨g1, g2, g3⟩ := I t ht
   refine ⟨{ d with threads := Lt.uO d.threads ((tkA t).2.instr.x, (tkA t).2.instr.l) }, _, ⟨hd.1, hd.2.1, .inr ⟨p, q ++ [((tkA t).2.instr.x, (tkA t).2.instr.l)], by rw [z1]; exact bG6 p q _, z2, ?_, ?_⟩⟩, g1, ?_⟩
   ·show l8 ++ [_] = _
    rw [List.map_append, z3, ← g2, g3]
    simp only [List.map_cons, List.map_nil, nP, Int.toNat_of_nonneg p33.1, Int.toNat_of_nonneg p35.1]
   ·show l4.set _ _ = _
    rw [wn, z4]; simp
   ·rw [tk d t ht, if_neg (fun h => h.2.elim (fun h => by rw [(e0 d).1] at h; omega) (fun h => by rw [ne_eq, (e0 d).2] at h; omega)), if_pos (by rw [← g1.2, hz])]
  have k0 : aK.K0 l8 i29 i30 i31 b32 i33 b34 i35 b36 b37 i38 i39 i40 i41 s42 n0 v1 l2 v3 l4 v5 l6 v7 l9 v10 l11 l12 v26 l27 i28 := ⟨len _, fun _ v45 => ⟨hJ v45, aK.c0⟩⟩
  have k1 : aK.K1 l8 i29 i30 i31 b32 i33 b34 i35 b36 b37 i38 i39 i40 i41 s42 n0 v1 l2 v3 l4 v5 l6 v7 l9 v10 l11 l12 v26 l27 i28 := fun _ => ⟨len _, fun _ v45 => ⟨hJ v45, aK.c0⟩⟩
  clear tk I nQ nH nA A H Q hlen same r0 sh
  repeat' first | exact k0 | exact k1 | exact hS | exact b1 | exact b2 | refine And.intro ?_ ?_ | intro _
 ·rw [tk d t ht, if_neg (fun h => hz (by rw [(I t ht).1.2]; exact h.1)), if_neg (fun h => hz (by rw [(I t ht).1.2]; exact h))]
end Go.Vc