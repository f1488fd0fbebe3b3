/-
 slices.Insert at table entries: its contract, from what its walk says.
-/
import Derived.Test.YtmgeaephkagdiaaGreatDoorTabb
set_option linter.unusedVariables false
set_option linter.unusedSimpArgs false
open _root_.Go.IntKind (wrap)
namespace Go.Vc
def jQ.pre : LD → Prop
 | [.V _, .L L, .I i, .V _, .L v] => 0 ≤ i ∧ i ≤ L.length ∧ 1 ≤ v.length ∧ L.length ≤ 1000000 ∧ v.length ≤ 1000000
 | _ => False
def jQ.post : LD → Prop
 | [.V _, .L L, .I i, .V _, .L v, .V _, .L r] => r = L.take i.toNat ++ v ++ L.drop i.toNat
 | _ => False
def jQ.sig : Sig := { args := [.one (.lf (.sl (.at 0))), aI .i64 2, .one (.lf (.sl (.at 3)))], heap := [.osl (.at 0) eG (.at 1), .osl (.at 3) eG (.at 4)], aA := [.V, .L, .I, .V, .L], res := .one (.lf (.sl (.at 5))), heap' := [.osl (.at 5) eG (.at 6)], news := [.V, .L], pre := jQ.pre, post := jQ.post }
def bR5 (P : Program) (f : FuncId) (es : Nat) : Prop :=
 ∀ (w : World) (v u : Value) (n m i : Nat) (xs ys : List Value), gU w v es n xs → gU w u es m ys → (∀ b, v.ownBlock = some b → u.ownBlock ≠ some b) → i ≤ n → 0 < m → n ≤ 1000000 → m ≤ 1000000 →
  (∀ x ∈ xs, one x) → (∀ y ∈ ys, one y) →
  Calls P f #[v, .int .i64 i, u] w fun e w' => ∃ v', e = .returned v' ∧ gU w' v' es (n + m) (xs.take (i * es) ++ ys ++ xs.drop (i * es)) ∧
   w.heap.size ≤ w'.heap.size ∧ w'.os = w.os ∧ w'.tape = w.tape ∧ w'.output = w.output ∧
   (∀ b, b < w.heap.size → v.ownBlock ≠ some b → w'.heap[b]? = w.heap[b]?) ∧ (∀ b, v'.ownBlock = some b → v.ownBlock = some b ∨ w.heap.size ≤ b)
theorem aP5 (L : LD) : EK.cells eG (.L L) = L.flatMap fun r => jR eG r.toL := rfl
theorem bX6 {L : LD} (h : EK.ok eG (.L L)) (i : Nat) : (EK.cells eG (.L L)).take (i * 33) = EK.cells eG (.L (L.take i)) ∧ (EK.cells eG (.L L)).drop (i * 33) = EK.cells eG (.L (L.drop i)) := by
 have hw : EK.width eG = 33 := rfl
 have ok1 : EK.ok eG (.L (L.take i)) := fun r hr => h r (List.mem_of_mem_take hr)
 have h1 : EK.cells eG (.L L) = EK.cells eG (.L (L.take i)) ++ EK.cells eG (.L (L.drop i)) := by
  rw [aP5, aP5, aP5, ← List.flatMap_append, List.take_append_drop]
 have hl := cells_length ok1
 rw [hw] at hl
 have hl2 : (EK.len eG (.L (L.take i))) = min i L.length := by
  show (L.take i).length = _
  exact List.length_take
 rw [hl2] at hl
 by_cases hi : i ≤ L.length
 ·rw [show min i L.length = i from by omega] at hl
  rw [h1, ← hl]
  exact ⟨List.take_left, List.drop_left⟩
 ·have e1 : L.take i = L := List.take_of_length_le (by omega)
  have e2 : L.drop i = [] := List.drop_of_length_le (by omega)
  have hl3 := cells_length h
  rw [hw] at hl3
  have hl4 : EK.len eG (.L L) = L.length := rfl
  rw [hl4] at hl3
  rw [e1, e2, List.take_of_length_le (by omega), List.drop_of_length_le (by omega)]
  exact ⟨rfl, rfl⟩
theorem dG6 {P : Program} {G : List Glob} {f : FuncId} {fn : Func} (hf : P.funcs[f]? = some fn) (hn : (fn.name == "runtime.NumGoroutine") = false) (hb : fn.body.isSome = true)
  (h : bR5 P f 33) : Kept P G f jQ.sig := by
 obtain ⟨b, hb⟩ := Option.isSome_iff_exists.1 hb
 refine ⟨?_, fn, b, hf, hn, hb⟩
 intro w args ρ hs hp ha hh hg
 have hs : aY [.V, .L, .I, .V, .L] ρ := hs
 match ρ, hs with
 | [d0, d1, d2, d3, d4], hs =>
  obtain ⟨⟨v, rfl⟩, ⟨L, rfl⟩, ⟨i, rfl⟩, ⟨u, rfl⟩, ⟨N, rfl⟩, _⟩ := hs
  obtain ⟨v0, r0, e0, h0, v1, r1, e1, h1, v2, r2, e2, h2, e3⟩ := ha
  have q0 : v0 = v := h0
  obtain ⟨q1, hi⟩ : v1 = .int .i64 i ∧ IntKind.i64.has i := h1
  have q2 : v2 = u := h2
  have q3 : r2 = [] := e3
  subst q0 q1 q2 q3 e2 e1
  have ea : args = #[v0, .int .i64 i, v2] := Array.toList_inj.1 e0
  subst ea
  obtain ⟨p1, p2, p3, p4, p5⟩ : 0 ≤ i ∧ i ≤ L.length ∧ 1 ≤ N.length ∧ L.length ≤ 1000000 ∧ N.length ≤ 1000000 := hp
  obtain ⟨o1, k1⟩ : gU w v0 33 L.length (EK.cells eG (.L L)) ∧ EK.ok eG (.L L) := hh.holds _ (.head _)
  obtain ⟨o2, k2⟩ : gU w v2 33 N.length (EK.cells eG (.L N)) ∧ EK.ok eG (.L N) := hh.holds _ (.tail _ (.head _))
  have hnd := hh.nodup
  have hne : ∀ b, v0.ownBlock = some b → v2.ownBlock ≠ some b := by
   intro b hb1 hb2
   have : owns [D.V v0, .L L, .I i, .V v2, .L N] jQ.sig.heap = [b, b] := by
    simp [owns, jQ.sig, Ch.own, Tm.den, hb1, hb2]
   rw [this] at hnd
   simp at hnd
  have hcall := h w v0 v2 L.length N.length i.toNat _ _ o1 o2 hne (by omega) (by omega) p4 p5 (fun v hv => cells_one k1 v hv) (fun v hv => cells_one k2 v hv)
  rw [show ((i.toNat : Nat) : Int) = i from by omega] at hcall
  refine hcall.mono ?_
  rintro e w' ⟨v', rfl, o3, s1, s2, s3, s4, s5, s6⟩
  have hL : L = L.take i.toNat ++ L.drop i.toNat := (List.take_append_drop _ _).symm
  have hcells : (EK.cells eG (.L L)).take (i.toNat * 33) ++ EK.cells eG (.L N) ++ (EK.cells eG (.L L)).drop (i.toNat * 33) = EK.cells eG (.L (L.take i.toNat ++ N ++ L.drop i.toNat)) := by
   rw [(bX6 k1 _).1, (bX6 k1 _).2]
   simp only [aP5, List.flatMap_append]
  rw [hcells] at o3
  have hlen : (L.take i.toNat ++ N ++ L.drop i.toNat).length = L.length + N.length := by
   simp only [List.length_append, List.length_take, List.length_drop]; omega
  have own0 : ∀ b, v0.ownBlock = some b → b ∈ owns [D.V v0, .L L, .I i, .V v2, .L N] jQ.sig.heap := fun b hb => by
   simp [owns, jQ.sig, Ch.own, Tm.den, hb]
  refine ⟨_, rfl, .inl ⟨[.V v', .L (L.take i.toNat ++ N ++ L.drop i.toNat)], ⟨⟨_, rfl⟩, ⟨_, rfl⟩, trivial⟩, rfl, rfl, ⟨?_, ?_, ?_⟩, ?_, ?_, ⟨s2, s3, s4, s1, ?_⟩⟩⟩
  ·intro c hc
   have hc : c ∈ [Ch.osl (.at 5) eG (.at 6)] := hc
   simp only [List.mem_singleton] at hc
   subst hc
   refine ⟨?_, ?_⟩
   ·show gU w' v' 33 (L.take i.toNat ++ N ++ L.drop i.toNat).length _
    rw [hlen]; exact o3
   ·intro r hr
    have hr : r ∈ L.take i.toNat ++ N ++ L.drop i.toNat := hr
    rcases List.mem_append.1 hr with hr | hr
    ·rcases List.mem_append.1 hr with hr | hr
     ·exact k1 r (List.mem_of_mem_take hr)
     ·exact k2 r hr
    ·exact k1 r (List.mem_of_mem_drop hr)
  ·simp only [owns, jQ.sig, List.flatMap_cons, List.flatMap_nil, Ch.own, List.append_nil]
   cases (Tm.den _ (.at 5)).toV.ownBlock <;> simp
  ·intro c hc b hb
   have hc : c ∈ [Ch.osl (.at 5) eG (.at 6)] := hc
   simp only [List.mem_singleton] at hc
   subst hc
   cases hb
  ·intro b hb
   obtain ⟨c, hc, hcb⟩ := oI.1 hb
   have hc : c ∈ [Ch.osl (.at 5) eG (.at 6)] := hc
   simp only [List.mem_singleton] at hc
   subst hc
   have hb : v'.ownBlock = some b := hcb
   rcases s6 b hb with hb | hb
   ·exact .inl (own0 b hb)
   ·exact .inr hb
  ·intro b hb
   obtain ⟨c, hc, hcb⟩ := iP.1 hb
   have hc : c ∈ [Ch.osl (.at 5) eG (.at 6)] := hc
   simp only [List.mem_singleton] at hc
   subst hc
   cases hcb
  ·intro b hb hb'
   exact s5 b hb (fun he => hb' (own0 b he))
end Go.Vc