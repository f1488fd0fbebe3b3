/-
 The library's strings.IndexByte: its contract.
-/
import Derived.Test.YtfhmokjjjnjhjaaGreatDoorVcd
import Derived.Lib.Bytealg
set_option linter.unusedVariables false
set_option linter.unusedSimpArgs false
open _root_.Go.IntKind (wrap)
namespace Go.Vc
def IxB.post : LD → Prop
 | [.S s, .I c, .I r] => r = Lib.indexByte s.data.toList c.toNat.toUInt8
 | _ => False
def IxB.sig : Sig := eX [.s, .i .u8] [.i .i64] (fun _ => True) IxB.post
theorem indexByte_lt : ∀ (l : List UInt8) (c : UInt8), -1 ≤ Lib.indexByte l c ∧ Lib.indexByte l c ≤ l.length
 | [], _ => by simp [Lib.indexByte]
 | b :: l, c => by
  have h := indexByte_lt l c
  unfold Lib.indexByte
  simp only [List.length_cons]
  split
  ·omega
  ·split <;> omega
theorem bY8 {P : Program} {G : List Glob} {f : FuncId} {fn : Func} (hf : P.funcs[f]? = some fn) (hn : (fn.name == "runtime.NumGoroutine") = false) (hb : fn.body.isSome = true)
  (h : ∀ (s : BA) (c : Int) (w : World), Calls P f #[.string s, .int .u8 c] w fun e w' => e = .returned (.int .i64 (Lib.indexByte s.data.toList c.toNat.toUInt8)) ∧ w' = w) : Kept P G f IxB.sig := by
 obtain ⟨b, hb⟩ := Option.isSome_iff_exists.1 hb
 refine ⟨?_, fn, b, hf, hn, hb⟩
 intro w args ρ hs hp ha hh hg
 have hs : bY [.S, .I] ρ := hs
 match ρ, hs with
 | [d0, d1], hs =>
  obtain ⟨⟨s, rfl⟩, ⟨c, rfl⟩, _⟩ := hs
  obtain ⟨v0, r0, e0, h0, v1, r1, e1, h1, e2⟩ := ha
  have h0 : v0 = .string s ∧ (s.size : Int) ≤ bW := h0
  have h1 : v1 = .int .u8 c ∧ IntKind.u8.has c := h1
  have e2 : r1 = [] := e2
  subst e2
  obtain ⟨ev0, hsz⟩ := h0
  obtain ⟨ev1, hch⟩ := h1
  subst ev0 ev1 e1
  have ea : args = #[.string s, .int .u8 c] := Array.toList_inj.1 e0
  subst ea
  refine (h s c w).mono ?_
  rintro e w' ⟨rfl, rfl⟩
  have hb := indexByte_lt s.data.toList c.toNat.toUInt8
  have hl : s.data.toList.length = s.size := by simp
  have hsz : (s.size : Int) ≤ 9223372036854775807 := hsz
  refine ⟨_, rfl, .inl ⟨[.I (Lib.indexByte s.data.toList c.toNat.toUInt8)], ⟨⟨_, rfl⟩, trivial⟩, rfl, ⟨rfl, ?_⟩, (bJ0 : aN _ [] _), ?_, ?_, ⟨rfl, rfl, rfl, Nat.le_refl _, fun _ _ _ => rfl⟩⟩⟩
  ·show IntKind.i64.has (Lib.indexByte s.data.toList c.toNat.toUInt8)
   rw [bY1]
   omega
  ·intro b hb
   have hb : b ∈ ([] : List Nat) := hb
   cases hb
  ·intro b hb
   have hb : b ∈ ([] : List Nat) := hb
   cases hb
end Go.Vc