/-
  The library's functions on texts, at this program: IndexByte and Index at a new line, by walks; SplitSeq's function hands on the texts between new lines; TrimLeft by the shelf's contract. No condition.
-/
import Derived.Test.YtfhmokjjjnjhjaaGreatDoorLexm
import Derived.Test.YtfhmokjjjnjhjaaGreatDoorChecked
import Derived.RangeFuncCalls
import Derived.RangeFuncLeaves
import Derived.OwnWalkIn
import Derived.WalkKit
import Derived.TacticsInMore
import Derived.LoopIn
import Derived.LoopNIn
import Derived.Lib.Strings
import Derived.Lib.Slices
import Derived.Lib.Walk
import Derived.Lib.Bytealg
import Derived.Shelf.Abstract
import Derived.Shelf.Strings.SlTrimAscii
namespace Go.Proofs
open Go.Shelf

def Tryz.trimL_ren : Go.Shelf.Ren := ⟨fun | 161 => 78 | 231 => 114 | 227 => 115 | 233 => 116 | 235 => 117 | 228 => 146 | 197 => 111 | 151 => 147 | 260 => 144 | 152 => 171 | 137 => 181 | 119 => 182 | 224 => 169 | 225 => 168 | 217 => 167 | 266 => 179 | n => n, fun | 9 => 9 | 4 => 4 | 3 => 3 | 5 => 5 | 117 => 186 | 116 => 185 | 0 => 0 | 124 => 189 | 105 => 180 | 21 => 21 | 119 => 232 | 46 => 171 | 139 => 235 | 138 => 234 | n => n, fun | 3 => 7 | 4 => 8 | n => n⟩
theorem Tryz.trimL : Go.Proofs.Lays.n161 Tryz.prog Tryz.trimL_ren := {
  mixed := by kernel_rfl,
  f119 := Tryz.func182.trans (congrArg some (by kernel_rfl)),
  f137 := Tryz.func181.trans (congrArg some (by kernel_rfl)),
  f151 := Tryz.func147.trans (congrArg some (by kernel_rfl)),
  f152 := Tryz.func171.trans (congrArg some (by kernel_rfl)),
  f161 := Tryz.func78.trans (congrArg some (by kernel_rfl)),
  f197 := Tryz.func111.trans (congrArg some (by kernel_rfl)),
  f217 := Tryz.func167.trans (congrArg some (by kernel_rfl)),
  f224 := Tryz.func169.trans (congrArg some (by kernel_rfl)),
  f225 := Tryz.func168.trans (congrArg some (by kernel_rfl)),
  f227 := Tryz.func115.trans (congrArg some (by kernel_rfl)),
  f228 := Tryz.func146.trans (congrArg some (by kernel_rfl)),
  f231 := Tryz.func114.trans (congrArg some (by kernel_rfl)),
  f233 := Tryz.func116.trans (congrArg some (by kernel_rfl)),
  f235 := Tryz.func117.trans (congrArg some (by kernel_rfl)),
  f260 := Tryz.func144.trans (congrArg some (by kernel_rfl)),
  f266 := Tryz.func179.trans (congrArg some (by kernel_rfl)),
  t0 := Tryz.underlying0,
  a0 := Tryz.isAgg0,
  z0 := Tryz.sizeOf0,
  v0 := Tryz.zeroValue0,
  t3 := Tryz.underlying3,
  a3 := Tryz.isAgg3,
  z3 := Tryz.sizeOf3,
  v3 := Tryz.zeroValue3,
  t4 := Tryz.underlying4,
  a4 := Tryz.isAgg4,
  z4 := Tryz.sizeOf4,
  v4 := Tryz.zeroValue4,
  t5 := Tryz.underlying5,
  a5 := Tryz.isAgg5,
  z5 := Tryz.sizeOf5,
  v5 := Tryz.zeroValue5,
  t9 := Tryz.underlying9,
  a9 := Tryz.isAgg9,
  z9 := Tryz.sizeOf9,
  v9 := Tryz.zeroValue9,
  t21 := Tryz.underlying21,
  a21 := Tryz.isAgg21,
  z21 := Tryz.sizeOf21,
  v21 := Tryz.zeroValue21,
  t46 := Tryz.underlying171,
  a46 := Tryz.isAgg171,
  z46 := Tryz.sizeOf171,
  v46 := Tryz.zeroValue171,
  t105 := Tryz.underlying180,
  a105 := Tryz.isAgg180,
  z105 := Tryz.sizeOf180,
  v105 := Tryz.zeroValue180,
  t116 := Tryz.underlying185,
  a116 := Tryz.isAgg185,
  z116 := Tryz.sizeOf185,
  t117 := Tryz.underlying186,
  a117 := Tryz.isAgg186,
  z117 := Tryz.sizeOf186,
  v117 := Tryz.zeroValue186,
  t119 := Tryz.underlying232,
  a119 := Tryz.isAgg232,
  z119 := Tryz.sizeOf232,
  t124 := Tryz.underlying189,
  a124 := Tryz.isAgg189,
  z124 := Tryz.sizeOf189,
  v124 := Tryz.zeroValue189,
  t138 := Tryz.underlying234,
  a138 := Tryz.isAgg234,
  z138 := Tryz.sizeOf234,
  v138 := Tryz.zeroValue234,
  t139 := Tryz.underlying235,
  a139 := Tryz.isAgg235,
  z139 := Tryz.sizeOf235,
  v139 := Tryz.zeroValue235,
  g3 := by kernel_rfl,
  g4 := by kernel_rfl }

set_option maxHeartbeats 1000000 in
set_option maxRecDepth 100000 in
theorem Tryz.stringslite_IndexByte (s : ByteArray) (c : Int) (w : World) :
    Calls Tryz.prog 167 #[.string s, .int .u8 c] w fun e w' => e = .returned (.int .i64 (Lib.indexByte s.data.toList c.toNat.toUInt8)) ∧ w' = w := by
  go_enter Tryz.func167, Tryz.ntmps167
  go_wp2
  rw [run_callFunc_extern Tryz.func179 (by kernel_rfl) (by kernel_rfl) (by kernel_rfl) (e := Extern.BytealgIndexByte.indexByte) (by kernel_rfl), Lib.run_indexByteString]
  simp only [Result.andThen]
  rw [Oper.upon_value]
  go_wp2
  go_ret
  exact ⟨rfl, rfl⟩

set_option maxHeartbeats 2000000 in
set_option maxRecDepth 100000 in
theorem Tryz.stringslite_Index (s : ByteArray) (w : World) :
    Calls Tryz.prog 145 #[.string s, .string ⟨#[10]⟩] w fun e w' => e = .returned (.int .i64 (Lib.indexByte s.data.toList 10)) ∧ w' = w := by
  go_enter Tryz.func145, Tryz.ntmps145
  go_wp2_with (go_at_call 167; refine (Tryz.stringslite_IndexByte _ _ _).mono ?_; rintro e w' ⟨rfl, rfl⟩)
  · rename_i h
    have e : s.data.toList = [10] := by rw [← ByteArray.toList_eq]; exact (beq_iff_eq.1 h).symm
    go_ret
    exact ⟨by rw [e]; rfl, rfl⟩
  · go_ret
    exact ⟨rfl, rfl⟩

set_option maxHeartbeats 1000000 in
theorem Tryz.strings_Index (s : ByteArray) (w : World) :
    Calls Tryz.prog 112 #[.string s, .string ⟨#[10]⟩] w fun e w' => e = .returned (.int .i64 (Lib.indexByte s.data.toList 10)) ∧ w' = w := by
  go_enter Tryz.func112, Tryz.ntmps112
  go_wp2_with (go_at_call 145; refine (Tryz.stringslite_Index _ _).mono ?_; rintro e w' ⟨rfl, rfl⟩)
  go_ret
  exact ⟨rfl, rfl⟩

/-- What still lies in the box. -/
def splLeft (b : Nat) (w : World) : Nat := match w.cell? ⟨b, 0, none⟩ with | some (.string s) => s.size | _ => 0
theorem split_none {l : List UInt8} (h : Lib.indexByte l 10 = -1) : Vc.aS l = [l] := by
  induction l with
  | nil => rfl
  | cons c l ih =>
    unfold Lib.indexByte at h
    have hge := Lib.indexByte_ge l 10
    split at h
    · cases h
    · rename_i hc
      have hl : Lib.indexByte l 10 = -1 := by
        split at h
        · rename_i h'; exact eq_of_beq h'
        · omega
      unfold Vc.aS
      rw [if_neg (by simpa using hc), ih hl]
theorem split_some : ∀ {l : List UInt8} {o : Nat}, Lib.indexByte l 10 = o → o < l.length ∧ Vc.aS l = l.take o :: Vc.aS (l.drop (o + 1))
  | [], o, h => by unfold Lib.indexByte at h; omega
  | c :: l, o, h => by
    unfold Lib.indexByte at h
    have hge := Lib.indexByte_ge l 10
    split at h
    · rename_i hc
      obtain rfl : o = 0 := by omega
      have e : Vc.aS (c :: l) = [] :: Vc.aS l := if_pos (by simpa using hc)
      rw [e]
      exact ⟨by simp, rfl⟩
    · rename_i hc
      split at h
      · omega
      · rename_i h'
        have h' : Lib.indexByte l 10 ≠ -1 := fun e => h' (beq_iff_eq.2 e)
        obtain ⟨k, rfl⟩ : ∃ k, o = k + 1 := ⟨o - 1, by omega⟩
        obtain ⟨g1, g2⟩ := split_some (l := l) (o := k) (by omega)
        have e : Vc.aS (c :: l) = match Vc.aS l with | x :: xs => (c :: x) :: xs | [] => [[c]] := if_neg (by simpa using hc)
        rw [e, g2]
        exact ⟨by simp; omega, by simp⟩
theorem boxAt_cell {w : World} {b : Nat} {v : Value} (h : Vc.iV w b v) : w.cell? ⟨b, 0, none⟩ = some v ∧ w.frozen? ⟨b, 0, none⟩ = false := by
  obtain ⟨e, fz, h, hn⟩ := h
  refine ⟨by simp [World.cell?, h], ?_⟩
  have := hn 0 (by omega)
  simp [World.frozen?, h]
  omega
theorem boxAt_same {w w' : World} {b : Nat} {v : Value} (h : Vc.iV w b v) (hb : w'.heap[b]? = w.heap[b]?) : Vc.iV w' b v := by
  obtain ⟨e, fz, h, hn⟩ := h
  exact ⟨e, fz, hb.trans h, hn⟩
theorem boxAt_set {w : World} {b : Nat} {v u : Value} (h : Vc.iV w b v) : Vc.iV (w.setCell ⟨b, 0, none⟩ u) b u ∧ Vc.eY w [b] (w.setCell ⟨b, 0, none⟩ u) := by
  obtain ⟨e, fz, h, hn⟩ := h
  refine ⟨⟨e, fz, by simp [World.setCell, Array.getElem?_modify, h], hn⟩, rfl, rfl, rfl, by simp [World.setCell], fun k _ hk => RowKit.Below.heap_setCell w _ u k (fun he => hk (by simp [he]))⟩

set_option maxHeartbeats 4000000 in
set_option maxRecDepth 100000 in
theorem Tryz.split_in (n : Nat) (hn : 3 ≤ n) (l b1 b2 b3 : Nat) (s : ByteArray) (J Jx : List (List UInt8) → World → Prop) (W : World) (d12 : b1 ≠ b2) (d13 : b1 ≠ b3) (h1 : Vc.iV W b1 (.string s)) (h2 : Vc.iV W b2 (.string ⟨#[10]⟩)) (h3 : Vc.iV W b3 (.int .i64 0)) (hs : (s.size : Int) ≤ Vc.bW)
    (hJ : ∀ xs W W', J xs W → Vc.eY W [b1] W' → J xs W') (_hJx : ∀ xs W W', Jx xs W → Vc.eY W [b1] W' → Jx xs W')
    (hY : ∀ pre x W1, pre ++ [x] <+: Vc.aS s.data.toList → J pre W1 → ∀ m, YieldAt Fence.wide m Tryz.prog l #[.string ⟨x.toArray⟩] W1 fun e W' =>
      ((e = .returned (.bool true) ∧ J (pre ++ [x]) W') ∨ (e = .returned (.bool false) ∧ Jx (pre ++ [x]) W')) ∧ W1.heap.size ≤ W'.heap.size ∧ ∀ b ∈ [b1, b2, b3], W'.heap[b]? = W1.heap[b]?)
    (h0 : J [] W) : CallsIn Fence.wide n Tryz.prog 110 #[.func (.yield l) #[] #[], Vc.iK b2, Vc.iK b1, Vc.iK b3] W fun e W' => (∃ v, e = .returned v) ∧ (J (Vc.aS s.data.toList) W' ∨ ∃ xs, Jx xs W') := by
  have hn1 : 1 ≤ n := by omega
  refine callsIn_of_wp Tryz.func110 rfl (by trivial) ?_ rfl
  simp only [Vc.iK, Tryz.ntmps110, List.size_toArray, List.length_cons, List.length_nil, Nat.reduceAdd, Nat.reduceSub, Array.replicate_succ, Array.replicate_zero, List.push_toArray, List.append_toArray, List.nil_append, List.cons_append]
  have c2 := boxAt_cell h2
  gi_wp2
  gi_loopw [] (fun wr => ∃ (pre : List (List UInt8)) (t : ByteArray), Vc.aS s.data.toList = pre ++ Vc.aS t.data.toList ∧ J pre wr ∧ t.size ≤ s.size ∧ Vc.iV wr b1 (.string t) ∧ Vc.iV wr b2 (.string ⟨#[10]⟩) ∧ Vc.iV wr b3 (.int .i64 0)) (fun wr => splLeft b1 wr)
  case atStart => exact ⟨[], s, rfl, h0, Nat.le_refl _, h1, h2, h3⟩
  case round =>
    obtain ⟨pre, t, hx, hJs, hle, e1, e2, e3⟩ := hrel
    have k1 := boxAt_cell e1
    have k2 := boxAt_cell e2
    have k3 := boxAt_cell e3
    by_cases hi : Lib.indexByte t.data.toList 10 = -1
    · have hsp := split_none hi
      have hIx : Calls Tryz.prog 112 #[.string t, .string ⟨#[10]⟩] wr fun e w' => e = .returned (.int .i64 (-1)) ∧ w' = wr := (Tryz.strings_Index t wr).mono fun e w' h => by rw [← hi]; exact h
      have hY' := hY pre t.data.toList wr (by rw [hx, hsp]; exact List.prefix_refl _) hJs (n - 1)
      rw [show (⟨t.data.toList.toArray⟩ : ByteArray) = t by rw [Array.toArray_toList]] at hY'
      obtain ⟨fn, tmps, assign, body, hy, hR⟩ := hY'
      gi_wp2_with (refine ⟨trivial, ?_⟩; gi_at_call 112; refine (callsIn_wide.2 hIx).mono ?_; rintro e w' ⟨rfl, rfl⟩)
      refine hR.mono ?_
      rintro e W3 ⟨⟨rfl, hJ3⟩ | ⟨rfl, hJx3⟩, hz, hb⟩
      · gi_wp2
        go_end0
        exact ⟨⟨_, rfl⟩, .inl (by rw [hx, hsp]; exact hJ3)⟩
      · gi_wp2
        go_end0
        exact ⟨⟨_, rfl⟩, .inr ⟨_, hJx3⟩⟩
    · have hge := Lib.indexByte_ge t.data.toList 10
      obtain ⟨o, ho⟩ : ∃ o : Nat, Lib.indexByte t.data.toList 10 = o := ⟨(Lib.indexByte t.data.toList 10).toNat, by omega⟩
      obtain ⟨hlt, hsp⟩ := split_some ho
      have hob : o < t.size := hlt
      have hmx : (t.size : Int) ≤ 9223372036854775807 := by have : Vc.bW = 9223372036854775807 := rfl; omega
      have hIx : Calls Tryz.prog 112 #[.string t, .string ⟨#[10]⟩] wr fun e w' => e = .returned (.int .i64 (o : Int)) ∧ w' = wr := (Tryz.strings_Index t wr).mono fun e w' h => by rw [← ho]; exact h
      have hY' := hY pre (t.data.toList.take o) wr (by rw [hx, hsp]; exact ⟨Vc.aS (t.data.toList.drop (o + 1)), by simp⟩) hJs (n - 1)
      have htk : (⟨(t.data.toList.take o).toArray⟩ : ByteArray) = t.extract 0 o := by
        apply ByteArray.ext
        apply Array.toList_inj.1
        simp [List.extract_eq_take_drop]
      rw [htk] at hY'
      obtain ⟨fn, tmps, assign, body, hy, hR⟩ := hY'
      have hneg : ¬ ((o : Int) < 0) := by omega
      have hw0 : IntKind.wrap .i64 (o : Int) = o := by rw [IntKind.wrap_i64]; omega
      have hw1 : IntKind.wrap .i64 ((o : Int) + 1) = (o : Int) + 1 := by rw [IntKind.wrap_i64]; omega
      gi_wp2_with (refine ⟨trivial, ?_⟩; gi_at_call 112; refine (callsIn_wide.2 hIx).mono ?_; rintro e w' ⟨rfl, rfl⟩)
      refine hR.mono ?_
      rintro e W3 ⟨⟨rfl, hJ3⟩ | ⟨rfl, hJx3⟩, hz, hb⟩
      · have e1' := boxAt_same e1 (hb b1 (by simp))
        have e2' := boxAt_same e2 (hb b2 (by simp))
        have e3' := boxAt_same e3 (hb b3 (by simp))
        have k1' := boxAt_cell e1'
        have k2' := boxAt_cell e2'
        gi_wp2
        obtain ⟨q1, q2⟩ := boxAt_set (u := .string (t.extract (o + 1) t.size)) e1'
        have hdr : (t.extract (o + 1) t.size).data.toList = t.data.toList.drop (o + 1) := by
          have e : (t.extract (o + 1) t.size).data = t.data.extract (o + 1) t.size := by simp
          rw [e, Array.toList_extract, List.extract_eq_take_drop]
          exact List.take_of_length_le (by rw [List.length_drop]; exact Nat.le_refl _)
        have hsz : (t.extract (o + 1) t.size).size = t.size - (o + 1) := by
          show (t.extract (o + 1) t.size).data.toList.length = _
          rw [hdr, List.length_drop]; rfl
        refine ⟨⟨pre ++ [t.data.toList.take o], t.extract (o + 1) t.size, ?_, hJ _ _ _ hJ3 q2, by omega, q1, boxAt_same e2' (RowKit.Below.heap_setCell _ _ _ _ (Ne.symm d12)), boxAt_same e3' (RowKit.Below.heap_setCell _ _ _ _ (Ne.symm d13))⟩, ?_⟩
        · rw [hx, hsp, hdr]; simp
        · unfold splLeft
          rw [k1.1, (boxAt_cell q1).1]
          show (t.extract (o + 1) t.size).size < t.size
          omega
      · gi_wp2
        refine bodyPost_ret (results_none rfl _ _ _) rfl ?_
        exact ⟨⟨_, rfl⟩, .inr ⟨_, hJx3⟩⟩
theorem Tryz.split_ok : Vc.nC Tryz.prog 110 := by
  refine ⟨fun args w => ?_, fun l b1 b2 b3 s J Jx W d12 d13 h1 h2 h3 hs hJ hJx hY h0 => (callsIn_wide (n := 3)).1 (Tryz.split_in 3 (by omega) l b1 b2 b3 s J Jx W d12 d13 h1 h2 h3 hs hJ hJx hY h0)⟩
  exact enters_of Tryz.func110 (by kernel_rfl) rfl args w

theorem blank_in : (fun c : UInt8 => List.contains [(32 : UInt8), 9] c) = Vc.Lx.blank := by
  funext c
  simp only [List.contains, List.elem, Vc.Lx.blank]
  cases c == 32 <;> cases c == 9 <;> rfl
theorem Tryz.trimL_kept {G : List Vc.Glob} : Vc.Kept Tryz.prog G 78 Vc.vS.sig := by
  refine ⟨?_, Tryz.f78, _, Tryz.func78, by kernel_rfl, rfl⟩
  intro w args ρ hs hp ha hh hg
  have hs : Vc.bY [.S, .S] ρ := hs
  match ρ, hs with
  | [d0, d1], hs =>
    obtain ⟨⟨s, rfl⟩, ⟨c, rfl⟩, _⟩ := hs
    have hp : c = ⟨#[32, 9]⟩ := hp
    subst hp
    obtain ⟨v0, r0, e0, h0, v1, r1, e1, h1, e2⟩ := ha
    have h0 : v0 = .string s ∧ (s.size : Int) ≤ Vc.bW := h0
    have h1 : v1 = .string ⟨#[32, 9]⟩ ∧ _ := h1
    have e2 : r1 = [] := e2
    subst e2
    obtain ⟨ev0, hsz⟩ := h0
    obtain ⟨ev1, _⟩ := h1
    subst ev0 ev1 e1
    have ea : args = #[.string s, .string ⟨#[32, 9]⟩] := Array.toList_inj.1 e0
    subst ea
    refine (Any.strings_TrimLeft_laid Tryz.trimL (by kernel_rfl) s ⟨#[32, 9]⟩ w (by decide) (ascii_of_all (by decide))).mono ?_
    rintro e w' ⟨rfl, hb⟩
    have hd : Lib.trimLeftS s.data.toList [32, 9] = s.data.toList.dropWhile Vc.Lx.blank := by
      unfold Lib.trimLeftS; rw [← blank_in]
    have hle : (s.data.toList.dropWhile Vc.Lx.blank).length ≤ s.size := (List.dropWhile_sublist _).length_le
    refine ⟨_, rfl, .inl ⟨[.S (Vc.bx (s.data.toList.dropWhile Vc.Lx.blank))], ⟨⟨_, rfl⟩, trivial⟩, rfl, ⟨?_, ?_⟩, (Vc.bJ0 : Vc.aN _ [] _), ?_, ?_, ⟨hb.os, hb.tape, hb.output, hb.size, fun b hb' _ => hb.block b hb'⟩⟩⟩
    · show Value.string ⟨(Lib.trimLeftS s.data.toList [32, 9]).toArray⟩ = _
      rw [hd]; rfl
    · show (((s.data.toList.dropWhile Vc.Lx.blank).length : Nat) : Int) ≤ Vc.bW
      omega
    · intro b hb
      have hb : b ∈ ([] : List Nat) := hb
      cases hb
    · intro b hb
      have hb : b ∈ ([] : List Nat) := hb
      cases hb
end Go.Proofs
