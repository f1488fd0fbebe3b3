/-
  The library's functions on texts, at this program: IndexByte and Index at a new line, by walks; SplitSeq's function hands on the texts between new lines; TrimLeft by the shelf's contract. No condition.
-/
import Derived.Test.YtdppcnngoclehaaDoorLexm
import Derived.Test.YtdppcnngoclehaaDoorChecked
import Derived.RangeFuncCalls
import Derived.RangeFuncLeaves
import Derived.OwnWalkIn
import Derived.WalkKit
import Derived.TacticsInMore
import Derived.LoopIn
import Derived.LoopNIn
import Derived.Lib.Strings
import Derived.Lib.Slices
import Derived.Lib.Walk
import Derived.Lib.Bytealg
import Derived.Shelf.Abstract
import Derived.Shelf.Strings.SlTrimAscii
namespace Go.Proofs
open Go.Shelf

def Tryd.trimL_ren : Go.Shelf.Ren := ⟨fun | 161 => 16 | 231 => 26 | 227 => 27 | 233 => 28 | 235 => 29 | 228 => 38 | 197 => 23 | 151 => 39 | 260 => 36 | 152 => 46 | 137 => 50 | 119 => 51 | 224 => 44 | 225 => 43 | 217 => 42 | 266 => 48 | n => n, fun | 9 => 9 | 4 => 4 | 3 => 3 | 5 => 5 | 117 => 66 | 116 => 65 | 0 => 0 | 124 => 69 | 105 => 60 | 21 => 21 | 119 => 77 | 46 => 78 | 139 => 81 | 138 => 80 | n => n, fun | 3 => 0 | 4 => 1 | n => n⟩
theorem Tryd.trimL : Go.Proofs.Lays.n161 Tryd.prog Tryd.trimL_ren := {
  mixed := by kernel_rfl,
  f119 := Tryd.func51.trans (congrArg some (by kernel_rfl)),
  f137 := Tryd.func50.trans (congrArg some (by kernel_rfl)),
  f151 := Tryd.func39.trans (congrArg some (by kernel_rfl)),
  f152 := Tryd.func46.trans (congrArg some (by kernel_rfl)),
  f161 := Tryd.func16.trans (congrArg some (by kernel_rfl)),
  f197 := Tryd.func23.trans (congrArg some (by kernel_rfl)),
  f217 := Tryd.func42.trans (congrArg some (by kernel_rfl)),
  f224 := Tryd.func44.trans (congrArg some (by kernel_rfl)),
  f225 := Tryd.func43.trans (congrArg some (by kernel_rfl)),
  f227 := Tryd.func27.trans (congrArg some (by kernel_rfl)),
  f228 := Tryd.func38.trans (congrArg some (by kernel_rfl)),
  f231 := Tryd.func26.trans (congrArg some (by kernel_rfl)),
  f233 := Tryd.func28.trans (congrArg some (by kernel_rfl)),
  f235 := Tryd.func29.trans (congrArg some (by kernel_rfl)),
  f260 := Tryd.func36.trans (congrArg some (by kernel_rfl)),
  f266 := Tryd.func48.trans (congrArg some (by kernel_rfl)),
  t0 := Tryd.underlying0,
  a0 := Tryd.isAgg0,
  z0 := Tryd.sizeOf0,
  v0 := Tryd.zeroValue0,
  t3 := Tryd.underlying3,
  a3 := Tryd.isAgg3,
  z3 := Tryd.sizeOf3,
  v3 := Tryd.zeroValue3,
  t4 := Tryd.underlying4,
  a4 := Tryd.isAgg4,
  z4 := Tryd.sizeOf4,
  v4 := Tryd.zeroValue4,
  t5 := Tryd.underlying5,
  a5 := Tryd.isAgg5,
  z5 := Tryd.sizeOf5,
  v5 := Tryd.zeroValue5,
  t9 := Tryd.underlying9,
  a9 := Tryd.isAgg9,
  z9 := Tryd.sizeOf9,
  v9 := Tryd.zeroValue9,
  t21 := Tryd.underlying21,
  a21 := Tryd.isAgg21,
  z21 := Tryd.sizeOf21,
  v21 := Tryd.zeroValue21,
  t46 := Tryd.underlying78,
  a46 := Tryd.isAgg78,
  z46 := Tryd.sizeOf78,
  v46 := Tryd.zeroValue78,
  t105 := Tryd.underlying60,
  a105 := Tryd.isAgg60,
  z105 := Tryd.sizeOf60,
  v105 := Tryd.zeroValue60,
  t116 := Tryd.underlying65,
  a116 := Tryd.isAgg65,
  z116 := Tryd.sizeOf65,
  t117 := Tryd.underlying66,
  a117 := Tryd.isAgg66,
  z117 := Tryd.sizeOf66,
  v117 := Tryd.zeroValue66,
  t119 := Tryd.underlying77,
  a119 := Tryd.isAgg77,
  z119 := Tryd.sizeOf77,
  t124 := Tryd.underlying69,
  a124 := Tryd.isAgg69,
  z124 := Tryd.sizeOf69,
  v124 := Tryd.zeroValue69,
  t138 := Tryd.underlying80,
  a138 := Tryd.isAgg80,
  z138 := Tryd.sizeOf80,
  v138 := Tryd.zeroValue80,
  t139 := Tryd.underlying81,
  a139 := Tryd.isAgg81,
  z139 := Tryd.sizeOf81,
  v139 := Tryd.zeroValue81,
  g3 := by kernel_rfl,
  g4 := by kernel_rfl }

set_option maxHeartbeats 1000000 in
set_option maxRecDepth 100000 in
theorem Tryd.stringslite_IndexByte (s : ByteArray) (c : Int) (w : World) :
    Calls Tryd.prog 42 #[.string s, .int .u8 c] w fun e w' => e = .returned (.int .i64 (Lib.indexByte s.data.toList c.toNat.toUInt8)) ∧ w' = w := by
  go_enter Tryd.func42, Tryd.ntmps42
  go_wp2
  rw [run_callFunc_extern Tryd.func48 (by kernel_rfl) (by kernel_rfl) (by kernel_rfl) (e := Extern.BytealgIndexByte.indexByte) (by kernel_rfl), Lib.run_indexByteString]
  simp only [Result.andThen]
  rw [Oper.upon_value]
  go_wp2
  go_ret
  exact ⟨rfl, rfl⟩

set_option maxHeartbeats 2000000 in
set_option maxRecDepth 100000 in
theorem Tryd.stringslite_Index (s : ByteArray) (w : World) :
    Calls Tryd.prog 37 #[.string s, .string ⟨#[10]⟩] w fun e w' => e = .returned (.int .i64 (Lib.indexByte s.data.toList 10)) ∧ w' = w := by
  go_enter Tryd.func37, Tryd.ntmps37
  go_wp2_with (go_at_call 42; refine (Tryd.stringslite_IndexByte _ _ _).mono ?_; rintro e w' ⟨rfl, rfl⟩)
  · rename_i h
    have e : s.data.toList = [10] := by rw [← ByteArray.toList_eq]; exact (beq_iff_eq.1 h).symm
    go_ret
    exact ⟨by rw [e]; rfl, rfl⟩
  · go_ret
    exact ⟨rfl, rfl⟩

set_option maxHeartbeats 1000000 in
theorem Tryd.strings_Index (s : ByteArray) (w : World) :
    Calls Tryd.prog 24 #[.string s, .string ⟨#[10]⟩] w fun e w' => e = .returned (.int .i64 (Lib.indexByte s.data.toList 10)) ∧ w' = w := by
  go_enter Tryd.func24, Tryd.ntmps24
  go_wp2_with (go_at_call 37; refine (Tryd.stringslite_Index _ _).mono ?_; rintro e w' ⟨rfl, rfl⟩)
  go_ret
  exact ⟨rfl, rfl⟩

/-- What still lies in the box. -/
def splLeft (b : Nat) (w : World) : Nat := match w.cell? ⟨b, 0, none⟩ with | some (.string s) => s.size | _ => 0
theorem split_none {l : List UInt8} (h : Lib.indexByte l 10 = -1) : Vc.aC l = [l] := by
  induction l with
  | nil => rfl
  | cons c l ih =>
    unfold Lib.indexByte at h
    have hge := Lib.indexByte_ge l 10
    split at h
    · cases h
    · rename_i hc
      have hl : Lib.indexByte l 10 = -1 := by
        split at h
        · rename_i h'; exact eq_of_beq h'
        · omega
      unfold Vc.aC
      rw [if_neg (by simpa using hc), ih hl]
theorem split_some : ∀ {l : List UInt8} {o : Nat}, Lib.indexByte l 10 = o → o < l.length ∧ Vc.aC l = l.take o :: Vc.aC (l.drop (o + 1))
  | [], o, h => by unfold Lib.indexByte at h; omega
  | c :: l, o, h => by
    unfold Lib.indexByte at h
    have hge := Lib.indexByte_ge l 10
    split at h
    · rename_i hc
      obtain rfl : o = 0 := by omega
      have e : Vc.aC (c :: l) = [] :: Vc.aC l := if_pos (by simpa using hc)
      rw [e]
      exact ⟨by simp, rfl⟩
    · rename_i hc
      split at h
      · omega
      · rename_i h'
        have h' : Lib.indexByte l 10 ≠ -1 := fun e => h' (beq_iff_eq.2 e)
        obtain ⟨k, rfl⟩ : ∃ k, o = k + 1 := ⟨o - 1, by omega⟩
        obtain ⟨g1, g2⟩ := split_some (l := l) (o := k) (by omega)
        have e : Vc.aC (c :: l) = match Vc.aC l with | x :: xs => (c :: x) :: xs | [] => [[c]] := if_neg (by simpa using hc)
        rw [e, g2]
        exact ⟨by simp; omega, by simp⟩
theorem boxAt_cell {w : World} {b : Nat} {v : Value} (h : Vc.fC w b v) : w.cell? ⟨b, 0, none⟩ = some v ∧ w.frozen? ⟨b, 0, none⟩ = false := by
  obtain ⟨e, fz, h, hn⟩ := h
  refine ⟨by simp [World.cell?, h], ?_⟩
  have := hn 0 (by omega)
  simp [World.frozen?, h]
  omega
theorem boxAt_same {w w' : World} {b : Nat} {v : Value} (h : Vc.fC w b v) (hb : w'.heap[b]? = w.heap[b]?) : Vc.fC w' b v := by
  obtain ⟨e, fz, h, hn⟩ := h
  exact ⟨e, fz, hb.trans h, hn⟩
theorem boxAt_set {w : World} {b : Nat} {v u : Value} (h : Vc.fC w b v) : Vc.fC (w.setCell ⟨b, 0, none⟩ u) b u ∧ Vc.dJ w [b] (w.setCell ⟨b, 0, none⟩ u) := by
  obtain ⟨e, fz, h, hn⟩ := h
  refine ⟨⟨e, fz, by simp [World.setCell, Array.getElem?_modify, h], hn⟩, rfl, rfl, rfl, by simp [World.setCell], fun k _ hk => RowKit.Below.heap_setCell w _ u k (fun he => hk (by simp [he]))⟩

set_option maxHeartbeats 4000000 in
set_option maxRecDepth 100000 in
theorem Tryd.split_in (n : Nat) (hn : 3 ≤ n) (l b1 b2 b3 : Nat) (s : ByteArray) (J Jx : List (List UInt8) → World → Prop) (W : World) (d12 : b1 ≠ b2) (d13 : b1 ≠ b3) (h1 : Vc.fC W b1 (.string s)) (h2 : Vc.fC W b2 (.string ⟨#[10]⟩)) (h3 : Vc.fC W b3 (.int .i64 0)) (hs : (s.size : Int) ≤ Vc.aY)
    (hJ : ∀ xs W W', J xs W → Vc.dJ W [b1] W' → J xs W') (_hJx : ∀ xs W W', Jx xs W → Vc.dJ W [b1] W' → Jx xs W')
    (hY : ∀ pre x W1, pre ++ [x] <+: Vc.aC s.data.toList → J pre W1 → ∀ m, YieldAt Fence.wide m Tryd.prog l #[.string ⟨x.toArray⟩] W1 fun e W' =>
      ((e = .returned (.bool true) ∧ J (pre ++ [x]) W') ∨ (e = .returned (.bool false) ∧ Jx (pre ++ [x]) W')) ∧ W1.heap.size ≤ W'.heap.size ∧ ∀ b ∈ [b1, b2, b3], W'.heap[b]? = W1.heap[b]?)
    (h0 : J [] W) : CallsIn Fence.wide n Tryd.prog 22 #[.func (.yield l) #[] #[], Vc.eH b2, Vc.eH b1, Vc.eH b3] W fun e W' => (∃ v, e = .returned v) ∧ (J (Vc.aC s.data.toList) W' ∨ ∃ xs, Jx xs W') := by
  have hn1 : 1 ≤ n := by omega
  refine callsIn_of_wp Tryd.func22 rfl (by trivial) ?_ rfl
  simp only [Vc.eH, Tryd.ntmps22, List.size_toArray, List.length_cons, List.length_nil, Nat.reduceAdd, Nat.reduceSub, Array.replicate_succ, Array.replicate_zero, List.push_toArray, List.append_toArray, List.nil_append, List.cons_append]
  have c2 := boxAt_cell h2
  gi_wp2
  gi_loopw [] (fun wr => ∃ (pre : List (List UInt8)) (t : ByteArray), Vc.aC s.data.toList = pre ++ Vc.aC t.data.toList ∧ J pre wr ∧ t.size ≤ s.size ∧ Vc.fC wr b1 (.string t) ∧ Vc.fC wr b2 (.string ⟨#[10]⟩) ∧ Vc.fC wr b3 (.int .i64 0)) (fun wr => splLeft b1 wr)
  case atStart => exact ⟨[], s, rfl, h0, Nat.le_refl _, h1, h2, h3⟩
  case round =>
    obtain ⟨pre, t, hx, hJs, hle, e1, e2, e3⟩ := hrel
    have k1 := boxAt_cell e1
    have k2 := boxAt_cell e2
    have k3 := boxAt_cell e3
    by_cases hi : Lib.indexByte t.data.toList 10 = -1
    · have hsp := split_none hi
      have hIx : Calls Tryd.prog 24 #[.string t, .string ⟨#[10]⟩] wr fun e w' => e = .returned (.int .i64 (-1)) ∧ w' = wr := (Tryd.strings_Index t wr).mono fun e w' h => by rw [← hi]; exact h
      have hY' := hY pre t.data.toList wr (by rw [hx, hsp]; exact List.prefix_refl _) hJs (n - 1)
      rw [show (⟨t.data.toList.toArray⟩ : ByteArray) = t by rw [Array.toArray_toList]] at hY'
      obtain ⟨fn, tmps, assign, body, hy, hR⟩ := hY'
      gi_wp2_with (refine ⟨trivial, ?_⟩; gi_at_call 24; refine (callsIn_wide.2 hIx).mono ?_; rintro e w' ⟨rfl, rfl⟩)
      refine hR.mono ?_
      rintro e W3 ⟨⟨rfl, hJ3⟩ | ⟨rfl, hJx3⟩, hz, hb⟩
      · gi_wp2
        go_end0
        exact ⟨⟨_, rfl⟩, .inl (by rw [hx, hsp]; exact hJ3)⟩
      · gi_wp2
        go_end0
        exact ⟨⟨_, rfl⟩, .inr ⟨_, hJx3⟩⟩
    · have hge := Lib.indexByte_ge t.data.toList 10
      obtain ⟨o, ho⟩ : ∃ o : Nat, Lib.indexByte t.data.toList 10 = o := ⟨(Lib.indexByte t.data.toList 10).toNat, by omega⟩
      obtain ⟨hlt, hsp⟩ := split_some ho
      have hob : o < t.size := hlt
      have hmx : (t.size : Int) ≤ 9223372036854775807 := by have : Vc.aY = 9223372036854775807 := rfl; omega
      have hIx : Calls Tryd.prog 24 #[.string t, .string ⟨#[10]⟩] wr fun e w' => e = .returned (.int .i64 (o : Int)) ∧ w' = wr := (Tryd.strings_Index t wr).mono fun e w' h => by rw [← ho]; exact h
      have hY' := hY pre (t.data.toList.take o) wr (by rw [hx, hsp]; exact ⟨Vc.aC (t.data.toList.drop (o + 1)), by simp⟩) hJs (n - 1)
      have htk : (⟨(t.data.toList.take o).toArray⟩ : ByteArray) = t.extract 0 o := by
        apply ByteArray.ext
        apply Array.toList_inj.1
        simp [List.extract_eq_take_drop]
      rw [htk] at hY'
      obtain ⟨fn, tmps, assign, body, hy, hR⟩ := hY'
      have hneg : ¬ ((o : Int) < 0) := by omega
      have hw0 : IntKind.wrap .i64 (o : Int) = o := by rw [IntKind.wrap_i64]; omega
      have hw1 : IntKind.wrap .i64 ((o : Int) + 1) = (o : Int) + 1 := by rw [IntKind.wrap_i64]; omega
      gi_wp2_with (refine ⟨trivial, ?_⟩; gi_at_call 24; refine (callsIn_wide.2 hIx).mono ?_; rintro e w' ⟨rfl, rfl⟩)
      refine hR.mono ?_
      rintro e W3 ⟨⟨rfl, hJ3⟩ | ⟨rfl, hJx3⟩, hz, hb⟩
      · have e1' := boxAt_same e1 (hb b1 (by simp))
        have e2' := boxAt_same e2 (hb b2 (by simp))
        have e3' := boxAt_same e3 (hb b3 (by simp))
        have k1' := boxAt_cell e1'
        have k2' := boxAt_cell e2'
        gi_wp2
        obtain ⟨q1, q2⟩ := boxAt_set (u := .string (t.extract (o + 1) t.size)) e1'
        have hdr : (t.extract (o + 1) t.size).data.toList = t.data.toList.drop (o + 1) := by
          have e : (t.extract (o + 1) t.size).data = t.data.extract (o + 1) t.size := by simp
          rw [e, Array.toList_extract, List.extract_eq_take_drop]
          exact List.take_of_length_le (by rw [List.length_drop]; exact Nat.le_refl _)
        have hsz : (t.extract (o + 1) t.size).size = t.size - (o + 1) := by
          show (t.extract (o + 1) t.size).data.toList.length = _
          rw [hdr, List.length_drop]; rfl
        refine ⟨⟨pre ++ [t.data.toList.take o], t.extract (o + 1) t.size, ?_, hJ _ _ _ hJ3 q2, by omega, q1, boxAt_same e2' (RowKit.Below.heap_setCell _ _ _ _ (Ne.symm d12)), boxAt_same e3' (RowKit.Below.heap_setCell _ _ _ _ (Ne.symm d13))⟩, ?_⟩
        · rw [hx, hsp, hdr]; simp
        · unfold splLeft
          rw [k1.1, (boxAt_cell q1).1]
          show (t.extract (o + 1) t.size).size < t.size
          omega
      · gi_wp2
        refine bodyPost_ret (results_none rfl _ _ _) rfl ?_
        exact ⟨⟨_, rfl⟩, .inr ⟨_, hJx3⟩⟩
theorem Tryd.split_ok : Vc.jH Tryd.prog 22 := by
  refine ⟨fun args w => ?_, fun l b1 b2 b3 s J Jx W d12 d13 h1 h2 h3 hs hJ hJx hY h0 => (callsIn_wide (n := 3)).1 (Tryd.split_in 3 (by omega) l b1 b2 b3 s J Jx W d12 d13 h1 h2 h3 hs hJ hJx hY h0)⟩
  exact enters_of Tryd.func22 (by kernel_rfl) rfl args w

theorem blank_in : (fun c : UInt8 => List.contains [(32 : UInt8), 9] c) = Vc.Lx.blank := by
  funext c
  simp only [List.contains, List.elem, Vc.Lx.blank]
  cases c == 32 <;> cases c == 9 <;> rfl
theorem Tryd.trimL_kept {G : List Vc.Glob} : Vc.Kept Tryd.prog G 16 Vc.pW.sig := by
  refine ⟨?_, Tryd.f16, _, Tryd.func16, by kernel_rfl, rfl⟩
  intro w args ρ hs hp ha hh hg
  have hs : Vc.bC [.S, .S] ρ := hs
  match ρ, hs with
  | [d0, d1], hs =>
    obtain ⟨⟨s, rfl⟩, ⟨c, rfl⟩, _⟩ := hs
    have hp : c = ⟨#[32, 9]⟩ := hp
    subst hp
    obtain ⟨v0, r0, e0, h0, v1, r1, e1, h1, e2⟩ := ha
    have h0 : v0 = .string s ∧ (s.size : Int) ≤ Vc.aY := h0
    have h1 : v1 = .string ⟨#[32, 9]⟩ ∧ _ := h1
    have e2 : r1 = [] := e2
    subst e2
    obtain ⟨ev0, hsz⟩ := h0
    obtain ⟨ev1, _⟩ := h1
    subst ev0 ev1 e1
    have ea : args = #[.string s, .string ⟨#[32, 9]⟩] := Array.toList_inj.1 e0
    subst ea
    refine (Any.strings_TrimLeft_laid Tryd.trimL (by kernel_rfl) s ⟨#[32, 9]⟩ w (by decide) (ascii_of_all (by decide))).mono ?_
    rintro e w' ⟨rfl, hb⟩
    have hd : Lib.trimLeftS s.data.toList [32, 9] = s.data.toList.dropWhile Vc.Lx.blank := by
      unfold Lib.trimLeftS; rw [← blank_in]
    have hle : (s.data.toList.dropWhile Vc.Lx.blank).length ≤ s.size := (List.dropWhile_sublist _).length_le
    refine ⟨_, rfl, .inl ⟨[.S (Vc.bx (s.data.toList.dropWhile Vc.Lx.blank))], ⟨⟨_, rfl⟩, trivial⟩, rfl, ⟨?_, ?_⟩, (Vc.xY : Vc.aJ _ [] _), ?_, ?_, ⟨hb.os, hb.tape, hb.output, hb.size, fun b hb' _ => hb.block b hb'⟩⟩⟩
    · show Value.string ⟨(Lib.trimLeftS s.data.toList [32, 9]).toArray⟩ = _
      rw [hd]; rfl
    · show (((s.data.toList.dropWhile Vc.Lx.blank).length : Nat) : Int) ≤ Vc.aY
      omega
    · intro b hb
      have hb : b ∈ ([] : List Nat) := hb
      cases hb
    · intro b hb
      have hb : b ∈ ([] : List Nat) := hb
      cases hb
end Go.Proofs
