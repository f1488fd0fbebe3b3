/-
  The library's slices.Insert at table entries: what stood ahead of a place, what is inserted, what stood from there on; in place, or in a new row.
-/
import Derived.Test.YtmgeaephkagdiaaGreatDoorChecked
import Derived.Test.YtmgeaephkagdiaaGreatDoorTabi
import Derived.Shelf.RegionOpenPlain
import Derived.WalkKit
import Derived.Lib.Walk
import Derived.Lib.SliceRun
import Derived.Lib.AppendZeros
import Derived.Lib.Overlaps
import Derived.Lib.AppendZerosOnto
import Derived.Laws.Externs
import Derived.Laws.IdiomCopy
import Derived.Laws.NewBlocks
set_option linter.unusedVariables false
set_option linter.unusedSimpArgs false
namespace Go.Proofs.YtmgeaephkagdiaaGreatDoor.Ins
open Go.Shelf Go.RowKit Go.Lib Go.Vc

theorem wp_copy_runI {P : Program} (w : World) {o : Oper} {a : Act} {K : Act → World → Prop} {Q : Exit → Act → World → Prop} (d s : Operand) (t t' : TypeId)
    (ho : o.op = .call { callee := .builtin .copy, args := #[d, s], argTypes := #[t, t'] }) (v u : Value) (hd : a.eval d = v) (hs : a.eval s = u) {v' : Value} {w' : World}
    (hr : (Builtin.copy_ #[t, t'] o.type #[v, u]).run P w = .ok v' w') (h : K (a.put o.dst v') w') : o.wp P a w K Q := by
  unfold Oper.wp execOp
  simp only [ho, resolve, invoke, builtin, Sem.run_bind, Sem.run_pure, Result.andThen_ok, List.map_toArray, List.map_cons, List.map_nil, hd, hs, hr]
  exact h

theorem wpList_copy_runI {P : Program} (w : World) {ops : Array Oper} {rest : List Oper} {o : Oper} {a : Act} {Q : Exit → Act → World → Prop} (hgd : o.guard = none) (d s : Operand) (t t' : TypeId)
    (ho : o.op = .call { callee := .builtin .copy, args := #[d, s], argTypes := #[t, t'] }) (v u : Value) (hd : a.eval d = v) (hs : a.eval s = u) {v' : Value} {w' : World}
    (hr : (Builtin.copy_ #[t, t'] o.type #[v, u]).run P w = .ok v' w') (h : wpList P ops Q rest (a.put o.dst v') w') : wpList P ops Q (o :: rest) a w :=
  wpList_plain hgd fun _ hK => wp_copy_runI w d s t t' ho v u hd hs hr (hK _ _ h)

theorem step_copy_runI {P : Program} {ops : Array Oper} {o : Oper} {a : Act} {w : World} {K : Act → World → Prop} {Q : Exit → Act → World → Prop} {E : Prop}
    (hg : o.guard = none) (d x : Operand) (dT sT : TypeId) (hop : o.op = Op.call { callee := Callee.builtin Builtin.copy, args := #[d, x], argTypes := #[dT, sT] })
    (v u : Value) (hd : a.eval d = v) (hx : a.eval x = u) {v' : Value} {w' : World} (hr : (Builtin.copy_ #[dT, sT] o.type #[v, u]).run P w = .ok v' w') (hK : K (a.put o.dst v') w') :
    if Region.wanted o (yielded ops a.tmps) = true then Oper.wp P o a w K Q else E := by
  have hw : Region.wanted o (yielded ops a.tmps) = true := by simp [Region.wanted, hg]
  rw [if_pos hw]
  unfold Oper.wp
  simp [execOp, hop, resolve, invoke, builtin, hd, hx, hr, Result.andThen]
  exact hK

/-- 'copy' of elements of es cells each. -/
theorem run_copy_es {P : Program} (es : Nat) (w : World) (dT sT ty elem : TypeId) (b o dLen dCap : Nat) (a : Addr) (sLen sCap n : Nat) (cs : List Value)
    (hu : P.underlying dT = some (.slice elem)) (hs : (P.info? elem).map (·.size) = some es) (hn : n = Nat.min sLen dLen) (hl : cs.length = n * es)
    (hsrc : ∀ j v, cs[j]? = some v → w.cell? (a.add j) = some v) (hc : ∀ j, j < cs.length → (w.cell? ⟨b, o + j, none⟩).isSome = true) (hf : ∀ j, j < cs.length → w.frozen? ⟨b, o + j, none⟩ = false) (h1 : ∀ v ∈ cs, v.oneCell' = true) :
    (Builtin.copy_ #[dT, sT] ty #[.slice (some ⟨b, o, none⟩) dLen dCap, .slice (some a) sLen sCap]).run P w = .ok (goInt n) (w.setCells b o cs) := by
  have hl' := run_loadCells_list (P := P) w a cs hsrc
  have hst := run_storeCells_cells (P := P) b o cs 0 w (by simpa using hc) (by simpa using hf) h1
  cases hq : P.info? elem with
  | none => simp [hq] at hs
  | some i =>
    have hi : i.size = es := by simpa [hq] using hs
    simp [Builtin.copy_, run_underlying hu, Builtin.lenOf, Builtin.firstCells, sizeOf, typeInfo, hq, hi, ← hn, ← hl, hl', hst]
    try rfl

theorem isSome_setCells (b : Nat) (vs : List Value) (o : Nat) (w : World) (h : ∀ j, j < vs.length → (w.cell? ⟨b, o + j, none⟩).isSome = true) (k : Nat) (hk : (w.cell? ⟨b, k, none⟩).isSome = true) : ((w.setCells b o vs).cell? ⟨b, k, none⟩).isSome = true := by
  by_cases hin : o ≤ k ∧ k < o + vs.length
  · have := World.cell?_setCells_in b vs o w h (k - o) (by omega)
    rw [show o + (k - o) = k by omega] at this
    rw [this]; rfl
  · rw [World.cell?_setCells_out b vs o w ⟨b, k, none⟩ (fun _ _ => by show k < o ∨ o + vs.length ≤ k; omega)]
    exact hk

set_option maxHeartbeats 4000000 in
set_option maxRecDepth 100000 in
/-- THERE IS ROOM, i < len(s): in place. -/
theorem shift (b off n c i vb voff m vc : Nat) (cs vs : List Value) (w : World) (hi : i < n) (hm : 0 < m) (hroom : n + m ≤ c) (hc63 : c ≤ 9223372036854775807) (hvb : vb ≠ b)
    (hcl : cs.length = n * 33) (hvl : vs.length = m * 33)
    (hcs : ∀ j v, cs[j]? = some v → w.cell? ⟨b, off + j, none⟩ = some v) (hsp : ∀ j, j < (n + m) * 33 → (w.cell? ⟨b, off + j, none⟩).isSome = true) (hfz : ∀ j, j < (n + m) * 33 → w.frozen? ⟨b, off + j, none⟩ = false)
    (hvs : ∀ j v, vs[j]? = some v → w.cell? ⟨vb, voff + j, none⟩ = some v) (h1c : ∀ v ∈ cs, v.oneCell' = true) (h1v : ∀ v ∈ vs, v.oneCell' = true)
    (tA tB : TypeId) (kA kB : Nat) (hsa : w.shape? vb = some (tA, kA)) (hsb : w.shape? b = some (tB, kB)) (hkB : kB ≠ 0) (hfa : w.frozen? ⟨vb, voff, none⟩ = false) (hfe : w.frozen? ⟨vb, kA, none⟩ = false) :
    Calls Tryz.prog 117 #[.slice (some ⟨b, off, none⟩) n c, .int .i64 i, .slice (some ⟨vb, voff, none⟩) m vc] w fun e w' =>
      e = .returned (.slice (some ⟨b, off, none⟩) (n + m) c) ∧ w' = (w.drew.setCells b (off + (i + m) * 33) (cs.drop (i * 33))).setCells b (off + i * 33) vs := by
  have uS : Tryz.prog.underlying 72 = some (.slice 138) := Tryz.underlying72
  have hz1 : ¬ ((m : Int) = 0) := by omega
  have hz2 : ¬ ((i : Int) = (n : Int)) := by omega
  have hsz : (Tryz.prog.info? 138).map (·.size) = some 33 := by kernel_rfl
  have hszr : ∀ w, (Go.sizeOf 138).run Tryz.prog w = .ok 33 w := fun w => by
    cases hq : Tryz.prog.info? 138 with
    | none => rw [hq] at hsz; cases hsz
    | some i0 => rw [hq] at hsz; simp at hsz; simp [sizeOf, typeInfo, hq, hsz]
  have hov : ∀ lb cb, (callFunc 150 #[.slice (some ⟨vb, voff, none⟩) m vc, .slice (some ⟨b, off + (i + m) * 33, none⟩) lb cb]).run Tryz.prog w = .ok (.value (.bool false)) w := fun lb cb => by
    rw [run_callFunc_extern Tryz.func150 (by kernel_rfl) (by kernel_rfl) (by kernel_rfl) (e := Extern.SlicesOverlaps.overlaps #[72, 72] #[4]) (by kernel_rfl),
      Lib.run_overlaps_apart w 72 4 138 uS 33 hszr ⟨vb, voff, none⟩ ⟨b, off + (i + m) * 33, none⟩ m vc lb cb hvb tA tB kA kB hsa hsb hkB hfa hfe]
    rfl
  have hdl : (cs.drop (i * 33)).length = (n - i) * 33 := by rw [List.length_drop, hcl]; omega
  have mixed : Tryz.prog.follows .mixedOrders = true := by kernel_rfl
  have hw1 : IntKind.i64.wrap ((i : Int) + (m : Int)) = (i : Int) + (m : Int) := by rw [IntKind.wrap_i64]; omega
  have hb1 : (0 : Int) ≤ (i : Int) + (m : Int) := by omega
  have hin : i ≤ n := by omega
  have htn : ((i : Int) + (m : Int)).toNat = i + m := by omega
  have hb2 : ¬ (c = i + m) := by omega
  have hb3 : (i : Int) ≤ (n : Int) + (m : Int) := by omega
  have hb4 : ¬ (c = i) := by omega
  have hcp1 : ∀ ty dc sc, (Builtin.copy_ #[72, 72] ty #[.slice (some ⟨b, off + (i + m) * 33, none⟩) (n + m - (i + m)) dc, .slice (some ⟨b, off + i * 33, none⟩) (n + m - i) sc]).run Tryz.prog w.drew = .ok (goInt (n - i : Nat)) (w.drew.setCells b (off + (i + m) * 33) (cs.drop (i * 33))) := fun ty dc sc =>
    run_copy_es 33 w.drew _ _ ty 138 b (off + (i + m) * 33) (n + m - (i + m)) dc ⟨b, off + i * 33, none⟩ (n + m - i) sc (n - i) (cs.drop (i * 33)) uS hsz (by simp only [Nat.min_def]; split <;> omega) hdl
      (fun j v hj => by rw [Addr.add_lit, Nat.add_assoc]; exact hcs (i * 33 + j) v (by rwa [List.getElem?_drop] at hj))
      (fun j hj => by rw [Nat.add_assoc]; exact hsp _ (by omega)) (fun j hj => by rw [Nat.add_assoc]; exact hfz _ (by omega)) (fun v hv => h1c v (List.mem_of_mem_drop hv))
  obtain ⟨W1, hW1⟩ : ∃ W1, W1 = w.drew.setCells b (off + (i + m) * 33) (cs.drop (i * 33)) := ⟨_, rfl⟩
  have hsp1 : ∀ k, k < (n + m) * 33 → (W1.cell? ⟨b, off + k, none⟩).isSome = true := fun k hk => by
    rw [hW1]
    exact isSome_setCells b _ _ _ (fun j hj => by rw [Nat.add_assoc]; exact hsp _ (by omega)) _ (hsp k hk)
  have hcp2 : ∀ (W : World), (∀ x, W.cell? x = W1.cell? x) → (∀ x, W.frozen? x = W1.frozen? x) → ∀ ty dc, (Builtin.copy_ #[72, 72] ty #[.slice (some ⟨b, off + i * 33, none⟩) (n + m - i) dc, .slice (some ⟨vb, voff, none⟩) m vc]).run Tryz.prog W = .ok (goInt m) (W.setCells b (off + i * 33) vs) := fun W hWc hWf ty dc =>
    run_copy_es 33 W _ _ ty 138 b (off + i * 33) (n + m - i) dc ⟨vb, voff, none⟩ m vc m vs uS hsz (by simp only [Nat.min_def]; split <;> omega) hvl
      (fun j v hj => by
        rw [Addr.add_lit, hWc, hW1, World.cell?_setCells_out b _ _ _ _ (fun h _ => absurd h hvb)]
        exact hvs j v hj)
      (fun j hj => by rw [hWc, Nat.add_assoc]; exact hsp1 _ (by omega)) (fun j hj => by rw [hWf, hW1, World.frozen?_setCells, Nat.add_assoc]; exact hfz _ (by omega)) h1v
  rw [← hW1] at hcp1
  go_enter Tryz.func117, Tryz.ntmps117
  go_wp2_with (simp only [hov])
  go_region_law_o (refine step_copy_runI rfl _ _ 72 72 rfl _ _ (by simp [Act.eval, Act.put]) (by simp [Act.eval, Act.put]) (hcp1 _ _ _) ?_)
  go_wp2_with (at_builtin; refine wpList_copy_runI _ rfl _ _ 72 72 rfl _ _ rfl rfl (hcp2 _ (fun _ => rfl) (fun _ => rfl) _ _) ?_)
  go_ret
  first | exact ⟨rfl, rfl⟩ | exact ⟨rfl, by rw [hW1]⟩

set_option maxHeartbeats 4000000 in
set_option maxRecDepth 100000 in
/-- AT THE END. -/
theorem at_end (base : Option Addr) (n c vb voff m vc : Nat) (xs ys : List Value) (w : World) (hm : 0 < m) (hbig : n + m ≤ 2000000)
    (hown : gU w (.slice base n c) 33 n xs) (hrd : lG w (.slice (some ⟨vb, voff, none⟩) m vc) 33 m ys) (h1 : ∀ u ∈ ys, one u) (ob : Option Nat) (hob : (Value.slice base n c).ownBlock = ob) :
    Calls Tryz.prog 117 #[.slice base n c, .int .i64 n, .slice (some ⟨vb, voff, none⟩) m vc] w fun e w' =>
      ∃ v', e = .returned v' ∧ gU w' v' 33 (n + m) (xs ++ ys) ∧ w.heap.size ≤ w'.heap.size ∧ w'.os = w.os ∧ w'.tape = w.tape ∧ w'.output = w.output ∧
      (∀ b, b < w.heap.size → ob ≠ some b → w'.heap[b]? = w.heap[b]?) ∧ (∀ b, v'.ownBlock = some b → ob = some b ∨ w.heap.size ≤ b) := by
  have uS : Tryz.prog.underlying 72 = some (.slice 138) := Tryz.underlying72
  have hz1 : ¬ ((m : Int) = 0) := by omega
  have mixed : Tryz.prog.follows .mixedOrders = true := by kernel_rfl
  have hinf : ∃ i z, Tryz.prog.info? 138 = some i ∧ i.zero = some z ∧ z.cells.size = i.size ∧ i.size = 33 ∧ i.bytes = 48 := by
    have h : ((Tryz.prog.info? 138).bind fun i => i.zero.map fun z => (z.cells.size, i.size, i.bytes)) = some (33, 33, 48) := by kernel_rfl
    cases hq : Tryz.prog.info? 138 with
    | none => rw [hq] at h; cases h
    | some i =>
      rw [hq] at h
      cases hz : i.zero with
      | none => simp [hz] at h
      | some z => simp [hz] at h; exact ⟨i, z, rfl, hz, by omega, by omega, by omega⟩
  obtain ⟨i0, z, hi0, hz0, hzs, h33, hby⟩ := hinf
  have hfc := aD7 (P := Tryz.prog) hrd (Nat.le_refl m)
  have hyl : ys.length = m * 33 := by
    rcases hrd with ⟨hbad, _⟩ | ⟨_, _, _, hz0, _⟩ | ⟨ad, cap, _, _, _, _, _, h, _⟩
    · cases hbad
    · omega
    · exact h
  obtain ⟨v', w', hrun, r1, r2⟩ := cN6 (ty := 72) uS hi0 hz0 hzs (by omega) uS (.inl rfl) (by rw [h33]; exact hown) hfc.1
    (fun w' hw' => by
      have hh : lG w' (.slice (some ⟨vb, voff, none⟩) m vc) 33 m ys := hrd.congr (fun b _ => by rw [hw']) (by rw [hw']; exact Nat.le_refl _)
      have := (aD7 (P := Tryz.prog) hh (Nat.le_refl m)).2
      rw [h33]
      rwa [List.take_of_length_le (by omega)] at this) (by rw [h33]; exact hyl) h1 (by unfold maxLen; omega) (by rw [hby]; omega)
  rw [h33] at r1
  rw [hob] at r2
  go_enter Tryz.func117, Tryz.ntmps117
  go_wp2_with (at_builtin; refine Lib.wpList_append_run _ rfl _ _ _ _ rfl _ _ rfl rfl _ _ hrun ?_)
  all_goals (go_ret; exact ⟨v', rfl, r1, r2⟩)

set_option maxHeartbeats 4000000 in
set_option maxRecDepth 100000 in
/-- NO ROOM, i < len(s): a new row. -/
theorem grow (z : Value) (hz0 : (Tryz.prog.info? 138).bind (·.zero) = some z) (hzs : z.cells.size = 33) (b off n c i vb voff m vc : Nat) (cs vs : List Value) (w : World) (hi : i < n) (hm : 0 < m) (hnc : n ≤ c) (hroom : c < n + m) (hbig : n + m ≤ 2000000)
    (hcl : cs.length = n * 33) (hvl : vs.length = m * 33)
    (hcs : ∀ j v, cs[j]? = some v → w.cell? ⟨b, off + j, none⟩ = some v)
    (hvs : ∀ j v, vs[j]? = some v → w.cell? ⟨vb, voff + j, none⟩ = some v) (h1c : ∀ v ∈ cs, v.oneCell' = true) (h1v : ∀ v ∈ vs, v.oneCell' = true) :
    Calls Tryz.prog 117 #[.slice (some ⟨b, off, none⟩) n c, .int .i64 i, .slice (some ⟨vb, voff, none⟩) m vc] w fun e w' =>
      e = .returned (.slice (some ⟨w.heap.size, 0, none⟩) (n + m) (grownCap w (n + m) c 138)) ∧
      w' = (((w.alloc (.cells ((cs.take (i * 33)).toArray ++ Builtin.zeroCells z.cells (n + m - i) ++ Builtin.zeroCells z.cells (grownCap w (n + m) c 138 - (n + m))) 138)).drew.setCells w.heap.size (i * 33) vs).drew).setCells w.heap.size ((i + m) * 33) (cs.drop (i * 33)) := by
  have uS : Tryz.prog.underlying 72 = some (.slice 138) := Tryz.underlying72
  have uI : Tryz.prog.underlying 3 = some (.int .i64) := Tryz.underlying3
  have mixed : Tryz.prog.follows .mixedOrders = true := by kernel_rfl
  have hinf : ∃ i, Tryz.prog.info? 138 = some i ∧ i.zero = some z ∧ i.size = 33 ∧ i.bytes = 48 := by
    have h : ((Tryz.prog.info? 138).map fun i => (i.size, i.bytes)) = some (33, 48) := by kernel_rfl
    cases hq : Tryz.prog.info? 138 with
    | none => rw [hq] at h; cases h
    | some i => rw [hq] at h hz0; simp at h; exact ⟨i, rfl, hz0, h.1, h.2⟩
  obtain ⟨i0, hi0, hzz, hzs0, hzb⟩ := hinf
  have hz1 : ¬ ((m : Int) = 0) := by omega
  have hz2 : ¬ ((i : Int) = (n : Int)) := by omega
  have hz3 : (c : Int) < (n : Int) + (m : Int) := by omega
  have hsz : (Tryz.prog.info? 138).map (·.size) = some 33 := by rw [hi0]; simp [hzs0]
  have hbw : b < w.heap.size := block_lt_of_cell (hcs 0 _ (List.getElem?_eq_getElem (by omega)))
  have hvw : vb < w.heap.size := block_lt_of_cell (hvs 0 _ (List.getElem?_eq_getElem (by omega)))
  have hkk : (n : Int) + (m : Int) - (i : Int) = ((n + m - i : Nat) : Int) := by omega
  have hik : i + (n + m - i) = n + m := by omega
  have hold : (Builtin.firstCells i0.size i (.slice (some ⟨b, off, none⟩) i c)).run Tryz.prog w.drew = .ok (cs.take (i * 33)).toArray w.drew := by
    rw [hzs0]
    exact run_firstCells_some w.drew 33 i ⟨b, off, none⟩ i c (cs.take (i * 33)) (by rw [List.length_take]; omega) (fun j v hj => by
      rw [Addr.add_lit]
      rw [List.getElem?_take] at hj
      split at hj
      · exact hcs j v hj
      · cases hj)
  have hrz : ∀ ty, (Builtin.append_ #[72, 3] ty #[.slice (some ⟨b, off, none⟩) i c, .int .i64 ((n : Int) + (m : Int) - (i : Int))]).run Tryz.prog w =
      .ok (.slice (some ⟨w.heap.size, 0, none⟩) (n + m) (grownCap w (n + m) c 138)) (w.drew.alloc (.cells ((cs.take (i * 33)).toArray ++ Builtin.zeroCells z.cells (n + m - i) ++ Builtin.zeroCells z.cells (grownCap w (n + m) c 138 - (n + m))) 138)) := fun ty => by
    have h := Lib.run_append_grow_zeros w 72 3 ty 138 i0 _ .i64 .i64 uS uI hi0 hzz (some ⟨b, off, none⟩) i c (cs.take (i * 33)) hold (n + m - i) (by omega) (by omega) (by omega) (by omega) (by rw [hzb]; omega) (by rw [hzb, hik]; exact growslice_fits hroom (by omega))
    rw [hik] at h
    rw [hkk]
    exact h
  obtain ⟨G, hG⟩ : ∃ G, G = grownCap w (n + m) c 138 := ⟨_, rfl⟩
  obtain ⟨ROW, hROW⟩ : ∃ ROW : Array Value, ROW = (cs.take (i * 33)).toArray ++ Builtin.zeroCells z.cells (n + m - i) ++ Builtin.zeroCells z.cells (G - (n + m)) := ⟨_, rfl⟩
  rw [← hG] at hrz ⊢
  rw [← hROW] at hrz ⊢
  have hRl : (n + m) * 33 ≤ ROW.size := by
    rw [hROW]
    simp only [Array.size_append, List.size_toArray, List.length_take, size_zeroCells, hzs, hcl]
    have : min (i * 33) (n * 33) = i * 33 := by omega
    rw [this]; omega
  obtain ⟨W1, hW1⟩ : ∃ W1, W1 = w.drew.alloc (.cells ROW 138) := ⟨_, rfl⟩
  rw [← hW1] at hrz
  have hN : ∀ j, j < (n + m) * 33 → (W1.cell? ⟨w.heap.size, j, none⟩).isSome = true := fun j hj => by
    rw [hW1, World.cell?_alloc_at (w := w.drew) ROW _ w.heap.size j rfl, Array.getElem?_eq_getElem (by omega)]; rfl
  have hNf : ∀ j, W1.frozen? ⟨w.heap.size, j, none⟩ = false := fun j => by rw [hW1]; exact World.frozen?_alloc_at (w := w.drew) ROW _ w.heap.size j rfl
  have hOb : ∀ j v, w.cell? ⟨b, j, none⟩ = some v → W1.cell? ⟨b, j, none⟩ = some v := fun j v h => by rw [hW1, World.cell?_alloc_past (w := w.drew) _ b j hbw]; exact h
  have hOv : ∀ j v, w.cell? ⟨vb, j, none⟩ = some v → W1.cell? ⟨vb, j, none⟩ = some v := fun j v h => by rw [hW1, World.cell?_alloc_past (w := w.drew) _ vb j hvw]; exact h
  have hcpA : ∀ (W : World), (∀ x, W.cell? x = W1.cell? x) → (∀ x, W.frozen? x = W1.frozen? x) → ∀ ty dc, (Builtin.copy_ #[72, 72] ty #[.slice (some ⟨w.heap.size, i * 33, none⟩) (n + m - i) dc, .slice (some ⟨vb, voff, none⟩) m vc]).run Tryz.prog W = .ok (goInt m) (W.setCells w.heap.size (i * 33) vs) := fun W hWc hWf ty dc =>
    run_copy_es 33 W _ _ ty 138 w.heap.size (i * 33) (n + m - i) dc ⟨vb, voff, none⟩ m vc m vs uS hsz (by simp only [Nat.min_def]; split <;> omega) hvl
      (fun j v hj => by rw [Addr.add_lit, hWc]; exact hOv _ v (hvs j v hj))
      (fun j hj => by rw [hWc]; exact hN _ (by omega)) (fun j hj => by rw [hWf]; exact hNf _) h1v
  have hGn : n + m ≤ G := by rw [hG]; exact grownCap_ge w _ _ _
  have hG63 : G ≤ 9223372036854775807 := by
    have := grownCap_le_maxLen w (n + m) c 138 (by unfold maxLen; omega)
    rw [← hG] at this
    unfold maxLen at this
    omega
  have hGi : ¬ (G = i) := by omega
  have hGim : ¬ (G = i + m) := by omega
  have hci : ¬ (c = i) := by omega
  have hbN : b ≠ w.heap.size := by omega
  have hdl : (cs.drop (i * 33)).length = (n - i) * 33 := by rw [List.length_drop, hcl]; omega
  have hcpB : ∀ (W : World), (∀ x, W.cell? x = (W1.setCells w.heap.size (i * 33) vs).cell? x) → (∀ x, W.frozen? x = (W1.setCells w.heap.size (i * 33) vs).frozen? x) → ∀ ty dc sc, (Builtin.copy_ #[72, 72] ty #[.slice (some ⟨w.heap.size, (i + m) * 33, none⟩) (n + m - (i + m)) dc, .slice (some ⟨b, off + i * 33, none⟩) (n - i) sc]).run Tryz.prog W = .ok (goInt (n - i : Nat)) (W.setCells w.heap.size ((i + m) * 33) (cs.drop (i * 33))) := fun W hWc hWf ty dc sc =>
    run_copy_es 33 W _ _ ty 138 w.heap.size ((i + m) * 33) (n + m - (i + m)) dc ⟨b, off + i * 33, none⟩ (n - i) sc (n - i) (cs.drop (i * 33)) uS hsz (by simp only [Nat.min_def]; split <;> omega) hdl
      (fun j v hj => by
        rw [Addr.add_lit, hWc, World.cell?_setCells_out _ _ _ _ _ (fun h _ => absurd h hbN), Nat.add_assoc]
        exact hOb _ v (hcs (i * 33 + j) v (by rwa [List.getElem?_drop] at hj)))
      (fun j hj => by rw [hWc]; exact isSome_setCells _ _ _ _ (fun t ht => hN _ (by omega)) _ (hN _ (by omega)))
      (fun j hj => by rw [hWf, World.frozen?_setCells]; exact hNf _) (fun v hv => h1c v (List.mem_of_mem_drop hv))
  subst hW1
  have hE1 : ∀ x, ((w.alloc (.cells ROW 138)).drew).cell? x = (w.drew.alloc (.cells ROW 138)).cell? x := fun x => rfl
  have hE2 : ∀ x, ((w.alloc (.cells ROW 138)).drew).frozen? x = (w.drew.alloc (.cells ROW 138)).frozen? x := fun x => rfl
  have hF1 : ∀ x, (((w.alloc (.cells ROW 138)).drew.setCells w.heap.size (i * 33) vs).drew).cell? x = ((w.drew.alloc (.cells ROW 138)).setCells w.heap.size (i * 33) vs).cell? x := fun x => rfl
  have hF2 : ∀ x, (((w.alloc (.cells ROW 138)).drew.setCells w.heap.size (i * 33) vs).drew).frozen? x = ((w.drew.alloc (.cells ROW 138)).setCells w.heap.size (i * 33) vs).frozen? x := fun x => rfl
  have hw1 : IntKind.i64.wrap ((i : Int) + (m : Int)) = (i : Int) + (m : Int) := by rw [IntKind.wrap_i64]; omega
  have hb1 : (0 : Int) ≤ (i : Int) + (m : Int) := by omega
  have hin : i ≤ n := by omega
  have htn : ((i : Int) + (m : Int)).toNat = i + m := by omega
  have hb3 : (i : Int) ≤ (n : Int) := by omega
  clear hkk hik hold hROW hG hRl
  go_enter Tryz.func117, Tryz.ntmps117
  go_wp2_with (first
    | (at_builtin; refine Lib.wpList_append_run _ rfl _ _ _ _ rfl _ _ rfl rfl _ _ (hrz _) ?_)
    | (at_builtin; refine wpList_copy_runI _ rfl _ _ 72 72 rfl _ _ rfl rfl (hcpA _ hE1 hE2 _ _) ?_)
    | (at_builtin; refine wpList_copy_runI _ rfl _ _ 72 72 rfl _ _ rfl rfl (hcpB _ (fun _ => rfl) (fun _ => rfl) _ _ _) ?_))
  go_region_law_o (refine step_copy_runI rfl _ _ 72 72 rfl (.slice (some ⟨w.heap.size, (i + m) * 33, none⟩) (n + m - (i + m)) (G - (i + m))) (.slice (some ⟨b, off + i * 33, none⟩) (n - i) (c - i)) (by simp [Act.eval, Act.put]) (by simp [Act.eval, Act.put]) (hcpB _ hF1 hF2 3 (G - (i + m)) (c - i)) ?_)
  go_wp2
  go_ret
  exact ⟨rfl, rfl⟩


theorem setCells_put {w : World} {b o : Nat} {cs : Array Value} {e : TypeId} {fz : Nat × Nat} {vs : List Value} (h : w.heap[b]? = some (.cells cs e fz)) (hfz : jE fz cs.size) (hl : o + vs.length ≤ cs.size) (h1 : ∀ v ∈ vs, one v) :
    w.setCells b o vs = putCells w b (fP cs o vs) e fz := by
  have r1 := yX (P := Tryz.prog) (vs := vs) (w := w) (b := b) (o := o) (i := 0) h hfz (by omega) h1
  have r2 := run_storeCells_cells (P := Tryz.prog) b o vs 0 w (fun j hj => by
      have hj : j < vs.length := by simpa using hj
      rw [cell?_block h]
      simp; omega) (fun j hj => by
      have hj : j < vs.length := by simpa using hj
      have := hfz (o + 0 + j) (by omega)
      simp only [World.frozen?, h]
      simpa [not_and] using this) h1
  rw [r1] at r2
  simp only [Nat.add_zero] at r2
  injection r2 with _ q
  exact q.symm
theorem splice {pre old new r : List Value} {cs : Array Value} {o : Nat} (h : cs.toList = pre ++ (old ++ r)) (ho : pre.length = o) (hl : old.length = new.length) : (fP cs o new).toList = pre ++ (new ++ r) := by
  subst ho; exact vW h hl

/-- ALL OF IT. -/
theorem insOk : bR5 Tryz.prog 117 33 := by
  intro w v u n m i xs ys hv hu hne hi hm hn' hm' h1x h1y
  rcases hu with ⟨rfl, rfl, rfl⟩ | ⟨g2, cap2, cur2, e2, fz2, rfl, hg2, hfz2, hmc2, hcm2, hcs2, hlen2, htake2⟩
  · omega
  have hrdu : lG w (.slice (some ⟨g2, 0, none⟩) m cap2) 33 m ys := gU.rd (.inr ⟨g2, cap2, cur2, e2, fz2, rfl, hg2, hfz2, hmc2, hcm2, hcs2, hlen2, htake2⟩)
  by_cases hin : i = n
  · subst hin
    have hl : xs.length = i * 33 := by rcases hv with ⟨_, rfl, rfl⟩ | ⟨_, _, _, _, _, _, _, _, _, _, _, h, _⟩ <;> first | rfl | exact h
    have ends : ∀ base c, v = .slice base i c → Calls Tryz.prog 117 #[v, .int .i64 i, .slice (some ⟨g2, 0, none⟩) m cap2] w fun e w' => ∃ v', e = .returned v' ∧ gU w' v' 33 (i + m) (xs.take (i * 33) ++ ys ++ xs.drop (i * 33)) ∧
        w.heap.size ≤ w'.heap.size ∧ w'.os = w.os ∧ w'.tape = w.tape ∧ w'.output = w.output ∧
        (∀ b, b < w.heap.size → v.ownBlock ≠ some b → w'.heap[b]? = w.heap[b]?) ∧ (∀ b, v'.ownBlock = some b → v.ownBlock = some b ∨ w.heap.size ≤ b) := by
      rintro base c rfl
      have := at_end base i c g2 0 m cap2 xs ys w hm (by omega) hv hrdu h1y _ rfl
      rwa [List.take_of_length_le (by omega), List.drop_of_length_le (by omega), List.append_nil]
    rcases hv with ⟨rfl, rfl, rfl⟩ | ⟨g, cap, cur, e, fz, rfl, hrest⟩
    · exact ends none 0 rfl
    · exact ends _ cap rfl
  have hin : i < n := by omega
  rcases hv with ⟨rfl, rfl, rfl⟩ | ⟨g, cap, cur, e, fz, rfl, hg, hfz, hmc, hcm, hcs, hlen, htake⟩
  · omega
  have hg12 : g2 ≠ g := fun he => hne g rfl (by rw [he]; rfl)
  have hgl := (Array.getElem?_eq_some_iff.1 hg).1
  have cx : ∀ j u, xs[j]? = some u → w.cell? ⟨g, 0 + j, none⟩ = some u := fun j u hj => by
    have hj' : j < n * 33 := by rw [← hlen]; exact (List.getElem?_eq_some_iff.1 hj).1
    rw [← htake, List.getElem?_take, if_pos hj'] at hj
    rw [Nat.zero_add, cell?_block hg]; simpa using hj
  have cy : ∀ j u, ys[j]? = some u → w.cell? ⟨g2, 0 + j, none⟩ = some u := fun j u hj => by
    have hj' : j < m * 33 := by rw [← hlen2]; exact (List.getElem?_eq_some_iff.1 hj).1
    rw [← htake2, List.getElem?_take, if_pos hj'] at hj
    rw [Nat.zero_add, cell?_block hg2]; simpa using hj
  have hxl : xs = xs.take (i * 33) ++ xs.drop (i * 33) := (List.take_append_drop _ _).symm
  have htl : (xs.take (i * 33)).length = i * 33 := by rw [List.length_take, hlen]; omega
  have hdl : (xs.drop (i * 33)).length = (n - i) * 33 := by rw [List.length_drop, hlen]; omega
  by_cases hroom : n + m ≤ cap
  · have h63 : cap ≤ 9223372036854775807 := hcm
    have hk : cap * 33 = cur.size := hcs.symm
    have hfz' := hfz.pred
    have hs := shift g 0 n cap i g2 0 m cap2 xs ys w hin hm hroom h63 hg12 hlen hlen2 cx
      (fun j hj => by rw [Nat.zero_add, cell?_block hg]; simp; omega)
      (fun j hj => by
        have := hfz' (0 + j) (by omega)
        simp only [World.frozen?, hg]
        simpa [not_and] using this) cy h1x h1y e2 e cur2.size cur.size
      (by simp [World.shape?, hg2]) (by simp [World.shape?, hg]) (by omega)
      (by
        have := hfz2 0 (by have : m * 33 ≤ cur2.size := by omega
                           omega)
        simp only [World.frozen?, hg2]
        simpa [not_and] using this)
      (by
        have := hfz2 cur2.size (by rw [if_neg (by decide)]; omega)
        simp only [World.frozen?, hg2]
        simpa [not_and] using this)
    refine hs.mono ?_
    rintro e' w' ⟨rfl, rfl⟩
    simp only [Nat.zero_add]
    have hgd : w.drew.heap[g]? = some (.cells cur e fz) := hg
    rw [setCells_put hgd hfz' (by rw [hdl]; omega) (fun v hv => h1x v (List.mem_of_mem_drop hv))]
    have hgd2 : (putCells w.drew g (fP cur ((i + m) * 33) (xs.drop (i * 33))) e fz).heap[g]? = some (.cells (fP cur ((i + m) * 33) (xs.drop (i * 33))) e fz) := uG hgl
    rw [setCells_put hgd2 (by rw [kQ]; exact hfz') (by rw [kQ, hlen2]; omega) h1y, cL4]
    have hcur : cur.toList = xs ++ cur.toList.drop (n * 33) := by rw [← htake]; exact (List.take_append_drop _ _).symm
    have hrl : (cur.toList.drop (n * 33)).length = cur.size - n * 33 := by rw [List.length_drop, Array.length_toList]
    obtain ⟨R, hR⟩ : ∃ R, R = cur.toList.drop (n * 33) := ⟨_, rfl⟩
    rw [← hR] at hcur hrl
    -- the first copy
    have s1 : (fP cur ((i + m) * 33) (xs.drop (i * 33))).toList = (xs ++ R).take ((i + m) * 33) ++ (xs.drop (i * 33) ++ (xs ++ R).drop ((i + m) * 33 + (n - i) * 33)) := by
      refine splice (old := ((xs ++ R).drop ((i + m) * 33)).take ((n - i) * 33)) ?_ ?_ ?_
      · rw [← List.drop_drop, List.take_append_drop, List.take_append_drop]; exact hcur
      · rw [List.length_take, List.length_append, hrl, hlen]; omega
      · rw [List.length_take, List.length_drop, List.length_append, hrl, hlen, hdl]; omega
    have s0 : (xs ++ R).take ((i + m) * 33) = xs.take (i * 33) ++ (((xs ++ R).drop (i * 33)).take (m * 33)) := by
      rw [Nat.add_mul, List.take_add, List.take_append_of_le_length (by omega)]
    have s2 : (fP (fP cur ((i + m) * 33) (xs.drop (i * 33))) (i * 33) ys).toList = xs.take (i * 33) ++ (ys ++ (xs.drop (i * 33) ++ (xs ++ R).drop ((i + m) * 33 + (n - i) * 33))) := by
      refine splice (old := ((xs ++ R).drop (i * 33)).take (m * 33)) ?_ htl ?_
      · rw [s1, s0, List.append_assoc]
      · rw [List.length_take, List.length_drop, List.length_append, hrl, hlen, hlen2]; omega
    refine ⟨_, rfl, .inr ⟨g, cap, _, e, fz, rfl, uG hgl, by rw [kQ, kQ]; exact hfz, hroom, hcm, by rw [kQ, kQ]; exact hcs, ?_, ?_⟩, by rw [vM]; exact Nat.le_refl _, rfl, rfl, rfl, ?_, fun b hb => .inl hb⟩
    · simp only [List.length_append, htl, hdl, hlen2]; omega
    · rw [s2, ← List.append_assoc, ← List.append_assoc]
      exact List.take_left' (by simp only [List.length_append, htl, hdl, hlen2]; omega)
    · intro b hb hne
      exact sD (fun e => hne (by rw [e]; rfl))
  · obtain ⟨z, hz0, hzs⟩ : ∃ z, (Tryz.prog.info? 138).bind (·.zero) = some z ∧ z.cells.size = 33 := by
      have h : (((Tryz.prog.info? 138).bind (·.zero)).map fun z => z.cells.size) = some 33 := by kernel_rfl
      cases hq : (Tryz.prog.info? 138).bind (·.zero) with
      | none => rw [hq] at h; cases h
      | some z => rw [hq] at h; exact ⟨z, rfl, by simpa using h⟩
    have hs := grow z hz0 hzs g 0 n cap i g2 0 m cap2 xs ys w hin hm hmc (by omega) (by omega) hlen hlen2 cx cy h1x h1y
    refine hs.mono ?_
    rintro e' w' ⟨rfl, rfl⟩
    have hGn := grownCap_ge w (n + m) cap 138
    have hG63 := grownCap_le_maxLen w (n + m) cap 138 (by unfold maxLen; omega)
    obtain ⟨G, hG⟩ : ∃ G, G = grownCap w (n + m) cap 138 := ⟨_, rfl⟩
    rw [← hG] at hGn hG63 ⊢
    obtain ⟨Z1, hZ1⟩ : ∃ Z1, Z1 = (Builtin.zeroCells z.cells (n + m - i)).toList := ⟨_, rfl⟩
    obtain ⟨Z2, hZ2⟩ : ∃ Z2, Z2 = (Builtin.zeroCells z.cells (G - (n + m))).toList := ⟨_, rfl⟩
    have l1 : Z1.length = (n + m - i) * 33 := by rw [hZ1, Array.length_toList, size_zeroCells, hzs]
    have l2 : Z2.length = (G - (n + m)) * 33 := by rw [hZ2, Array.length_toList, size_zeroCells, hzs]
    obtain ⟨row, hrow⟩ : ∃ row, row = (xs.take (i * 33)).toArray ++ Builtin.zeroCells z.cells (n + m - i) ++ Builtin.zeroCells z.cells (G - (n + m)) := ⟨_, rfl⟩
    have hrl : row.toList = xs.take (i * 33) ++ (Z1 ++ Z2) := by rw [hrow]; simp [hZ1, hZ2]
    have hrs : row.size = G * 33 := by
      rw [← Array.length_toList, hrl]
      simp only [List.length_append, htl, l1, l2]
      omega
    rw [← hrow]
    have hnew : (w.alloc (.cells row 138)).drew.heap[w.heap.size]? = some (.cells row 138 (0, 0)) := alloc_at w _
    have nofz : ∀ k, jE (0, 0) k := fun k j _ hj => by simp only at hj; omega
    rw [setCells_put hnew (nofz _) (by rw [hrs, hlen2]; omega) h1y]
    have hnew2 : (putCells (w.alloc (.cells row 138)).drew w.heap.size (fP row (i * 33) ys) 138 (0, 0)).drew.heap[w.heap.size]? = some (.cells (fP row (i * 33) ys) 138 (0, 0)) :=
      uG (w := (w.alloc (.cells row 138)).drew) (Array.getElem?_eq_some_iff.1 hnew).1
    rw [setCells_put hnew2 (nofz _) (by rw [kQ, hrs, hdl]; omega) (fun v hv => h1x v (List.mem_of_mem_drop hv))]
    have s1 : (fP row (i * 33) ys).toList = xs.take (i * 33) ++ (ys ++ (Z1.drop (m * 33) ++ Z2)) := by
      refine splice (old := Z1.take (m * 33)) ?_ htl ?_
      · rw [hrl, ← List.append_assoc (Z1.take _), List.take_append_drop]
      · rw [List.length_take, l1, hlen2]; omega
    have s2 : (fP (fP row (i * 33) ys) ((i + m) * 33) (xs.drop (i * 33))).toList = (xs.take (i * 33) ++ ys) ++ (xs.drop (i * 33) ++ Z2) := by
      refine splice (old := Z1.drop (m * 33)) ?_ ?_ ?_
      · rw [s1, List.append_assoc]
      · rw [List.length_append, htl, hlen2]; omega
      · rw [List.length_drop, l1, hdl]; omega
    have hsz : ∀ (W : World) cs, (putCells W.drew w.heap.size cs 138 (0, 0)).heap.size = W.heap.size := fun W cs => vM
    refine ⟨_, rfl, .inr ⟨w.heap.size, G, _, 138, (0, 0), rfl, uG (Array.getElem?_eq_some_iff.1 hnew2).1, nofz _, hGn, hG63, by rw [kQ, kQ]; exact hrs, ?_, ?_⟩, ?_, rfl, rfl, rfl, ?_, fun b hb => by cases hb; exact .inr (Nat.le_refl _)⟩
    · simp only [List.length_append, htl, hdl, hlen2]; omega
    · rw [s2, ← List.append_assoc]
      exact List.take_left' (by simp only [List.length_append, htl, hdl, hlen2]; omega)
    · rw [hsz]
      have : (putCells (w.alloc (.cells row 138)).drew w.heap.size (fP row (i * 33) ys) 138 (0, 0)).heap.size = (w.alloc (.cells row 138)).heap.size := vM
      rw [this]
      exact (mO w _).size
    · intro b hb _
      have q1 : b ≠ w.heap.size := by omega
      rw [sD q1]
      show (putCells _ _ _ _ _).heap[b]? = _
      rw [sD q1]
      exact (mO w _).block b hb
end Go.Proofs.YtmgeaephkagdiaaGreatDoor.Ins
