/-
 The log: what its files' names say, and what its calls do, over the document's disk.
 The log: contracts.
 Printed by wip/vct.py: the conditions of functions, by their contracts.
 The log: plain conditions of names.
 The log: plain conditions of its files.
-/
import Derived.Test.YtmgeaephkagdiaaGreatDoorDskf
import Derived.Test.YtmgeaephkagdiaaGreatDoorFrame
import Derived.Test.YtmgeaephkagdiaaGreatDoorDske
import Derived.Test.YtmgeaephkagdiaaGreatDoorUsrt
import Derived.Test.YtmgeaephkagdiaaGreatDoorIxc
import Derived.KernelRfl
import Derived.Test.YtmgeaephkagdiaaGreatDoorDska
set_option linter.unusedVariables false
set_option linter.unusedSimpArgs false
namespace Go.Vc
namespace Wl
open Dk (Ds)
def hexD (v : Nat) : UInt8 := if v < 10 then UInt8.ofNat (48 + v) else UInt8.ofNat (87 + v)
def hexV (c : UInt8) : Option Nat := if 48 ≤ c ∧ c ≤ 57 then some (c.toNat - 48) else if 97 ≤ c ∧ c ≤ 102 then some (c.toNat - 87) else none
def dig : Nat → Nat → Tx
 | 0, _ => []
 | k + 1, n => hexD (n / 16 ^ k % 16) :: dig k n
def pre : Tx := [119, 97, 108, 45]
def name (n : Nat) : Tx := pre ++ dig 16 n
def val : Tx → Nat → Option Nat
 | [], a => some a
 | c :: r, a => match hexV c with
  | some v => val r (16 * a + v)
  | none => none
def first (s : Tx) : Option Nat := if s.take 4 = pre ∧ s.length = 20 then val (s.drop 4) 0 else none
theorem hex_back : ∀ v, v < 16 → hexV (hexD v) = some v := by decide
theorem hex_of : ∀ c v, hexV c = some v → v < 16 ∧ c = hexD v := by
 intro c v h
 unfold hexV at h
 split at h
 ·rename_i hc
  cases h
  have h1 : 48 ≤ c.toNat := UInt8.le_iff_toNat_le.1 hc.1
  have h2 : c.toNat ≤ 57 := UInt8.le_iff_toNat_le.1 hc.2
  refine ⟨by omega, ?_⟩
  unfold hexD
  rw [if_pos (by omega), show 48 + (c.toNat - 48) = c.toNat from by omega]
  exact (UInt8.ofNat_toNat).symm
 ·split at h
  ·rename_i hc
   cases h
   have h1 : 97 ≤ c.toNat := UInt8.le_iff_toNat_le.1 hc.1
   have h2 : c.toNat ≤ 102 := UInt8.le_iff_toNat_le.1 hc.2
   refine ⟨by omega, ?_⟩
   unfold hexD
   rw [if_neg (by omega), show 87 + (c.toNat - 87) = c.toNat from by omega]
   exact (UInt8.ofNat_toNat).symm
  ·cases h
theorem dig_len : ∀ k n, (dig k n).length = k
 | 0, _ => rfl
 | k + 1, n => by rw [dig, List.length_cons, dig_len k n]
theorem dig_mod : ∀ k n, dig k (n % 16 ^ k) = dig k n := by
 have h : ∀ k m n, k ≤ m → dig k (n % 16 ^ m) = dig k n := by
  intro k
  induction k with
  | zero => intros; rfl
  | succ k ih =>
   intro m n hk
   rw [dig, dig, ih m n (by omega)]
   congr 2
   obtain ⟨j, rfl⟩ : ∃ j, m = k + 1 + j := ⟨m - (k + 1), by omega⟩
   rw [Nat.pow_add, Nat.pow_succ, Nat.mul_assoc, Nat.mod_mul_right_div_self, Nat.mod_mul_right_mod]
 exact fun k n => h k k n (Nat.le_refl _)
theorem val_dig : ∀ k n a, val (dig k n) a = some (a * 16 ^ k + n % 16 ^ k)
 | 0, n, a => by simp [val, dig, Nat.mod_one]
 | k + 1, n, a => by
  rw [dig, val, hex_back _ (Nat.mod_lt _ (by omega))]
  dsimp only
  rw [val_dig k n]
  congr 1
  have h1 : n % 16 ^ (k + 1) = n / 16 ^ k % 16 * 16 ^ k + n % 16 ^ k := by
   rw [Nat.pow_succ, Nat.mod_mul]
   rw [Nat.mul_comm (n / 16 ^ k % 16), Nat.add_comm]
  rw [h1, Nat.pow_succ, Nat.add_mul, Nat.add_assoc]
  congr 1
  rw [Nat.mul_comm 16 a, Nat.mul_assoc, Nat.mul_comm 16]
theorem val_some : ∀ {s : Tx} {a n : Nat}, val s a = some n → ∃ r, r < 16 ^ s.length ∧ n = a * 16 ^ s.length + r ∧ s = dig s.length r
 | [], a, n, h => ⟨0, by simp, by simp [val] at h; simp [h], rfl⟩
 | c :: s, a, n, h => by
  rw [val] at h
  split at h
  ·rename_i v hv
   obtain ⟨h1, rfl⟩ := hex_of c v hv
   obtain ⟨r, hr, hn, hs⟩ := val_some h
   refine ⟨v * 16 ^ s.length + r, ?_, ?_, ?_⟩
   ·rw [List.length_cons, Nat.pow_succ]
    calc v * 16 ^ s.length + r < v * 16 ^ s.length + 16 ^ s.length := by omega
     _ = (v + 1) * 16 ^ s.length := by rw [Nat.add_mul, Nat.one_mul]
     _ ≤ 16 * 16 ^ s.length := Nat.mul_le_mul_right _ (by omega)
     _ = 16 ^ s.length * 16 := Nat.mul_comm _ _
   ·rw [hn, List.length_cons, Nat.pow_succ, Nat.add_mul, Nat.add_assoc]
    congr 1
    rw [Nat.mul_comm 16 a, Nat.mul_assoc, Nat.mul_comm 16]
   ·rw [List.length_cons, dig]
    have e1 : (v * 16 ^ s.length + r) / 16 ^ s.length % 16 = v := by
     rw [Nat.mul_comm, Nat.mul_add_div (Nat.pow_pos (by omega)), Nat.div_eq_of_lt hr, Nat.add_zero, Nat.mod_eq_of_lt h1]
    rw [e1]
    congr 1
    have e2 : dig s.length (v * 16 ^ s.length + r) = dig s.length r := by
     rw [← dig_mod, Nat.mul_comm, Nat.mul_add_mod, Nat.mod_eq_of_lt hr]
    rw [e2]; exact hs
  ·cases h
theorem name_len (n : Nat) : (name n).length = 20 := by simp [name, pre, dig_len]
theorem first_name {n : Nat} (h : n < 18446744073709551616) : first (name n) = some n := by
 have h1 : (name n).take 4 = pre := by simp [name, pre]
 have h2 : (name n).drop 4 = dig 16 n := by simp [name, pre]
 unfold first
 rw [if_pos ⟨h1, name_len n⟩, h2, val_dig]
 have : (16 : Nat) ^ 16 = 18446744073709551616 := by decide
 rw [this, Nat.mod_eq_of_lt h]; simp
theorem first_some {s : Tx} {n : Nat} (h : first s = some n) : n < 18446744073709551616 ∧ s = name n := by
 unfold first at h
 split at h
 ·rename_i hc
  obtain ⟨r, hr, hn, hs⟩ := val_some h
  have hl : (s.drop 4).length = 16 := by rw [List.length_drop, hc.2]
  rw [hl] at hr hn hs
  have : (16 : Nat) ^ 16 = 18446744073709551616 := by decide
  have hnr : n = r := by omega
  subst hnr
  refine ⟨by omega, ?_⟩
  rw [name, ← hs, ← hc.1, List.take_append_drop]
 ·cases h
theorem name_inj {a b : Nat} (ha : a < 18446744073709551616) (hb : b < 18446744073709551616) (h : name a = name b) : a = b := by
 have := first_name ha
 rw [h, first_name hb] at this
 exact (Option.some.inj this).symm
structure Lg where
 limit : Int
 next : Nat
 name : Tx
 size : Int
 loose : Bool
 found : List Tx
def frT (q : Nat) (r : Tx) : Tx := tx (textOf (frameB q (bx r)))
def scanT (t : Tx) (q : Nat) : List Tx := (scanF (bytesOf (bx t)) q).1.map fun l => tx (textOf l)
def files (x : Ds) : List Nat := x.names.filterMap fun p => first p.1
def openAll (x : Ds) : List Nat → Nat → List Tx → List Tx → Nat × List Tx × List Tx × Int
 | [], next, out, found => (next, out, found, 0)
 | q :: r, next, out, found => if q ≠ next then (next, out, found, 0) else if (Dk.read x (Wl.name q)).2 ≠ 0 then (next, out, found, (Dk.read x (Wl.name q)).2) else
  openAll x r ((next + (scanT (Dk.read x (Wl.name q)).1 q).length) % 18446744073709551616) (out ++ scanT (Dk.read x (Wl.name q)).1 q) (found ++ [Wl.name q])
def openR (limit : Int) (r : Nat × List Tx × List Tx × Int) : Option (Lg × List Tx) × Int :=
 if r.2.2.2 ≠ 0 then (none, r.2.2.2) else (some (⟨max limit 1, r.1, [], 0, false, r.2.2.1⟩, r.2.1), 0)
def opened (x : Ds) (limit : Int) : Option (Lg × List Tx) × Int :=
 if x.dead then (none, 9) else openR limit (openAll x (files x) ((files x).headD 1) [] [])
def syncFound : Ds → List Tx → Ds × List Tx × Int
 | x, [] => (x, [], 0)
 | x, f :: r => if (Dk.sync x f).2 ≠ 0 then ((Dk.sync x f).1, f :: r, (Dk.sync x f).2) else syncFound (Dk.sync x f).1 r
def sync2 (x : Ds) (g : Lg) : Ds × Lg × Int :=
 if g.loose = false then (x, g, 0) else if (Dk.sync x g.name).2 ≠ 0 then ((Dk.sync x g.name).1, g, (Dk.sync x g.name).2) else ((Dk.sync x g.name).1, { g with loose := false }, 0)
def sync1 (g : Lg) (s : Ds × List Tx × Int) : Ds × Lg × Int :=
 if s.2.2 ≠ 0 then (s.1, { g with found := s.2.1 }, s.2.2) else sync2 s.1 { g with found := s.2.1 }
def sync (x : Ds) (g : Lg) : Ds × Lg × Int := sync1 g (syncFound x g.found)
def turn4 (x : Ds) (g : Lg) : Ds × Lg × Int :=
 if (Dk.syncNames x).2 ≠ 0 then ((Dk.syncNames x).1, g, (Dk.syncNames x).2) else ((Dk.syncNames x).1, { g with name := Wl.name g.next, size := 0 }, 0)
def turn3 (x : Ds) (g : Lg) : Ds × Lg × Int :=
 if (Dk.create x (Wl.name g.next)).2 ≠ 0 then ((Dk.create x (Wl.name g.next)).1, g, (Dk.create x (Wl.name g.next)).2) else turn4 (Dk.create x (Wl.name g.next)).1 g
def turn2 (x : Ds) (g : Lg) : Ds × Lg × Int :=
 if x.names.any (fun p => p.1 == Wl.name g.next) then
  if (Dk.remove x (Wl.name g.next)).2 ≠ 0 then ((Dk.remove x (Wl.name g.next)).1, g, (Dk.remove x (Wl.name g.next)).2) else turn3 (Dk.remove x (Wl.name g.next)).1 g
 else turn3 x g
def turn1 (s : Ds × Lg × Int) : Ds × Lg × Int := if s.2.2 ≠ 0 then s else if s.1.dead then (s.1, s.2.1, 9) else turn2 s.1 s.2.1
def turn (x : Ds) (g : Lg) : Ds × Lg × Int := turn1 (sync x g)
def app2 (s : Tx) (x : Ds) (g : Lg) : Ds × Lg × Int :=
 if (Dk.append x g.name s).2 ≠ 0 then ((Dk.append x g.name s).1, g, (Dk.append x g.name s).2) else ((Dk.append x g.name s).1, { g with size := g.size + s.length, loose := true, next := (g.next + 1) % 18446744073709551616 }, 0)
def app1 (s : Tx) (r : Ds × Lg × Int) : Ds × Lg × Int := if r.2.2 ≠ 0 then r else app2 s r.1 r.2.1
def append (x : Ds) (g : Lg) (r : Tx) : Ds × Lg × Int :=
 if r.length > 4194304 then (x, g, 12) else if g.name = [] ∨ (g.size > 0 ∧ g.size > g.limit - (frT g.next r).length) then app1 (frT g.next r) (turn x g) else app2 (frT g.next r) x g
def removeAll : Ds → List Nat → Ds × Int
 | x, [] => (x, 0)
 | x, q :: r => if (Dk.remove x (Wl.name q)).2 ≠ 0 then Dk.remove x (Wl.name q) else removeAll (Dk.remove x (Wl.name q)).1 r
def ret2 (l : List Nat) (g : Lg) (r : Ds × Int) : Ds × Lg × Int :=
 if r.2 ≠ 0 then (r.1, g, r.2) else if l = [] then (r.1, g, 0) else ((Dk.syncNames r.1).1, g, (Dk.syncNames r.1).2)
def bareLg (g : Lg) : Lg := ⟨g.limit, g.next, [], 0, false, []⟩
def retire (x : Ds) (g : Lg) : Ds × Lg × Int :=
 if x.dead then (x, g, 9) else ret2 (files x) (bareLg g) (removeAll x (files x))
end Wl
end Go.Vc
namespace Go.Vc
open Dk (Ds)
def wName.sig : Sig := sigF [.i .u64] [.s] (fun _ => True) fun l => (arg l 1).toS = bx (Wl.name (arg l 0).toI.toNat)
def wName.I0 : List D → Prop := fun l => (arg l 2).toI ≤ 15 ∧ -1 ≤ (arg l 2).toI ∧ Wl.dig 16 (arg l 0).toI.toNat = tx (arg l 1).toS ++ Wl.dig ((arg l 2).toI + 1).toNat (arg l 0).toI.toNat
def wName.I0M : List D → Nat := fun l => ((arg l 2).toI + 1).toNat
def wHas.sig : Sig := sigF [.s, .s] [.b] (fun _ => True) fun l => (arg l 2).toB = decide ((tx (arg l 0).toS).take (tx (arg l 1).toS).length = tx (arg l 1).toS)
def wCutP.sig : Sig := sigF [.s, .s] [.s, .b] (fun _ => True) fun l =>
 if (tx (arg l 0).toS).take (tx (arg l 1).toS).length = tx (arg l 1).toS then tx (arg l 2).toS = (tx (arg l 0).toS).drop (tx (arg l 1).toS).length ∧ (arg l 3).toB = true else (arg l 2).toS = (arg l 0).toS ∧ (arg l 3).toB = false
def wCutSL.sig : Sig := wCutP.sig
def wFirst.sig : Sig := sigF [.s] [.i .u64, .b] (fun _ => True) fun l => match Wl.first (tx (arg l 0).toS) with
 | some n => (arg l 1).toI = n ∧ (arg l 2).toB = true
 | none => (arg l 2).toB = false
def wFirst.I0 : List D → Prop := fun l => 0 ≤ (arg l 2).toI ∧ (arg l 2).toI ≤ 16 ∧ 0 ≤ (arg l 1).toI ∧ (arg l 1).toI.toNat < 16 ^ (arg l 2).toI.toNat ∧
 Wl.first (tx (arg l 0).toS) = Wl.val ((tx (arg l 0).toS).drop (4 + (arg l 2).toI.toNat)) (arg l 1).toI.toNat
def wFirst.I0M : List D → Nat := fun l => (16 - (arg l 2).toI).toNat
def wFiles.sig : Sig :=
 { args := [ptrAt 0], heap := dskT 0 1, srts := [.N, .L], res := .tup [.lf (.sl (.at 2)), .lf (.int .i64 (.at 4))], heap' := .rsl (.at 2) [.int .u64] (.at 3) :: dskT 0 1, news := [.V, .Z, .I],
   pre := fun l => ∃ x, RepL (arg l 1).toL x ∧ Small x ∧ x.names.length ≤ 60000,
   post := fun l => ∀ x, RepL (arg l 1).toL x → Small x → (arg l 4).toI = (if x.dead then 9 else 0) ∧ (arg l 3).toLi = if x.dead then [] else (Wl.files x).map (fun n : Nat => (n : Int)) }
def wFiles.I0 : List D → Prop := fun l => 0 ≤ (arg l 3).toI ∧ ∀ x, RepL (arg l 1).toL x → Small x → x.dead = false ∧ (arg l 3).toI ≤ x.names.length ∧ (arg l 2).toLi = ((x.names.take (arg l 3).toI.toNat).filterMap fun p => Wl.first p.1).map fun n : Nat => (n : Int)
def wFiles.I0M : List D → Nat := fun l => (60001 - (arg l 3).toI).toNat
def wIndex.sig : Sig := sigF [.l [.str], .s] [.i .i64] (fun l => (arg l 1).toL.length ≤ 1000000000) fun l => 0 ≤ (arg l 3).toI ↔ ∃ d ∈ (arg l 1).toL, d.toS = (arg l 2).toS
def wIndex.I0 : List D → Prop := fun l => 0 ≤ (arg l 3).toI ∧ (arg l 3).toI ≤ (arg l 1).toL.length ∧ ∀ i : Nat, (i : Int) < (arg l 3).toI → ((arg l 1).toL.getD i default).toS ≠ (arg l 2).toS
def wIndex.I0M : List D → Nat := fun l => ((arg l 1).toL.length - (arg l 3).toI).toNat
def wContains.sig : Sig := sigF [.l [.str], .s] [.b] (fun l => (arg l 1).toL.length ≤ 1000000000) fun l => (arg l 3).toB = true ↔ ∃ d ∈ (arg l 1).toL, d.toS = (arg l 2).toS
def lgOf (l : List D) (k : Nat) : Wl.Lg := ⟨(arg l k).toI, (arg l (k + 1)).toI.toNat, tx (arg l (k + 2)).toS, (arg l (k + 3)).toI, (arg l (k + 4)).toB, (arg l (k + 6)).toL.map fun d => tx d.toS⟩
def lgS : List Srt := [.I, .I, .S, .I, .B, .V, .L]
def lgBox (b d k : Nat) : Ch := .box (.at b) [.lf (.ptr (.at d) 0), .lf (.int .i64 (.at k)), .lf (.int .u64 (.at (k + 1))), .lf (.str (.at (k + 2))), .lf (.int .i64 (.at (k + 3))), .lf (.bool (.at (k + 4))), .lf (.sl (.at (k + 5)))]
def logH (b d k : Nat) : List Ch := [lgBox b d k, .rsl (.at (k + 5)) [.str] (.at (k + 6))]
def Mid (x : Ds) : Prop := Lim 50000 100000000 x
structure LgOk (g : Wl.Lg) : Prop where
 found : g.found.length ≤ 50000
 next : g.next < 18446744073709551616
 limit : 1 ≤ g.limit ∧ g.limit < 9223372036854775808
 size : 0 ≤ g.size ∧ g.size ≤ 1000000000000
def opW (args : List SV) (asr : List Srt) (op : List D → Ds → Wl.Lg → Ds × Wl.Lg × Int) (more : List D → Prop := fun _ => True) : Sig :=
 { args := ptrAt 0 :: args, heap := logH 0 1 2 ++ dskT 1 9, srts := .N :: .N :: lgS ++ .L :: asr, res := aI64 (18 + asr.length), heap' := logH 0 1 (10 + asr.length) ++ dskT 1 (17 + asr.length), news := lgS ++ [.L, .I],
   pre := fun l => (∃ x, RepL (arg l 9).toL x ∧ Mid x) ∧ LgOk (lgOf l 2) ∧ more l,
   post := fun l => ∀ x, RepL (arg l 9).toL x → Mid x → RepL (arg l (17 + asr.length)).toL (op l x (lgOf l 2)).1 ∧ lgOf l (10 + asr.length) = (op l x (lgOf l 2)).2.1 ∧ (arg l (18 + asr.length)).toI = (op l x (lgOf l 2)).2.2 }
def wSync.sig : Sig := opW [] [] fun _ x g => Wl.sync x g
def fnd (l : List D) : List Tx := l.map fun d => tx d.toS
def wSync.I0 : List D → Prop := fun l => (arg l 10 = arg l 2 ∧ arg l 11 = arg l 3 ∧ arg l 12 = arg l 4 ∧ arg l 13 = arg l 5 ∧ arg l 14 = arg l 6) ∧ (arg l 15).toL.length ≤ 50000 ∧
 ∀ x, RepL (arg l 9).toL x → Mid x → ∃ y, RepL (arg l 16).toL y ∧ Lim (100000 - (arg l 15).toL.length) 100000000 y ∧ Wl.syncFound x (fnd (arg l 8).toL) = Wl.syncFound y (fnd (arg l 15).toL)
def wSync.I0M : List D → Nat := fun l => (arg l 15).toL.length
def wTurn.sig : Sig := opW [] [] fun _ x g => Wl.turn x g
def wAppend.sig : Sig := opW [aS' 10] [.S] (fun l x g => Wl.append x g (tx (arg l 10).toS)) fun l => (arg l 10).toS.size ≤ 900000000
def wRetire.sig : Sig := opW [] [] fun _ x g => Wl.retire x g
def wRetire.I0 : List D → Prop := fun l => 0 ≤ (arg l 10).toI ∧ ∀ x, RepL (arg l 9).toL x → Mid x → x.dead = false ∧ (arg l 10).toI ≤ (Wl.files x).length ∧
 ∃ y, RepL (arg l 11).toL y ∧ Lim (50000 + (arg l 10).toI.toNat) 100000000 y ∧ Wl.removeAll x (Wl.files x) = Wl.removeAll y ((Wl.files x).drop (arg l 10).toI.toNat)
def wRetire.I0M : List D → Nat := fun l => (60001 - (arg l 10).toI).toNat
def txD (l : List Tx) : List D := l.map fun t => .S (bx t)
def wOpen.sig : Sig :=
 { args := [ptrAt 0, aI64 2], heap := dskT 0 1, srts := [.N, .L, .I], res := .tup [.lf (.ptr (.at 3) 0), .lf (.sl (.at 11)), .lf (.int .i64 (.int 0))], heap' := [lgBox 3 0 4, .rsl (.at 9) [.str] (.at 10), .osl (.at 11) [.str] (.at 12)] ++ dskT 0 1, news := .N :: lgS ++ [.V, .L],
   pre := fun l => ∃ x, RepL (arg l 1).toL x ∧ Mid x,
   post := fun l => ∀ x, RepL (arg l 1).toL x → Mid x → ∃ r, Wl.opened x (arg l 2).toI = (some (lgOf l 4, r), 0) ∧ (arg l 12).toL = txD r ∧ 0 ≤ (arg l 5).toI,
   alt := some (.tup [.lf .nilp, .lf (.sl (.at 3)), .lf (.int .i64 (.at 5))], .osl (.at 3) [.str] (.at 4) :: dskT 0 1, [.V, .L, .I]),
   post2 := fun l => ∀ x, RepL (arg l 1).toL x → Mid x → (arg l 5).toI ≠ 0 ∧ (arg l 4).toL = [] ∧ Wl.opened x (arg l 2).toI = (none, (arg l 5).toI) }
def wOpen.I0 : List D → Prop := fun l => 0 ≤ (arg l 4).toI ∧ (arg l 5).toI = max (arg l 2).toI 1 ∧ (arg l 7).toS = ByteArray.empty ∧ (arg l 8).toI = 0 ∧ (arg l 9).toB = false ∧
 ∀ x, RepL (arg l 1).toL x → Mid x → x.dead = false ∧ (arg l 4).toI ≤ (Wl.files x).length ∧ ∃ O F, (arg l 3).toL = txD O ∧ (arg l 10).toL = txD F ∧ O.length ≤ (arg l 4).toI.toNat * 100000002 ∧ F.length ≤ (arg l 4).toI.toNat ∧
  (if (arg l 4).toI = 0 then (arg l 6).toI = 1 ∧ O = [] ∧ F = [] else Wl.openAll x (Wl.files x) ((Wl.files x).headD 1) [] [] = Wl.openAll x ((Wl.files x).drop (arg l 4).toI.toNat) (arg l 6).toI.toNat O F)
def wOpen.I0M : List D → Nat := fun l => (60001 - (arg l 4).toI).toNat
def wNext.sig : Sig := { args := [ptrAt 0], heap := [lgBox 0 1 2], srts := .N :: .N :: lgS, res := .one (.lf (.int .u64 (.at 3))), heap' := [lgBox 0 1 2], news := [], pre := fun _ => True, post := fun _ => True }
end Go.Vc
namespace Go.Vc
set_option linter.unusedVariables false
set_option maxRecDepth 100000
def wName.Pure : Prop :=
 ∀ i0 : Int,
 U64 i0 →
 wName.sig.pre [.I i0] →
 wName.I0 [.I i0, .S (⟨#[]⟩ : ByteArray), .I 15] ∧ (
 ∀ s1 : ByteArray,
 ∀ i2 : Int,
 ((s1.size : Int) ≤ 9223372036854775807) →
 R64 i2 →
 wName.I0 [.I i0, .S s1, .I i2] →
 ((
 (0 ≤ i2) →
  Field.sig.pre [.I i0, .I (IntKind.wrap .i64 (4 * i2)), .I 4] ∧ (
 ∀ i3 : Int,
  Field.sig.post [.I i0, .I (IntKind.wrap .i64 (4 * i2)), .I 4, .I i3] →
 U64 i3 →
 (0 ≤ i3) ∧ ((0 ≤ i3) →
 (i3 < (((⟨#[48, 49, 50, 51, 52, 53, 54, 55, 56, 57, 97, 98, 99, 100, 101, 102]⟩ : ByteArray).size : Nat) : Int)) ∧ ((i3 < (((⟨#[48, 49, 50, 51, 52, 53, 54, 55, 56, 57, 97, 98, 99, 100, 101, 102]⟩ : ByteArray).size : Nat) : Int)) →
 ∀ v4 : Value,
 ((((s1 ++ (textOf ((byteAt (⟨#[48, 49, 50, 51, 52, 53, 54, 55, 56, 57, 97, 98, 99, 100, 101, 102]⟩ : ByteArray) i3) :: ([] : List Int)))).size : Nat) : Int) ≤ (9223372036854775807 : Int)) ∧ (((((s1 ++ (textOf ((byteAt (⟨#[48, 49, 50, 51, 52, 53, 54, 55, 56, 57, 97, 98, 99, 100, 101, 102]⟩ : ByteArray) i3) :: ([] : List Int)))).size : Nat) : Int) ≤ (9223372036854775807 : Int)) →
  Bk wName.I0 wName.I0M [.I i0, .S (s1 ++ (textOf ((byteAt (⟨#[48, 49, 50, 51, 52, 53, 54, 55, 56, 57, 97, 98, 99, 100, 101, 102]⟩ : ByteArray) i3) :: ([] : List Int)))), .I (IntKind.wrap .i64 (i2 - 1))] [.I i0, .S s1, .I i2]))))) ∧ (
 (i2 < 0) →
 (((((⟨#[119, 97, 108, 45]⟩ : ByteArray) ++ s1).size : Nat) : Int) ≤ (9223372036854775807 : Int)) ∧ ((((((⟨#[119, 97, 108, 45]⟩ : ByteArray) ++ s1).size : Nat) : Int) ≤ (9223372036854775807 : Int)) →
  wName.sig.post [.I i0, .S ((⟨#[119, 97, 108, 45]⟩ : ByteArray) ++ s1)]))))
def wHas.Pure : Prop :=
 ∀ s0 s1 : ByteArray,
 ((s0.size : Int) ≤ 9223372036854775807) →
 ((s1.size : Int) ≤ 9223372036854775807) →
 wHas.sig.pre [.S s0, .S s1] →
 ((
 (((s1.size : Nat) : Int) ≤ ((s0.size : Nat) : Int)) →
  wHas.sig.post [.S s0, .S s1, .B ((s0.extract (0 : Int).toNat ((s1.size : Nat) : Int).toNat).toList == s1.toList)]) ∧ (
 (((s0.size : Nat) : Int) < ((s1.size : Nat) : Int)) →
  wHas.sig.post [.S s0, .S s1, .B false]))
def wCutSL.Pure : Prop :=
 ∀ s0 s1 : ByteArray,
 ((s0.size : Int) ≤ 9223372036854775807) →
 ((s1.size : Int) ≤ 9223372036854775807) →
 wCutSL.sig.pre [.S s0, .S s1] →
 wHas.sig.pre [.S s0, .S s1] ∧ (
 ∀ b2 : Bool,
 wHas.sig.post [.S s0, .S s1, .B b2] →
 ((
 (b2 = false) →
  wCutSL.sig.post [.S s0, .S s1, .S s0, .B false]) ∧ (
 (b2 = true) →
 (((s1.size : Nat) : Int) ≤ ((s0.size : Nat) : Int)) ∧ ((((s1.size : Nat) : Int) ≤ ((s0.size : Nat) : Int)) →
  wCutSL.sig.post [.S s0, .S s1, .S (s0.extract ((s1.size : Nat) : Int).toNat ((s0.size : Nat) : Int).toNat), .B true]))))
def wCutP.Pure : Prop :=
 ∀ s0 s1 : ByteArray,
 ((s0.size : Int) ≤ 9223372036854775807) →
 ((s1.size : Int) ≤ 9223372036854775807) →
 wCutP.sig.pre [.S s0, .S s1] →
 wCutSL.sig.pre [.S s0, .S s1] ∧ (
 ∀ s2 : ByteArray,
 ∀ b3 : Bool,
 wCutSL.sig.post [.S s0, .S s1, .S s2, .B b3] →
 ((s2.size : Int) ≤ 9223372036854775807) →
 wCutP.sig.post [.S s0, .S s1, .S s2, .B b3])
def wFirst.Pure : Prop :=
 ∀ s0 : ByteArray,
 ((s0.size : Int) ≤ 9223372036854775807) →
 wFirst.sig.pre [.S s0] →
 wCutP.sig.pre [.S s0, .S (⟨#[119, 97, 108, 45]⟩ : ByteArray)] ∧ (
 ∀ s1 : ByteArray,
 ∀ b2 : Bool,
 wCutP.sig.post [.S s0, .S (⟨#[119, 97, 108, 45]⟩ : ByteArray), .S s1, .B b2] →
 ((s1.size : Int) ≤ 9223372036854775807) →
 ((
 (b2 = false) →
  wFirst.sig.post [.S s0, .I 0, .B false]) ∧ (
 (b2 = true) →
 ((
 (((s1.size : Nat) : Int) ≠ (16 : Int)) →
   wFirst.sig.post [.S s0, .I 0, .B false]) ∧ (
 (((s1.size : Nat) : Int) = (16 : Int)) →
 ∀ v3 : Value,
  wFirst.I0 [.S s0, .I 0, .I 0] ∧ (
 ∀ i4 i5 : Int,
 U64 i4 →
 R64 i5 →
  wFirst.I0 [.S s0, .I i4, .I i5] →
 ((
 (i5 < (((bytesOf s1).length : Nat) : Int)) →
 (0 ≤ i5) ∧ ((0 ≤ i5) →
  IxB.sig.pre [.S (⟨#[48, 49, 50, 51, 52, 53, 54, 55, 56, 57, 97, 98, 99, 100, 101, 102]⟩ : ByteArray), .I ((bytesOf s1).getD i5.toNat 0)] ∧ (
 ∀ i6 : Int,
  IxB.sig.post [.S (⟨#[48, 49, 50, 51, 52, 53, 54, 55, 56, 57, 97, 98, 99, 100, 101, 102]⟩ : ByteArray), .I ((bytesOf s1).getD i5.toNat 0), .I i6] →
 R64 i6 →
 ((
 (i6 < 0) →
   wFirst.sig.post [.S s0, .I 0, .B false]) ∧ (
 (0 ≤ i6) →
   Bk wFirst.I0 wFirst.I0M [.S s0, .I (Go.bits .or .u64 (shlI .u64 i4 4) (IntKind.wrap .u64 i6)), .I (IntKind.wrap .i64 (i5 + 1))] [.S s0, .I i4, .I i5]))))) ∧ (
 ((((bytesOf s1).length : Nat) : Int) ≤ i5) →
    wFirst.sig.post [.S s0, .I i4, .B true]))))))))
def wFiles.Pure : Prop :=
 ∀ n0 : Nat,
 ∀ l1 : List D,
 wFiles.sig.pre [.N n0, .L l1] →
 ∀ v2 : Value,
 qNames.sig.pre [.N n0, .L l1] ∧ (
 ∀ v3 : Value,
 ∀ l4 : List D,
 ∀ i5 : Int,
 qNames.sig.post [.N n0, .L l1, .V v3, .L l4, .I i5] →
 R64 i5 →
 (EK.ok [.str] (D.L l4)) →
 ((
 (i5 ≠ 0) →
 ∀ v6 : Value,
  wFiles.sig.post [.N n0, .L l1, .V v6, .Z ([] : List Int), .I i5]) ∧ (
 (i5 = 0) →
 ∀ v6 : Value,
  wFiles.I0 [.N n0, .L l1, .Z ([] : List Int), .I 0] ∧ (
 ∀ v7 : Value,
 ∀ z8 : List Int,
 ∀ i9 : Int,
 R64 i9 →
 (∀ x ∈ z8, IntKind.has .u64 x) →
  wFiles.I0 [.N n0, .L l1, .Z z8, .I i9] →
 ((
 (i9 < ((l4.length : Nat) : Int)) →
 (0 ≤ i9) ∧ ((0 ≤ i9) →
  wFirst.sig.pre [(D.S ((l4.getD i9.toNat default)).toS)] ∧ (
 ∀ i10 : Int,
 ∀ b11 : Bool,
  wFirst.sig.post [(D.S ((l4.getD i9.toNat default)).toS), .I i10, .B b11] →
 U64 i10 →
 ((
 (b11 = true) →
 ∀ v12 : Value,
 ((((z8 ++ (i10 :: ([] : List Int))).length : Nat) : Int) ≤ (17592186044416 : Int)) ∧ (((((z8 ++ (i10 :: ([] : List Int))).length : Nat) : Int) ≤ (17592186044416 : Int)) →
 ∀ v13 : Value,
  Bk wFiles.I0 wFiles.I0M [.N n0, .L l1, .Z (z8 ++ (i10 :: ([] : List Int))), .I (IntKind.wrap .i64 (i9 + 1))] [.N n0, .L l1, .Z z8, .I i9])) ∧ (
 (b11 = false) →
  Bk wFiles.I0 wFiles.I0M [.N n0, .L l1, .Z z8, .I (IntKind.wrap .i64 (i9 + 1))] [.N n0, .L l1, .Z z8, .I i9]))))) ∧ (
 (((l4.length : Nat) : Int) ≤ i9) →
   uSort.sig.pre [.V v7, .Z z8] ∧ (
   uSort.sig.post [.V v7, .Z z8] →
   wFiles.sig.post [.N n0, .L l1, .V v7, .Z z8, .I 0])))))))
def wOpen.Pure : Prop :=
 ∀ n0 : Nat,
 ∀ l1 : List D,
 ∀ i2 : Int,
 R64 i2 →
 wOpen.sig.pre [.N n0, .L l1, .I i2] →
 ∀ v3 : Value,
 wFiles.sig.pre [.N n0, .L l1] ∧ (
 ∀ v4 : Value,
 ∀ z5 : List Int,
 ∀ i6 : Int,
 wFiles.sig.post [.N n0, .L l1, .V v4, .Z z5, .I i6] →
 R64 i6 →
 (∀ x ∈ z5, IntKind.has .u64 x) →
 ((
 (i6 ≠ 0) →
 ∀ v7 : Value,
  wOpen.sig.post2 [.N n0, .L l1, .I i2, .V v7, .L ([] : List D), .I i6] ∧ (
  True)) ∧ (
 (i6 = 0) →
 ∀ v7 : Value,
 ∀ n8 : Nat,
 ∀ v9 : Value,
  wOpen.I0 [.N n0, .L l1, .I i2, .L ([] : List D), .I 0, .I (maxI i2 1), .I 1, .S (⟨#[]⟩ : ByteArray), .I 0, .B false, .L ([] : List D)] ∧ (
 ∀ v10 : Value,
 ∀ l11 : List D,
 ∀ i12 i13 i14 : Int,
 ∀ s15 : ByteArray,
 ∀ i16 : Int,
 ∀ b17 : Bool,
 ∀ v18 : Value,
 ∀ l19 : List D,
 R64 i12 →
 (EK.ok [.str] (D.L l11)) →
 R64 i13 →
 U64 i14 →
 ((s15.size : Int) ≤ 9223372036854775807) →
 R64 i16 →
 (EK.ok [.str] (D.L l19)) →
  wOpen.I0 [.N n0, .L l1, .I i2, .L l11, .I i12, .I i13, .I i14, .S s15, .I i16, .B b17, .L l19] →
 ((
 (i12 < ((z5.length : Nat) : Int)) →
 (0 ≤ i12) ∧ ((0 ≤ i12) →
 ((
 (i12 = 0) →
 ((
 ((z5.getD i12.toNat 0) ≠ (z5.getD i12.toNat 0)) →
   wOpen.sig.post [.N n0, .L l1, .I i2, .N n8, .I i13, .I (z5.getD i12.toNat 0), .S s15, .I i16, .B b17, .V v18, .L l19, .V v10, .L l11]) ∧ (
 ((z5.getD i12.toNat 0) = (z5.getD i12.toNat 0)) →
   wName.sig.pre [.I (z5.getD i12.toNat 0)] ∧ (
 ∀ s20 : ByteArray,
   wName.sig.post [.I (z5.getD i12.toNat 0), .S s20] →
 ((s20.size : Int) ≤ 9223372036854775807) →
   qRead.sig.pre [.N n0, .L l1, .S s20] ∧ (
 ∀ s21 : ByteArray,
 ∀ i22 : Int,
   qRead.sig.post [.N n0, .L l1, .S s20, .S s21, .I i22] →
 ((s21.size : Int) ≤ 9223372036854775807) →
 R64 i22 →
 ((
 (i22 ≠ 0) →
 ∀ v23 : Value,
   wOpen.sig.post2 [.N n0, .L l1, .I i2, .V v23, .L ([] : List D), .I i22] ∧ (
   True)) ∧ (
 (i22 = 0) →
   FScan.sig.pre [.S s21, .I (z5.getD i12.toNat 0)] ∧ (
 ∀ v23 : Value,
 ∀ l24 : List D,
 ∀ i25 : Int,
   FScan.sig.post [.S s21, .I (z5.getD i12.toNat 0), .V v23, .L l24, .I i25] →
 R64 i25 →
 (EK.ok [.str] (D.L l24)) →
 ((((l11 ++ l24).length : Nat) : Int) ≤ (8796093022208 : Int)) ∧ (((((l11 ++ l24).length : Nat) : Int) ≤ (8796093022208 : Int)) →
 ∀ v26 : Value,
 ((
    wName.sig.pre [.I (z5.getD i12.toNat 0)] ∧ (
 ∀ s27 : ByteArray,
    wName.sig.post [.I (z5.getD i12.toNat 0), .S s27] →
 ((s27.size : Int) ≤ 9223372036854775807) →
 ∀ v28 : Value,
 ((((l19 ++ ((D.S s27) :: ([] : List D))).length : Nat) : Int) ≤ (8796093022208 : Int)) ∧ (((((l19 ++ ((D.S s27) :: ([] : List D))).length : Nat) : Int) ≤ (8796093022208 : Int)) →
 ∀ v29 : Value,
    Bk wOpen.I0 wOpen.I0M [.N n0, .L l1, .I i2, .L (l11 ++ l24), .I (IntKind.wrap .i64 (i12 + 1)), .I i13, .I (IntKind.wrap .u64 ((z5.getD i12.toNat 0) + (IntKind.wrap .u64 ((l24.length : Nat) : Int)))), .S s15, .I i16, .B b17, .L (l19 ++ ((D.S s27) :: ([] : List D)))] [.N n0, .L l1, .I i2, .L l11, .I i12, .I i13, .I i14, .S s15, .I i16, .B b17, .L l19]))) ∧ (
    wName.sig.pre [.I (z5.getD i12.toNat 0)] ∧ (
 ∀ s27 : ByteArray,
    wName.sig.post [.I (z5.getD i12.toNat 0), .S s27] →
 ((s27.size : Int) ≤ 9223372036854775807) →
 ((
 ∀ v28 : Value,
 ((((l19 ++ ((D.S s27) :: ([] : List D))).length : Nat) : Int) ≤ (8796093022208 : Int)) ∧ (((((l19 ++ ((D.S s27) :: ([] : List D))).length : Nat) : Int) ≤ (8796093022208 : Int)) →
 ∀ v29 : Value,
    Bk wOpen.I0 wOpen.I0M [.N n0, .L l1, .I i2, .L (l11 ++ l24), .I (IntKind.wrap .i64 (i12 + 1)), .I i13, .I (IntKind.wrap .u64 ((z5.getD i12.toNat 0) + (IntKind.wrap .u64 ((l24.length : Nat) : Int)))), .S s15, .I i16, .B b17, .L (l19 ++ ((D.S s27) :: ([] : List D)))] [.N n0, .L l1, .I i2, .L l11, .I i12, .I i13, .I i14, .S s15, .I i16, .B b17, .L l19])) ∧ (
 ∀ v28 : Value,
 ((((l19 ++ ((D.S s27) :: ([] : List D))).length : Nat) : Int) ≤ (8796093022208 : Int)) ∧ (((((l19 ++ ((D.S s27) :: ([] : List D))).length : Nat) : Int) ≤ (8796093022208 : Int)) →
 ∀ v29 : Value,
    Bk wOpen.I0 wOpen.I0M [.N n0, .L l1, .I i2, .L (l11 ++ l24), .I (IntKind.wrap .i64 (i12 + 1)), .I i13, .I (IntKind.wrap .u64 ((z5.getD i12.toNat 0) + (IntKind.wrap .u64 ((l24.length : Nat) : Int)))), .S s15, .I i16, .B b17, .L (l19 ++ ((D.S s27) :: ([] : List D)))] [.N n0, .L l1, .I i2, .L l11, .I i12, .I i13, .I i14, .S s15, .I i16, .B b17, .L l19]))))))))))))))) ∧ (
 (i12 ≠ 0) →
 ((
 ((z5.getD i12.toNat 0) ≠ i14) →
   wOpen.sig.post [.N n0, .L l1, .I i2, .N n8, .I i13, .I i14, .S s15, .I i16, .B b17, .V v18, .L l19, .V v10, .L l11]) ∧ (
 ((z5.getD i12.toNat 0) = i14) →
   wName.sig.pre [.I (z5.getD i12.toNat 0)] ∧ (
 ∀ s20 : ByteArray,
   wName.sig.post [.I (z5.getD i12.toNat 0), .S s20] →
 ((s20.size : Int) ≤ 9223372036854775807) →
   qRead.sig.pre [.N n0, .L l1, .S s20] ∧ (
 ∀ s21 : ByteArray,
 ∀ i22 : Int,
   qRead.sig.post [.N n0, .L l1, .S s20, .S s21, .I i22] →
 ((s21.size : Int) ≤ 9223372036854775807) →
 R64 i22 →
 ((
 (i22 ≠ 0) →
 ∀ v23 : Value,
   wOpen.sig.post2 [.N n0, .L l1, .I i2, .V v23, .L ([] : List D), .I i22] ∧ (
   True)) ∧ (
 (i22 = 0) →
   FScan.sig.pre [.S s21, .I (z5.getD i12.toNat 0)] ∧ (
 ∀ v23 : Value,
 ∀ l24 : List D,
 ∀ i25 : Int,
   FScan.sig.post [.S s21, .I (z5.getD i12.toNat 0), .V v23, .L l24, .I i25] →
 R64 i25 →
 (EK.ok [.str] (D.L l24)) →
 ((((l11 ++ l24).length : Nat) : Int) ≤ (8796093022208 : Int)) ∧ (((((l11 ++ l24).length : Nat) : Int) ≤ (8796093022208 : Int)) →
 ∀ v26 : Value,
 ((
    wName.sig.pre [.I (z5.getD i12.toNat 0)] ∧ (
 ∀ s27 : ByteArray,
    wName.sig.post [.I (z5.getD i12.toNat 0), .S s27] →
 ((s27.size : Int) ≤ 9223372036854775807) →
 ∀ v28 : Value,
 ((((l19 ++ ((D.S s27) :: ([] : List D))).length : Nat) : Int) ≤ (8796093022208 : Int)) ∧ (((((l19 ++ ((D.S s27) :: ([] : List D))).length : Nat) : Int) ≤ (8796093022208 : Int)) →
 ∀ v29 : Value,
    Bk wOpen.I0 wOpen.I0M [.N n0, .L l1, .I i2, .L (l11 ++ l24), .I (IntKind.wrap .i64 (i12 + 1)), .I i13, .I (IntKind.wrap .u64 (i14 + (IntKind.wrap .u64 ((l24.length : Nat) : Int)))), .S s15, .I i16, .B b17, .L (l19 ++ ((D.S s27) :: ([] : List D)))] [.N n0, .L l1, .I i2, .L l11, .I i12, .I i13, .I i14, .S s15, .I i16, .B b17, .L l19]))) ∧ (
    wName.sig.pre [.I (z5.getD i12.toNat 0)] ∧ (
 ∀ s27 : ByteArray,
    wName.sig.post [.I (z5.getD i12.toNat 0), .S s27] →
 ((s27.size : Int) ≤ 9223372036854775807) →
 ((
 ∀ v28 : Value,
 ((((l19 ++ ((D.S s27) :: ([] : List D))).length : Nat) : Int) ≤ (8796093022208 : Int)) ∧ (((((l19 ++ ((D.S s27) :: ([] : List D))).length : Nat) : Int) ≤ (8796093022208 : Int)) →
 ∀ v29 : Value,
    Bk wOpen.I0 wOpen.I0M [.N n0, .L l1, .I i2, .L (l11 ++ l24), .I (IntKind.wrap .i64 (i12 + 1)), .I i13, .I (IntKind.wrap .u64 (i14 + (IntKind.wrap .u64 ((l24.length : Nat) : Int)))), .S s15, .I i16, .B b17, .L (l19 ++ ((D.S s27) :: ([] : List D)))] [.N n0, .L l1, .I i2, .L l11, .I i12, .I i13, .I i14, .S s15, .I i16, .B b17, .L l19])) ∧ (
 ∀ v28 : Value,
 ((((l19 ++ ((D.S s27) :: ([] : List D))).length : Nat) : Int) ≤ (8796093022208 : Int)) ∧ (((((l19 ++ ((D.S s27) :: ([] : List D))).length : Nat) : Int) ≤ (8796093022208 : Int)) →
 ∀ v29 : Value,
    Bk wOpen.I0 wOpen.I0M [.N n0, .L l1, .I i2, .L (l11 ++ l24), .I (IntKind.wrap .i64 (i12 + 1)), .I i13, .I (IntKind.wrap .u64 (i14 + (IntKind.wrap .u64 ((l24.length : Nat) : Int)))), .S s15, .I i16, .B b17, .L (l19 ++ ((D.S s27) :: ([] : List D)))] [.N n0, .L l1, .I i2, .L l11, .I i12, .I i13, .I i14, .S s15, .I i16, .B b17, .L l19])))))))))))))))))) ∧ (
 (((z5.length : Nat) : Int) ≤ i12) →
   wOpen.sig.post [.N n0, .L l1, .I i2, .N n8, .I i13, .I i14, .S s15, .I i16, .B b17, .V v18, .L l19, .V v10, .L l11]))))))
def wSync.Pure : Prop :=
 ∀ n0 n1 : Nat,
 ∀ i2 i3 : Int,
 ∀ s4 : ByteArray,
 ∀ i5 : Int,
 ∀ b6 : Bool,
 ∀ v7 : Value,
 ∀ l8 l9 : List D,
 R64 i2 →
 U64 i3 →
 ((s4.size : Int) ≤ 9223372036854775807) →
 R64 i5 →
 (EK.ok [.str] (D.L l8)) →
 wSync.sig.pre [.N n0, .N n1, .I i2, .I i3, .S s4, .I i5, .B b6, .V v7, .L l8, .L l9] →
 wSync.I0 [.N n0, .N n1, .I i2, .I i3, .S s4, .I i5, .B b6, .V v7, .L l8, .L l9, .I i2, .I i3, .S s4, .I i5, .B b6, .L l8, .L l9] ∧ (
 ∀ i10 i11 : Int,
 ∀ s12 : ByteArray,
 ∀ i13 : Int,
 ∀ b14 : Bool,
 ∀ v15 : Value,
 ∀ l16 l17 : List D,
 R64 i10 →
 U64 i11 →
 ((s12.size : Int) ≤ 9223372036854775807) →
 R64 i13 →
 (EK.ok [.str] (D.L l16)) →
 wSync.I0 [.N n0, .N n1, .I i2, .I i3, .S s4, .I i5, .B b6, .V v7, .L l8, .L l9, .I i10, .I i11, .S s12, .I i13, .B b14, .L l16, .L l17] →
 ((
 (0 < ((l16.length : Nat) : Int)) →
  qSync.sig.pre [.N n1, .L l17, (D.S ((l16.getD (0 : Int).toNat default)).toS)] ∧ (
 ∀ l18 : List D,
 ∀ i19 : Int,
  qSync.sig.post [.N n1, .L l17, (D.S ((l16.getD (0 : Int).toNat default)).toS), .L l18, .I i19] →
 R64 i19 →
 ((
 (i19 ≠ 0) →
  wSync.sig.post [.N n0, .N n1, .I i2, .I i3, .S s4, .I i5, .B b6, .V v7, .L l8, .L l9, .I i10, .I i11, .S s12, .I i13, .B b14, .V v15, .L l16, .L l18, .I i19]) ∧ (
 (i19 = 0) →
 (1 ≤ ((l16.length : Nat) : Int)) ∧ ((1 ≤ ((l16.length : Nat) : Int)) →
 ∀ v20 : Value,
  Bk wSync.I0 wSync.I0M [.N n0, .N n1, .I i2, .I i3, .S s4, .I i5, .B b6, .V v7, .L l8, .L l9, .I i10, .I i11, .S s12, .I i13, .B b14, .L (l16.drop (1 : Int).toNat), .L l18] [.N n0, .N n1, .I i2, .I i3, .S s4, .I i5, .B b6, .V v7, .L l8, .L l9, .I i10, .I i11, .S s12, .I i13, .B b14, .L l16, .L l17]))))) ∧ (
 (((l16.length : Nat) : Int) ≤ (0 : Int)) →
 ((
 (b14 = false) →
  wSync.sig.post [.N n0, .N n1, .I i2, .I i3, .S s4, .I i5, .B b6, .V v7, .L l8, .L l9, .I i10, .I i11, .S s12, .I i13, .B b14, .V v15, .L l16, .L l17, .I 0]) ∧ (
 (b14 = true) →
  qSync.sig.pre [.N n1, .L l17, .S s12] ∧ (
 ∀ l18 : List D,
 ∀ i19 : Int,
  qSync.sig.post [.N n1, .L l17, .S s12, .L l18, .I i19] →
 R64 i19 →
 ((
 (i19 ≠ 0) →
  wSync.sig.post [.N n0, .N n1, .I i2, .I i3, .S s4, .I i5, .B b6, .V v7, .L l8, .L l9, .I i10, .I i11, .S s12, .I i13, .B b14, .V v15, .L l16, .L l18, .I i19]) ∧ (
 (i19 = 0) →
  wSync.sig.post [.N n0, .N n1, .I i2, .I i3, .S s4, .I i5, .B b6, .V v7, .L l8, .L l9, .I i10, .I i11, .S s12, .I i13, .B false, .V v15, .L l16, .L l18, .I 0]))))))))
def wIndex.Pure : Prop :=
 ∀ v0 : Value,
 ∀ l1 : List D,
 ∀ s2 : ByteArray,
 ((s2.size : Int) ≤ 9223372036854775807) →
 (EK.ok [.str] (D.L l1)) →
 wIndex.sig.pre [.V v0, .L l1, .S s2] →
 wIndex.I0 [.V v0, .L l1, .S s2, .I 0] ∧ (
 ∀ i3 : Int,
 R64 i3 →
 wIndex.I0 [.V v0, .L l1, .S s2, .I i3] →
 ((
 (i3 < ((l1.length : Nat) : Int)) →
 (0 ≤ i3) ∧ ((0 ≤ i3) →
 ((
 (s2 = ((l1.getD i3.toNat default)).toS) →
  wIndex.sig.post [.V v0, .L l1, .S s2, .I i3]) ∧ (
 (s2 ≠ ((l1.getD i3.toNat default)).toS) →
  Bk wIndex.I0 wIndex.I0M [.V v0, .L l1, .S s2, .I (IntKind.wrap .i64 (i3 + 1))] [.V v0, .L l1, .S s2, .I i3])))) ∧ (
 (((l1.length : Nat) : Int) ≤ i3) →
  wIndex.sig.post [.V v0, .L l1, .S s2, .I (-1 : Int)])))
def wContains.Pure : Prop :=
 ∀ v0 : Value,
 ∀ l1 : List D,
 ∀ s2 : ByteArray,
 ((s2.size : Int) ≤ 9223372036854775807) →
 (EK.ok [.str] (D.L l1)) →
 wContains.sig.pre [.V v0, .L l1, .S s2] →
 wIndex.sig.pre [.V v0, .L l1, .S s2] ∧ (
 ∀ i3 : Int,
 wIndex.sig.post [.V v0, .L l1, .S s2, .I i3] →
 R64 i3 →
 wContains.sig.post [.V v0, .L l1, .S s2, .B (decide (0 ≤ i3))])
def wTurn.Pure : Prop :=
 ∀ n0 n1 : Nat,
 ∀ i2 i3 : Int,
 ∀ s4 : ByteArray,
 ∀ i5 : Int,
 ∀ b6 : Bool,
 ∀ v7 : Value,
 ∀ l8 l9 : List D,
 R64 i2 →
 U64 i3 →
 ((s4.size : Int) ≤ 9223372036854775807) →
 R64 i5 →
 (EK.ok [.str] (D.L l8)) →
 wTurn.sig.pre [.N n0, .N n1, .I i2, .I i3, .S s4, .I i5, .B b6, .V v7, .L l8, .L l9] →
 wSync.sig.pre [.N n0, .N n1, .I i2, .I i3, .S s4, .I i5, .B b6, .V v7, .L l8, .L l9] ∧ (
 ∀ i10 i11 : Int,
 ∀ s12 : ByteArray,
 ∀ i13 : Int,
 ∀ b14 : Bool,
 ∀ v15 : Value,
 ∀ l16 l17 : List D,
 ∀ i18 : Int,
 wSync.sig.post [.N n0, .N n1, .I i2, .I i3, .S s4, .I i5, .B b6, .V v7, .L l8, .L l9, .I i10, .I i11, .S s12, .I i13, .B b14, .V v15, .L l16, .L l17, .I i18] →
 R64 i18 →
 R64 i10 →
 U64 i11 →
 ((s12.size : Int) ≤ 9223372036854775807) →
 R64 i13 →
 (EK.ok [.str] (D.L l16)) →
 ((
 (i18 ≠ 0) →
  wTurn.sig.post [.N n0, .N n1, .I i2, .I i3, .S s4, .I i5, .B b6, .V v7, .L l8, .L l9, .I i10, .I i11, .S s12, .I i13, .B b14, .V v15, .L l16, .L l17, .I i18]) ∧ (
 (i18 = 0) →
  wName.sig.pre [.I i11] ∧ (
 ∀ s19 : ByteArray,
  wName.sig.post [.I i11, .S s19] →
 ((s19.size : Int) ≤ 9223372036854775807) →
  qNames.sig.pre [.N n1, .L l17] ∧ (
 ∀ v20 : Value,
 ∀ l21 : List D,
 ∀ i22 : Int,
  qNames.sig.post [.N n1, .L l17, .V v20, .L l21, .I i22] →
 R64 i22 →
 (EK.ok [.str] (D.L l21)) →
 ((
 (i22 ≠ 0) →
  wTurn.sig.post [.N n0, .N n1, .I i2, .I i3, .S s4, .I i5, .B b6, .V v7, .L l8, .L l9, .I i10, .I i11, .S s12, .I i13, .B b14, .V v15, .L l16, .L l17, .I i22]) ∧ (
 (i22 = 0) →
  wContains.sig.pre [.V v20, .L l21, .S s19] ∧ (
 ∀ b23 : Bool,
  wContains.sig.post [.V v20, .L l21, .S s19, .B b23] →
 ((
 (b23 = true) →
  qRemove.sig.pre [.N n1, .L l17, .S s19] ∧ (
 ∀ l24 : List D,
 ∀ i25 : Int,
  qRemove.sig.post [.N n1, .L l17, .S s19, .L l24, .I i25] →
 R64 i25 →
 ((
 (i25 ≠ 0) →
   wTurn.sig.post [.N n0, .N n1, .I i2, .I i3, .S s4, .I i5, .B b6, .V v7, .L l8, .L l9, .I i10, .I i11, .S s12, .I i13, .B b14, .V v15, .L l16, .L l24, .I i25]) ∧ (
 (i25 = 0) →
   qCreate.sig.pre [.N n1, .L l24, .S s19] ∧ (
 ∀ l26 : List D,
 ∀ i27 : Int,
   qCreate.sig.post [.N n1, .L l24, .S s19, .L l26, .I i27] →
 R64 i27 →
 ((
 (i27 ≠ 0) →
   wTurn.sig.post [.N n0, .N n1, .I i2, .I i3, .S s4, .I i5, .B b6, .V v7, .L l8, .L l9, .I i10, .I i11, .S s12, .I i13, .B b14, .V v15, .L l16, .L l26, .I i27]) ∧ (
 (i27 = 0) →
   qSyncNames.sig.pre [.N n1, .L l26] ∧ (
 ∀ l28 : List D,
 ∀ i29 : Int,
   qSyncNames.sig.post [.N n1, .L l26, .L l28, .I i29] →
 R64 i29 →
 ((
 (i29 ≠ 0) →
    wTurn.sig.post [.N n0, .N n1, .I i2, .I i3, .S s4, .I i5, .B b6, .V v7, .L l8, .L l9, .I i10, .I i11, .S s12, .I i13, .B b14, .V v15, .L l16, .L l28, .I i29]) ∧ (
 (i29 = 0) →
    wTurn.sig.post [.N n0, .N n1, .I i2, .I i3, .S s4, .I i5, .B b6, .V v7, .L l8, .L l9, .I i10, .I i11, .S s19, .I 0, .B b14, .V v15, .L l16, .L l28, .I 0])))))))))) ∧ (
 (b23 = false) →
  qCreate.sig.pre [.N n1, .L l17, .S s19] ∧ (
 ∀ l24 : List D,
 ∀ i25 : Int,
  qCreate.sig.post [.N n1, .L l17, .S s19, .L l24, .I i25] →
 R64 i25 →
 ((
 (i25 ≠ 0) →
   wTurn.sig.post [.N n0, .N n1, .I i2, .I i3, .S s4, .I i5, .B b6, .V v7, .L l8, .L l9, .I i10, .I i11, .S s12, .I i13, .B b14, .V v15, .L l16, .L l24, .I i25]) ∧ (
 (i25 = 0) →
   qSyncNames.sig.pre [.N n1, .L l24] ∧ (
 ∀ l26 : List D,
 ∀ i27 : Int,
   qSyncNames.sig.post [.N n1, .L l24, .L l26, .I i27] →
 R64 i27 →
 ((
 (i27 ≠ 0) →
   wTurn.sig.post [.N n0, .N n1, .I i2, .I i3, .S s4, .I i5, .B b6, .V v7, .L l8, .L l9, .I i10, .I i11, .S s12, .I i13, .B b14, .V v15, .L l16, .L l26, .I i27]) ∧ (
 (i27 = 0) →
   wTurn.sig.post [.N n0, .N n1, .I i2, .I i3, .S s4, .I i5, .B b6, .V v7, .L l8, .L l9, .I i10, .I i11, .S s19, .I 0, .B b14, .V v15, .L l16, .L l26, .I 0]))))))))))))))))
def wAppend.Pure : Prop :=
 ∀ n0 n1 : Nat,
 ∀ i2 i3 : Int,
 ∀ s4 : ByteArray,
 ∀ i5 : Int,
 ∀ b6 : Bool,
 ∀ v7 : Value,
 ∀ l8 l9 : List D,
 ∀ s10 : ByteArray,
 ((s10.size : Int) ≤ 9223372036854775807) →
 R64 i2 →
 U64 i3 →
 ((s4.size : Int) ≤ 9223372036854775807) →
 R64 i5 →
 (EK.ok [.str] (D.L l8)) →
 wAppend.sig.pre [.N n0, .N n1, .I i2, .I i3, .S s4, .I i5, .B b6, .V v7, .L l8, .L l9, .S s10] →
 FWrite.sig.pre [.I i3, .S s10] ∧ (
 ∀ s11 : ByteArray,
 ∀ i12 : Int,
 FWrite.sig.post [.I i3, .S s10, .S s11, .I i12] →
 ((s11.size : Int) ≤ 9223372036854775807) →
 R64 i12 →
 ((
 (i12 ≠ 0) →
  wAppend.sig.post [.N n0, .N n1, .I i2, .I i3, .S s4, .I i5, .B b6, .V v7, .L l8, .L l9, .S s10, .I i2, .I i3, .S s4, .I i5, .B b6, .V v7, .L l8, .L l9, .I i12]) ∧ (
 (i12 = 0) →
 ((
 (s4 = (⟨#[]⟩ : ByteArray)) →
  wTurn.sig.pre [.N n0, .N n1, .I i2, .I i3, .S s4, .I i5, .B b6, .V v7, .L l8, .L l9] ∧ (
 ∀ i13 i14 : Int,
 ∀ s15 : ByteArray,
 ∀ i16 : Int,
 ∀ b17 : Bool,
 ∀ v18 : Value,
 ∀ l19 l20 : List D,
 ∀ i21 : Int,
  wTurn.sig.post [.N n0, .N n1, .I i2, .I i3, .S s4, .I i5, .B b6, .V v7, .L l8, .L l9, .I i13, .I i14, .S s15, .I i16, .B b17, .V v18, .L l19, .L l20, .I i21] →
 R64 i21 →
 R64 i13 →
 U64 i14 →
 ((s15.size : Int) ≤ 9223372036854775807) →
 R64 i16 →
 (EK.ok [.str] (D.L l19)) →
 ((
 (i21 ≠ 0) →
  wAppend.sig.post [.N n0, .N n1, .I i2, .I i3, .S s4, .I i5, .B b6, .V v7, .L l8, .L l9, .S s10, .I i13, .I i14, .S s15, .I i16, .B b17, .V v18, .L l19, .L l20, .I i21]) ∧ (
 (i21 = 0) →
  qAppend.sig.pre [.N n1, .L l20, .S s15, .S s11] ∧ (
 ∀ l22 : List D,
 ∀ i23 : Int,
  qAppend.sig.post [.N n1, .L l20, .S s15, .S s11, .L l22, .I i23] →
 R64 i23 →
 ((
 (i23 ≠ 0) →
   wAppend.sig.post [.N n0, .N n1, .I i2, .I i3, .S s4, .I i5, .B b6, .V v7, .L l8, .L l9, .S s10, .I i13, .I i14, .S s15, .I i16, .B b17, .V v18, .L l19, .L l22, .I i23]) ∧ (
 (i23 = 0) →
   wAppend.sig.post [.N n0, .N n1, .I i2, .I i3, .S s4, .I i5, .B b6, .V v7, .L l8, .L l9, .S s10, .I i13, .I (IntKind.wrap .u64 (i14 + 1)), .S s15, .I (IntKind.wrap .i64 (i16 + ((s11.size : Nat) : Int))), .B true, .V v18, .L l19, .L l22, .I 0]))))))) ∧ (
 (s4 ≠ (⟨#[]⟩ : ByteArray)) →
 ((
 (0 < i5) →
 ((
 ((IntKind.wrap .i64 (i2 - ((s11.size : Nat) : Int))) < i5) →
   wTurn.sig.pre [.N n0, .N n1, .I i2, .I i3, .S s4, .I i5, .B b6, .V v7, .L l8, .L l9] ∧ (
 ∀ i13 i14 : Int,
 ∀ s15 : ByteArray,
 ∀ i16 : Int,
 ∀ b17 : Bool,
 ∀ v18 : Value,
 ∀ l19 l20 : List D,
 ∀ i21 : Int,
   wTurn.sig.post [.N n0, .N n1, .I i2, .I i3, .S s4, .I i5, .B b6, .V v7, .L l8, .L l9, .I i13, .I i14, .S s15, .I i16, .B b17, .V v18, .L l19, .L l20, .I i21] →
 R64 i21 →
 R64 i13 →
 U64 i14 →
 ((s15.size : Int) ≤ 9223372036854775807) →
 R64 i16 →
 (EK.ok [.str] (D.L l19)) →
 ((
 (i21 ≠ 0) →
   wAppend.sig.post [.N n0, .N n1, .I i2, .I i3, .S s4, .I i5, .B b6, .V v7, .L l8, .L l9, .S s10, .I i13, .I i14, .S s15, .I i16, .B b17, .V v18, .L l19, .L l20, .I i21]) ∧ (
 (i21 = 0) →
   qAppend.sig.pre [.N n1, .L l20, .S s15, .S s11] ∧ (
 ∀ l22 : List D,
 ∀ i23 : Int,
   qAppend.sig.post [.N n1, .L l20, .S s15, .S s11, .L l22, .I i23] →
 R64 i23 →
 ((
 (i23 ≠ 0) →
    wAppend.sig.post [.N n0, .N n1, .I i2, .I i3, .S s4, .I i5, .B b6, .V v7, .L l8, .L l9, .S s10, .I i13, .I i14, .S s15, .I i16, .B b17, .V v18, .L l19, .L l22, .I i23]) ∧ (
 (i23 = 0) →
    wAppend.sig.post [.N n0, .N n1, .I i2, .I i3, .S s4, .I i5, .B b6, .V v7, .L l8, .L l9, .S s10, .I i13, .I (IntKind.wrap .u64 (i14 + 1)), .S s15, .I (IntKind.wrap .i64 (i16 + ((s11.size : Nat) : Int))), .B true, .V v18, .L l19, .L l22, .I 0]))))))) ∧ (
 (i5 ≤ (IntKind.wrap .i64 (i2 - ((s11.size : Nat) : Int)))) →
   qAppend.sig.pre [.N n1, .L l9, .S s4, .S s11] ∧ (
 ∀ l13 : List D,
 ∀ i14 : Int,
   qAppend.sig.post [.N n1, .L l9, .S s4, .S s11, .L l13, .I i14] →
 R64 i14 →
 ((
 (i14 ≠ 0) →
   wAppend.sig.post [.N n0, .N n1, .I i2, .I i3, .S s4, .I i5, .B b6, .V v7, .L l8, .L l9, .S s10, .I i2, .I i3, .S s4, .I i5, .B b6, .V v7, .L l8, .L l13, .I i14]) ∧ (
 (i14 = 0) →
   wAppend.sig.post [.N n0, .N n1, .I i2, .I i3, .S s4, .I i5, .B b6, .V v7, .L l8, .L l9, .S s10, .I i2, .I (IntKind.wrap .u64 (i3 + 1)), .S s4, .I (IntKind.wrap .i64 (i5 + ((s11.size : Nat) : Int))), .B true, .V v7, .L l8, .L l13, .I 0])))))) ∧ (
 (i5 ≤ 0) →
  qAppend.sig.pre [.N n1, .L l9, .S s4, .S s11] ∧ (
 ∀ l13 : List D,
 ∀ i14 : Int,
  qAppend.sig.post [.N n1, .L l9, .S s4, .S s11, .L l13, .I i14] →
 R64 i14 →
 ((
 (i14 ≠ 0) →
   wAppend.sig.post [.N n0, .N n1, .I i2, .I i3, .S s4, .I i5, .B b6, .V v7, .L l8, .L l9, .S s10, .I i2, .I i3, .S s4, .I i5, .B b6, .V v7, .L l8, .L l13, .I i14]) ∧ (
 (i14 = 0) →
   wAppend.sig.post [.N n0, .N n1, .I i2, .I i3, .S s4, .I i5, .B b6, .V v7, .L l8, .L l9, .S s10, .I i2, .I (IntKind.wrap .u64 (i3 + 1)), .S s4, .I (IntKind.wrap .i64 (i5 + ((s11.size : Nat) : Int))), .B true, .V v7, .L l8, .L l13, .I 0]))))))))))
def wRetire.Pure : Prop :=
 ∀ n0 n1 : Nat,
 ∀ i2 i3 : Int,
 ∀ s4 : ByteArray,
 ∀ i5 : Int,
 ∀ b6 : Bool,
 ∀ v7 : Value,
 ∀ l8 l9 : List D,
 R64 i2 →
 U64 i3 →
 ((s4.size : Int) ≤ 9223372036854775807) →
 R64 i5 →
 (EK.ok [.str] (D.L l8)) →
 wRetire.sig.pre [.N n0, .N n1, .I i2, .I i3, .S s4, .I i5, .B b6, .V v7, .L l8, .L l9] →
 wFiles.sig.pre [.N n1, .L l9] ∧ (
 ∀ v10 : Value,
 ∀ z11 : List Int,
 ∀ i12 : Int,
 wFiles.sig.post [.N n1, .L l9, .V v10, .Z z11, .I i12] →
 R64 i12 →
 (∀ x ∈ z11, IntKind.has .u64 x) →
 ((
 (i12 ≠ 0) →
  wRetire.sig.post [.N n0, .N n1, .I i2, .I i3, .S s4, .I i5, .B b6, .V v7, .L l8, .L l9, .I i2, .I i3, .S s4, .I i5, .B b6, .V v7, .L l8, .L l9, .I i12]) ∧ (
 (i12 = 0) →
 ∀ v13 : Value,
  wRetire.I0 [.N n0, .N n1, .I i2, .I i3, .S s4, .I i5, .B b6, .V v7, .L l8, .L l9, .I 0, .L l9] ∧ (
 ∀ i14 : Int,
 ∀ l15 : List D,
 R64 i14 →
  wRetire.I0 [.N n0, .N n1, .I i2, .I i3, .S s4, .I i5, .B b6, .V v7, .L l8, .L l9, .I i14, .L l15] →
 ((
 (i14 < ((z11.length : Nat) : Int)) →
 (0 ≤ i14) ∧ ((0 ≤ i14) →
  wName.sig.pre [.I (z11.getD i14.toNat 0)] ∧ (
 ∀ s16 : ByteArray,
  wName.sig.post [.I (z11.getD i14.toNat 0), .S s16] →
 ((s16.size : Int) ≤ 9223372036854775807) →
   qRemove.sig.pre [.N n1, .L l15, .S s16] ∧ (
 ∀ l17 : List D,
 ∀ i18 : Int,
  qRemove.sig.post [.N n1, .L l15, .S s16, .L l17, .I i18] →
 R64 i18 →
 ((
 (i18 ≠ 0) →
  wRetire.sig.post [.N n0, .N n1, .I i2, .I i3, .S s4, .I i5, .B b6, .V v7, .L l8, .L l9, .I i2, .I i3, .S (⟨#[]⟩ : ByteArray), .I 0, .B false, .V v13, .L ([] : List D), .L l17, .I i18]) ∧ (
 (i18 = 0) →
  Bk wRetire.I0 wRetire.I0M [.N n0, .N n1, .I i2, .I i3, .S s4, .I i5, .B b6, .V v7, .L l8, .L l9, .I (IntKind.wrap .i64 (i14 + 1)), .L l17] [.N n0, .N n1, .I i2, .I i3, .S s4, .I i5, .B b6, .V v7, .L l8, .L l9, .I i14, .L l15])))))) ∧ (
 (((z11.length : Nat) : Int) ≤ i14) →
 ((
 (((z11.length : Nat) : Int) = (0 : Int)) →
    wRetire.sig.post [.N n0, .N n1, .I i2, .I i3, .S s4, .I i5, .B b6, .V v7, .L l8, .L l9, .I i2, .I i3, .S (⟨#[]⟩ : ByteArray), .I 0, .B false, .V v13, .L ([] : List D), .L l15, .I 0]) ∧ (
 (((z11.length : Nat) : Int) ≠ (0 : Int)) →
    qSyncNames.sig.pre [.N n1, .L l15] ∧ (
 ∀ l16 : List D,
 ∀ i17 : Int,
  qSyncNames.sig.post [.N n1, .L l15, .L l16, .I i17] →
 R64 i17 →
  wRetire.sig.post [.N n0, .N n1, .I i2, .I i3, .S s4, .I i5, .B b6, .V v7, .L l8, .L l9, .I i2, .I i3, .S (⟨#[]⟩ : ByteArray), .I 0, .B false, .V v13, .L ([] : List D), .L l16, .I i17])))))))))
def wNext.Pure : Prop :=
 ∀ n0 n1 : Nat,
 ∀ i2 i3 : Int,
 ∀ s4 : ByteArray,
 ∀ i5 : Int,
 ∀ b6 : Bool,
 ∀ v7 : Value,
 ∀ l8 : List D,
 R64 i2 →
 U64 i3 →
 ((s4.size : Int) ≤ 9223372036854775807) →
 R64 i5 →
 wNext.sig.pre [.N n0, .N n1, .I i2, .I i3, .S s4, .I i5, .B b6, .V v7, .L l8] →
 wNext.sig.post [.N n0, .N n1, .I i2, .I i3, .S s4, .I i5, .B b6, .V v7, .L l8]
end Go.Vc
namespace Go.Vc
open Dk (Ds)
theorem field_is {v r : Int} {i : Nat} (hr : IntKind.u64.has r) (hi : i < 16) (h : ∀ j, j < 64 → bt r j = (decide ((0 : Int) ≤ 4 * i) && decide ((4 : Int) * i < 64) && decide ((j : Int) < 4) && bt v (j + ((4 : Int) * i).toNat))) : r = v / 2 ^ (4 * i) % 16 := by
 have h16 : (16 : Int) = 2 ^ 4 := by decide
 have hb : 0 ≤ v / 2 ^ (4 * i) % 16 ∧ v / 2 ^ (4 * i) % 16 < 16 := ⟨Int.emod_nonneg _ (by decide), Int.emod_lt_of_pos _ (by decide)⟩
 refine eq_u64 hr ((u64_has _).2 ⟨hb.1, Int.lt_trans hb.2 (by decide)⟩) fun j hj => ?_
 rw [h j hj]
 have e1 : ((4 : Int) * i).toNat = 4 * i := by omega
 rw [e1, decide_eq_true (by omega : (0 : Int) ≤ 4 * i), decide_eq_true (by omega : (4 : Int) * i < 64), Bool.true_and, Bool.true_and]
 by_cases h4 : j < 4
 ·rw [decide_eq_true (by omega : (j : Int) < 4), Bool.true_and, h16, bt_emod _ h4, bt_ediv_pow]
 ·rw [decide_eq_false (by omega : ¬ (j : Int) < 4), Bool.false_and, bt_of_lt (w := 4) hb.1 (by rw [← h16]; exact hb.2) (by omega)]
def hexT : ByteArray := ⟨#[48, 49, 50, 51, 52, 53, 54, 55, 56, 57, 97, 98, 99, 100, 101, 102]⟩
theorem whex_at : ∀ v : Nat, v < 16 → byteAt hexT (v : Int) = ((Wl.hexD v).toNat : Int) := by decide +kernel
theorem tx_one (b : Int) : tx (textOf [b]) = [UInt8.ofNat b.toNat] := rfl
theorem ediv_pow_nat {v : Int} (h : 0 ≤ v) (i : Nat) : v / 2 ^ (4 * i) % 16 = ((v.toNat / 16 ^ i % 16 : Nat) : Int) := by
 have e : (16 : Nat) ^ i = 2 ^ (4 * i) := by rw [Nat.pow_mul]
 obtain ⟨n, rfl⟩ : ∃ n : Nat, v = n := ⟨v.toNat, by omega⟩
 rw [Int.toNat_natCast, e]
 push_cast
 rfl
theorem wName.pure : wName.Pure := by
 intro i0 ⟨hh0, hh1⟩ _
 refine ⟨⟨Int.le_refl _, (by decide : (-1 : Int) ≤ 15), rfl⟩, ?_⟩
 intro s1 i2 _ _ ⟨g1, g2, g3⟩
 have g1 : i2 ≤ 15 := g1
 have g2 : -1 ≤ i2 := g2
 have g3 : Wl.dig 16 i0.toNat = tx s1 ++ Wl.dig (i2 + 1).toNat i0.toNat := g3
 have hlen : s1.size + (i2 + 1).toNat = 16 := by
  have := congrArg List.length g3
  rw [List.length_append, Wl.dig_len, Wl.dig_len, tx_size] at this
  omega
 refine ⟨fun h0 => ?_, fun hn => ?_⟩
 ·rw [wrap64 (n := 4 * i2) (by omega) (by omega)]
  refine ⟨trivial, fun i3 hf hr => ?_⟩
  have hf : ∀ j, j < 64 → bt i3 j = (decide ((0 : Int) ≤ 4 * i2) && decide (4 * i2 < 64) && decide ((j : Int) < 4) && bt i0 (j + (4 * i2).toNat)) := hf
  obtain ⟨k, rfl⟩ : ∃ k : Nat, i2 = k := ⟨i2.toNat, by omega⟩
  have hi3 : i3 = ((i0.toNat / 16 ^ k % 16 : Nat) : Int) := by
   rw [field_is (i := k) ((u64_has _).2 ⟨hr.1, by rw [show (2 : Int) ^ 64 = 18446744073709551616 from by decide]; exact hr.2⟩) (by omega) hf, ediv_pow_nat hh0]
  have hlt : i0.toNat / 16 ^ k % 16 < 16 := Nat.mod_lt _ (by omega)
  have hsz : ((hexT.size : Nat) : Int) = 16 := by decide
  have hb : byteAt hexT i3 = ((Wl.hexD (i0.toNat / 16 ^ k % 16)).toNat : Int) := by rw [hi3, whex_at _ hlt]
  have htx : tx (s1 ++ textOf [byteAt hexT i3]) = tx s1 ++ [Wl.hexD (i0.toNat / 16 ^ k % 16)] := by
   rw [tx_append, tx_one, hb, Int.toNat_natCast, UInt8.ofNat_toNat]
  have hsz2 : (s1 ++ textOf [byteAt hexT i3]).size = s1.size + 1 := by rw [← tx_size, htx, List.length_append, tx_size]; rfl
  refine ⟨by omega, fun _ => ⟨by show i3 < ((hexT.size : Nat) : Int); rw [hsz, hi3]; omega, fun _ v4 => ⟨?_, fun _ => ⟨⟨?_, ?_, ?_⟩, ?_⟩⟩⟩⟩
  ·show (((s1 ++ textOf [byteAt hexT i3]).size : Nat) : Int) ≤ 9223372036854775807
   rw [hsz2]; omega
  ·show IntKind.i64.wrap ((k : Int) - 1) ≤ 15
   rw [wrap64 (by omega) (by omega)]; omega
  ·show -1 ≤ IntKind.i64.wrap ((k : Int) - 1)
   rw [wrap64 (by omega) (by omega)]; omega
  ·show Wl.dig 16 i0.toNat = tx (s1 ++ textOf [byteAt hexT i3]) ++ Wl.dig (IntKind.i64.wrap ((k : Int) - 1) + 1).toNat i0.toNat
   rw [wrap64 (by omega) (by omega), htx, g3, show ((k : Int) + 1).toNat = k + 1 from by omega, show ((k : Int) - 1 + 1).toNat = k from by omega, Wl.dig, List.append_assoc]
   rfl
  ·show (IntKind.i64.wrap ((k : Int) - 1) + 1).toNat < ((k : Int) + 1).toNat
   rw [wrap64 (by omega) (by omega)]; omega
 ·have e : i2 = -1 := by omega
  subst e
  have g4 : Wl.dig 16 i0.toNat = tx s1 := by rw [g3]; simp [Wl.dig]
  have hsz2 : ((⟨#[119, 97, 108, 45]⟩ : ByteArray) ++ s1).size = 4 + s1.size := by rw [ByteArray.size_append]; rfl
  refine ⟨by rw [hsz2]; omega, fun _ => ?_⟩
  apply tx_inj
  show tx ((⟨#[119, 97, 108, 45]⟩ : ByteArray) ++ s1) = tx (bx (Wl.name i0.toNat))
  rw [tx_append, tx_bx]
  show ([119, 97, 108, 45] : Tx) ++ tx s1 = Wl.pre ++ Wl.dig 16 i0.toNat
  rw [g4]; rfl
theorem toList_eq {a b : ByteArray} : (a.toList == b.toList) = decide (tx a = tx b) := by
 rw [Bool.eq_iff_iff, bytes_eq, decide_eq_true_iff]
 exact ⟨fun h => by rw [h], tx_inj⟩
theorem wHas.pure : wHas.Pure := by
 intro s0 s1 _ _ _
 refine ⟨fun h => ?_, fun h => ?_⟩
 ·show _ = decide ((tx s0).take (tx s1).length = tx s1)
  rw [toList_eq, tx_extract, Int.toNat_natCast, tx_size]
  rfl
 ·show false = decide ((tx s0).take (tx s1).length = tx s1)
  symm
  rw [decide_eq_false_iff_not]
  intro he
  have := congrArg List.length he
  rw [List.length_take, tx_size, tx_size] at this
  omega
theorem wCutSL.pure : wCutSL.Pure := by
 intro s0 s1 h0 h1 _
 refine ⟨trivial, fun b2 (h2 : b2 = decide ((tx s0).take (tx s1).length = tx s1)) => ⟨fun hb => ?_, fun hb => ?_⟩⟩
 ·rw [hb] at h2
  have hn := of_decide_eq_false h2.symm
  show if (tx s0).take (tx s1).length = tx s1 then _ else s0 = s0 ∧ false = false
  rw [if_neg hn]
  exact ⟨rfl, rfl⟩
 ·rw [hb] at h2
  have hn := of_decide_eq_true h2.symm
  have hl := congrArg List.length hn
  rw [List.length_take, tx_size, tx_size] at hl
  refine ⟨by omega, fun _ => ?_⟩
  show if (tx s0).take (tx s1).length = tx s1 then tx (s0.extract _ _) = (tx s0).drop (tx s1).length ∧ true = true else _
  rw [if_pos hn]
  refine ⟨?_, rfl⟩
  rw [tx_extract, Int.toNat_natCast, Int.toNat_natCast, tx_size, List.take_of_length_le (by rw [tx_size]; exact Nat.le_refl _)]
theorem wCutP.pure : wCutP.Pure := by
 intro s0 s1 _ _ _
 exact ⟨trivial, fun s2 b3 h _ => h⟩
theorem wIndex.pure : wIndex.Pure := by
 intro v0 l1 s2 _ _ hp
 have hp : l1.length ≤ 1000000000 := hp
 refine ⟨⟨Int.le_refl _, (by omega : (0 : Int) ≤ l1.length), fun i hi => ?_⟩, ?_⟩
 ·have hi : (i : Int) < 0 := hi
  omega
 intro i3 _ ⟨g1, g2, g3⟩
 have g1 : 0 ≤ i3 := g1
 have g2 : i3 ≤ (l1.length : Int) := g2
 have g3 : ∀ i : Nat, (i : Int) < i3 → (l1.getD i default).toS ≠ s2 := g3
 refine ⟨fun h => ⟨g1, fun _ => ⟨fun he => ?_, fun hne => ⟨⟨?_, ?_, ?_⟩, ?_⟩⟩⟩, fun h => ?_⟩
 ·show 0 ≤ i3 ↔ ∃ d ∈ l1, d.toS = s2
  refine ⟨fun _ => ⟨l1.getD i3.toNat default, ?_, he.symm⟩, fun _ => g1⟩
  rw [List.getD, List.getElem?_eq_getElem (by omega)]
  exact List.getElem_mem _
 ·show 0 ≤ IntKind.i64.wrap (i3 + 1)
  rw [wrap64 (by omega) (by omega)]; omega
 ·show IntKind.i64.wrap (i3 + 1) ≤ (l1.length : Int)
  rw [wrap64 (by omega) (by omega)]; omega
 ·show ∀ i : Nat, (i : Int) < IntKind.i64.wrap (i3 + 1) → (l1.getD i default).toS ≠ s2
  rw [wrap64 (by omega) (by omega)]
  intro i hi
  by_cases hlt : (i : Int) < i3
  ·exact g3 i hlt
  ·have : i = i3.toNat := by omega
   subst this
   exact fun he => hne he.symm
 ·show ((l1.length : Int) - IntKind.i64.wrap (i3 + 1)).toNat < ((l1.length : Int) - i3).toNat
  rw [wrap64 (by omega) (by omega)]; omega
 ·show (0 : Int) ≤ -1 ↔ ∃ d ∈ l1, d.toS = s2
  refine ⟨fun h => by omega, fun ⟨d, hd, he⟩ => ?_⟩
  obtain ⟨i, hi, rfl⟩ := List.mem_iff_getElem.1 hd
  have := g3 i (by omega)
  rw [List.getD, List.getElem?_eq_getElem hi] at this
  exact absurd he this
theorem wContains.pure : wContains.Pure := by
 intro v0 l1 s2 _ _ hp
 refine ⟨hp, fun i3 (h : 0 ≤ i3 ↔ ∃ d ∈ l1, d.toS = s2) _ => ?_⟩
 show decide (0 ≤ i3) = true ↔ ∃ d ∈ l1, d.toS = s2
 rw [decide_eq_true_iff]; exact h
theorem ix_hex : ∀ c : UInt8, Lib.indexByte hexT.data.toList c = match Wl.hexV c with | some v => (v : Int) | none => -1 := by
 have h : ∀ c : Fin 256, Lib.indexByte hexT.data.toList (UInt8.ofNat c.val) = match Wl.hexV (UInt8.ofNat c.val) with | some v => (v : Int) | none => -1 := by decide +kernel
 intro c
 have := h ⟨c.toNat, c.toNat_lt⟩
 simpa using this
theorem or_hex {a v : Int} (ha : 0 ≤ a) (ha1 : a < 1152921504606846976) (hv : 0 ≤ v) (hv1 : v < 16) : Go.bits .or .u64 (shlI .u64 a 4) (IntKind.wrap .u64 v) = 16 * a + v := by
 rw [wrap_u64_eq hv (by omega)]
 refine eq_u64 (bits_has _ _ _ _) ((u64_has _).2 ⟨by omega, by rw [show (2 : Int) ^ 64 = 18446744073709551616 from by decide]; omega⟩) fun j hj => ?_
 rw [bt_or _ _ _ hj, bt_shl _ _ _ hj]
 have e4 : (4 : Int).toNat = 4 := rfl
 rw [e4]
 have e : 16 * a + v = v + a * 2 ^ 4 := by rw [show (2 : Int) ^ 4 = 16 from by decide]; omega
 by_cases h : j < 4
 ·rw [decide_eq_false (by omega : ¬ 4 ≤ j), Bool.false_and, Bool.false_or, e, bt_add_mul _ _ h]
 ·rw [decide_eq_true (by omega : 4 ≤ j), Bool.true_and, bt_of_lt (w := 4) hv hv1 (by omega), Bool.or_false]
  have e2 : a = (16 * a + v) / 2 ^ 4 := by rw [show (2 : Int) ^ 4 = 16 from by decide]; omega
  conv => lhs; rw [e2]
  rw [bt_ediv_pow, show j - 4 + 4 = j from by omega]
theorem pow16 {i : Nat} (h : i ≤ 15) : 16 ^ i ≤ 1152921504606846976 := by
 have : (16 : Nat) ^ i ≤ 16 ^ 15 := Nat.pow_le_pow_right (by omega) h
 have e : (16 : Nat) ^ 15 = 1152921504606846976 := by decide
 omega
theorem wFirst.pure : wFirst.Pure := by
 intro s0 hs0 _
 refine ⟨trivial, fun s1 b2 hc _ => ?_⟩
 have hc : if (tx s0).take 4 = Wl.pre then tx s1 = (tx s0).drop 4 ∧ b2 = true else s1 = s0 ∧ b2 = false := hc
 refine ⟨fun hb => ?_, fun hb => ?_⟩
 ·have hn : (tx s0).take 4 ≠ Wl.pre := fun he => by rw [if_pos he, hb] at hc; cases hc.2
  have : Wl.first (tx s0) = none := by unfold Wl.first; rw [if_neg (fun h => hn h.1)]
  show match Wl.first (tx s0) with | some n => _ | none => false = false
  rw [this]
 ·have hy : (tx s0).take 4 = Wl.pre := Classical.byContradiction fun hn => by rw [if_neg hn, hb] at hc; cases hc.2
  rw [if_pos hy] at hc
  have hl1 : s1.size = (tx s0).length - 4 := by rw [← tx_size, hc.1, List.length_drop]
  have hl4 : 4 ≤ (tx s0).length := by
   have := congrArg List.length hy
   rw [List.length_take] at this
   have e : Wl.pre.length = 4 := rfl
   omega
  refine ⟨fun hne => ?_, fun he v3 => ?_⟩
  ·have : Wl.first (tx s0) = none := by unfold Wl.first; rw [if_neg (fun h => hne (by have := h.2; omega))]
   show match Wl.first (tx s0) with | some n => _ | none => false = false
   rw [this]
  ·have h20 : (tx s0).length = 20 := by omega
   have hfst : Wl.first (tx s0) = Wl.val ((tx s0).drop 4) 0 := by unfold Wl.first; rw [if_pos ⟨hy, h20⟩]
   have hbl : (bytesOf s1).length = 16 := by rw [bytesOf, List.length_map, Array.length_toList]; show s1.size = 16; omega
   refine ⟨⟨Int.le_refl _, (by decide : (0 : Int) ≤ 16), Int.le_refl _, (by decide : (0 : Nat) < 16 ^ 0), ?_⟩, ?_⟩
   ·show Wl.first (tx s0) = Wl.val ((tx s0).drop (4 + 0)) 0
    exact hfst
   intro i4 i5 _ _ ⟨g1, g2, g3, g4, g5⟩
   have g1 : 0 ≤ i5 := g1
   have g2 : i5 ≤ 16 := g2
   have g3 : 0 ≤ i4 := g3
   have g4 : i4.toNat < 16 ^ i5.toNat := g4
   have g5 : Wl.first (tx s0) = Wl.val ((tx s0).drop (4 + i5.toNat)) i4.toNat := g5
   rw [hbl]
   refine ⟨fun hlt => ⟨g1, fun _ => ⟨trivial, fun i6 hx => ?_⟩⟩, fun hge => ?_⟩
   ·have hlt : i5 < 16 := hlt
    have hdrop : (tx s0).drop (4 + i5.toNat) = (tx s0)[4 + i5.toNat]'(by omega) :: (tx s0).drop (4 + i5.toNat + 1) := List.drop_eq_getElem_cons (by omega)
    have hbyte : (bytesOf s1).getD i5.toNat 0 = (((tx s0)[4 + i5.toNat]'(by omega)).toNat : Int) := by
     have hb1 : bytesOf s1 = (tx s1).map fun b => (b.toNat : Int) := rfl
     rw [hb1, hc.1, List.getD, List.getElem?_map, List.getElem?_drop, List.getElem?_eq_getElem (by omega)]
     rfl
    generalize (tx s0)[4 + i5.toNat]'(by omega) = c at hdrop hbyte
    have hx : i6 = Lib.indexByte hexT.data.toList ((bytesOf s1).getD i5.toNat 0).toNat.toUInt8 := hx
    rw [hbyte, Int.toNat_natCast, show c.toNat.toUInt8 = c from UInt8.ofNat_toNat, ix_hex] at hx
    rw [hdrop, Wl.val] at g5
    intro _
    cases hv : Wl.hexV c with
    | none =>
     rw [hv] at hx g5
     have hx : i6 = -1 := hx
     have g5 : Wl.first (tx s0) = none := g5
     refine ⟨fun _ => ?_, fun h => by omega⟩
     show match Wl.first (tx s0) with | some n => _ | none => false = false
     rw [g5]
    | some v =>
     rw [hv] at hx g5
     have hx : i6 = (v : Int) := hx
     have g5 : Wl.first (tx s0) = Wl.val ((tx s0).drop (4 + i5.toNat + 1)) (16 * i4.toNat + v) := g5
     have hv16 := (Wl.hex_of c v hv).1
     have hp := pow16 (i := i5.toNat) (by omega)
     have e1 : Go.bits .or .u64 (shlI .u64 i4 4) (IntKind.wrap .u64 i6) = 16 * i4 + v := by rw [hx]; exact or_hex g3 (by omega) (by omega) (by omega)
     have e2 : IntKind.i64.wrap (i5 + 1) = i5 + 1 := wrap64 (by omega) (by omega)
     refine ⟨fun h => by omega, fun _ => ?_⟩
     rw [e1, e2]
     have e3 : (16 * i4 + (v : Int)).toNat = 16 * i4.toNat + v := by omega
     refine ⟨⟨(by omega : 0 ≤ i5 + 1), (by omega : i5 + 1 ≤ 16), (by omega : 0 ≤ 16 * i4 + (v : Int)), ?_, ?_⟩, ?_⟩
     ·show (16 * i4 + (v : Int)).toNat < 16 ^ (i5 + 1).toNat
      rw [e3, show (i5 + 1).toNat = i5.toNat + 1 from by omega, Nat.pow_succ]
      omega
     ·show Wl.first (tx s0) = Wl.val ((tx s0).drop (4 + (i5 + 1).toNat)) (16 * i4 + (v : Int)).toNat
      rw [e3, g5, show 4 + (i5 + 1).toNat = 4 + i5.toNat + 1 from by omega]
     ·show (16 - (i5 + 1)).toNat < (16 - i5).toNat
      omega
   ·have e : i5 = 16 := by
     have hge : (16 : Int) ≤ i5 := hge
     omega
    subst e
    have : Wl.first (tx s0) = some i4.toNat := by
     rw [g5, show (16 : Int).toNat = 16 from rfl, List.drop_of_length_le (by omega)]; rfl
    show match Wl.first (tx s0) with | some n => i4 = (n : Int) ∧ true = true | none => _
    rw [this]
    exact ⟨by omega, rfl⟩
end Go.Vc
namespace Go.Vc
open Dk (Ds)
theorem hex_lt (a b : Nat) (ha : a < 16) (hb : b < 16) (h : Wl.hexD a < Wl.hexD b) : a < b := by
 have k : ∀ a b : Fin 16, Wl.hexD a.val < Wl.hexD b.val → a.val < b.val := by decide +kernel
 exact k ⟨a, ha⟩ ⟨b, hb⟩ h
theorem hex_eq (a b : Nat) (ha : a < 16) (hb : b < 16) (h : Wl.hexD a = Wl.hexD b) : a = b := by
 have := Wl.hex_back a ha
 rw [h, Wl.hex_back b hb] at this
 exact (Option.some.inj this).symm
theorem sorted_eq : ∀ {l m : List (Tx × Nat)}, Dk.Sorted l → Dk.Sorted m → (∀ p, p ∈ l ↔ p ∈ m) → l = m
 | [], [], _, _, _ => rfl
 | [], q :: m, _, _, h => absurd ((h q).2 (by simp)) (by simp)
 | p :: l, [], _, _, h => absurd ((h p).1 (by simp)) (by simp)
 | p :: l, q :: m, hl, hm, h => by
  have hl' := List.pairwise_cons.1 hl
  have hm' := List.pairwise_cons.1 hm
  have e : p = q := by
   rcases List.mem_cons.1 ((h p).1 (by simp)) with h1 | h1
   ·exact h1
   ·rcases List.mem_cons.1 ((h q).2 (by simp)) with h2 | h2
    ·exact h2.symm
    ·exact absurd (Dk.lt_trans (hl'.1 _ h2) (hm'.1 _ h1)) (Dk.lt_irrefl _)
  subst e
  have ht : ∀ r, r ∈ l ↔ r ∈ m := by
   intro r
   constructor
   ·intro hr
    rcases List.mem_cons.1 ((h r).1 (List.mem_cons_of_mem _ hr)) with rfl | h1
    ·exact absurd (hl'.1 _ hr) (Dk.lt_irrefl _)
    ·exact h1
   ·intro hr
    rcases List.mem_cons.1 ((h r).2 (List.mem_cons_of_mem _ hr)) with rfl | h1
    ·exact absurd (hm'.1 _ hr) (Dk.lt_irrefl _)
    ·exact h1
  rw [sorted_eq hl'.2 hm'.2 ht]
theorem perm_names {l m : List (Tx × Nat)} (h : (l.map rowN).Perm (m.map rowN)) (hl : Dk.Sorted l) (hm : Dk.Sorted m) : l = m := by
 refine sorted_eq hl hm fun p => ?_
 constructor
 ·intro hp
  obtain ⟨q, hq, e⟩ := List.mem_map.1 (h.mem_iff.1 (List.mem_map_of_mem hp))
  rw [← rowN_inj e]; exact hq
 ·intro hp
  obtain ⟨q, hq, e⟩ := List.mem_map.1 (h.mem_iff.2 (List.mem_map_of_mem hp))
  rw [← rowN_inj e]; exact hq
theorem mod_step (k n : Nat) : n % 16 ^ (k + 1) = n / 16 ^ k % 16 * 16 ^ k + n % 16 ^ k := by
 rw [Nat.pow_succ, Nat.mod_mul, Nat.mul_comm (n / 16 ^ k % 16), Nat.add_comm]
theorem dig_lt : ∀ (k a b : Nat), Wl.dig k a < Wl.dig k b → a % 16 ^ k < b % 16 ^ k
 | 0, a, b, h => by simp [Wl.dig] at h
 | k + 1, a, b, h => by
  rw [Wl.dig, Wl.dig, List.cons_lt_cons_iff] at h
  rw [mod_step, mod_step]
  have ha := Nat.mod_lt (a / 16 ^ k) (by omega : 0 < 16)
  have hb := Nat.mod_lt (b / 16 ^ k) (by omega : 0 < 16)
  rcases h with h | ⟨h1, h2⟩
  ·have h3 := hex_lt _ _ ha hb h
   have h4 : a % 16 ^ k < 16 ^ k := Nat.mod_lt _ (Nat.pow_pos (by omega))
   calc a / 16 ^ k % 16 * 16 ^ k + a % 16 ^ k < a / 16 ^ k % 16 * 16 ^ k + 16 ^ k := by omega
    _ = (a / 16 ^ k % 16 + 1) * 16 ^ k := by rw [Nat.add_mul, Nat.one_mul]
    _ ≤ b / 16 ^ k % 16 * 16 ^ k := Nat.mul_le_mul_right _ h3
    _ ≤ b / 16 ^ k % 16 * 16 ^ k + b % 16 ^ k := Nat.le_add_right _ _
  ·rw [hex_eq _ _ ha hb h1]
   exact Nat.add_lt_add_left (dig_lt k a b h2) _
theorem name_lt {a b : Nat} (ha : a < 18446744073709551616) (hb : b < 18446744073709551616) (h : Wl.name a < Wl.name b) : a < b := by
 have h1 : Wl.dig 16 a < Wl.dig 16 b := by
  have h2 : ([119, 97, 108, 45] ++ Wl.dig 16 a : Tx) < [119, 97, 108, 45] ++ Wl.dig 16 b := h
  simp only [List.cons_append, List.nil_append, List.cons_lt_cons_iff, true_and] at h2
  rcases h2 with h2 | h2 | h2 | h2 | h2
  ·exact absurd h2 (by decide)
  ·exact absurd h2 (by decide)
  ·exact absurd h2 (by decide)
  ·exact absurd h2 (by decide)
  ·exact h2
 have h3 := dig_lt 16 a b h1
 have e : (16 : Nat) ^ 16 = 18446744073709551616 := by decide
 rw [e, Nat.mod_eq_of_lt ha, Nat.mod_eq_of_lt hb] at h3
 exact h3
theorem files_rise {l : List (Tx × Nat)} (h : Dk.Sorted l) : (l.filterMap fun p => Wl.first p.1).Pairwise (· < ·) := by
 rw [List.pairwise_filterMap]
 refine h.imp fun {p q} hpq => ?_
 intro n hn m hm
 obtain ⟨h1, e1⟩ := Wl.first_some hn
 obtain ⟨h2, e2⟩ := Wl.first_some hm
 exact name_lt h1 h2 (by rw [← e1, ← e2]; exact hpq)
theorem rises_of {l : List Nat} (h : l.Pairwise (· < ·)) : Rises (l.map fun n : Nat => (n : Int)) := by
 intro i j hij hj
 rw [List.length_map] at hj
 rw [List.getD, List.getD, List.getElem?_map, List.getElem?_map, List.getElem?_eq_getElem (by omega), List.getElem?_eq_getElem hj]
 show ((l[i] : Nat) : Int) ≤ (l[j] : Nat)
 by_cases he : i = j
 ·subst he; exact Int.le_refl _
 ·have := List.pairwise_iff_getElem.1 h i j (by omega) hj (by omega)
  omega
theorem wFiles.pure : wFiles.Pure := by
 intro n0 l1 ⟨x, hx, sx, hn⟩ v2
 have hx : RepL l1 x := hx
 refine ⟨⟨x, hx, sx⟩, fun v3 l4 i5 hq _ _ => ?_⟩
 obtain ⟨q1, q2⟩ := hq x hx sx
 have q1 : i5 = if x.dead then 9 else 0 := q1
 have q2 : l4 = if x.dead then [] else x.names.map fun p => .S (bx p.1) := q2
 have uniq : ∀ y, RepL l1 y → Small y → y.dead = x.dead ∧ y.names = x.names := by
  intro y hy sy
  obtain ⟨p1, p2⟩ := hq y hy sy
  have p1 : i5 = if y.dead then 9 else 0 := p1
  have p2 : l4 = if y.dead then [] else y.names.map fun p => .S (bx p.1) := p2
  have hd : y.dead = x.dead := hy.2.dead.symm.trans hx.2.dead
  refine ⟨hd, ?_⟩
  exact perm_names (hy.2.names.symm.trans hx.2.names) sy.inv.sn sx.inv.sn
 refine ⟨fun h v6 => ?_, fun h v6 => ?_⟩
 ·intro y hy sy
  have hd : x.dead = true := Classical.byContradiction fun hd => by rw [Bool.not_eq_true] at hd; rw [hd] at q1; exact h q1
  have hyd : y.dead = true := (uniq y hy sy).1.trans hd
  rw [hyd]
  refine ⟨?_, rfl⟩
  rw [hd] at q1; exact q1
 ·have hd : x.dead = false := Classical.byContradiction fun hd => by
   rw [Bool.not_eq_false] at hd; rw [hd] at q1
   have q1 : i5 = 9 := q1
   omega
  rw [hd] at q2
  have q2 : l4 = x.names.map fun p => .S (bx p.1) := q2
  subst q2
  refine ⟨⟨Int.le_refl _, fun y hy sy => ?_⟩, ?_⟩
  ·obtain ⟨u1, u2⟩ := uniq y hy sy
   exact ⟨u1.trans hd, (by show (0 : Int) ≤ (y.names.length : Int); omega), rfl⟩
  intro v7 z8 i9 _ _ ⟨g1, g2⟩
  have g1 : 0 ≤ i9 := g1
  obtain ⟨_, g3, g4⟩ := g2 x hx sx
  have g3 : i9 ≤ (x.names.length : Int) := g3
  have g4 : z8 = ((x.names.take i9.toNat).filterMap fun p => Wl.first p.1).map fun n : Nat => (n : Int) := g4
  rw [List.length_map]
  refine ⟨fun hlt => ⟨g1, fun _ => ⟨trivial, ?_⟩⟩, fun hge => ?_⟩
  ·have hi : i9.toNat < x.names.length := by omega
   have e0 : (((x.names.map fun p => D.S (bx p.1)).getD i9.toNat default)).toS = bx (x.names[i9.toNat]).1 := by
    rw [List.getD, List.getElem?_map, List.getElem?_eq_getElem hi]; rfl
   rw [e0]
   intro i10 b11 hf _
   have hf : match Wl.first (x.names[i9.toNat]).1 with | some n => i10 = (n : Int) ∧ b11 = true | none => b11 = false := hf
   have htake : x.names.take (i9.toNat + 1) = x.names.take i9.toNat ++ [x.names[i9.toNat]] := by rw [List.take_add_one, List.getElem?_eq_getElem hi]; rfl
   have hw : IntKind.i64.wrap (i9 + 1) = i9 + 1 := wrap64 (by omega) (by omega)
   have hz8 : z8.length ≤ i9.toNat := by
    rw [g4, List.length_map]
    refine Nat.le_trans (List.length_filterMap_le _ _) ?_
    rw [List.length_take]; omega
   have hmeas : (60001 - (i9 + 1)).toNat < (60001 - i9).toNat := by omega
   rw [hw]
   refine ⟨fun hb v12 => ?_, fun hb => ?_⟩
   ·refine ⟨?_, fun _ v13 => ⟨⟨(by omega : 0 ≤ i9 + 1), fun y hy sy => ?_⟩, hmeas⟩⟩
    ·rw [List.length_append]
     show ((z8.length + 1 : Nat) : Int) ≤ 17592186044416
     omega
    ·obtain ⟨u1, u2⟩ := uniq y hy sy
     refine ⟨u1.trans hd, (by show i9 + 1 ≤ (y.names.length : Int); rw [u2]; omega), ?_⟩
     show z8 ++ [i10] = ((y.names.take (i9 + 1).toNat).filterMap fun p => Wl.first p.1).map fun n : Nat => (n : Int)
     rw [u2, show (i9 + 1).toNat = i9.toNat + 1 from by omega, htake, List.filterMap_append, List.map_append, ← g4]
     congr 1
     cases hfv : Wl.first (x.names[i9.toNat]).1 with
     | none => rw [hfv] at hf; rw [hb] at hf; cases hf
     | some n => rw [hfv] at hf; simp [hfv, hf.1]
   ·refine ⟨⟨(by omega : 0 ≤ i9 + 1), fun y hy sy => ?_⟩, hmeas⟩
    obtain ⟨u1, u2⟩ := uniq y hy sy
    refine ⟨u1.trans hd, (by show i9 + 1 ≤ (y.names.length : Int); rw [u2]; omega), ?_⟩
    show z8 = ((y.names.take (i9 + 1).toNat).filterMap fun p => Wl.first p.1).map fun n : Nat => (n : Int)
    rw [u2, show (i9 + 1).toNat = i9.toNat + 1 from by omega, htake, List.filterMap_append, List.map_append, ← g4]
    cases hfv : Wl.first (x.names[i9.toNat]).1 with
    | none => simp [hfv]
    | some n => rw [hfv] at hf; rw [hb] at hf; cases hf.2
  ·have e : x.names.take i9.toNat = x.names := List.take_of_length_le (by omega)
   rw [e] at g4
   have hr : Rises z8 := by rw [g4]; exact rises_of (files_rise sx.inv.sn)
   have hl : z8.length ≤ 60000 := by
    rw [g4, List.length_map]
    exact Nat.le_trans (List.length_filterMap_le _ _) hn
   refine ⟨⟨hr, hl⟩, fun _ y hy sy => ?_⟩
   obtain ⟨u1, u2⟩ := uniq y hy sy
   rw [u1, hd]
   refine ⟨rfl, ?_⟩
   show z8 = ((y.names).filterMap fun p => Wl.first p.1).map fun n : Nat => (n : Int)
   rw [u2, g4]
end Go.Vc