/-
  Contracts of records in frames.
  Records in frames: plain laws.
  Printed by wip/vct.py: the conditions of functions, by their contracts.
  Records in frames keep their contracts: the plain part.
  Records in frames: scanning; two laws.
-/
import Derived.Test.YtlcidbiabfjapaaDoorPack
import Derived.Test.YtlcidbiabfjapaaDoorCrc
import Derived.KernelRfl
set_option linter.unusedVariables false
set_option linter.unusedSimpArgs false
namespace Go.Vc

def coverB (seq n : Int) : List Int := beB n 4 ++ beB seq 8
def frameB (seq : Int) (rec_ : ByteArray) : List Int :=
  79 :: 74 :: (coverB seq rec_.size ++ (beB (crcOf 0 (coverB seq rec_.size ++ bytesOf rec_)) 4 ++ bytesOf rec_))

def FCover.pre : List D → Prop
  | [.I _, .I n] => 0 ≤ n
  | _ => False
def FCover.post : List D → Prop
  | [.I q, .I n, .S r] => r = textOf (coverB q n)
  | _ => False
def FCover.sig : Sig := sigF [.i .u64, .i .i64] [.s] FCover.pre FCover.post
def FWrite.pre : List D → Prop
  | [.I _, .S s] => s.size ≤ 900000000
  | _ => False
def FWrite.post : List D → Prop
  | [.I q, .S s, .S r, .I e] => if s.size > 4194304 then r = ByteArray.empty ∧ e = 12 else r = textOf (frameB q s) ∧ e = 0
  | _ => False
def FWrite.sig : Sig := sigF [.i .u64, .s] [.s, .i .i64] FWrite.pre FWrite.post

/-- What stands at the beginning of bytes: number, record, how many bytes, error. -/
def fRead (l : List Int) : Int × List Int × Int × Int :=
  if l.length < 2 then (0, [], 0, 2) else
  if l.take 2 ≠ [79, 74] then (0, [], 0, 3) else
  if l.length < 18 then (0, [], 0, 2) else
  let n := beNum ((l.drop 2).take 4)
  if n > 4194304 then (0, [], 0, 12) else
  if (l.length : Int) < 18 + n then (0, [], 0, 2) else
  let rec_ := (l.drop 18).take n.toNat
  if crcOf 0 ((l.drop 2).take 12 ++ rec_) ≠ beNum ((l.drop 14).take 4) then (0, [], 0, 4) else
  (beNum ((l.drop 6).take 8), rec_, 18 + n, 0)
def FRead.pre : List D → Prop
  | [.S s] => s.size ≤ 1000000000
  | _ => False
def FRead.post : List D → Prop
  | [.S s, .I q, .S r, .I n, .I e] => (q, bytesOf r, n, e) = fRead (bytesOf s)
  | _ => False
def FRead.sig : Sig := sigF [.s] [.i .u64, .s, .i .i64, .i .i64] FRead.pre FRead.post

/-- The frames at the beginning of bytes: their records, and how many bytes. -/
def fScan : Nat → List Int → Int → List (List Int) × Int
  | 0, _, _ => ([], 0)
  | f + 1, l, q =>
    let r := fRead l
    if r.2.2.2 ≠ 0 ∨ r.1 ≠ q then ([], 0) else
    let x := fScan f (l.drop r.2.2.1.toNat) ((q + 1) % 18446744073709551616)
    (r.2.1 :: x.1, r.2.2.1 + x.2)
def scanF (l : List Int) (q : Int) : List (List Int) × Int := fScan (l.length + 1) l q
def txts (l : List (List Int)) : List D := l.map fun x => .S (textOf x)
def FScan.post : List D → Prop
  | [.S s, .I q, .V _, .L l, .I n] => l = txts (scanF (bytesOf s) q).1 ∧ n = (scanF (bytesOf s) q).2
  | _ => False
def FScan.pre : List D → Prop
  | [.S s, .I _] => s.size ≤ 1000000000
  | _ => False
def FScan.sig : Sig := sigF [.s, .i .u64] [.l [.str], .i .i64] FScan.pre FScan.post
def FScan.I0 : List D → Prop
  | [.S s, .I q0, .I q, .L out, .I a] => 0 ≤ a ∧ a ≤ s.size ∧ out.length ≤ a ∧ ∃ f done, ((s.size : Int) - a).toNat < f ∧ out = txts done ∧
      scanF (bytesOf s) q0 = (done ++ (fScan f ((bytesOf s).drop a.toNat) q).1, a + (fScan f ((bytesOf s).drop a.toNat) q).2)
  | _ => False
def FScan.I0M : List D → Nat
  | [.S s, .I _, .I _, .L _, .I a] => ((s.size : Int) - a).toNat
  | _ => 0

/-! ### laws -/
def Awake06.sig : Sig := sigF [] [.b] tru yes
def LFrameLong.sig : Sig := sigF [.i .i64] [.b] tru yes
def LFrameNumbers.sig : Sig := sigF [.s, .s, .i .u64, .i .u64] [.b] tru yes

/-- Records cut, in frames from a number on. -/
def laidB (q : Int) : List ByteArray → List Int
  | [] => []
  | r :: l => frameB q (cutF r 60) ++ laidB ((q + 1) % 18446744073709551616) l
def endsF (a : Int) : List ByteArray → List Int
  | [] => []
  | r :: l => (a + 18 + (cutF r 60).size) :: endsF (a + 18 + (cutF r 60).size) l
def recs (l : List D) : List ByteArray := (l.take 6).map D.toS
def Laid.post : List D → Prop
  | [.V _, .L l, .I q, .S s, .V _, .Z e] => s = textOf (laidB q (recs l)) ∧ e = endsF 0 (recs l)
  | _ => False
def Laid.sig : Sig := sigF [.l [.str], .i .u64] [.s, .z .i64] tru Laid.post
def Laid.I0 : List D → Prop
  | [.V _, .L l, .I q, .S s, .Z e, .I i] => 0 ≤ i ∧ i ≤ 6 ∧ i ≤ l.length ∧ s = textOf (laidB q ((l.take i.toNat).map D.toS)) ∧ e = endsF 0 ((l.take i.toNat).map D.toS)
  | _ => False
def Laid.I0M : List D → Nat
  | [.V _, .L _, .I _, .S _, .Z _, .I i] => (6 - i).toNat
  | _ => 0
def LFrameBack.sig : Sig := sigF [.l [.str], .i .u64, .s] [.b] tru yes
def LFrameTorn.sig : Sig := sigF [.l [.str], .i .u64, .i .i64] [.b] tru yes
def LFrameBent.sig : Sig := sigF [.l [.str], .i .u64, .i .i64, .i .i64, .i .i64, .i .u32] [.b] tru yes

/-- A loop that compares. -/
def LFrameBack.I0 : List D → Prop
  | [.V _, .L _, .I _, .S _, .I i] => 0 ≤ i ∧ i ≤ 6
  | _ => False
def LFrameBack.I0M : List D → Nat
  | [.V _, .L _, .I _, .S _, .I i] => (6 - i).toNat
  | _ => 0
def cnt (c : Int) (e : List Int) : Int := ((e.filter fun x => decide (x ≤ c)).length : Nat)
def lastLe (c : Int) (e : List Int) : Int := (e.filter fun x => decide (x ≤ c)).getLastD 0
def LFrameTorn.I0 : List D → Prop
  | [.V _, .L l, .I _, .I c, .I whole, .I a, .I i] => 0 ≤ i ∧ i ≤ (endsF 0 (recs l)).length ∧ whole = cnt c ((endsF 0 (recs l)).take i.toNat) ∧ a = lastLe c ((endsF 0 (recs l)).take i.toNat)
  | _ => False
def LFrameTorn.I0M : List D → Nat
  | [.V _, .L l, .I _, .I _, .I _, .I _, .I i] => ((endsF 0 (recs l)).length - i).toNat
  | _ => 0
def LFrameTorn.I1 : List D → Prop
  | [.V _, .L _, .I _, .I _, .I i] => 0 ≤ i ∧ i ≤ 6
  | _ => False
def LFrameTorn.I1M : List D → Nat
  | [.V _, .L _, .I _, .I _, .I i] => (6 - i).toNat
  | _ => 0
def LFrameBent.I0 : List D → Prop
  | _ => True
def LFrameBent.I0M : List D → Nat
  | _ => 0

end Go.Vc

namespace Go.Vc

theorem coverB_len (q n : Int) : (coverB q n).length = 12 := by rw [coverB, List.length_append, beB_len, beB_len]
theorem frameB_len (q : Int) (r : ByteArray) : (frameB q r).length = 18 + r.size := by
  rw [frameB, List.length_cons, List.length_cons, List.length_append, List.length_append, coverB_len, beB_len, bytesOf_length']; omega
theorem frameB_has (q : Int) (r : ByteArray) : ∀ x ∈ frameB q r, 0 ≤ x ∧ x < 256 := by
  intro x hx
  simp only [frameB, coverB, List.mem_cons, List.mem_append] at hx
  rcases hx with rfl | rfl | (h | h) | h | h
  · omega
  · omega
  · exact beB_has _ _ x h
  · exact beB_has _ _ x h
  · exact beB_has _ _ x h
  · exact bytesOf_has r x h

theorem take_left {l1 l2 : List Int} {n : Nat} (h : l1.length = n) : (l1 ++ l2).take n = l1 := by subst h; simp
theorem drop_left {l1 l2 : List Int} {n : Nat} (h : l1.length = n) : (l1 ++ l2).drop n = l2 := by subst h; simp

theorem beNum_be {v : Int} {n : Nat} (h0 : 0 ≤ v) (h1 : v < 256 ^ n) : beNum (beB v n) = v := by rw [beNum_beB, Int.emod_eq_of_lt h0 h1]

theorem pow4 : (256 : Int) ^ 4 = 4294967296 := by decide
theorem pow8 : (256 : Int) ^ 8 = 18446744073709551616 := by decide

/-- The parts of what begins as a frame. -/
theorem frame_parts (q : Int) (r : ByteArray) (rest : List Int) :
    let l := frameB q r ++ rest
    l.take 2 = [79, 74] ∧ (l.drop 2).take 4 = beB r.size 4 ∧ (l.drop 2).take 12 = coverB q r.size ∧ (l.drop 6).take 8 = beB q 8 ∧
      (l.drop 14).take 4 = beB (crcOf 0 (coverB q r.size ++ bytesOf r)) 4 ∧ l.drop 18 = bytesOf r ++ rest := by
  intro l
  have e0 : l = [79, 74] ++ (coverB q r.size ++ (beB (crcOf 0 (coverB q r.size ++ bytesOf r)) 4 ++ (bytesOf r ++ rest))) := by
    simp only [l, frameB, List.cons_append, List.nil_append, List.append_assoc]
  have d2 : l.drop 2 = coverB q r.size ++ (beB (crcOf 0 (coverB q r.size ++ bytesOf r)) 4 ++ (bytesOf r ++ rest)) := by rw [e0]; exact drop_left rfl
  have d14 : l.drop 14 = beB (crcOf 0 (coverB q r.size ++ bytesOf r)) 4 ++ (bytesOf r ++ rest) := by
    rw [show 14 = 2 + 12 from rfl, ← List.drop_drop, d2]; exact drop_left (coverB_len _ _)
  have d6 : l.drop 6 = beB q 8 ++ (beB (crcOf 0 (coverB q r.size ++ bytesOf r)) 4 ++ (bytesOf r ++ rest)) := by
    rw [show 6 = 2 + 4 from rfl, ← List.drop_drop, d2]
    simp only [coverB, List.append_assoc]
    exact drop_left (beB_len _ _)
  refine ⟨?_, ?_, ?_, ?_, ?_, ?_⟩
  · rw [e0]; exact take_left rfl
  · rw [d2]; simp only [coverB, List.append_assoc]; exact take_left (beB_len _ _)
  · rw [d2]; exact take_left (coverB_len _ _)
  · rw [d6]; exact take_left (beB_len _ _)
  · rw [d14]; exact take_left (beB_len _ _)
  · rw [show 18 = 14 + 4 from rfl, ← List.drop_drop, d14]; exact drop_left (beB_len _ _)

theorem fRead_frame {q : Int} {r : ByteArray} (rest : List Int) (hq : 0 ≤ q ∧ q < 18446744073709551616) (hr : r.size ≤ 4194304) :
    fRead (frameB q r ++ rest) = (q, bytesOf r, (18 + r.size : Int), 0) := by
  obtain ⟨p1, p2, p3, p4, p5, p6⟩ := frame_parts q r rest
  have hl : (frameB q r ++ rest).length = 18 + r.size + rest.length := by rw [List.length_append, frameB_len]
  have hn : beNum (beB (r.size : Int) 4) = r.size := beNum_be (by omega) (by rw [pow4]; omega)
  have ht : (bytesOf r ++ rest).take r.size = bytesOf r := take_left (bytesOf_length' r)
  unfold fRead
  rw [if_neg (by omega), if_neg (by rw [p1]; simp), if_neg (by omega)]
  simp only [p2, hn, p3, p4, p5, p6]
  rw [if_neg (by omega), if_neg (by omega), show ((r.size : Int)).toNat = r.size from by omega, ht, beNum_be (crcOf_has _ _).1 (by rw [pow4]; exact (crcOf_has _ _).2), beNum_be hq.1 (by rw [pow8]; exact hq.2), if_neg (by simp)]

/-- A frame that is cut off is none. -/
theorem fRead_torn {q : Int} {r : ByteArray} {c : Nat} (hr : r.size ≤ 4194304) (hc : c < 18 + r.size) : (fRead ((frameB q r).take c)).2.2.2 = 2 := by
  have hl : ((frameB q r).take c).length = c := by rw [List.length_take, frameB_len]; omega
  obtain ⟨p1, p2, _⟩ := frame_parts q r []
  rw [List.append_nil] at p1 p2
  unfold fRead
  rw [hl]
  by_cases h2 : c < 2
  · rw [if_pos h2]
  · rw [if_neg h2, if_neg (by rw [List.take_take, Nat.min_eq_left (by omega), p1]; simp)]
    by_cases h18 : c < 18
    · rw [if_pos h18]
    · rw [if_neg h18]
      have e : (((frameB q r).take c).drop 2).take 4 = beB r.size 4 := by
        rw [List.drop_take, List.take_take, Nat.min_eq_left (by omega), p2]
      have hn : beNum (beB (r.size : Int) 4) = r.size := beNum_be (by omega) (by rw [pow4]; omega)
      simp only [e, hn]
      rw [if_neg (by omega), if_pos (by omega)]

theorem fRead_n {l : List Int} (h : ∀ x ∈ l, 0 ≤ x ∧ x < 256) (he : (fRead l).2.2.2 = 0) : 18 ≤ (fRead l).2.2.1 ∧ (fRead l).2.2.1 ≤ l.length := by
  unfold fRead at he ⊢
  split at he <;> try (exact absurd he (by decide))
  split at he <;> try (exact absurd he (by decide))
  split at he <;> try (exact absurd he (by decide))
  dsimp only at he ⊢
  split at he <;> try (exact absurd he (by decide))
  split at he <;> try (exact absurd he (by decide))
  split at he <;> try (exact absurd he (by decide))
  rename_i h1 h2 h3 h4 h5 h6
  rw [if_neg h1, if_neg h2, if_neg h3, if_neg h4, if_neg h5, if_neg h6]
  have hr := beNum_range (l := (l.drop 2).take 4) (fun x hx => h x (List.mem_of_mem_drop (List.mem_of_mem_take hx))) _ (Nat.le_refl _)
  rw [List.take_length] at hr
  show 18 ≤ 18 + beNum ((l.drop 2).take 4) ∧ 18 + beNum ((l.drop 2).take 4) ≤ l.length
  omega

/-- More fuel tells the same. -/
theorem fScan_fuel : ∀ {f g : Nat} {l : List Int} {q : Int}, (∀ x ∈ l, 0 ≤ x ∧ x < 256) → l.length < f → l.length < g → fScan f l q = fScan g l q
  | 0, _, _, _, _, h, _ => by omega
  | _, 0, _, _, _, _, h => by omega
  | f + 1, g + 1, l, q, hl, hf, hg => by
    simp only [fScan]
    split
    · rfl
    · rename_i hc
      have hc : (fRead l).2.2.2 = 0 := by
        apply Classical.byContradiction
        intro h; exact hc (.inl h)
      have hn := fRead_n hl hc
      have hd : (l.drop (fRead l).2.2.1.toNat).length = l.length - (fRead l).2.2.1.toNat := List.length_drop
      rw [fScan_fuel (f := f) (g := g) (fun x hx => hl x (List.mem_of_mem_drop hx)) (by omega) (by omega)]

theorem scan_step {f : Nat} {l : List Int} {q : Int} (h : (fRead l).2.2.2 = 0) (hq : (fRead l).1 = q) :
    fScan (f + 1) l q = ((fRead l).2.1 :: (fScan f (l.drop (fRead l).2.2.1.toNat) ((q + 1) % 18446744073709551616)).1, (fRead l).2.2.1 + (fScan f (l.drop (fRead l).2.2.1.toNat) ((q + 1) % 18446744073709551616)).2) := by
  simp only [fScan]
  rw [if_neg (fun h1 => h1.elim (fun h1 => h1 h) (fun h1 => h1 hq))]
theorem scan_stop {f : Nat} {l : List Int} {q : Int} (h : (fRead l).2.2.2 ≠ 0 ∨ (fRead l).1 ≠ q) : fScan (f + 1) l q = ([], 0) := by
  simp only [fScan]
  rw [if_pos h]

end Go.Vc

namespace Go.Vc
set_option linter.unusedVariables false
def FCover.vc : VC :=
 (.all .I
 (.all .I
 (.know (.has .u64 (.at 0))
 (.know (.has .i64 (.at 1))
 (.post 0 [(.at 0), (.at 1)]
 (.all .V
 (.all .N
 (.pre 1 [(.at 3), (.at 2), (.lis []), (.o1 (.wrap .u64) (.at 1)), (.int 4)]
 (.all .V
 (.all .Z
 (.post 1 [(.at 3), (.at 2), (.lis []), (.o1 (.wrap .u64) (.at 1)), (.int 4), (.at 4), (.at 5)]
 (.know (.allHas .u8 (.at 5))
 (.pre 1 [(.at 3), (.at 4), (.at 5), (.at 0), (.int 8)]
 (.all .V
 (.all .Z
 (.post 1 [(.at 3), (.at 4), (.at 5), (.at 0), (.int 8), (.at 6), (.at 7)]
 (.know (.allHas .u8 (.at 7))
 (.pre 2 [(.at 3), (.at 6), (.at 7)]
 (.all .S
 (.post 2 [(.at 3), (.at 6), (.at 7), (.at 8)]
 (.know (.ssz (.at 8))
 (.ret [(.at 0), (.at 1), (.at 8)]))))))))))))))))))))))
def FCover.Pure : Prop :=
 ∀ (i0 : Int),
 ∀ (i1 : Int),
 (0 ≤ i0 ∧ i0 < 18446744073709551616) →
 (-9223372036854775808 ≤ i1 ∧ i1 < 9223372036854775808) →
 FCover.sig.pre [(D.I i0), (D.I i1)] →
 ∀ (v2 : Value),
 ∀ (n3 : Nat),
 WFixed.sig.pre [(D.N n3), (D.V v2), (D.Z ([] : List Int)), (D.I (IntKind.wrap .u64 i1)), (D.I (4 : Int))] ∧ (
 ∀ (v4 : Value),
 ∀ (z5 : List Int),
 WFixed.sig.post [(D.N n3), (D.V v2), (D.Z ([] : List Int)), (D.I (IntKind.wrap .u64 i1)), (D.I (4 : Int)), (D.V v4), (D.Z z5)] →
 (∀ x ∈ z5, IntKind.has .u8 x) →
 WFixed.sig.pre [(D.N n3), (D.V v4), (D.Z z5), (D.I i0), (D.I (8 : Int))] ∧ (
 ∀ (v6 : Value),
 ∀ (z7 : List Int),
 WFixed.sig.post [(D.N n3), (D.V v4), (D.Z z5), (D.I i0), (D.I (8 : Int)), (D.V v6), (D.Z z7)] →
 (∀ x ∈ z7, IntKind.has .u8 x) →
 WBytes.sig.pre [(D.N n3), (D.V v6), (D.Z z7)] ∧ (
 ∀ (s8 : ByteArray),
 WBytes.sig.post [(D.N n3), (D.V v6), (D.Z z7), (D.S s8)] →
 ((s8.size : Int) ≤ 9223372036854775807) →
 FCover.sig.post [(D.I i0), (D.I i1), (D.S s8)])))
theorem FCover.den : FCover.vc.den2 (mkEnv FCover.sig [WFixed.sig, WBytes.sig] []) [] = FCover.Pure := by kernel_rfl
def FWrite.vc : VC :=
 (.all .I
 (.all .S
 (.know (.has .u64 (.at 0))
 (.know (.ssz (.at 1))
 (.post 0 [(.at 0), (.at 1)]
 (.and
  (.imp (.o2 .lt (.int 4194304) (.o1 .slen (.at 1))) true
  (.ret [(.at 0), (.at 1), (.str ⟨#[]⟩), (.int 12)]))
  (.imp (.o2 .lt (.int 4194304) (.o1 .slen (.at 1))) false
  (.pre 1 [(.at 0), (.o1 .slen (.at 1))]
  (.all .S
  (.post 1 [(.at 0), (.o1 .slen (.at 1)), (.at 2)]
  (.know (.ssz (.at 2))
  (.all .V
  (.all .N
  (.obl (.o2 .le (.o1 .slen (.o2 .cat (.str ⟨#[79, 74]⟩) (.at 2))) (.int 9223372036854775807))
  (.pre 4 [(.at 4), (.at 3), (.lis []), (.o2 .cat (.str ⟨#[79, 74]⟩) (.at 2))]
  (.all .V
  (.all .Z
  (.post 4 [(.at 4), (.at 3), (.lis []), (.o2 .cat (.str ⟨#[79, 74]⟩) (.at 2)), (.at 5), (.at 6)]
  (.know (.allHas .u8 (.at 6))
  (.pre 2 [(.at 2)]
  (.all .I
  (.post 2 [(.at 2), (.at 7)]
  (.know (.has .u32 (.at 7))
  (.pre 3 [(.at 7), (.at 1)]
  (.all .I
  (.post 3 [(.at 7), (.at 1), (.at 8)]
  (.know (.has .u32 (.at 8))
  (.pre 5 [(.at 4), (.at 5), (.at 6), (.o1 (.wrap .u64) (.at 8)), (.int 4)]
  (.all .V
  (.all .Z
  (.post 5 [(.at 4), (.at 5), (.at 6), (.o1 (.wrap .u64) (.at 8)), (.int 4), (.at 9), (.at 10)]
  (.know (.allHas .u8 (.at 10))
  (.pre 4 [(.at 4), (.at 9), (.at 10), (.at 1)]
  (.all .V
  (.all .Z
  (.post 4 [(.at 4), (.at 9), (.at 10), (.at 1), (.at 11), (.at 12)]
  (.know (.allHas .u8 (.at 12))
  (.pre 6 [(.at 4), (.at 11), (.at 12)]
  (.all .S
  (.post 6 [(.at 4), (.at 11), (.at 12), (.at 13)]
  (.know (.ssz (.at 13))
  (.ret [(.at 0), (.at 1), (.at 13), (.int 0)]))))))))))))))))))))))))))))))))))))))))))
def FWrite.Pure : Prop :=
 ∀ (i0 : Int),
 ∀ (s1 : ByteArray),
 (0 ≤ i0 ∧ i0 < 18446744073709551616) →
 ((s1.size : Int) ≤ 9223372036854775807) →
 FWrite.sig.pre [(D.I i0), (D.S s1)] →
 ((
  ((4194304 : Int) < ((s1.size : Nat) : Int)) →
  FWrite.sig.post [(D.I i0), (D.S s1), (D.S (⟨#[]⟩ : ByteArray)), (D.I (12 : Int))]) ∧ (
  (((s1.size : Nat) : Int) ≤ (4194304 : Int)) →
  FCover.sig.pre [(D.I i0), (D.I ((s1.size : Nat) : Int))] ∧ (
  ∀ (s2 : ByteArray),
  FCover.sig.post [(D.I i0), (D.I ((s1.size : Nat) : Int)), (D.S s2)] →
  ((s2.size : Int) ≤ 9223372036854775807) →
  ∀ (v3 : Value),
  ∀ (n4 : Nat),
  (((((⟨#[79, 74]⟩ : ByteArray) ++ s2).size : Nat) : Int) ≤ (9223372036854775807 : Int)) ∧ ((((((⟨#[79, 74]⟩ : ByteArray) ++ s2).size : Nat) : Int) ≤ (9223372036854775807 : Int)) →
  WRaw.sig.pre [(D.N n4), (D.V v3), (D.Z ([] : List Int)), (D.S ((⟨#[79, 74]⟩ : ByteArray) ++ s2))] ∧ (
  ∀ (v5 : Value),
  ∀ (z6 : List Int),
  WRaw.sig.post [(D.N n4), (D.V v3), (D.Z ([] : List Int)), (D.S ((⟨#[79, 74]⟩ : ByteArray) ++ s2)), (D.V v5), (D.Z z6)] →
  (∀ x ∈ z6, IntKind.has .u8 x) →
  COf.sig.pre [(D.S s2)] ∧ (
  ∀ (i7 : Int),
  COf.sig.post [(D.S s2), (D.I i7)] →
  (0 ≤ i7 ∧ i7 < 4294967296) →
  CMore.sig.pre [(D.I i7), (D.S s1)] ∧ (
  ∀ (i8 : Int),
  CMore.sig.post [(D.I i7), (D.S s1), (D.I i8)] →
  (0 ≤ i8 ∧ i8 < 4294967296) →
  WFixed.sig.pre [(D.N n4), (D.V v5), (D.Z z6), (D.I (IntKind.wrap .u64 i8)), (D.I (4 : Int))] ∧ (
  ∀ (v9 : Value),
  ∀ (z10 : List Int),
  WFixed.sig.post [(D.N n4), (D.V v5), (D.Z z6), (D.I (IntKind.wrap .u64 i8)), (D.I (4 : Int)), (D.V v9), (D.Z z10)] →
  (∀ x ∈ z10, IntKind.has .u8 x) →
  WRaw.sig.pre [(D.N n4), (D.V v9), (D.Z z10), (D.S s1)] ∧ (
  ∀ (v11 : Value),
  ∀ (z12 : List Int),
  WRaw.sig.post [(D.N n4), (D.V v9), (D.Z z10), (D.S s1), (D.V v11), (D.Z z12)] →
  (∀ x ∈ z12, IntKind.has .u8 x) →
  WBytes.sig.pre [(D.N n4), (D.V v11), (D.Z z12)] ∧ (
  ∀ (s13 : ByteArray),
  WBytes.sig.post [(D.N n4), (D.V v11), (D.Z z12), (D.S s13)] →
  ((s13.size : Int) ≤ 9223372036854775807) →
  FWrite.sig.post [(D.I i0), (D.S s1), (D.S s13), (D.I (0 : Int))]))))))))))
theorem FWrite.den : FWrite.vc.den2 (mkEnv FWrite.sig [FCover.sig, COf.sig, CMore.sig, WRaw.sig, WFixed.sig, WBytes.sig] []) [] = FWrite.Pure := by kernel_rfl
def FRead.vc : VC :=
 (.all .S
 (.know (.ssz (.at 0))
 (.post 0 [(.at 0)]
 (.pre 1 [(.at 0)]
 (.all .N
 (.post 1 [(.at 0), (.at 1)]
 (.pre 2 [(.at 1), (.at 0), (.int 0), (.int 0), (.int 2)]
 (.all .I
 (.all .I
 (.all .S
 (.post 2 [(.at 1), (.at 0), (.int 0), (.int 0), (.int 2), (.at 2), (.at 3), (.at 4)]
 (.know (.ssz (.at 4))
 (.know (.has .i64 (.at 2))
 (.know (.has .i64 (.at 3))
 (.and
  (.imp (.o1 .not (.o2 .eqs (.at 4) (.str ⟨#[79, 74]⟩))) true
  (.pre 3 [(.at 1), (.at 0), (.at 2), (.at 3)]
  (.post 3 [(.at 1), (.at 0), (.at 2), (.at 3)]
  (.and
   (.imp (.o2 .eq (.at 3) (.int 0)) true
   (.ret [(.at 0), (.int 0), (.str ⟨#[]⟩), (.int 0), (.int 3)]))
   (.imp (.o2 .eq (.at 3) (.int 0)) false
   (.pre 4 [(.at 1), (.at 0), (.at 2), (.at 3), (.int 4)]
   (.all .I
   (.all .I
   (.all .I
   (.post 4 [(.at 1), (.at 0), (.at 2), (.at 3), (.int 4), (.at 5), (.at 6), (.at 7)]
   (.know (.has .u64 (.at 7))
   (.know (.has .i64 (.at 5))
   (.know (.has .i64 (.at 6))
   (.pre 4 [(.at 1), (.at 0), (.at 5), (.at 6), (.int 8)]
   (.all .I
   (.all .I
   (.all .I
   (.post 4 [(.at 1), (.at 0), (.at 5), (.at 6), (.int 8), (.at 8), (.at 9), (.at 10)]
   (.know (.has .u64 (.at 10))
   (.know (.has .i64 (.at 8))
   (.know (.has .i64 (.at 9))
   (.pre 4 [(.at 1), (.at 0), (.at 8), (.at 9), (.int 4)]
   (.all .I
   (.all .I
   (.all .I
   (.post 4 [(.at 1), (.at 0), (.at 8), (.at 9), (.int 4), (.at 11), (.at 12), (.at 13)]
   (.know (.has .u64 (.at 13))
   (.know (.has .i64 (.at 11))
   (.know (.has .i64 (.at 12))
   (.pre 3 [(.at 1), (.at 0), (.at 11), (.at 12)]
   (.post 3 [(.at 1), (.at 0), (.at 11), (.at 12)]
   (.and
    (.imp (.o2 .eq (.at 12) (.int 0)) true
    (.and
     (.imp (.o2 .lt (.int 4194304) (.o1 (.wrap .i64) (.at 7))) true
     (.ret [(.at 0), (.int 0), (.str ⟨#[]⟩), (.int 0), (.int 12)]))
     (.imp (.o2 .lt (.int 4194304) (.o1 (.wrap .i64) (.at 7))) false
     (.pre 2 [(.at 1), (.at 0), (.at 11), (.at 12), (.o1 (.wrap .i64) (.at 7))]
     (.all .I
     (.all .I
     (.all .S
     (.post 2 [(.at 1), (.at 0), (.at 11), (.at 12), (.o1 (.wrap .i64) (.at 7)), (.at 14), (.at 15), (.at 16)]
     (.know (.ssz (.at 16))
     (.know (.has .i64 (.at 14))
     (.know (.has .i64 (.at 15))
     (.pre 3 [(.at 1), (.at 0), (.at 14), (.at 15)]
     (.post 3 [(.at 1), (.at 0), (.at 14), (.at 15)]
     (.and
      (.imp (.o1 .not (.o2 .eq (.at 15) (.int 0))) true
      (.ret [(.at 0), (.int 0), (.str ⟨#[]⟩), (.int 0), (.at 15)]))
      (.imp (.o1 .not (.o2 .eq (.at 15) (.int 0))) false
      (.pre 6 [(.at 10), (.o1 (.wrap .i64) (.at 7))]
      (.all .S
      (.post 6 [(.at 10), (.o1 (.wrap .i64) (.at 7)), (.at 17)]
      (.know (.ssz (.at 17))
      (.pre 7 [(.at 17)]
      (.all .I
      (.post 7 [(.at 17), (.at 18)]
      (.know (.has .u32 (.at 18))
      (.pre 8 [(.at 18), (.at 16)]
      (.all .I
      (.post 8 [(.at 18), (.at 16), (.at 19)]
      (.know (.has .u32 (.at 19))
      (.and
       (.imp (.o1 .not (.o2 .eq (.at 19) (.o1 (.wrap .u32) (.at 13)))) true
       (.ret [(.at 0), (.int 0), (.str ⟨#[]⟩), (.int 0), (.int 4)]))
       (.imp (.o1 .not (.o2 .eq (.at 19) (.o1 (.wrap .u32) (.at 13)))) false
       (.pre 5 [(.at 1), (.at 0), (.at 14), (.at 15)]
       (.post 5 [(.at 1), (.at 0), (.at 14), (.at 15)]
       (.ret [(.at 0), (.at 10), (.at 16), (.at 14), (.int 0)]))))))))))))))))))))))))))))))))
    (.imp (.o2 .eq (.at 12) (.int 0)) false
    (.pre 2 [(.at 1), (.at 0), (.at 11), (.at 12), (.o1 (.wrap .i64) (.at 7))]
    (.all .I
    (.all .I
    (.all .S
    (.post 2 [(.at 1), (.at 0), (.at 11), (.at 12), (.o1 (.wrap .i64) (.at 7)), (.at 14), (.at 15), (.at 16)]
    (.know (.ssz (.at 16))
    (.know (.has .i64 (.at 14))
    (.know (.has .i64 (.at 15))
    (.pre 3 [(.at 1), (.at 0), (.at 14), (.at 15)]
    (.post 3 [(.at 1), (.at 0), (.at 14), (.at 15)]
    (.and
     (.imp (.o1 .not (.o2 .eq (.at 15) (.int 0))) true
     (.ret [(.at 0), (.int 0), (.str ⟨#[]⟩), (.int 0), (.at 15)]))
     (.imp (.o1 .not (.o2 .eq (.at 15) (.int 0))) false
     (.pre 6 [(.at 10), (.o1 (.wrap .i64) (.at 7))]
     (.all .S
     (.post 6 [(.at 10), (.o1 (.wrap .i64) (.at 7)), (.at 17)]
     (.know (.ssz (.at 17))
     (.pre 7 [(.at 17)]
     (.all .I
     (.post 7 [(.at 17), (.at 18)]
     (.know (.has .u32 (.at 18))
     (.pre 8 [(.at 18), (.at 16)]
     (.all .I
     (.post 8 [(.at 18), (.at 16), (.at 19)]
     (.know (.has .u32 (.at 19))
     (.and
      (.imp (.o1 .not (.o2 .eq (.at 19) (.o1 (.wrap .u32) (.at 13)))) true
      (.ret [(.at 0), (.int 0), (.str ⟨#[]⟩), (.int 0), (.int 4)]))
      (.imp (.o1 .not (.o2 .eq (.at 19) (.o1 (.wrap .u32) (.at 13)))) false
      (.pre 5 [(.at 1), (.at 0), (.at 14), (.at 15)]
      (.post 5 [(.at 1), (.at 0), (.at 14), (.at 15)]
      (.ret [(.at 0), (.at 10), (.at 16), (.at 14), (.int 0)]))))))))))))))))))))))))))))))))))))))))))))))))))))))))))))))
  (.imp (.o1 .not (.o2 .eqs (.at 4) (.str ⟨#[79, 74]⟩))) false
  (.pre 4 [(.at 1), (.at 0), (.at 2), (.at 3), (.int 4)]
  (.all .I
  (.all .I
  (.all .I
  (.post 4 [(.at 1), (.at 0), (.at 2), (.at 3), (.int 4), (.at 5), (.at 6), (.at 7)]
  (.know (.has .u64 (.at 7))
  (.know (.has .i64 (.at 5))
  (.know (.has .i64 (.at 6))
  (.pre 4 [(.at 1), (.at 0), (.at 5), (.at 6), (.int 8)]
  (.all .I
  (.all .I
  (.all .I
  (.post 4 [(.at 1), (.at 0), (.at 5), (.at 6), (.int 8), (.at 8), (.at 9), (.at 10)]
  (.know (.has .u64 (.at 10))
  (.know (.has .i64 (.at 8))
  (.know (.has .i64 (.at 9))
  (.pre 4 [(.at 1), (.at 0), (.at 8), (.at 9), (.int 4)]
  (.all .I
  (.all .I
  (.all .I
  (.post 4 [(.at 1), (.at 0), (.at 8), (.at 9), (.int 4), (.at 11), (.at 12), (.at 13)]
  (.know (.has .u64 (.at 13))
  (.know (.has .i64 (.at 11))
  (.know (.has .i64 (.at 12))
  (.pre 3 [(.at 1), (.at 0), (.at 11), (.at 12)]
  (.post 3 [(.at 1), (.at 0), (.at 11), (.at 12)]
  (.and
   (.imp (.o2 .eq (.at 12) (.int 0)) true
   (.and
    (.imp (.o2 .lt (.int 4194304) (.o1 (.wrap .i64) (.at 7))) true
    (.ret [(.at 0), (.int 0), (.str ⟨#[]⟩), (.int 0), (.int 12)]))
    (.imp (.o2 .lt (.int 4194304) (.o1 (.wrap .i64) (.at 7))) false
    (.pre 2 [(.at 1), (.at 0), (.at 11), (.at 12), (.o1 (.wrap .i64) (.at 7))]
    (.all .I
    (.all .I
    (.all .S
    (.post 2 [(.at 1), (.at 0), (.at 11), (.at 12), (.o1 (.wrap .i64) (.at 7)), (.at 14), (.at 15), (.at 16)]
    (.know (.ssz (.at 16))
    (.know (.has .i64 (.at 14))
    (.know (.has .i64 (.at 15))
    (.pre 3 [(.at 1), (.at 0), (.at 14), (.at 15)]
    (.post 3 [(.at 1), (.at 0), (.at 14), (.at 15)]
    (.and
     (.imp (.o1 .not (.o2 .eq (.at 15) (.int 0))) true
     (.ret [(.at 0), (.int 0), (.str ⟨#[]⟩), (.int 0), (.at 15)]))
     (.imp (.o1 .not (.o2 .eq (.at 15) (.int 0))) false
     (.pre 6 [(.at 10), (.o1 (.wrap .i64) (.at 7))]
     (.all .S
     (.post 6 [(.at 10), (.o1 (.wrap .i64) (.at 7)), (.at 17)]
     (.know (.ssz (.at 17))
     (.pre 7 [(.at 17)]
     (.all .I
     (.post 7 [(.at 17), (.at 18)]
     (.know (.has .u32 (.at 18))
     (.pre 8 [(.at 18), (.at 16)]
     (.all .I
     (.post 8 [(.at 18), (.at 16), (.at 19)]
     (.know (.has .u32 (.at 19))
     (.and
      (.imp (.o1 .not (.o2 .eq (.at 19) (.o1 (.wrap .u32) (.at 13)))) true
      (.ret [(.at 0), (.int 0), (.str ⟨#[]⟩), (.int 0), (.int 4)]))
      (.imp (.o1 .not (.o2 .eq (.at 19) (.o1 (.wrap .u32) (.at 13)))) false
      (.pre 5 [(.at 1), (.at 0), (.at 14), (.at 15)]
      (.post 5 [(.at 1), (.at 0), (.at 14), (.at 15)]
      (.ret [(.at 0), (.at 10), (.at 16), (.at 14), (.int 0)]))))))))))))))))))))))))))))))))
   (.imp (.o2 .eq (.at 12) (.int 0)) false
   (.pre 2 [(.at 1), (.at 0), (.at 11), (.at 12), (.o1 (.wrap .i64) (.at 7))]
   (.all .I
   (.all .I
   (.all .S
   (.post 2 [(.at 1), (.at 0), (.at 11), (.at 12), (.o1 (.wrap .i64) (.at 7)), (.at 14), (.at 15), (.at 16)]
   (.know (.ssz (.at 16))
   (.know (.has .i64 (.at 14))
   (.know (.has .i64 (.at 15))
   (.pre 3 [(.at 1), (.at 0), (.at 14), (.at 15)]
   (.post 3 [(.at 1), (.at 0), (.at 14), (.at 15)]
   (.and
    (.imp (.o1 .not (.o2 .eq (.at 15) (.int 0))) true
    (.ret [(.at 0), (.int 0), (.str ⟨#[]⟩), (.int 0), (.at 15)]))
    (.imp (.o1 .not (.o2 .eq (.at 15) (.int 0))) false
    (.pre 6 [(.at 10), (.o1 (.wrap .i64) (.at 7))]
    (.all .S
    (.post 6 [(.at 10), (.o1 (.wrap .i64) (.at 7)), (.at 17)]
    (.know (.ssz (.at 17))
    (.pre 7 [(.at 17)]
    (.all .I
    (.post 7 [(.at 17), (.at 18)]
    (.know (.has .u32 (.at 18))
    (.pre 8 [(.at 18), (.at 16)]
    (.all .I
    (.post 8 [(.at 18), (.at 16), (.at 19)]
    (.know (.has .u32 (.at 19))
    (.and
     (.imp (.o1 .not (.o2 .eq (.at 19) (.o1 (.wrap .u32) (.at 13)))) true
     (.ret [(.at 0), (.int 0), (.str ⟨#[]⟩), (.int 0), (.int 4)]))
     (.imp (.o1 .not (.o2 .eq (.at 19) (.o1 (.wrap .u32) (.at 13)))) false
     (.pre 5 [(.at 1), (.at 0), (.at 14), (.at 15)]
     (.post 5 [(.at 1), (.at 0), (.at 14), (.at 15)]
     (.ret [(.at 0), (.at 10), (.at 16), (.at 14), (.int 0)])))))))))))))))))))))))))))))))))))))))))))))))))))))))))))))))))))))))))
def FRead.Pure : Prop :=
 ∀ (s0 : ByteArray),
 ((s0.size : Int) ≤ 9223372036854775807) →
 FRead.sig.pre [(D.S s0)] →
 PRead.sig.pre [(D.S s0)] ∧ (
 ∀ (n1 : Nat),
 PRead.sig.post [(D.S s0), (D.N n1)] →
 PRaw.sig.pre [(D.N n1), (D.S s0), (D.I (0 : Int)), (D.I (0 : Int)), (D.I (2 : Int))] ∧ (
 ∀ (i2 : Int),
 ∀ (i3 : Int),
 ∀ (s4 : ByteArray),
 PRaw.sig.post [(D.N n1), (D.S s0), (D.I (0 : Int)), (D.I (0 : Int)), (D.I (2 : Int)), (D.I i2), (D.I i3), (D.S s4)] →
 ((s4.size : Int) ≤ 9223372036854775807) →
 (-9223372036854775808 ≤ i2 ∧ i2 < 9223372036854775808) →
 (-9223372036854775808 ≤ i3 ∧ i3 < 9223372036854775808) →
 ((
  (s4 ≠ (⟨#[79, 74]⟩ : ByteArray)) →
  PErr.sig.pre [(D.N n1), (D.S s0), (D.I i2), (D.I i3)] ∧ (
  PErr.sig.post [(D.N n1), (D.S s0), (D.I i2), (D.I i3)] →
  ((
   (i3 = (0 : Int)) →
   FRead.sig.post [(D.S s0), (D.I (0 : Int)), (D.S (⟨#[]⟩ : ByteArray)), (D.I (0 : Int)), (D.I (3 : Int))]) ∧ (
   (i3 ≠ (0 : Int)) →
   PFixed.sig.pre [(D.N n1), (D.S s0), (D.I i2), (D.I i3), (D.I (4 : Int))] ∧ (
   ∀ (i5 : Int),
   ∀ (i6 : Int),
   ∀ (i7 : Int),
   PFixed.sig.post [(D.N n1), (D.S s0), (D.I i2), (D.I i3), (D.I (4 : Int)), (D.I i5), (D.I i6), (D.I i7)] →
   (0 ≤ i7 ∧ i7 < 18446744073709551616) →
   (-9223372036854775808 ≤ i5 ∧ i5 < 9223372036854775808) →
   (-9223372036854775808 ≤ i6 ∧ i6 < 9223372036854775808) →
   PFixed.sig.pre [(D.N n1), (D.S s0), (D.I i5), (D.I i6), (D.I (8 : Int))] ∧ (
   ∀ (i8 : Int),
   ∀ (i9 : Int),
   ∀ (i10 : Int),
   PFixed.sig.post [(D.N n1), (D.S s0), (D.I i5), (D.I i6), (D.I (8 : Int)), (D.I i8), (D.I i9), (D.I i10)] →
   (0 ≤ i10 ∧ i10 < 18446744073709551616) →
   (-9223372036854775808 ≤ i8 ∧ i8 < 9223372036854775808) →
   (-9223372036854775808 ≤ i9 ∧ i9 < 9223372036854775808) →
   PFixed.sig.pre [(D.N n1), (D.S s0), (D.I i8), (D.I i9), (D.I (4 : Int))] ∧ (
   ∀ (i11 : Int),
   ∀ (i12 : Int),
   ∀ (i13 : Int),
   PFixed.sig.post [(D.N n1), (D.S s0), (D.I i8), (D.I i9), (D.I (4 : Int)), (D.I i11), (D.I i12), (D.I i13)] →
   (0 ≤ i13 ∧ i13 < 18446744073709551616) →
   (-9223372036854775808 ≤ i11 ∧ i11 < 9223372036854775808) →
   (-9223372036854775808 ≤ i12 ∧ i12 < 9223372036854775808) →
   PErr.sig.pre [(D.N n1), (D.S s0), (D.I i11), (D.I i12)] ∧ (
   PErr.sig.post [(D.N n1), (D.S s0), (D.I i11), (D.I i12)] →
   ((
    (i12 = (0 : Int)) →
    ((
     ((4194304 : Int) < (IntKind.wrap .i64 i7)) →
     FRead.sig.post [(D.S s0), (D.I (0 : Int)), (D.S (⟨#[]⟩ : ByteArray)), (D.I (0 : Int)), (D.I (12 : Int))]) ∧ (
     ((IntKind.wrap .i64 i7) ≤ (4194304 : Int)) →
     PRaw.sig.pre [(D.N n1), (D.S s0), (D.I i11), (D.I i12), (D.I (IntKind.wrap .i64 i7))] ∧ (
     ∀ (i14 : Int),
     ∀ (i15 : Int),
     ∀ (s16 : ByteArray),
     PRaw.sig.post [(D.N n1), (D.S s0), (D.I i11), (D.I i12), (D.I (IntKind.wrap .i64 i7)), (D.I i14), (D.I i15), (D.S s16)] →
     ((s16.size : Int) ≤ 9223372036854775807) →
     (-9223372036854775808 ≤ i14 ∧ i14 < 9223372036854775808) →
     (-9223372036854775808 ≤ i15 ∧ i15 < 9223372036854775808) →
     PErr.sig.pre [(D.N n1), (D.S s0), (D.I i14), (D.I i15)] ∧ (
     PErr.sig.post [(D.N n1), (D.S s0), (D.I i14), (D.I i15)] →
     ((
      (i15 ≠ (0 : Int)) →
      FRead.sig.post [(D.S s0), (D.I (0 : Int)), (D.S (⟨#[]⟩ : ByteArray)), (D.I (0 : Int)), (D.I i15)]) ∧ (
      (i15 = (0 : Int)) →
      FCover.sig.pre [(D.I i10), (D.I (IntKind.wrap .i64 i7))] ∧ (
      ∀ (s17 : ByteArray),
      FCover.sig.post [(D.I i10), (D.I (IntKind.wrap .i64 i7)), (D.S s17)] →
      ((s17.size : Int) ≤ 9223372036854775807) →
      COf.sig.pre [(D.S s17)] ∧ (
      ∀ (i18 : Int),
      COf.sig.post [(D.S s17), (D.I i18)] →
      (0 ≤ i18 ∧ i18 < 4294967296) →
      CMore.sig.pre [(D.I i18), (D.S s16)] ∧ (
      ∀ (i19 : Int),
      CMore.sig.post [(D.I i18), (D.S s16), (D.I i19)] →
      (0 ≤ i19 ∧ i19 < 4294967296) →
      ((
       (i19 ≠ (IntKind.wrap .u32 i13)) →
       FRead.sig.post [(D.S s0), (D.I (0 : Int)), (D.S (⟨#[]⟩ : ByteArray)), (D.I (0 : Int)), (D.I (4 : Int))]) ∧ (
       (i19 = (IntKind.wrap .u32 i13)) →
       PAt.sig.pre [(D.N n1), (D.S s0), (D.I i14), (D.I i15)] ∧ (
       PAt.sig.post [(D.N n1), (D.S s0), (D.I i14), (D.I i15)] →
       FRead.sig.post [(D.S s0), (D.I i10), (D.S s16), (D.I i14), (D.I (0 : Int))]))))))))))))) ∧ (
    (i12 ≠ (0 : Int)) →
    PRaw.sig.pre [(D.N n1), (D.S s0), (D.I i11), (D.I i12), (D.I (IntKind.wrap .i64 i7))] ∧ (
    ∀ (i14 : Int),
    ∀ (i15 : Int),
    ∀ (s16 : ByteArray),
    PRaw.sig.post [(D.N n1), (D.S s0), (D.I i11), (D.I i12), (D.I (IntKind.wrap .i64 i7)), (D.I i14), (D.I i15), (D.S s16)] →
    ((s16.size : Int) ≤ 9223372036854775807) →
    (-9223372036854775808 ≤ i14 ∧ i14 < 9223372036854775808) →
    (-9223372036854775808 ≤ i15 ∧ i15 < 9223372036854775808) →
    PErr.sig.pre [(D.N n1), (D.S s0), (D.I i14), (D.I i15)] ∧ (
    PErr.sig.post [(D.N n1), (D.S s0), (D.I i14), (D.I i15)] →
    ((
     (i15 ≠ (0 : Int)) →
     FRead.sig.post [(D.S s0), (D.I (0 : Int)), (D.S (⟨#[]⟩ : ByteArray)), (D.I (0 : Int)), (D.I i15)]) ∧ (
     (i15 = (0 : Int)) →
     FCover.sig.pre [(D.I i10), (D.I (IntKind.wrap .i64 i7))] ∧ (
     ∀ (s17 : ByteArray),
     FCover.sig.post [(D.I i10), (D.I (IntKind.wrap .i64 i7)), (D.S s17)] →
     ((s17.size : Int) ≤ 9223372036854775807) →
     COf.sig.pre [(D.S s17)] ∧ (
     ∀ (i18 : Int),
     COf.sig.post [(D.S s17), (D.I i18)] →
     (0 ≤ i18 ∧ i18 < 4294967296) →
     CMore.sig.pre [(D.I i18), (D.S s16)] ∧ (
     ∀ (i19 : Int),
     CMore.sig.post [(D.I i18), (D.S s16), (D.I i19)] →
     (0 ≤ i19 ∧ i19 < 4294967296) →
     ((
      (i19 ≠ (IntKind.wrap .u32 i13)) →
      FRead.sig.post [(D.S s0), (D.I (0 : Int)), (D.S (⟨#[]⟩ : ByteArray)), (D.I (0 : Int)), (D.I (4 : Int))]) ∧ (
      (i19 = (IntKind.wrap .u32 i13)) →
      PAt.sig.pre [(D.N n1), (D.S s0), (D.I i14), (D.I i15)] ∧ (
      PAt.sig.post [(D.N n1), (D.S s0), (D.I i14), (D.I i15)] →
      FRead.sig.post [(D.S s0), (D.I i10), (D.S s16), (D.I i14), (D.I (0 : Int))])))))))))))))))))))) ∧ (
  (s4 = (⟨#[79, 74]⟩ : ByteArray)) →
  PFixed.sig.pre [(D.N n1), (D.S s0), (D.I i2), (D.I i3), (D.I (4 : Int))] ∧ (
  ∀ (i5 : Int),
  ∀ (i6 : Int),
  ∀ (i7 : Int),
  PFixed.sig.post [(D.N n1), (D.S s0), (D.I i2), (D.I i3), (D.I (4 : Int)), (D.I i5), (D.I i6), (D.I i7)] →
  (0 ≤ i7 ∧ i7 < 18446744073709551616) →
  (-9223372036854775808 ≤ i5 ∧ i5 < 9223372036854775808) →
  (-9223372036854775808 ≤ i6 ∧ i6 < 9223372036854775808) →
  PFixed.sig.pre [(D.N n1), (D.S s0), (D.I i5), (D.I i6), (D.I (8 : Int))] ∧ (
  ∀ (i8 : Int),
  ∀ (i9 : Int),
  ∀ (i10 : Int),
  PFixed.sig.post [(D.N n1), (D.S s0), (D.I i5), (D.I i6), (D.I (8 : Int)), (D.I i8), (D.I i9), (D.I i10)] →
  (0 ≤ i10 ∧ i10 < 18446744073709551616) →
  (-9223372036854775808 ≤ i8 ∧ i8 < 9223372036854775808) →
  (-9223372036854775808 ≤ i9 ∧ i9 < 9223372036854775808) →
  PFixed.sig.pre [(D.N n1), (D.S s0), (D.I i8), (D.I i9), (D.I (4 : Int))] ∧ (
  ∀ (i11 : Int),
  ∀ (i12 : Int),
  ∀ (i13 : Int),
  PFixed.sig.post [(D.N n1), (D.S s0), (D.I i8), (D.I i9), (D.I (4 : Int)), (D.I i11), (D.I i12), (D.I i13)] →
  (0 ≤ i13 ∧ i13 < 18446744073709551616) →
  (-9223372036854775808 ≤ i11 ∧ i11 < 9223372036854775808) →
  (-9223372036854775808 ≤ i12 ∧ i12 < 9223372036854775808) →
  PErr.sig.pre [(D.N n1), (D.S s0), (D.I i11), (D.I i12)] ∧ (
  PErr.sig.post [(D.N n1), (D.S s0), (D.I i11), (D.I i12)] →
  ((
   (i12 = (0 : Int)) →
   ((
    ((4194304 : Int) < (IntKind.wrap .i64 i7)) →
    FRead.sig.post [(D.S s0), (D.I (0 : Int)), (D.S (⟨#[]⟩ : ByteArray)), (D.I (0 : Int)), (D.I (12 : Int))]) ∧ (
    ((IntKind.wrap .i64 i7) ≤ (4194304 : Int)) →
    PRaw.sig.pre [(D.N n1), (D.S s0), (D.I i11), (D.I i12), (D.I (IntKind.wrap .i64 i7))] ∧ (
    ∀ (i14 : Int),
    ∀ (i15 : Int),
    ∀ (s16 : ByteArray),
    PRaw.sig.post [(D.N n1), (D.S s0), (D.I i11), (D.I i12), (D.I (IntKind.wrap .i64 i7)), (D.I i14), (D.I i15), (D.S s16)] →
    ((s16.size : Int) ≤ 9223372036854775807) →
    (-9223372036854775808 ≤ i14 ∧ i14 < 9223372036854775808) →
    (-9223372036854775808 ≤ i15 ∧ i15 < 9223372036854775808) →
    PErr.sig.pre [(D.N n1), (D.S s0), (D.I i14), (D.I i15)] ∧ (
    PErr.sig.post [(D.N n1), (D.S s0), (D.I i14), (D.I i15)] →
    ((
     (i15 ≠ (0 : Int)) →
     FRead.sig.post [(D.S s0), (D.I (0 : Int)), (D.S (⟨#[]⟩ : ByteArray)), (D.I (0 : Int)), (D.I i15)]) ∧ (
     (i15 = (0 : Int)) →
     FCover.sig.pre [(D.I i10), (D.I (IntKind.wrap .i64 i7))] ∧ (
     ∀ (s17 : ByteArray),
     FCover.sig.post [(D.I i10), (D.I (IntKind.wrap .i64 i7)), (D.S s17)] →
     ((s17.size : Int) ≤ 9223372036854775807) →
     COf.sig.pre [(D.S s17)] ∧ (
     ∀ (i18 : Int),
     COf.sig.post [(D.S s17), (D.I i18)] →
     (0 ≤ i18 ∧ i18 < 4294967296) →
     CMore.sig.pre [(D.I i18), (D.S s16)] ∧ (
     ∀ (i19 : Int),
     CMore.sig.post [(D.I i18), (D.S s16), (D.I i19)] →
     (0 ≤ i19 ∧ i19 < 4294967296) →
     ((
      (i19 ≠ (IntKind.wrap .u32 i13)) →
      FRead.sig.post [(D.S s0), (D.I (0 : Int)), (D.S (⟨#[]⟩ : ByteArray)), (D.I (0 : Int)), (D.I (4 : Int))]) ∧ (
      (i19 = (IntKind.wrap .u32 i13)) →
      PAt.sig.pre [(D.N n1), (D.S s0), (D.I i14), (D.I i15)] ∧ (
      PAt.sig.post [(D.N n1), (D.S s0), (D.I i14), (D.I i15)] →
      FRead.sig.post [(D.S s0), (D.I i10), (D.S s16), (D.I i14), (D.I (0 : Int))]))))))))))))) ∧ (
   (i12 ≠ (0 : Int)) →
   PRaw.sig.pre [(D.N n1), (D.S s0), (D.I i11), (D.I i12), (D.I (IntKind.wrap .i64 i7))] ∧ (
   ∀ (i14 : Int),
   ∀ (i15 : Int),
   ∀ (s16 : ByteArray),
   PRaw.sig.post [(D.N n1), (D.S s0), (D.I i11), (D.I i12), (D.I (IntKind.wrap .i64 i7)), (D.I i14), (D.I i15), (D.S s16)] →
   ((s16.size : Int) ≤ 9223372036854775807) →
   (-9223372036854775808 ≤ i14 ∧ i14 < 9223372036854775808) →
   (-9223372036854775808 ≤ i15 ∧ i15 < 9223372036854775808) →
   PErr.sig.pre [(D.N n1), (D.S s0), (D.I i14), (D.I i15)] ∧ (
   PErr.sig.post [(D.N n1), (D.S s0), (D.I i14), (D.I i15)] →
   ((
    (i15 ≠ (0 : Int)) →
    FRead.sig.post [(D.S s0), (D.I (0 : Int)), (D.S (⟨#[]⟩ : ByteArray)), (D.I (0 : Int)), (D.I i15)]) ∧ (
    (i15 = (0 : Int)) →
    FCover.sig.pre [(D.I i10), (D.I (IntKind.wrap .i64 i7))] ∧ (
    ∀ (s17 : ByteArray),
    FCover.sig.post [(D.I i10), (D.I (IntKind.wrap .i64 i7)), (D.S s17)] →
    ((s17.size : Int) ≤ 9223372036854775807) →
    COf.sig.pre [(D.S s17)] ∧ (
    ∀ (i18 : Int),
    COf.sig.post [(D.S s17), (D.I i18)] →
    (0 ≤ i18 ∧ i18 < 4294967296) →
    CMore.sig.pre [(D.I i18), (D.S s16)] ∧ (
    ∀ (i19 : Int),
    CMore.sig.post [(D.I i18), (D.S s16), (D.I i19)] →
    (0 ≤ i19 ∧ i19 < 4294967296) →
    ((
     (i19 ≠ (IntKind.wrap .u32 i13)) →
     FRead.sig.post [(D.S s0), (D.I (0 : Int)), (D.S (⟨#[]⟩ : ByteArray)), (D.I (0 : Int)), (D.I (4 : Int))]) ∧ (
     (i19 = (IntKind.wrap .u32 i13)) →
     PAt.sig.pre [(D.N n1), (D.S s0), (D.I i14), (D.I i15)] ∧ (
     PAt.sig.post [(D.N n1), (D.S s0), (D.I i14), (D.I i15)] →
     FRead.sig.post [(D.S s0), (D.I i10), (D.S s16), (D.I i14), (D.I (0 : Int))]))))))))))))))))))))
theorem FRead.den : FRead.vc.den2 (mkEnv FRead.sig [PRead.sig, PRaw.sig, PErr.sig, PFixed.sig, PAt.sig, FCover.sig, COf.sig, CMore.sig] []) [] = FRead.Pure := by kernel_rfl
def FScan.vc : VC :=
 (.all .S
 (.all .I
 (.know (.ssz (.at 0))
 (.know (.has .u64 (.at 1))
 (.post 0 [(.at 0), (.at 1)]
 (.all .V
 (.all .V
 (.inv 0 [(.at 0), (.at 1), (.at 1), .lnil, (.int 0)]
 (.all .I
 (.all .V
 (.all .L
 (.all .I
 (.know (.has .u64 (.at 4))
 (.know (.has .i64 (.at 7))
 (.know (.ekok [.str] (.at 6))
 (.asm 0 [(.at 0), (.at 1), (.at 4), (.at 6), (.at 7)]
 (.obl (.o2 .le (.at 7) (.o1 .slen (.at 0)))
 (.obl (.o2 .le (.int 0) (.at 7))
 (.pre 1 [(.o3 .ssub (.at 0) (.at 7) (.o1 .slen (.at 0)))]
 (.all .I
 (.all .S
 (.all .I
 (.all .I
 (.post 1 [(.o3 .ssub (.at 0) (.at 7) (.o1 .slen (.at 0))), (.at 8), (.at 9), (.at 10), (.at 11)]
 (.know (.has .u64 (.at 8))
 (.know (.ssz (.at 9))
 (.know (.has .i64 (.at 10))
 (.know (.has .i64 (.at 11))
 (.and
  (.imp (.o1 .not (.o2 .eq (.at 11) (.int 0))) true
  (.ret [(.at 0), (.at 1), (.at 5), (.at 6), (.at 7)]))
  (.imp (.o1 .not (.o2 .eq (.at 11) (.int 0))) false
  (.and
   (.imp (.o1 .not (.o2 .eq (.at 8) (.at 4))) true
   (.ret [(.at 0), (.at 1), (.at 5), (.at 6), (.at 7)]))
   (.imp (.o1 .not (.o2 .eq (.at 8) (.at 4))) false
   (.all .V
   (.obl (.o2 .le (.o1 .llen (.o2 .lapp (.at 6) (.o2 .lcons (.o1 .asS (.at 9)) .lnil))) (.int 8796093022208))
   (.all .V
   (.back 0 [(.at 0), (.at 1), (.at 4), (.at 6), (.at 7)] [(.at 0), (.at 1), (.o2 (.add .u64) (.at 4) (.int 1)), (.o2 .lapp (.at 6) (.o2 .lcons (.o1 .asS (.at 9)) .lnil)), (.o2 (.add .i64) (.at 7) (.at 10))]))))))))))))))))))))))))))))))))))))
def FScan.Pure : Prop :=
 ∀ (s0 : ByteArray),
 ∀ (i1 : Int),
 ((s0.size : Int) ≤ 9223372036854775807) →
 (0 ≤ i1 ∧ i1 < 18446744073709551616) →
 FScan.sig.pre [(D.S s0), (D.I i1)] →
 ∀ (v2 : Value),
 ∀ (v3 : Value),
 FScan.I0 [(D.S s0), (D.I i1), (D.I i1), (D.L ([] : List D)), (D.I (0 : Int))] ∧ (
 ∀ (i4 : Int),
 ∀ (v5 : Value),
 ∀ (l6 : List D),
 ∀ (i7 : Int),
 (0 ≤ i4 ∧ i4 < 18446744073709551616) →
 (-9223372036854775808 ≤ i7 ∧ i7 < 9223372036854775808) →
 (EK.ok [.str] (D.L l6)) →
 FScan.I0 [(D.S s0), (D.I i1), (D.I i4), (D.L l6), (D.I i7)] →
 (i7 ≤ ((s0.size : Nat) : Int)) ∧ ((i7 ≤ ((s0.size : Nat) : Int)) →
 ((0 : Int) ≤ i7) ∧ (((0 : Int) ≤ i7) →
 FRead.sig.pre [(D.S (s0.extract i7.toNat ((s0.size : Nat) : Int).toNat))] ∧ (
 ∀ (i8 : Int),
 ∀ (s9 : ByteArray),
 ∀ (i10 : Int),
 ∀ (i11 : Int),
 FRead.sig.post [(D.S (s0.extract i7.toNat ((s0.size : Nat) : Int).toNat)), (D.I i8), (D.S s9), (D.I i10), (D.I i11)] →
 (0 ≤ i8 ∧ i8 < 18446744073709551616) →
 ((s9.size : Int) ≤ 9223372036854775807) →
 (-9223372036854775808 ≤ i10 ∧ i10 < 9223372036854775808) →
 (-9223372036854775808 ≤ i11 ∧ i11 < 9223372036854775808) →
 ((
  (i11 ≠ (0 : Int)) →
  FScan.sig.post [(D.S s0), (D.I i1), (D.V v5), (D.L l6), (D.I i7)]) ∧ (
  (i11 = (0 : Int)) →
  ((
   (i8 ≠ i4) →
   FScan.sig.post [(D.S s0), (D.I i1), (D.V v5), (D.L l6), (D.I i7)]) ∧ (
   (i8 = i4) →
   ∀ (v12 : Value),
   ((((l6 ++ ((D.S s9) :: ([] : List D))).length : Nat) : Int) ≤ (8796093022208 : Int)) ∧ (((((l6 ++ ((D.S s9) :: ([] : List D))).length : Nat) : Int) ≤ (8796093022208 : Int)) →
   ∀ (v13 : Value),
   FScan.I0 [(D.S s0), (D.I i1), (D.I (IntKind.wrap .u64 (i4 + (1 : Int)))), (D.L (l6 ++ ((D.S s9) :: ([] : List D)))), (D.I (IntKind.wrap .i64 (i7 + i10)))] ∧ FScan.I0M [(D.S s0), (D.I i1), (D.I (IntKind.wrap .u64 (i4 + (1 : Int)))), (D.L (l6 ++ ((D.S s9) :: ([] : List D)))), (D.I (IntKind.wrap .i64 (i7 + i10)))] < FScan.I0M [(D.S s0), (D.I i1), (D.I i4), (D.L l6), (D.I i7)])))))))))
theorem FScan.den : FScan.vc.den2 (mkEnv FScan.sig [FRead.sig] [(FScan.I0, FScan.I0M)]) [] = FScan.Pure := by kernel_rfl
def Awake06.vc : VC :=
 (.post 0 []
 (.pre 1 [(.int 1), (.str ⟨#[97]⟩)]
 (.all .S
 (.all .I
 (.post 1 [(.int 1), (.str ⟨#[97]⟩), (.at 0), (.at 1)]
 (.know (.ssz (.at 0))
 (.know (.has .i64 (.at 1))
 (.pre 2 [(.at 0)]
 (.all .I
 (.all .S
 (.all .I
 (.all .I
 (.post 2 [(.at 0), (.at 2), (.at 3), (.at 4), (.at 5)]
 (.know (.has .u64 (.at 2))
 (.know (.ssz (.at 3))
 (.know (.has .i64 (.at 4))
 (.know (.has .i64 (.at 5))
 (.and
  (.imp (.o2 .eq (.at 1) (.int 0)) true
  (.and
   (.imp (.o2 .eq (.o1 .slen (.at 0)) (.int 19)) true
   (.obl (.o2 .le (.int 14) (.o1 .slen (.at 0)))
   (.and
    (.imp (.o2 .eqs (.o3 .ssub (.at 0) (.int 0) (.int 14)) (.str ⟨#[79, 74, 0, 0, 0, 1, 0, 0, 0, 0, 0, 0, 0, 1]⟩)) true
    (.and
     (.imp (.o2 .eq (.at 5) (.int 0)) true
     (.and
      (.imp (.o2 .eq (.at 2) (.int 1)) true
      (.and
       (.imp (.o2 .eqs (.at 3) (.str ⟨#[97]⟩)) true
       (.ret [(.o2 .eq (.at 4) (.int 19))]))
       (.imp (.o2 .eqs (.at 3) (.str ⟨#[97]⟩)) false
       (.ret [(.bool false)]))))
      (.imp (.o2 .eq (.at 2) (.int 1)) false
      (.ret [(.bool false)]))))
     (.imp (.o2 .eq (.at 5) (.int 0)) false
     (.ret [(.bool false)]))))
    (.imp (.o2 .eqs (.o3 .ssub (.at 0) (.int 0) (.int 14)) (.str ⟨#[79, 74, 0, 0, 0, 1, 0, 0, 0, 0, 0, 0, 0, 1]⟩)) false
    (.ret [(.bool false)])))))
   (.imp (.o2 .eq (.o1 .slen (.at 0)) (.int 19)) false
   (.ret [(.bool false)]))))
  (.imp (.o2 .eq (.at 1) (.int 0)) false
  (.ret [(.bool false)]))))))))))))))))))))
def Awake06.Pure : Prop :=
 Awake06.sig.pre [] →
 FWrite.sig.pre [(D.I (1 : Int)), (D.S (⟨#[97]⟩ : ByteArray))] ∧ (
 ∀ (s0 : ByteArray),
 ∀ (i1 : Int),
 FWrite.sig.post [(D.I (1 : Int)), (D.S (⟨#[97]⟩ : ByteArray)), (D.S s0), (D.I i1)] →
 ((s0.size : Int) ≤ 9223372036854775807) →
 (-9223372036854775808 ≤ i1 ∧ i1 < 9223372036854775808) →
 FRead.sig.pre [(D.S s0)] ∧ (
 ∀ (i2 : Int),
 ∀ (s3 : ByteArray),
 ∀ (i4 : Int),
 ∀ (i5 : Int),
 FRead.sig.post [(D.S s0), (D.I i2), (D.S s3), (D.I i4), (D.I i5)] →
 (0 ≤ i2 ∧ i2 < 18446744073709551616) →
 ((s3.size : Int) ≤ 9223372036854775807) →
 (-9223372036854775808 ≤ i4 ∧ i4 < 9223372036854775808) →
 (-9223372036854775808 ≤ i5 ∧ i5 < 9223372036854775808) →
 ((
  (i1 = (0 : Int)) →
  ((
   (((s0.size : Nat) : Int) = (19 : Int)) →
   ((14 : Int) ≤ ((s0.size : Nat) : Int)) ∧ (((14 : Int) ≤ ((s0.size : Nat) : Int)) →
   ((
    ((s0.extract (0 : Int).toNat (14 : Int).toNat) = (⟨#[79, 74, 0, 0, 0, 1, 0, 0, 0, 0, 0, 0, 0, 1]⟩ : ByteArray)) →
    ((
     (i5 = (0 : Int)) →
     ((
      (i2 = (1 : Int)) →
      ((
       (s3 = (⟨#[97]⟩ : ByteArray)) →
       Awake06.sig.post [(D.B (i4 == (19 : Int)))]) ∧ (
       (s3 ≠ (⟨#[97]⟩ : ByteArray)) →
       Awake06.sig.post [(D.B false)]))) ∧ (
      (i2 ≠ (1 : Int)) →
      Awake06.sig.post [(D.B false)]))) ∧ (
     (i5 ≠ (0 : Int)) →
     Awake06.sig.post [(D.B false)]))) ∧ (
    ((s0.extract (0 : Int).toNat (14 : Int).toNat) ≠ (⟨#[79, 74, 0, 0, 0, 1, 0, 0, 0, 0, 0, 0, 0, 1]⟩ : ByteArray)) →
    Awake06.sig.post [(D.B false)])))) ∧ (
   (((s0.size : Nat) : Int) ≠ (19 : Int)) →
   Awake06.sig.post [(D.B false)]))) ∧ (
  (i1 ≠ (0 : Int)) →
  Awake06.sig.post [(D.B false)]))))
theorem Awake06.den : Awake06.vc.den2 (mkEnv Awake06.sig [FWrite.sig, FRead.sig] []) [] = Awake06.Pure := by kernel_rfl
def LFrameLong.vc : VC :=
 (.all .I
 (.know (.has .i64 (.at 0))
 (.post 0 [(.at 0)]
 (.and
  (.imp (.o2 .lt (.at 0) (.int 0)) true
  (.pre 1 []
  (.all .B
  (.post 1 [(.at 1)]
  (.ret [(.at 0), (.at 1)])))))
  (.imp (.o2 .lt (.at 0) (.int 0)) false
  (.and
   (.imp (.o2 .lt (.int 4194309) (.at 0)) true
   (.pre 1 []
   (.all .B
   (.post 1 [(.at 1)]
   (.ret [(.at 0), (.at 1)])))))
   (.imp (.o2 .lt (.int 4194309) (.at 0)) false
   (.obl (.o2 .le (.int 0) (.at 0))
   (.obl (.o2 .le (.at 0) (.int 140737488355328))
   (.all .V
   (.pre 2 [(.int 7), (.o1 .ofLi (.o2 .lirep (.at 0) (.int 0)))]
   (.all .S
   (.all .I
   (.post 2 [(.int 7), (.o1 .ofLi (.o2 .lirep (.at 0) (.int 0))), (.at 2), (.at 3)]
   (.know (.ssz (.at 2))
   (.know (.has .i64 (.at 3))
   (.and
    (.imp (.o2 .lt (.int 4194304) (.at 0)) true
    (.pre 1 []
    (.all .B
    (.post 1 [(.at 4)]
    (.and
     (.imp (.at 4) true
     (.and
      (.imp (.o2 .eq (.at 3) (.int 12)) true
      (.ret [(.at 0), (.o2 .eqs (.at 2) (.str ⟨#[]⟩))]))
      (.imp (.o2 .eq (.at 3) (.int 12)) false
      (.ret [(.at 0), (.bool false)]))))
     (.imp (.at 4) false
     (.ret [(.at 0), (.bool false)])))))))
    (.imp (.o2 .lt (.int 4194304) (.at 0)) false
    (.pre 1 []
    (.all .B
    (.post 1 [(.at 4)]
    (.and
     (.imp (.at 4) true
     (.and
      (.imp (.o2 .eq (.at 3) (.int 0)) true
      (.ret [(.at 0), (.o2 .eq (.o1 .slen (.at 2)) (.o2 (.add .i64) (.int 18) (.at 0)))]))
      (.imp (.o2 .eq (.at 3) (.int 0)) false
      (.ret [(.at 0), (.bool false)]))))
     (.imp (.at 4) false
     (.ret [(.at 0), (.bool false)]))))))))))))))))))))))))
def LFrameLong.Pure : Prop :=
 ∀ (i0 : Int),
 (-9223372036854775808 ≤ i0 ∧ i0 < 9223372036854775808) →
 LFrameLong.sig.pre [(D.I i0)] →
 ((
  (i0 < (0 : Int)) →
  Awake06.sig.pre [] ∧ (
  ∀ (b1 : Bool),
  Awake06.sig.post [(D.B b1)] →
  LFrameLong.sig.post [(D.I i0), (D.B b1)])) ∧ (
  ((0 : Int) ≤ i0) →
  ((
   ((4194309 : Int) < i0) →
   Awake06.sig.pre [] ∧ (
   ∀ (b1 : Bool),
   Awake06.sig.post [(D.B b1)] →
   LFrameLong.sig.post [(D.I i0), (D.B b1)])) ∧ (
   (i0 ≤ (4194309 : Int)) →
   ((0 : Int) ≤ i0) ∧ (((0 : Int) ≤ i0) →
   (i0 ≤ (140737488355328 : Int)) ∧ ((i0 ≤ (140737488355328 : Int)) →
   ∀ (v1 : Value),
   FWrite.sig.pre [(D.I (7 : Int)), (D.S (textOf (List.replicate i0.toNat (0 : Int))))] ∧ (
   ∀ (s2 : ByteArray),
   ∀ (i3 : Int),
   FWrite.sig.post [(D.I (7 : Int)), (D.S (textOf (List.replicate i0.toNat (0 : Int)))), (D.S s2), (D.I i3)] →
   ((s2.size : Int) ≤ 9223372036854775807) →
   (-9223372036854775808 ≤ i3 ∧ i3 < 9223372036854775808) →
   ((
    ((4194304 : Int) < i0) →
    Awake06.sig.pre [] ∧ (
    ∀ (b4 : Bool),
    Awake06.sig.post [(D.B b4)] →
    ((
     (b4 = true) →
     ((
      (i3 = (12 : Int)) →
      LFrameLong.sig.post [(D.I i0), (D.B (s2.toList == (⟨#[]⟩ : ByteArray).toList))]) ∧ (
      (i3 ≠ (12 : Int)) →
      LFrameLong.sig.post [(D.I i0), (D.B false)]))) ∧ (
     (b4 = false) →
     LFrameLong.sig.post [(D.I i0), (D.B false)])))) ∧ (
    (i0 ≤ (4194304 : Int)) →
    Awake06.sig.pre [] ∧ (
    ∀ (b4 : Bool),
    Awake06.sig.post [(D.B b4)] →
    ((
     (b4 = true) →
     ((
      (i3 = (0 : Int)) →
      LFrameLong.sig.post [(D.I i0), (D.B (((s2.size : Nat) : Int) == (IntKind.wrap .i64 ((18 : Int) + i0))))]) ∧ (
      (i3 ≠ (0 : Int)) →
      LFrameLong.sig.post [(D.I i0), (D.B false)]))) ∧ (
     (b4 = false) →
     LFrameLong.sig.post [(D.I i0), (D.B false)]))))))))))))
theorem LFrameLong.den : LFrameLong.vc.den2 (mkEnv LFrameLong.sig [Awake06.sig, FWrite.sig] []) [] = LFrameLong.Pure := by kernel_rfl
def LFrameNumbers.vc : VC :=
 (.all .S
 (.all .S
 (.all .I
 (.all .I
 (.know (.ssz (.at 0))
 (.know (.ssz (.at 1))
 (.know (.has .u64 (.at 2))
 (.know (.has .u64 (.at 3))
 (.post 0 [(.at 0), (.at 1), (.at 2), (.at 3)]
 (.pre 1 [(.at 0), (.int 60)]
 (.all .S
 (.post 1 [(.at 0), (.int 60), (.at 4)]
 (.know (.ssz (.at 4))
 (.pre 2 [(.at 2), (.at 4)]
 (.all .S
 (.all .I
 (.post 2 [(.at 2), (.at 4), (.at 5), (.at 6)]
 (.know (.ssz (.at 5))
 (.know (.has .i64 (.at 6))
 (.pre 1 [(.at 1), (.int 60)]
 (.all .S
 (.post 1 [(.at 1), (.int 60), (.at 7)]
 (.know (.ssz (.at 7))
 (.pre 2 [(.at 3), (.at 7)]
 (.all .S
 (.all .I
 (.post 2 [(.at 3), (.at 7), (.at 8), (.at 9)]
 (.know (.ssz (.at 8))
 (.know (.has .i64 (.at 9))
 (.obl (.o2 .le (.o1 .slen (.o2 .cat (.at 5) (.at 8))) (.int 9223372036854775807))
 (.pre 3 [(.o2 .cat (.at 5) (.at 8)), (.at 2)]
 (.all .V
 (.all .L
 (.all .I
 (.post 3 [(.o2 .cat (.at 5) (.at 8)), (.at 2), (.at 10), (.at 11), (.at 12)]
 (.know (.has .i64 (.at 12))
 (.know (.ekok [.str] (.at 11))
 (.and
  (.imp (.o1 .not (.o2 .eq (.at 6) (.int 0))) true
  (.ret [(.at 0), (.at 1), (.at 2), (.at 3), (.bool false)]))
  (.imp (.o1 .not (.o2 .eq (.at 6) (.int 0))) false
  (.and
   (.imp (.o1 .not (.o2 .eq (.at 9) (.int 0))) true
   (.ret [(.at 0), (.at 1), (.at 2), (.at 3), (.bool false)]))
   (.imp (.o1 .not (.o2 .eq (.at 9) (.int 0))) false
   (.and
    (.imp (.o2 .eq (.at 3) (.o2 (.add .u64) (.at 2) (.int 1))) true
    (.pre 4 []
    (.all .B
    (.post 4 [(.at 13)]
    (.and
     (.imp (.at 13) true
     (.and
      (.imp (.o2 .eq (.o1 .llen (.at 11)) (.int 2)) true
      (.ret [(.at 0), (.at 1), (.at 2), (.at 3), (.o2 .eq (.at 12) (.o2 (.add .i64) (.o1 .slen (.at 5)) (.o1 .slen (.at 8))))]))
      (.imp (.o2 .eq (.o1 .llen (.at 11)) (.int 2)) false
      (.ret [(.at 0), (.at 1), (.at 2), (.at 3), (.bool false)]))))
     (.imp (.at 13) false
     (.ret [(.at 0), (.at 1), (.at 2), (.at 3), (.bool false)])))))))
    (.imp (.o2 .eq (.at 3) (.o2 (.add .u64) (.at 2) (.int 1))) false
    (.pre 4 []
    (.all .B
    (.post 4 [(.at 13)]
    (.and
     (.imp (.at 13) true
     (.and
      (.imp (.o2 .eq (.o1 .llen (.at 11)) (.int 1)) true
      (.ret [(.at 0), (.at 1), (.at 2), (.at 3), (.o2 .eq (.at 12) (.o1 .slen (.at 5)))]))
      (.imp (.o2 .eq (.o1 .llen (.at 11)) (.int 1)) false
      (.ret [(.at 0), (.at 1), (.at 2), (.at 3), (.bool false)]))))
     (.imp (.at 13) false
     (.ret [(.at 0), (.at 1), (.at 2), (.at 3), (.bool false)])))))))))))))))))))))))))))))))))))))))))))))))))
def LFrameNumbers.Pure : Prop :=
 ∀ (s0 : ByteArray),
 ∀ (s1 : ByteArray),
 ∀ (i2 : Int),
 ∀ (i3 : Int),
 ((s0.size : Int) ≤ 9223372036854775807) →
 ((s1.size : Int) ≤ 9223372036854775807) →
 (0 ≤ i2 ∧ i2 < 18446744073709551616) →
 (0 ≤ i3 ∧ i3 < 18446744073709551616) →
 LFrameNumbers.sig.pre [(D.S s0), (D.S s1), (D.I i2), (D.I i3)] →
 Cut.sig.pre [(D.S s0), (D.I (60 : Int))] ∧ (
 ∀ (s4 : ByteArray),
 Cut.sig.post [(D.S s0), (D.I (60 : Int)), (D.S s4)] →
 ((s4.size : Int) ≤ 9223372036854775807) →
 FWrite.sig.pre [(D.I i2), (D.S s4)] ∧ (
 ∀ (s5 : ByteArray),
 ∀ (i6 : Int),
 FWrite.sig.post [(D.I i2), (D.S s4), (D.S s5), (D.I i6)] →
 ((s5.size : Int) ≤ 9223372036854775807) →
 (-9223372036854775808 ≤ i6 ∧ i6 < 9223372036854775808) →
 Cut.sig.pre [(D.S s1), (D.I (60 : Int))] ∧ (
 ∀ (s7 : ByteArray),
 Cut.sig.post [(D.S s1), (D.I (60 : Int)), (D.S s7)] →
 ((s7.size : Int) ≤ 9223372036854775807) →
 FWrite.sig.pre [(D.I i3), (D.S s7)] ∧ (
 ∀ (s8 : ByteArray),
 ∀ (i9 : Int),
 FWrite.sig.post [(D.I i3), (D.S s7), (D.S s8), (D.I i9)] →
 ((s8.size : Int) ≤ 9223372036854775807) →
 (-9223372036854775808 ≤ i9 ∧ i9 < 9223372036854775808) →
 ((((s5 ++ s8).size : Nat) : Int) ≤ (9223372036854775807 : Int)) ∧ (((((s5 ++ s8).size : Nat) : Int) ≤ (9223372036854775807 : Int)) →
 FScan.sig.pre [(D.S (s5 ++ s8)), (D.I i2)] ∧ (
 ∀ (v10 : Value),
 ∀ (l11 : List D),
 ∀ (i12 : Int),
 FScan.sig.post [(D.S (s5 ++ s8)), (D.I i2), (D.V v10), (D.L l11), (D.I i12)] →
 (-9223372036854775808 ≤ i12 ∧ i12 < 9223372036854775808) →
 (EK.ok [.str] (D.L l11)) →
 ((
  (i6 ≠ (0 : Int)) →
  LFrameNumbers.sig.post [(D.S s0), (D.S s1), (D.I i2), (D.I i3), (D.B false)]) ∧ (
  (i6 = (0 : Int)) →
  ((
   (i9 ≠ (0 : Int)) →
   LFrameNumbers.sig.post [(D.S s0), (D.S s1), (D.I i2), (D.I i3), (D.B false)]) ∧ (
   (i9 = (0 : Int)) →
   ((
    (i3 = (IntKind.wrap .u64 (i2 + (1 : Int)))) →
    Awake06.sig.pre [] ∧ (
    ∀ (b13 : Bool),
    Awake06.sig.post [(D.B b13)] →
    ((
     (b13 = true) →
     ((
      (((l11.length : Nat) : Int) = (2 : Int)) →
      LFrameNumbers.sig.post [(D.S s0), (D.S s1), (D.I i2), (D.I i3), (D.B (i12 == (IntKind.wrap .i64 (((s5.size : Nat) : Int) + ((s8.size : Nat) : Int)))))]) ∧ (
      (((l11.length : Nat) : Int) ≠ (2 : Int)) →
      LFrameNumbers.sig.post [(D.S s0), (D.S s1), (D.I i2), (D.I i3), (D.B false)]))) ∧ (
     (b13 = false) →
     LFrameNumbers.sig.post [(D.S s0), (D.S s1), (D.I i2), (D.I i3), (D.B false)])))) ∧ (
    (i3 ≠ (IntKind.wrap .u64 (i2 + (1 : Int)))) →
    Awake06.sig.pre [] ∧ (
    ∀ (b13 : Bool),
    Awake06.sig.post [(D.B b13)] →
    ((
     (b13 = true) →
     ((
      (((l11.length : Nat) : Int) = (1 : Int)) →
      LFrameNumbers.sig.post [(D.S s0), (D.S s1), (D.I i2), (D.I i3), (D.B (i12 == ((s5.size : Nat) : Int)))]) ∧ (
      (((l11.length : Nat) : Int) ≠ (1 : Int)) →
      LFrameNumbers.sig.post [(D.S s0), (D.S s1), (D.I i2), (D.I i3), (D.B false)]))) ∧ (
     (b13 = false) →
     LFrameNumbers.sig.post [(D.S s0), (D.S s1), (D.I i2), (D.I i3), (D.B false)])))))))))))))))
theorem LFrameNumbers.den : LFrameNumbers.vc.den2 (mkEnv LFrameNumbers.sig [Cut.sig, FWrite.sig, FScan.sig, Awake06.sig] []) [] = LFrameNumbers.Pure := by kernel_rfl
def Laid.vc : VC :=
 (.all .V
 (.all .L
 (.all .I
 (.know (.has .u64 (.at 2))
 (.know (.ekok [.str] (.at 1))
 (.post 0 [(.at 0), (.at 1), (.at 2)]
 (.all .V
 (.all .V
 (.inv 0 [(.at 0), (.at 1), (.at 2), (.str ⟨#[]⟩), (.lis []), (.int 0)]
 (.all .S
 (.all .V
 (.all .Z
 (.all .I
 (.know (.ssz (.at 5))
 (.know (.has .i64 (.at 8))
 (.know (.allHas .i64 (.at 7))
 (.asm 0 [(.at 0), (.at 1), (.at 2), (.at 5), (.at 7), (.at 8)]
 (.and
  (.imp (.o2 .lt (.at 8) (.o1 .llen (.at 1))) true
  (.and
   (.imp (.o2 .lt (.at 8) (.int 6)) true
   (.obl (.o2 .le (.int 0) (.at 8))
   (.pre 1 [(.o1 .asS (.o2 .lget (.at 1) (.at 8))), (.int 60)]
   (.all .S
   (.post 1 [(.o1 .asS (.o2 .lget (.at 1) (.at 8))), (.int 60), (.at 9)]
   (.know (.ssz (.at 9))
   (.pre 2 [(.o2 (.add .u64) (.at 2) (.o1 (.wrap .u64) (.at 8))), (.at 9)]
   (.all .S
   (.all .I
   (.post 2 [(.o2 (.add .u64) (.at 2) (.o1 (.wrap .u64) (.at 8))), (.at 9), (.at 10), (.at 11)]
   (.know (.ssz (.at 10))
   (.know (.has .i64 (.at 11))
   (.and
    (.imp (.o1 .not (.o2 .eq (.at 11) (.int 0))) true
    (.all .V
    (.ret [(.at 0), (.at 1), (.at 2), (.str ⟨#[]⟩), (.at 12), (.o2 .licons (.int (-1)) (.lis []))])))
    (.imp (.o1 .not (.o2 .eq (.at 11) (.int 0))) false
    (.obl (.o2 .le (.o1 .slen (.o2 .cat (.at 5) (.at 10))) (.int 9223372036854775807))
    (.all .V
    (.obl (.o2 .le (.o1 .lilen (.o2 .liapp (.at 7) (.o2 .licons (.o1 .slen (.o2 .cat (.at 5) (.at 10))) (.lis [])))) (.int 17592186044416))
    (.all .V
    (.back 0 [(.at 0), (.at 1), (.at 2), (.at 5), (.at 7), (.at 8)] [(.at 0), (.at 1), (.at 2), (.o2 .cat (.at 5) (.at 10)), (.o2 .liapp (.at 7) (.o2 .licons (.o1 .slen (.o2 .cat (.at 5) (.at 10))) (.lis []))), (.o2 (.add .i64) (.at 8) (.int 1))])))))))))))))))))))
   (.imp (.o2 .lt (.at 8) (.int 6)) false
   (.ret [(.at 0), (.at 1), (.at 2), (.at 5), (.at 6), (.at 7)]))))
  (.imp (.o2 .lt (.at 8) (.o1 .llen (.at 1))) false
  (.ret [(.at 0), (.at 1), (.at 2), (.at 5), (.at 6), (.at 7)]))))))))))))))))))))
def Laid.Pure : Prop :=
 ∀ (v0 : Value),
 ∀ (l1 : List D),
 ∀ (i2 : Int),
 (0 ≤ i2 ∧ i2 < 18446744073709551616) →
 (EK.ok [.str] (D.L l1)) →
 Laid.sig.pre [(D.V v0), (D.L l1), (D.I i2)] →
 ∀ (v3 : Value),
 ∀ (v4 : Value),
 Laid.I0 [(D.V v0), (D.L l1), (D.I i2), (D.S (⟨#[]⟩ : ByteArray)), (D.Z ([] : List Int)), (D.I (0 : Int))] ∧ (
 ∀ (s5 : ByteArray),
 ∀ (v6 : Value),
 ∀ (z7 : List Int),
 ∀ (i8 : Int),
 ((s5.size : Int) ≤ 9223372036854775807) →
 (-9223372036854775808 ≤ i8 ∧ i8 < 9223372036854775808) →
 (∀ x ∈ z7, IntKind.has .i64 x) →
 Laid.I0 [(D.V v0), (D.L l1), (D.I i2), (D.S s5), (D.Z z7), (D.I i8)] →
 ((
  (i8 < ((l1.length : Nat) : Int)) →
  ((
   (i8 < (6 : Int)) →
   ((0 : Int) ≤ i8) ∧ (((0 : Int) ≤ i8) →
   Cut.sig.pre [(D.S ((l1.getD i8.toNat default)).toS), (D.I (60 : Int))] ∧ (
   ∀ (s9 : ByteArray),
   Cut.sig.post [(D.S ((l1.getD i8.toNat default)).toS), (D.I (60 : Int)), (D.S s9)] →
   ((s9.size : Int) ≤ 9223372036854775807) →
   FWrite.sig.pre [(D.I (IntKind.wrap .u64 (i2 + (IntKind.wrap .u64 i8)))), (D.S s9)] ∧ (
   ∀ (s10 : ByteArray),
   ∀ (i11 : Int),
   FWrite.sig.post [(D.I (IntKind.wrap .u64 (i2 + (IntKind.wrap .u64 i8)))), (D.S s9), (D.S s10), (D.I i11)] →
   ((s10.size : Int) ≤ 9223372036854775807) →
   (-9223372036854775808 ≤ i11 ∧ i11 < 9223372036854775808) →
   ((
    (i11 ≠ (0 : Int)) →
    ∀ (v12 : Value),
    Laid.sig.post [(D.V v0), (D.L l1), (D.I i2), (D.S (⟨#[]⟩ : ByteArray)), (D.V v12), (D.Z ((-1 : Int) :: ([] : List Int)))]) ∧ (
    (i11 = (0 : Int)) →
    ((((s5 ++ s10).size : Nat) : Int) ≤ (9223372036854775807 : Int)) ∧ (((((s5 ++ s10).size : Nat) : Int) ≤ (9223372036854775807 : Int)) →
    ∀ (v12 : Value),
    ((((z7 ++ ((((s5 ++ s10).size : Nat) : Int) :: ([] : List Int))).length : Nat) : Int) ≤ (17592186044416 : Int)) ∧ (((((z7 ++ ((((s5 ++ s10).size : Nat) : Int) :: ([] : List Int))).length : Nat) : Int) ≤ (17592186044416 : Int)) →
    ∀ (v13 : Value),
    Laid.I0 [(D.V v0), (D.L l1), (D.I i2), (D.S (s5 ++ s10)), (D.Z (z7 ++ ((((s5 ++ s10).size : Nat) : Int) :: ([] : List Int)))), (D.I (IntKind.wrap .i64 (i8 + (1 : Int))))] ∧ Laid.I0M [(D.V v0), (D.L l1), (D.I i2), (D.S (s5 ++ s10)), (D.Z (z7 ++ ((((s5 ++ s10).size : Nat) : Int) :: ([] : List Int)))), (D.I (IntKind.wrap .i64 (i8 + (1 : Int))))] < Laid.I0M [(D.V v0), (D.L l1), (D.I i2), (D.S s5), (D.Z z7), (D.I i8)])))))))) ∧ (
   ((6 : Int) ≤ i8) →
   Laid.sig.post [(D.V v0), (D.L l1), (D.I i2), (D.S s5), (D.V v6), (D.Z z7)]))) ∧ (
  (((l1.length : Nat) : Int) ≤ i8) →
  Laid.sig.post [(D.V v0), (D.L l1), (D.I i2), (D.S s5), (D.V v6), (D.Z z7)])))
theorem Laid.den : Laid.vc.den2 (mkEnv Laid.sig [Cut.sig, FWrite.sig] [(Laid.I0, Laid.I0M)]) [] = Laid.Pure := by kernel_rfl
end Go.Vc

namespace Go.Vc

theorem crcOf_more (sum : Int) (a b : List Int) : crcOf (crcOf sum a) b = crcOf sum (a ++ b) := by
  apply u32_ext (crcOf_has _ _) (crcOf_has _ _)
  rw [crcOf_eq (crcOf sum a) b, crcOf_eq sum (a ++ b), crc_append, crcOf_eq sum a, BitVec.not_not]

theorem FCover.pure : FCover.Pure := by
  intro i0 i1 h1 h2 h3 v2 n3
  have h3 : 0 ≤ i1 := h3
  rw [u64w (by omega) (by omega)]
  refine ⟨(by decide : ([] : List Int).length ≤ 4000000000), ?_⟩
  intro v4 z5 h4 h5
  have h4 : z5 = [] ++ fixB i1 4 := h4
  have hl : z5.length = 4 := by rw [h4, List.nil_append, fixB_len]; decide
  refine ⟨(by show z5.length ≤ 4000000000; omega), ?_⟩
  intro v6 z7 h6 h7
  have h6 : z7 = z5 ++ fixB i0 8 := h6
  refine ⟨trivial, ?_⟩
  intro s8 h8 h9
  have h8 : s8 = textOf z7 := h8
  show s8 = textOf (coverB i0 i1)
  rw [h8, h6, h4]; rfl

theorem beB_mod {v : Int} {n : Nat} (hn : n ≤ 8) : beB (IntKind.wrap .u64 v) n = beB v n := by
  unfold beB bytesLE
  congr 1
  apply List.map_congr_left
  intro j hj
  have hj : j < n := List.mem_range.1 hj
  rw [IntKind.wrap_u64]
  apply eq_of_bt (w := 8) (by omega) (by show _ < (256 : Int); omega) (by omega) (by show _ < (256 : Int); omega)
  intro i hi
  rw [bt_byte _ _ _ hi, bt_byte _ _ _ hi, show (18446744073709551616 : Int) = 2 ^ 64 from by decide, bt_emod _ (by omega)]

theorem FWrite.pure : FWrite.Pure := by
  intro i0 s1 h1 h2 h3
  have h3 : s1.size ≤ 900000000 := h3
  refine ⟨?_, ?_⟩
  · intro h4
    show if s1.size > 4194304 then (⟨#[]⟩ : ByteArray) = ByteArray.empty ∧ (12 : Int) = 12 else _
    rw [if_pos (by omega)]
    exact ⟨rfl, rfl⟩
  · intro h4
    refine ⟨(by show 0 ≤ ((s1.size : Nat) : Int); omega), ?_⟩
    intro s2 h5 h6 v3 n4
    have h5 : s2 = textOf (coverB i0 s1.size) := h5
    have hs2 : s2.size = 12 := by rw [h5, size_textOf, coverB_len]
    have hb2 : bytesOf s2 = coverB i0 s1.size := by
      rw [h5, bytesOf_textOf]
      intro x hx
      simp only [coverB, List.mem_append] at hx
      rcases hx with h | h <;> exact beB_has _ _ x h
    have hm : bytesOf ((⟨#[79, 74]⟩ : ByteArray) ++ s2) = 79 :: 74 :: coverB i0 s1.size := by
      rw [bytesOf_append, hb2]; rfl
    have hms : ((⟨#[79, 74]⟩ : ByteArray) ++ s2).size = 14 := by rw [ByteArray.size_append, hs2]; rfl
    refine ⟨by omega, fun h7 => ?_⟩
    refine ⟨⟨by decide, by omega⟩, ?_⟩
    intro v5 z6 h8 h9
    have h8 : z6 = [] ++ bytesOf ((⟨#[79, 74]⟩ : ByteArray) ++ s2) := h8
    rw [hm, List.nil_append] at h8
    have hl6 : z6.length = 14 := by rw [h8, List.length_cons, List.length_cons, coverB_len]
    refine ⟨trivial, ?_⟩
    intro i7 h10 h11
    have h10 : i7 = crcOf 0 (bytesOf s2) := h10
    refine ⟨trivial, ?_⟩
    intro i8 h12 h13
    have h12 : i8 = crcOf i7 (bytesOf s1) := h12
    refine ⟨(by show z6.length ≤ 4000000000; omega), ?_⟩
    intro v9 z10 h14 h15
    have h14 : z10 = z6 ++ fixB (IntKind.wrap .u64 i8) 4 := h14
    have hf : fixB (IntKind.wrap .u64 i8) 4 = beB i8 4 := beB_mod (by decide)
    have hl10 : z10.length = 18 := by rw [h14, hf, List.length_append, beB_len, hl6]
    refine ⟨⟨by omega, by omega⟩, ?_⟩
    intro v11 z12 h16 h17
    have h16 : z12 = z10 ++ bytesOf s1 := h16
    refine ⟨trivial, ?_⟩
    intro s13 h18 h19
    have h18 : s13 = textOf z12 := h18
    show if s1.size > 4194304 then _ else s13 = textOf (frameB i0 s1) ∧ (0 : Int) = 0
    rw [if_neg (by omega)]
    refine ⟨?_, rfl⟩
    rw [h18, h16, h14, hf, h8, h12, h10, hb2, crcOf_more]
    simp only [frameB, List.cons_append, List.append_assoc]

/-! ### reading -/
theorem rf_range {s : ByteArray} {a e n a' e' r : Int} (h : (a', e', r) = rdFixed s a e n) (ha : 0 ≤ a ∧ a ≤ s.size) : 0 ≤ a' ∧ a' ≤ s.size := by
  have hc := clamp18 n
  have := (rdRaw_size s a e (clamp 1 8 n) (by omega) ha).2
  have e1 : a' = (rdRaw s a e (clamp 1 8 n)).1 := congrArg (·.1) h
  rw [e1]; exact this
theorem rf_err {s : ByteArray} {a e n : Int} (he : e ≠ 0) : rdFixed s a e n = (a, e, 0) := by
  rw [rdFixed, rdRaw, if_pos he]; rfl
theorem rf_ok {s : ByteArray} {a n : Int} (ha : 0 ≤ a) (hn : 1 ≤ n ∧ n ≤ 8) (h : a + n ≤ s.size) : rdFixed s a 0 n = (a + n, 0, beNum (((bytesOf s).drop a.toNat).take n.toNat)) := by
  have hc : clamp 1 8 n = n := by unfold clamp; rw [if_neg (by omega), if_neg (by omega)]
  rw [rdFixed, hc, rdRaw, if_neg (by simp), if_neg (by omega)]
  show (a + n, (0 : Int), beNum (bytesOf (s.extract a.toNat (a + n).toNat))) = _
  rw [bytesOf_extract, List.drop_take, show (a + n).toNat - a.toNat = n.toNat from by omega]
theorem rf_short {s : ByteArray} {a n : Int} (hn : 1 ≤ n ∧ n ≤ 8) (h : (s.size : Int) < a + n) : rdFixed s a 0 n = (a, 2, 0) := by
  have hc : clamp 1 8 n = n := by unfold clamp; rw [if_neg (by omega), if_neg (by omega)]
  rw [rdFixed, hc, rdRaw, if_neg (by simp), if_pos (by omega)]; rfl

theorem beB_beNum : ∀ {l : List Int}, (∀ x ∈ l, 0 ≤ x ∧ x < 256) → beB (beNum l) l.length = l := by
  intro l h
  apply List.ext_getElem (beB_len _ _)
  intro i h1 h2
  have hb := beB_get (beNum l) (n := l.length) (k := i) h2
  have e1 : (beB (beNum l) l.length).getD i 0 = (beB (beNum l) l.length)[i] := by simp [List.getD, h1]
  rw [← e1, hb]
  have key : ∀ (l : List Int), (∀ x ∈ l, 0 ≤ x ∧ x < 256) → ∀ i (h2 : i < l.length), beNum l / 256 ^ (l.length - 1 - i) % 256 = l[i] := by
    intro l
    induction l with
    | nil => intro _ i h2; simp at h2
    | cons c l ih =>
      intro h i h2
      have hc := h c (by simp)
      have hr := beNum_range (l := l) (fun x hx => h x (by simp [hx])) l.length (Nat.le_refl _)
      rw [List.take_length] at hr
      have e0 : beNum (c :: l) = c * 256 ^ l.length + beNum l := by
        show l.foldl _ (256 * 0 + c) = _
        rw [beNum_acc]; simp
      rw [e0, List.length_cons]
      cases i with
      | zero =>
        rw [show l.length + 1 - 1 - 0 = l.length from by omega, Int.add_comm, Int.add_mul_ediv_right _ _ (Int.ne_of_gt (pow256_pos _)), Int.ediv_eq_zero_of_lt hr.1 hr.2]
        simp; omega
      | succ i =>
        have hi : i < l.length := by simpa using h2
        rw [show l.length + 1 - 1 - (i + 1) = l.length - 1 - i from by omega, List.getElem_cons_succ, ← ih (fun x hx => h x (by simp [hx])) i hi]
        have e1 : c * 256 ^ l.length = (c * 256 ^ i * 256) * 256 ^ (l.length - 1 - i) := by
          rw [Int.mul_assoc, Int.mul_assoc, ← Int.pow_succ', ← Int.pow_add]
          congr 2
          omega
        rw [e1, Int.add_comm, Int.add_mul_ediv_right _ _ (Int.ne_of_gt (pow256_pos _))]
        omega
  exact key l h i h2

theorem take12 {l : List Int} : (l.drop 2).take 12 = (l.drop 2).take 4 ++ (l.drop 6).take 8 := by
  rw [show (12 : Nat) = 4 + 8 from rfl, List.take_add, List.drop_drop]

theorem FRead.pure : FRead.Pure := by
  intro s0 h1 h2
  have h2 : s0.size ≤ 1000000000 := h2
  have hL := bytesOf_length' s0
  have hB := bytesOf_has s0
  refine ⟨trivial, ?_⟩
  intro n1 h3
  refine ⟨⟨by decide, by omega⟩, ?_⟩
  intro i2 i3 s4 h4 h5 h6 h7
  have h4 : (i2, i3, s4) = rdRaw s0 0 0 2 := h4
  have key : (s0.size < 2 ∧ i2 = 0 ∧ i3 = 2 ∧ s4 = ByteArray.empty) ∨ (2 ≤ s0.size ∧ i2 = 2 ∧ i3 = 0 ∧ bytesOf s4 = (bytesOf s0).take 2) := by
    rw [rdRaw, if_neg (by simp)] at h4
    by_cases c : s0.size < 2
    · rw [if_pos (by omega)] at h4
      simp only [Prod.mk.injEq] at h4
      exact .inl ⟨c, h4.1, h4.2.1, h4.2.2⟩
    · rw [if_neg (by omega)] at h4
      simp only [Prod.mk.injEq] at h4
      refine .inr ⟨by omega, by omega, h4.2.1, ?_⟩
      rw [h4.2.2, bytesOf_extract]; rfl
  have r2 : 0 ≤ i2 ∧ i2 ≤ s0.size := by rcases key with k | k <;> omega
  have go : (i3 = 0 → bytesOf s4 = [79, 74]) → ∀ i5 i6 i7 : Int, (i5, i6, i7) = rdFixed s0 i2 i3 4 → ∀ i8 i9 i10 : Int, (i8, i9, i10) = rdFixed s0 i5 i6 8 → ∀ i11 i12 i13 : Int, (i11, i12, i13) = rdFixed s0 i8 i9 4 →
      (0 ≤ i7 ∧ i7 < 4294967296) ∧ (0 ≤ i13 ∧ i13 < 4294967296) ∧
      ((18 ≤ s0.size ∧ (bytesOf s0).take 2 = [79, 74] ∧ i11 = 18 ∧ i12 = 0 ∧ i7 = beNum (((bytesOf s0).drop 2).take 4) ∧ i10 = beNum (((bytesOf s0).drop 6).take 8) ∧ i13 = beNum (((bytesOf s0).drop 14).take 4)) ∨
        (i12 = 2 ∧ fRead (bytesOf s0) = (0, [], 0, 2))) := by
    intro hoj i5 i6 i7 f1 i8 i9 i10 f2 i11 i12 i13 f3
    rcases key with ⟨k1, rfl, rfl, _⟩ | ⟨k1, rfl, rfl, k4⟩
    · rw [rf_err (by decide)] at f1
      simp only [Prod.mk.injEq] at f1
      obtain ⟨rfl, rfl, rfl⟩ := f1
      rw [rf_err (by decide)] at f2
      simp only [Prod.mk.injEq] at f2
      obtain ⟨rfl, rfl, rfl⟩ := f2
      rw [rf_err (by decide)] at f3
      simp only [Prod.mk.injEq] at f3
      obtain ⟨rfl, rfl, rfl⟩ := f3
      refine ⟨by decide, by decide, .inr ⟨rfl, ?_⟩⟩
      unfold fRead
      rw [if_pos (by omega)]
    · have oj : (bytesOf s0).take 2 = [79, 74] := by rw [← k4]; exact hoj rfl
      have short : s0.size < 18 → fRead (bytesOf s0) = (0, [], 0, 2) := by
        intro h
        unfold fRead
        rw [if_neg (by omega), if_neg (by rw [oj]; simp), if_pos (by omega)]
      have rng : ∀ k, 0 ≤ beNum (((bytesOf s0).drop k).take 4) ∧ beNum (((bytesOf s0).drop k).take 4) < 4294967296 := by
        intro k
        have hr := beNum_range (l := ((bytesOf s0).drop k).take 4) (fun x hx => hB x (List.mem_of_mem_drop (List.mem_of_mem_take hx))) _ (Nat.le_refl _)
        rw [List.take_length] at hr
        have hle : (((bytesOf s0).drop k).take 4).length ≤ 4 := by rw [List.length_take]; omega
        have hp : (256 : Int) ^ (((bytesOf s0).drop k).take 4).length ≤ 256 ^ 4 := by
          have h2 := Nat.pow_le_pow_right (by decide : 0 < 256) hle
          have h3 : ((256 ^ (((bytesOf s0).drop k).take 4).length : Nat) : Int) ≤ ((256 ^ 4 : Nat) : Int) := by omega
          rwa [Int.natCast_pow, Int.natCast_pow] at h3
        rw [pow4] at hp
        omega
      by_cases c6 : 6 ≤ s0.size
      · rw [rf_ok (by decide) (by decide) (by omega)] at f1
        simp only [Prod.mk.injEq] at f1
        obtain ⟨rfl, rfl, rfl⟩ := f1
        by_cases c14 : 14 ≤ s0.size
        · rw [rf_ok (by decide) (by decide) (by omega)] at f2
          simp only [Prod.mk.injEq] at f2
          obtain ⟨rfl, rfl, rfl⟩ := f2
          by_cases c18 : 18 ≤ s0.size
          · rw [rf_ok (by decide) (by decide) (by omega)] at f3
            simp only [Prod.mk.injEq] at f3
            obtain ⟨rfl, rfl, rfl⟩ := f3
            exact ⟨rng 2, rng 14, .inl ⟨c18, oj, rfl, rfl, rfl, rfl, rfl⟩⟩
          · rw [rf_short (by decide) (by omega)] at f3
            simp only [Prod.mk.injEq] at f3
            obtain ⟨rfl, rfl, rfl⟩ := f3
            exact ⟨rng 2, by decide, .inr ⟨rfl, short (by omega)⟩⟩
        · rw [rf_short (by decide) (by omega)] at f2
          simp only [Prod.mk.injEq] at f2
          obtain ⟨rfl, rfl, rfl⟩ := f2
          rw [rf_err (by decide)] at f3
          simp only [Prod.mk.injEq] at f3
          obtain ⟨rfl, rfl, rfl⟩ := f3
          exact ⟨rng 2, by decide, .inr ⟨rfl, short (by omega)⟩⟩
      · rw [rf_short (by decide) (by omega)] at f1
        simp only [Prod.mk.injEq] at f1
        obtain ⟨rfl, rfl, rfl⟩ := f1
        rw [rf_err (by decide)] at f2
        simp only [Prod.mk.injEq] at f2
        obtain ⟨rfl, rfl, rfl⟩ := f2
        rw [rf_err (by decide)] at f3
        simp only [Prod.mk.injEq] at f3
        obtain ⟨rfl, rfl, rfl⟩ := f3
        exact ⟨by decide, by decide, .inr ⟨rfl, short (by omega)⟩⟩
  have go2 : (s4 ≠ ⟨#[79, 74]⟩ → i3 ≠ 0) → (i3 = 0 → bytesOf s4 = [79, 74]) := by
    intro h h0
    apply Classical.byContradiction
    intro hc
    exact h (fun e => hc (by rw [e]; rfl)) h0
  refine ⟨fun h8 => ⟨trivial, fun h9 => ⟨fun h10 => ?_, fun h10 => ?_⟩⟩, fun h8 => ?_⟩
  · show ((0 : Int), bytesOf ⟨#[]⟩, (0 : Int), (3 : Int)) = fRead (bytesOf s0)
    rcases key with ⟨_, _, k3, _⟩ | ⟨k1, _, _, k4⟩
    · omega
    · unfold fRead
      rw [if_neg (by omega), if_pos]
      · rfl
      · intro e
        apply h8
        apply text_inj
        rw [k4, e]; rfl
  all_goals
    have hoj : i3 = 0 → bytesOf s4 = [79, 74] := go2 (by first | exact fun _ => h10 | exact fun h => absurd h8 h)
    refine ⟨r2, ?_⟩
    intro i5 i6 i7 f1 b1 _ _
    have r5 := rf_range (show (i5, i6, i7) = rdFixed s0 i2 i3 4 from f1) r2
    refine ⟨r5, ?_⟩
    intro i8 i9 i10 f2 b2 _ _
    have r8 := rf_range (show (i8, i9, i10) = rdFixed s0 i5 i6 8 from f2) r5
    refine ⟨r8, ?_⟩
    intro i11 i12 i13 f3 b3 _ _
    have r11 := rf_range (show (i11, i12, i13) = rdFixed s0 i8 i9 4 from f3) r8
    obtain ⟨g7, g13, T⟩ := go hoj i5 i6 i7 f1 i8 i9 i10 f2 i11 i12 i13 f3
    have w7 : IntKind.wrap .i64 i7 = i7 := i64w (by omega) (by omega)
    have w13 : IntKind.wrap .u32 i13 = i13 := by rw [IntKind.wrap_u32]; omega
    rw [w7]
    have unf : 18 ≤ s0.size → (bytesOf s0).take 2 = [79, 74] → i7 = beNum (((bytesOf s0).drop 2).take 4) → fRead (bytesOf s0) =
        (if i7 > 4194304 then (0, [], 0, 12) else if (s0.size : Int) < 18 + i7 then (0, [], 0, 2) else
          if crcOf 0 (((bytesOf s0).drop 2).take 12 ++ ((bytesOf s0).drop 18).take i7.toNat) ≠ beNum (((bytesOf s0).drop 14).take 4) then (0, [], 0, 4) else
          (beNum (((bytesOf s0).drop 6).take 8), ((bytesOf s0).drop 18).take i7.toNat, 18 + i7, 0)) := by
      intro a b c
      unfold fRead
      rw [if_neg (by omega), if_neg (by rw [b]; simp), if_neg (by omega), ← c, hL]
    refine ⟨trivial, fun _ => ⟨fun h24 => ⟨fun h25 => ?_, fun h25 => ?_⟩, fun h24 => ?_⟩⟩
    · show ((0 : Int), bytesOf ⟨#[]⟩, (0 : Int), (12 : Int)) = fRead (bytesOf s0)
      rcases T with ⟨t1, t2, _, _, t5, _⟩ | ⟨t1, _⟩
      · rw [unf t1 t2 t5, if_pos h25]; rfl
      · omega
    all_goals
      refine ⟨r11, ?_⟩
      intro i14 i15 s16 q1 _ _ _
      have q1 : (i14, i15, s16) = rdRaw s0 i11 i12 i7 := q1
      refine ⟨trivial, fun _ => ⟨fun e1 => ?_, fun e1 => ?_⟩⟩
      · show ((0 : Int), bytesOf ⟨#[]⟩, (0 : Int), i15) = fRead (bytesOf s0)
        rcases T with ⟨t1, t2, t3, t4, t5, _⟩ | ⟨t1, t2⟩
        · rw [rdRaw, t3, t4, if_neg (by simp)] at q1
          by_cases c : (s0.size : Int) < 18 + i7
          · rw [if_pos (by omega)] at q1
            simp only [Prod.mk.injEq] at q1
            rw [unf t1 t2 t5, if_neg (by omega), if_pos c, q1.2.1]; rfl
          · rw [if_neg (by omega)] at q1
            simp only [Prod.mk.injEq] at q1
            exact absurd q1.2.1 e1
        · rw [rdRaw, t1, if_pos (by decide)] at q1
          simp only [Prod.mk.injEq] at q1
          rw [t2, q1.2.1]; rfl
      · rcases T with ⟨t1, t2, t3, t4, t5, t6, t7⟩ | ⟨t1, t2⟩
        · rw [rdRaw, t3, t4, if_neg (by simp)] at q1
          by_cases c : (s0.size : Int) < 18 + i7
          · rw [if_pos (by omega)] at q1
            simp only [Prod.mk.injEq] at q1
            omega
          · rw [if_neg (by omega)] at q1
            simp only [Prod.mk.injEq] at q1
            obtain ⟨q2, q3, q4⟩ := q1
            have hrec : bytesOf s16 = ((bytesOf s0).drop 18).take i7.toNat := by
              rw [q4, bytesOf_extract, List.drop_take, show (18 + i7).toNat - (18 : Int).toNat = i7.toNat from by omega]; rfl
            have hcov : coverB i10 i7 = ((bytesOf s0).drop 2).take 12 := by
              have l4 : (((bytesOf s0).drop 2).take 4).length = 4 := by rw [List.length_take, List.length_drop]; omega
              have l8 : (((bytesOf s0).drop 6).take 8).length = 8 := by rw [List.length_take, List.length_drop]; omega
              have b4 := beB_beNum (l := ((bytesOf s0).drop 2).take 4) (fun x hx => hB x (List.mem_of_mem_drop (List.mem_of_mem_take hx)))
              have b8 := beB_beNum (l := ((bytesOf s0).drop 6).take 8) (fun x hx => hB x (List.mem_of_mem_drop (List.mem_of_mem_take hx)))
              rw [l4] at b4
              rw [l8] at b8
              rw [take12, coverB, t5, t6, b4, b8]
            refine ⟨(by show 0 ≤ i7; omega), ?_⟩
            intro s17 c1 _
            have c1 : s17 = textOf (coverB i10 i7) := c1
            have hb17 : bytesOf s17 = coverB i10 i7 := by
              rw [c1, bytesOf_textOf]
              intro x hx
              simp only [coverB, List.mem_append] at hx
              rcases hx with h | h <;> exact beB_has _ _ x h
            refine ⟨trivial, ?_⟩
            intro i18 c2 _
            have c2 : i18 = crcOf 0 (bytesOf s17) := c2
            refine ⟨trivial, ?_⟩
            intro i19 c3 _
            have c3 : i19 = crcOf i18 (bytesOf s16) := c3
            have e19 : i19 = crcOf 0 (((bytesOf s0).drop 2).take 12 ++ ((bytesOf s0).drop 18).take i7.toNat) := by
              rw [c3, c2, crcOf_more, hb17, hcov, hrec]
            have hmax : ¬ i7 > 4194304 := by omega
            rw [w13]
            refine ⟨fun ne => ?_, fun eq => ⟨trivial, fun _ => ?_⟩⟩
            · show ((0 : Int), bytesOf ⟨#[]⟩, (0 : Int), (4 : Int)) = fRead (bytesOf s0)
              rw [unf t1 t2 t5, if_neg hmax, if_neg c, if_pos (by rw [← e19, ← t7]; exact ne)]; rfl
            · show (i10, bytesOf s16, i14, (0 : Int)) = fRead (bytesOf s0)
              rw [unf t1 t2 t5, if_neg hmax, if_neg c, if_neg (by rw [← e19, ← t7]; exact fun h => h eq), ← t6, hrec, q2]
        · rw [rdRaw, t1, if_pos (by decide)] at q1
          simp only [Prod.mk.injEq] at q1
          omega

end Go.Vc

namespace Go.Vc

theorem txts_append (a b : List (List Int)) : txts (a ++ b) = txts a ++ txts b := by simp [txts]
theorem txts_len (a : List (List Int)) : (txts a).length = a.length := by simp [txts]

theorem FScan.pure : FScan.Pure := by
  intro s0 i1 h1 h2 h3 v2 v3
  have h3 : s0.size ≤ 1000000000 := h3
  have hL := bytesOf_length' s0
  have hB := bytesOf_has s0
  refine ⟨?_, ?_⟩
  · refine ⟨by decide, by omega, by simp, s0.size + 1, [], by omega, rfl, ?_⟩
    rw [scanF, hL]; simp
  intro i4 v5 l6 i7 h4 h5 h6 h7
  obtain ⟨a, b, c, f, done, hf, hd, hs⟩ : 0 ≤ i7 ∧ i7 ≤ s0.size ∧ l6.length ≤ i7 ∧ ∃ f done, ((s0.size : Int) - i7).toNat < f ∧ l6 = txts done ∧
      scanF (bytesOf s0) i1 = (done ++ (fScan f ((bytesOf s0).drop i7.toNat) i4).1, i7 + (fScan f ((bytesOf s0).drop i7.toNat) i4).2) := h7
  refine ⟨?_, fun h8 => ?_⟩
  · omega -- i7 ≤ ((s0.size : Nat) : Int)
  refine ⟨?_, fun h9 => ?_⟩
  · omega -- (0 : Int) ≤ i7
  refine ⟨?_, ?_⟩
  · show (s0.extract i7.toNat ((s0.size : Nat) : Int).toNat).size ≤ 1000000000
    rw [ByteArray.size_extract]; omega
  intro i8 s9 i10 i11 h10 h11 h12 h13 h14
  have hx : bytesOf (s0.extract i7.toNat ((s0.size : Nat) : Int).toNat) = (bytesOf s0).drop i7.toNat := by
    rw [bytesOf_extract, List.take_of_length_le (by omega)]
  have h10 : (i8, bytesOf s9, i10, i11) = fRead (bytesOf (s0.extract i7.toNat ((s0.size : Nat) : Int).toNat)) := h10
  rw [hx] at h10
  have hdl : ((bytesOf s0).drop i7.toNat).length = s0.size - i7.toNat := by rw [List.length_drop, hL]
  obtain ⟨g, rfl⟩ : ∃ g, f = g + 1 := ⟨f - 1, by omega⟩
  have stop : (i11 ≠ 0 ∨ i8 ≠ i4) → FScan.sig.post [(D.S s0), (D.I i1), (D.V v5), (D.L l6), (D.I i7)] := by
    intro h
    rw [scan_stop (by rw [← h10]; exact h), List.append_nil] at hs
    show l6 = txts (scanF (bytesOf s0) i1).1 ∧ i7 = (scanF (bytesOf s0) i1).2
    rw [hs]
    exact ⟨hd, by simp⟩
  refine ⟨fun h15 => stop (.inl h15), fun h15 => ⟨fun h16 => stop (.inr h16), fun h16 v12 => ?_⟩⟩
  have hn := fRead_n (l := (bytesOf s0).drop i7.toNat) (fun x hx => hB x (List.mem_of_mem_drop hx)) (by rw [← h10]; exact h15)
  rw [← h10, hdl] at hn
  have hn : 18 ≤ i10 ∧ i10 ≤ ((s0.size - i7.toNat : Nat) : Int) := hn
  refine ⟨?_, fun h17 => ?_⟩
  · rw [List.length_append]; simp only [List.length_cons, List.length_nil]; omega
  intro v13
  rw [i64w (by omega) (by omega), IntKind.wrap_u64]
  refine ⟨?_, ?_⟩
  · refine ⟨by omega, by omega, by rw [List.length_append]; simp only [List.length_cons, List.length_nil]; omega, g, done ++ [bytesOf s9], by omega, ?_, ?_⟩
    · rw [txts_append, hd]
      simp [txts, textOf_bytesOf]
    · rw [scan_step (by rw [← h10]; exact h15) (by rw [← h10]; exact h16), ← h10] at hs
      rw [hs]
      simp only [List.drop_drop]
      rw [show i7.toNat + i10.toNat = (i7 + i10).toNat from by omega]
      simp only [List.append_assoc, List.cons_append, List.nil_append, Prod.mk.injEq, true_and]
      omega
  · show ((s0.size : Int) - (i7 + i10)).toNat < ((s0.size : Int) - i7).toNat
    omega

theorem Awake06.pure : Awake06.Pure := by
  intro h1
  refine ⟨(by decide : (⟨#[97]⟩ : ByteArray).size ≤ 900000000), ?_⟩
  intro s0 i1 h2 h3 h4
  have h2 : if (⟨#[97]⟩ : ByteArray).size > 4194304 then s0 = ByteArray.empty ∧ i1 = 12 else s0 = textOf (frameB 1 ⟨#[97]⟩) ∧ i1 = 0 := h2
  rw [if_neg (by decide)] at h2
  obtain ⟨g2, rfl⟩ := h2
  have hb : bytesOf s0 = frameB 1 ⟨#[97]⟩ ++ [] := by rw [g2, bytesOf_textOf (frameB_has _ _), List.append_nil]
  have hs : s0.size = 19 := by rw [g2, size_textOf, frameB_len]; rfl
  refine ⟨by show s0.size ≤ 1000000000; omega, ?_⟩
  intro i2 s3 i4 i5 h5 h6 h7 h8 h9
  have h5 : (i2, bytesOf s3, i4, i5) = fRead (bytesOf s0) := h5
  rw [hb, fRead_frame [] (by decide) (by decide)] at h5
  simp only [Prod.mk.injEq] at h5
  obtain ⟨e2, e3, e4, e5⟩ := h5
  have e3 : s3 = ⟨#[97]⟩ := text_inj e3
  have e4 : i4 = 19 := e4
  have hx : s0.extract (0 : Int).toNat (14 : Int).toNat = ⟨#[79, 74, 0, 0, 0, 1, 0, 0, 0, 0, 0, 0, 0, 1]⟩ := by
    apply text_inj
    rw [bytesOf_extract, hb]
    decide +kernel
  refine ⟨fun _ => ?_, fun h => absurd rfl h⟩
  refine ⟨fun _ => ?_, fun h => absurd (by omega) h⟩
  refine ⟨by omega, fun _ => ?_⟩
  refine ⟨fun _ => ?_, fun h => absurd hx h⟩
  refine ⟨fun _ => ?_, fun h => absurd e5 h⟩
  refine ⟨fun _ => ?_, fun h => absurd e2 h⟩
  refine ⟨fun _ => ?_, fun h => absurd e3 h⟩
  exact yesB (l := []) (by rw [e4]; rfl)

theorem awake06 {b : Bool} (h : Awake06.sig.post [D.B b]) : b = true := of_yes (l := []) h

theorem LFrameLong.pure : LFrameLong.Pure := by
  intro i0 h1 h2
  have aw : ∀ b : Bool, Awake06.sig.post [D.B b] → LFrameLong.sig.post [(D.I i0), (D.B b)] := fun b h => yesB (l := [_]) (awake06 h)
  refine ⟨fun _ => ⟨trivial, aw⟩, fun c1 => ⟨fun _ => ⟨trivial, aw⟩, fun c2 => ?_⟩⟩
  refine ⟨c1, fun _ => ⟨by omega, fun _ v1 => ?_⟩⟩
  have hs : (textOf (List.replicate i0.toNat (0 : Int))).size = i0.toNat := by rw [size_textOf, List.length_replicate]
  refine ⟨by show (textOf (List.replicate i0.toNat (0 : Int))).size ≤ 900000000; omega, ?_⟩
  intro s2 i3 h7 h8 h9
  have h7 : if (textOf (List.replicate i0.toNat (0 : Int))).size > 4194304 then s2 = ByteArray.empty ∧ i3 = 12 else s2 = textOf (frameB 7 (textOf (List.replicate i0.toNat (0 : Int)))) ∧ i3 = 0 := h7
  rw [hs] at h7
  refine ⟨fun h10 => ?_, fun h10 => ?_⟩
  · rw [if_pos (by omega)] at h7
    obtain ⟨rfl, rfl⟩ := h7
    refine ⟨trivial, fun b4 h11 => ⟨fun _ => ?_, fun h => by rw [awake06 h11] at h; cases h⟩⟩
    exact ⟨fun _ => yesB (l := [_]) (bytes_eq.2 rfl), fun h => absurd rfl h⟩
  · rw [if_neg (by omega)] at h7
    obtain ⟨g7, rfl⟩ := h7
    refine ⟨trivial, fun b4 h11 => ⟨fun _ => ?_, fun h => by rw [awake06 h11] at h; cases h⟩⟩
    refine ⟨fun _ => yesB (l := [_]) ?_, fun h => absurd rfl h⟩
    rw [g7, size_textOf, frameB_len, hs, i64w (by omega) (by omega)]
    rw [beq_iff_eq]; omega

/-- Two frames, one behind the other. -/
theorem scan_two {p q : Int} {a b : ByteArray} (hp : 0 ≤ p ∧ p < 18446744073709551616) (hq : 0 ≤ q ∧ q < 18446744073709551616) (ha : a.size ≤ 4194304) (hb : b.size ≤ 4194304) :
    scanF (frameB p a ++ frameB q b) p = if q = (p + 1) % 18446744073709551616 then ([bytesOf a, bytesOf b], (18 + a.size : Int) + (18 + b.size)) else ([bytesOf a], (18 + a.size : Int)) := by
  have hla := frameB_len p a
  have hlb := frameB_len q b
  have hr1 := fRead_frame (frameB q b) hp ha
  have hr2 := fRead_frame ([] : List Int) hq hb
  rw [List.append_nil] at hr2
  have hd1 : (frameB p a ++ frameB q b).drop (18 + (a.size : Int)).toNat = frameB q b := by
    rw [show (18 + (a.size : Int)).toNat = 18 + a.size from by omega]; exact drop_left hla
  have hd2 : (frameB q b).drop (18 + (b.size : Int)).toNat = [] := by
    rw [show (18 + (b.size : Int)).toNat = 18 + b.size from by omega]; exact List.drop_of_length_le (by omega)
  have hlen : (frameB p a ++ frameB q b).length = 35 + a.size + b.size + 1 := by rw [List.length_append]; omega
  rw [scanF, scan_step (by rw [hr1]) (by rw [hr1]), hr1]
  dsimp only
  rw [hd1, hlen]
  by_cases c : q = (p + 1) % 18446744073709551616
  · rw [if_pos c, scan_step (by rw [hr2]) (by rw [hr2]; exact c), hr2]
    dsimp only
    rw [hd2]
    have hnil : fRead [] = (0, [], 0, 2) := rfl
    rw [show 35 + a.size + b.size = (34 + a.size + b.size) + 1 from by omega, scan_stop (by rw [hnil]; exact .inl (by decide))]
    simp
  · rw [if_neg c, scan_stop (by rw [hr2]; exact .inr c)]
    simp

theorem LFrameNumbers.pure : LFrameNumbers.Pure := by
  intro s0 s1 i2 i3 h1 h2 h3 h4 h5
  refine ⟨(by decide : (0 : Int) ≤ 60), ?_⟩
  intro s4 h6 h7
  have h6 : s4 = if (s0.size : Int) > 60 then s0.extract 0 (60 : Int).toNat else s0 := h6
  have l4 : s4.size ≤ 60 := by
    rw [h6]; split
    · rw [ByteArray.size_extract]; show min (60 : Int).toNat s0.size - 0 ≤ 60; omega
    · omega
  refine ⟨by show s4.size ≤ 900000000; omega, ?_⟩
  intro s5 i6 h8 h9 h10
  have h8 : if s4.size > 4194304 then s5 = ByteArray.empty ∧ i6 = 12 else s5 = textOf (frameB i2 s4) ∧ i6 = 0 := h8
  rw [if_neg (by omega)] at h8
  obtain ⟨g8, rfl⟩ := h8
  refine ⟨(by decide : (0 : Int) ≤ 60), ?_⟩
  intro s7 h11 h12
  have h11 : s7 = if (s1.size : Int) > 60 then s1.extract 0 (60 : Int).toNat else s1 := h11
  have l7 : s7.size ≤ 60 := by
    rw [h11]; split
    · rw [ByteArray.size_extract]; show min (60 : Int).toNat s1.size - 0 ≤ 60; omega
    · omega
  refine ⟨by show s7.size ≤ 900000000; omega, ?_⟩
  intro s8 i9 h13 h14 h15
  have h13 : if s7.size > 4194304 then s8 = ByteArray.empty ∧ i9 = 12 else s8 = textOf (frameB i3 s7) ∧ i9 = 0 := h13
  rw [if_neg (by omega)] at h13
  obtain ⟨g13, rfl⟩ := h13
  have z5 : s5.size = 18 + s4.size := by rw [g8, size_textOf, frameB_len]
  have z8 : s8.size = 18 + s7.size := by rw [g13, size_textOf, frameB_len]
  have hb : bytesOf (s5 ++ s8) = frameB i2 s4 ++ frameB i3 s7 := by
    rw [bytesOf_append, g8, g13, bytesOf_textOf (frameB_has _ _), bytesOf_textOf (frameB_has _ _)]
  refine ⟨by rw [ByteArray.size_append]; omega, fun h16 => ?_⟩
  refine ⟨by show (s5 ++ s8).size ≤ 1000000000; rw [ByteArray.size_append]; omega, ?_⟩
  intro v10 l11 i12 h17 h18 h19
  have h17 : l11 = txts (scanF (bytesOf (s5 ++ s8)) i2).1 ∧ i12 = (scanF (bytesOf (s5 ++ s8)) i2).2 := h17
  rw [hb, scan_two h3 h4 (by omega) (by omega)] at h17
  refine ⟨fun h => absurd rfl h, fun _ => ⟨fun h => absurd rfl h, fun _ => ?_⟩⟩
  rw [IntKind.wrap_u64]
  refine ⟨fun h22 => ?_, fun h22 => ?_⟩
  · rw [if_pos h22] at h17
    refine ⟨trivial, fun b13 h23 => ⟨fun _ => ?_, fun h => by rw [awake06 h23] at h; cases h⟩⟩
    have hl : l11.length = 2 := by rw [h17.1, txts_len]; rfl
    refine ⟨fun _ => yesB (l := [_, _, _, _]) ?_, fun h => absurd (by omega) h⟩
    rw [h17.2, i64w (by omega) (by omega), beq_iff_eq]
    show (18 + (s4.size : Int)) + (18 + s7.size) = _
    omega
  · rw [if_neg h22] at h17
    refine ⟨trivial, fun b13 h23 => ⟨fun _ => ?_, fun h => by rw [awake06 h23] at h; cases h⟩⟩
    have hl : l11.length = 1 := by rw [h17.1, txts_len]; rfl
    refine ⟨fun _ => yesB (l := [_, _, _, _]) ?_, fun h => absurd (by omega) h⟩
    rw [h17.2, beq_iff_eq]
    show (18 + (s4.size : Int)) = _
    omega

end Go.Vc
