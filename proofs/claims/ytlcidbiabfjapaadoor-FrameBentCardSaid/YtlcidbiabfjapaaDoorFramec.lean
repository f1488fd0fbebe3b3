/-
  Records in frames: bent bits.
  Printed by wip/vct.py: the conditions of functions, by their contracts.
  Records in frames: a burst is told.
  Records in frames: a burst is told, the law.
  Records in frames: a burst is told, the walk's conditions.
-/
import Derived.Test.YtlcidbiabfjapaaDoorFrameb
import Derived.KernelRfl
set_option linter.unusedVariables false
set_option linter.unusedSimpArgs false
namespace Go.Vc

def begF (rs : List ByteArray) (w : Nat) : Int := (lenL (rs.take w) : Nat)
def sizF (rs : List ByteArray) (w : Nat) : Int := ((cutF (rs.getD w default) 60).size : Nat)
def offF (p : Int) : Int := if p = 0 then 6 else if p = 1 then 14 else 18
def widF (rs : List ByteArray) (w : Nat) (p : Int) : Int := if p = 0 then 8 else if p = 1 then 4 else sizF rs w
def LFBent.sig : Sig := sigF [.l [.str], .i .u64, .i .i64, .i .i64, .i .i64, .i .u32] [.b] tru yes
/-- Bits from A on, so many, of a number: the others are as they were. -/
def bentAt (s b : List Int) (A k m bits : Int) : Prop :=
  b.length = s.length ∧ ∀ i : Nat, i < 8 * b.length → bitAt b i = (bitAt s i ^^ (decide (A ≤ (i : Int) ∧ (i : Int) - A < k ∧ (i : Int) - A < m) && bt bits (i - A.toNat)))
def LFBent.I0 : List D → Prop
  | [.V _, .L l, .I q, .I w, .I p, .I a, .I bits, .B ch, .I k, .Z b] => 0 ≤ k ∧ k ≤ 32 ∧
      bentAt (laidB q (recs l)) b (8 * (begF (recs l) w.toNat + offF p) + a) k (8 * widF (recs l) w.toNat p - a) bits ∧
      (ch = true ↔ ∃ j : Nat, (j : Int) < k ∧ bt bits j = true ∧ (j : Int) < 8 * widF (recs l) w.toNat p - a)
  | _ => False
def LFBent.I0M : List D → Nat
  | [.V _, .L _, .I _, .I _, .I _, .I _, .I _, .B _, .I k, .Z _] => (32 - k).toNat
  | _ => 0

end Go.Vc

namespace Go.Vc
set_option linter.unusedVariables false
def LFBent.vc : VC :=
 (.all .V
 (.all .L
 (.all .I
 (.all .I
 (.all .I
 (.all .I
 (.all .I
 (.know (.has .u64 (.at 2))
 (.know (.has .i64 (.at 3))
 (.know (.has .i64 (.at 4))
 (.know (.has .i64 (.at 5))
 (.know (.has .u32 (.at 6))
 (.know (.ekok [.str] (.at 1))
 (.post 0 [(.at 0), (.at 1), (.at 2), (.at 3), (.at 4), (.at 5), (.at 6)]
 (.pre 1 [(.at 0), (.at 1), (.at 2)]
 (.all .S
 (.all .V
 (.all .Z
 (.post 1 [(.at 0), (.at 1), (.at 2), (.at 7), (.at 8), (.at 9)]
 (.know (.ssz (.at 7))
 (.know (.allHas .i64 (.at 9))
 (.pre 2 []
 (.all .B
 (.post 2 [(.at 10)]
 (.and
  (.imp (.o1 .not (.at 10)) true
  (.pre 2 []
  (.all .B
  (.post 2 [(.at 11)]
  (.ret [(.at 0), (.at 1), (.at 2), (.at 3), (.at 4), (.at 5), (.at 6), (.at 11)])))))
  (.imp (.o1 .not (.at 10)) false
  (.and
   (.imp (.o2 .lt (.at 3) (.int 0)) true
   (.pre 2 []
   (.all .B
   (.post 2 [(.at 11)]
   (.ret [(.at 0), (.at 1), (.at 2), (.at 3), (.at 4), (.at 5), (.at 6), (.at 11)])))))
   (.imp (.o2 .lt (.at 3) (.int 0)) false
   (.and
    (.imp (.o2 .le (.o1 .lilen (.at 9)) (.at 3)) true
    (.pre 2 []
    (.all .B
    (.post 2 [(.at 11)]
    (.ret [(.at 0), (.at 1), (.at 2), (.at 3), (.at 4), (.at 5), (.at 6), (.at 11)])))))
    (.imp (.o2 .le (.o1 .lilen (.at 9)) (.at 3)) false
    (.and
     (.imp (.o2 .lt (.at 4) (.int 0)) true
     (.pre 2 []
     (.all .B
     (.post 2 [(.at 11)]
     (.ret [(.at 0), (.at 1), (.at 2), (.at 3), (.at 4), (.at 5), (.at 6), (.at 11)])))))
     (.imp (.o2 .lt (.at 4) (.int 0)) false
     (.and
      (.imp (.o2 .lt (.int 2) (.at 4)) true
      (.pre 2 []
      (.all .B
      (.post 2 [(.at 11)]
      (.ret [(.at 0), (.at 1), (.at 2), (.at 3), (.at 4), (.at 5), (.at 6), (.at 11)])))))
      (.imp (.o2 .lt (.int 2) (.at 4)) false
      (.and
       (.imp (.o2 .lt (.at 5) (.int 0)) true
       (.pre 2 []
       (.all .B
       (.post 2 [(.at 11)]
       (.ret [(.at 0), (.at 1), (.at 2), (.at 3), (.at 4), (.at 5), (.at 6), (.at 11)])))))
       (.imp (.o2 .lt (.at 5) (.int 0)) false
       (.and
        (.imp (.o2 .lt (.int 0) (.at 3)) true
        (.obl (.o2 .le (.int 0) (.o2 (.sub .i64) (.at 3) (.int 1)))
        (.obl (.o2 .lt (.o2 (.sub .i64) (.at 3) (.int 1)) (.o1 .lilen (.at 9)))
        (.all .V
        (.obl (.o2 .le (.int 0) (.at 4))
        (.obl (.o2 .lt (.at 4) (.o1 .lilen (.o2 .licons (.int 6) (.o2 .licons (.int 14) (.o2 .licons (.int 18) (.lis []))))))
        (.obl (.o2 .le (.int 0) (.at 3))
        (.obl (.o2 .lt (.at 3) (.o1 .lilen (.at 9)))
        (.all .V
        (.obl (.o2 .lt (.at 4) (.o1 .lilen (.o2 .licons (.int 14) (.o2 .licons (.int 18) (.o2 .licons (.o2 (.sub .i64) (.o2 .liget (.at 9) (.at 3)) (.o2 .liget (.at 9) (.o2 (.sub .i64) (.at 3) (.int 1)))) (.lis []))))))
        (.and
         (.imp (.o2 .le (.o2 (.mul .i64) (.int 8) (.o2 (.sub .i64) (.o2 (.add .i64) (.o2 .liget (.at 9) (.o2 (.sub .i64) (.at 3) (.int 1))) (.o2 .liget (.o2 .licons (.int 14) (.o2 .licons (.int 18) (.o2 .licons (.o2 (.sub .i64) (.o2 .liget (.at 9) (.at 3)) (.o2 .liget (.at 9) (.o2 (.sub .i64) (.at 3) (.int 1)))) (.lis [])))) (.at 4))) (.o2 (.add .i64) (.o2 .liget (.at 9) (.o2 (.sub .i64) (.at 3) (.int 1))) (.o2 .liget (.o2 .licons (.int 6) (.o2 .licons (.int 14) (.o2 .licons (.int 18) (.lis [])))) (.at 4))))) (.at 5)) true
         (.pre 2 []
         (.all .B
         (.post 2 [(.at 13)]
         (.ret [(.at 0), (.at 1), (.at 2), (.at 3), (.at 4), (.at 5), (.at 6), (.at 13)])))))
         (.imp (.o2 .le (.o2 (.mul .i64) (.int 8) (.o2 (.sub .i64) (.o2 (.add .i64) (.o2 .liget (.at 9) (.o2 (.sub .i64) (.at 3) (.int 1))) (.o2 .liget (.o2 .licons (.int 14) (.o2 .licons (.int 18) (.o2 .licons (.o2 (.sub .i64) (.o2 .liget (.at 9) (.at 3)) (.o2 .liget (.at 9) (.o2 (.sub .i64) (.at 3) (.int 1)))) (.lis [])))) (.at 4))) (.o2 (.add .i64) (.o2 .liget (.at 9) (.o2 (.sub .i64) (.at 3) (.int 1))) (.o2 .liget (.o2 .licons (.int 6) (.o2 .licons (.int 14) (.o2 .licons (.int 18) (.lis [])))) (.at 4))))) (.at 5)) false
         (.all .V
         (.inv 0 [(.at 0), (.at 1), (.at 2), (.at 3), (.at 4), (.at 5), (.at 6), (.bool false), (.int 0), (.o1 .toLi (.at 7))]
         (.all .B
         (.all .I
         (.all .Z
         (.know (.has .i64 (.at 15))
         (.know (.allHas .u8 (.at 16))
         (.asm 0 [(.at 0), (.at 1), (.at 2), (.at 3), (.at 4), (.at 5), (.at 6), (.at 14), (.at 15), (.at 16)]
         (.and
          (.imp (.o2 .lt (.at 15) (.int 32)) true
          (.and
           (.imp (.o2 .lt (.o2 (.add .i64) (.at 5) (.at 15)) (.o2 (.mul .i64) (.int 8) (.o2 (.sub .i64) (.o2 (.add .i64) (.o2 .liget (.at 9) (.o2 (.sub .i64) (.at 3) (.int 1))) (.o2 .liget (.o2 .licons (.int 14) (.o2 .licons (.int 18) (.o2 .licons (.o2 (.sub .i64) (.o2 .liget (.at 9) (.at 3)) (.o2 .liget (.at 9) (.o2 (.sub .i64) (.at 3) (.int 1)))) (.lis [])))) (.at 4))) (.o2 (.add .i64) (.o2 .liget (.at 9) (.o2 (.sub .i64) (.at 3) (.int 1))) (.o2 .liget (.o2 .licons (.int 6) (.o2 .licons (.int 14) (.o2 .licons (.int 18) (.lis [])))) (.at 4)))))) true
           (.obl (.o2 .le (.int 0) (.at 15))
           (.and
            (.imp (.o2 .eq (.o2 (.bits .and .u32) (.o2 (.shr .u32) (.at 6) (.at 15)) (.int 1)) (.int 1)) true
            (.obl (.o2 .le (.int 0) (.o2 (.add .i64) (.o2 (.add .i64) (.o2 .liget (.at 9) (.o2 (.sub .i64) (.at 3) (.int 1))) (.o2 .liget (.o2 .licons (.int 6) (.o2 .licons (.int 14) (.o2 .licons (.int 18) (.lis [])))) (.at 4))) (.o2 (.quo .i64) (.o2 (.add .i64) (.at 5) (.at 15)) (.int 8))))
            (.obl (.o2 .lt (.o2 (.add .i64) (.o2 (.add .i64) (.o2 .liget (.at 9) (.o2 (.sub .i64) (.at 3) (.int 1))) (.o2 .liget (.o2 .licons (.int 6) (.o2 .licons (.int 14) (.o2 .licons (.int 18) (.lis [])))) (.at 4))) (.o2 (.quo .i64) (.o2 (.add .i64) (.at 5) (.at 15)) (.int 8))) (.o1 .lilen (.at 16)))
            (.obl (.o2 .le (.int 0) (.o2 .rem (.o2 (.add .i64) (.at 5) (.at 15)) (.int 8)))
            (.back 0 [(.at 0), (.at 1), (.at 2), (.at 3), (.at 4), (.at 5), (.at 6), (.at 14), (.at 15), (.at 16)] [(.at 0), (.at 1), (.at 2), (.at 3), (.at 4), (.at 5), (.at 6), (.bool true), (.o2 (.add .i64) (.at 15) (.int 1)), (.o3 .liset (.at 16) (.o2 (.add .i64) (.o2 (.add .i64) (.o2 .liget (.at 9) (.o2 (.sub .i64) (.at 3) (.int 1))) (.o2 .liget (.o2 .licons (.int 6) (.o2 .licons (.int 14) (.o2 .licons (.int 18) (.lis [])))) (.at 4))) (.o2 (.quo .i64) (.o2 (.add .i64) (.at 5) (.at 15)) (.int 8))) (.o2 (.bits .xor .u8) (.o2 .liget (.at 16) (.o2 (.add .i64) (.o2 (.add .i64) (.o2 .liget (.at 9) (.o2 (.sub .i64) (.at 3) (.int 1))) (.o2 .liget (.o2 .licons (.int 6) (.o2 .licons (.int 14) (.o2 .licons (.int 18) (.lis [])))) (.at 4))) (.o2 (.quo .i64) (.o2 (.add .i64) (.at 5) (.at 15)) (.int 8)))) (.o2 (.shl .u8) (.int 1) (.o2 .rem (.o2 (.add .i64) (.at 5) (.at 15)) (.int 8)))))])))))
            (.imp (.o2 .eq (.o2 (.bits .and .u32) (.o2 (.shr .u32) (.at 6) (.at 15)) (.int 1)) (.int 1)) false
            (.back 0 [(.at 0), (.at 1), (.at 2), (.at 3), (.at 4), (.at 5), (.at 6), (.at 14), (.at 15), (.at 16)] [(.at 0), (.at 1), (.at 2), (.at 3), (.at 4), (.at 5), (.at 6), (.at 14), (.o2 (.add .i64) (.at 15) (.int 1)), (.at 16)])))))
           (.imp (.o2 .lt (.o2 (.add .i64) (.at 5) (.at 15)) (.o2 (.mul .i64) (.int 8) (.o2 (.sub .i64) (.o2 (.add .i64) (.o2 .liget (.at 9) (.o2 (.sub .i64) (.at 3) (.int 1))) (.o2 .liget (.o2 .licons (.int 14) (.o2 .licons (.int 18) (.o2 .licons (.o2 (.sub .i64) (.o2 .liget (.at 9) (.at 3)) (.o2 .liget (.at 9) (.o2 (.sub .i64) (.at 3) (.int 1)))) (.lis [])))) (.at 4))) (.o2 (.add .i64) (.o2 .liget (.at 9) (.o2 (.sub .i64) (.at 3) (.int 1))) (.o2 .liget (.o2 .licons (.int 6) (.o2 .licons (.int 14) (.o2 .licons (.int 18) (.lis [])))) (.at 4)))))) false
           (.pre 3 [(.o1 .ofLi (.at 16)), (.at 2)]
           (.all .V
           (.all .L
           (.all .I
           (.post 3 [(.o1 .ofLi (.at 16)), (.at 2), (.at 17), (.at 18), (.at 19)]
           (.know (.has .i64 (.at 19))
           (.know (.ekok [.str] (.at 18))
           (.and
            (.imp (.o1 .not (.at 14)) true
            (.pre 2 []
            (.all .B
            (.post 2 [(.at 20)]
            (.and
             (.imp (.at 20) true
             (.ret [(.at 0), (.at 1), (.at 2), (.at 3), (.at 4), (.at 5), (.at 6), (.o2 .eq (.at 19) (.o1 .slen (.at 7)))]))
             (.imp (.at 20) false
             (.ret [(.at 0), (.at 1), (.at 2), (.at 3), (.at 4), (.at 5), (.at 6), (.bool false)])))))))
            (.imp (.o1 .not (.at 14)) false
            (.pre 2 []
            (.all .B
            (.post 2 [(.at 20)]
            (.and
             (.imp (.at 20) true
             (.and
              (.imp (.o2 .eq (.o1 .llen (.at 18)) (.at 3)) true
              (.ret [(.at 0), (.at 1), (.at 2), (.at 3), (.at 4), (.at 5), (.at 6), (.o2 .eq (.at 19) (.o2 .liget (.at 9) (.o2 (.sub .i64) (.at 3) (.int 1))))]))
              (.imp (.o2 .eq (.o1 .llen (.at 18)) (.at 3)) false
              (.ret [(.at 0), (.at 1), (.at 2), (.at 3), (.at 4), (.at 5), (.at 6), (.bool false)]))))
             (.imp (.at 20) false
             (.ret [(.at 0), (.at 1), (.at 2), (.at 3), (.at 4), (.at 5), (.at 6), (.bool false)]))))))))))))))))))
          (.imp (.o2 .lt (.at 15) (.int 32)) false
          (.pre 3 [(.o1 .ofLi (.at 16)), (.at 2)]
          (.all .V
          (.all .L
          (.all .I
          (.post 3 [(.o1 .ofLi (.at 16)), (.at 2), (.at 17), (.at 18), (.at 19)]
          (.know (.has .i64 (.at 19))
          (.know (.ekok [.str] (.at 18))
          (.and
           (.imp (.o1 .not (.at 14)) true
           (.pre 2 []
           (.all .B
           (.post 2 [(.at 20)]
           (.and
            (.imp (.at 20) true
            (.ret [(.at 0), (.at 1), (.at 2), (.at 3), (.at 4), (.at 5), (.at 6), (.o2 .eq (.at 19) (.o1 .slen (.at 7)))]))
            (.imp (.at 20) false
            (.ret [(.at 0), (.at 1), (.at 2), (.at 3), (.at 4), (.at 5), (.at 6), (.bool false)])))))))
           (.imp (.o1 .not (.at 14)) false
           (.pre 2 []
           (.all .B
           (.post 2 [(.at 20)]
           (.and
            (.imp (.at 20) true
            (.and
             (.imp (.o2 .eq (.o1 .llen (.at 18)) (.at 3)) true
             (.ret [(.at 0), (.at 1), (.at 2), (.at 3), (.at 4), (.at 5), (.at 6), (.o2 .eq (.at 19) (.o2 .liget (.at 9) (.o2 (.sub .i64) (.at 3) (.int 1))))]))
             (.imp (.o2 .eq (.o1 .llen (.at 18)) (.at 3)) false
             (.ret [(.at 0), (.at 1), (.at 2), (.at 3), (.at 4), (.at 5), (.at 6), (.bool false)]))))
            (.imp (.at 20) false
            (.ret [(.at 0), (.at 1), (.at 2), (.at 3), (.at 4), (.at 5), (.at 6), (.bool false)])))))))))))))))))))))))))))))))))))))
        (.imp (.o2 .lt (.int 0) (.at 3)) false
        (.all .V
        (.obl (.o2 .le (.int 0) (.at 4))
        (.obl (.o2 .lt (.at 4) (.o1 .lilen (.o2 .licons (.int 6) (.o2 .licons (.int 14) (.o2 .licons (.int 18) (.lis []))))))
        (.obl (.o2 .le (.int 0) (.at 3))
        (.obl (.o2 .lt (.at 3) (.o1 .lilen (.at 9)))
        (.all .V
        (.obl (.o2 .lt (.at 4) (.o1 .lilen (.o2 .licons (.int 14) (.o2 .licons (.int 18) (.o2 .licons (.o2 (.sub .i64) (.o2 .liget (.at 9) (.at 3)) (.int 0)) (.lis []))))))
        (.and
         (.imp (.o2 .le (.o2 (.mul .i64) (.int 8) (.o2 (.sub .i64) (.o2 (.add .i64) (.int 0) (.o2 .liget (.o2 .licons (.int 14) (.o2 .licons (.int 18) (.o2 .licons (.o2 (.sub .i64) (.o2 .liget (.at 9) (.at 3)) (.int 0)) (.lis [])))) (.at 4))) (.o2 (.add .i64) (.int 0) (.o2 .liget (.o2 .licons (.int 6) (.o2 .licons (.int 14) (.o2 .licons (.int 18) (.lis [])))) (.at 4))))) (.at 5)) true
         (.pre 2 []
         (.all .B
         (.post 2 [(.at 13)]
         (.ret [(.at 0), (.at 1), (.at 2), (.at 3), (.at 4), (.at 5), (.at 6), (.at 13)])))))
         (.imp (.o2 .le (.o2 (.mul .i64) (.int 8) (.o2 (.sub .i64) (.o2 (.add .i64) (.int 0) (.o2 .liget (.o2 .licons (.int 14) (.o2 .licons (.int 18) (.o2 .licons (.o2 (.sub .i64) (.o2 .liget (.at 9) (.at 3)) (.int 0)) (.lis [])))) (.at 4))) (.o2 (.add .i64) (.int 0) (.o2 .liget (.o2 .licons (.int 6) (.o2 .licons (.int 14) (.o2 .licons (.int 18) (.lis [])))) (.at 4))))) (.at 5)) false
         (.all .V
         (.inv 0 [(.at 0), (.at 1), (.at 2), (.at 3), (.at 4), (.at 5), (.at 6), (.bool false), (.int 0), (.o1 .toLi (.at 7))]
         (.all .B
         (.all .I
         (.all .Z
         (.know (.has .i64 (.at 15))
         (.know (.allHas .u8 (.at 16))
         (.asm 0 [(.at 0), (.at 1), (.at 2), (.at 3), (.at 4), (.at 5), (.at 6), (.at 14), (.at 15), (.at 16)]
         (.and
          (.imp (.o2 .lt (.at 15) (.int 32)) true
          (.and
           (.imp (.o2 .lt (.o2 (.add .i64) (.at 5) (.at 15)) (.o2 (.mul .i64) (.int 8) (.o2 (.sub .i64) (.o2 (.add .i64) (.int 0) (.o2 .liget (.o2 .licons (.int 14) (.o2 .licons (.int 18) (.o2 .licons (.o2 (.sub .i64) (.o2 .liget (.at 9) (.at 3)) (.int 0)) (.lis [])))) (.at 4))) (.o2 (.add .i64) (.int 0) (.o2 .liget (.o2 .licons (.int 6) (.o2 .licons (.int 14) (.o2 .licons (.int 18) (.lis [])))) (.at 4)))))) true
           (.obl (.o2 .le (.int 0) (.at 15))
           (.and
            (.imp (.o2 .eq (.o2 (.bits .and .u32) (.o2 (.shr .u32) (.at 6) (.at 15)) (.int 1)) (.int 1)) true
            (.obl (.o2 .le (.int 0) (.o2 (.add .i64) (.o2 (.add .i64) (.int 0) (.o2 .liget (.o2 .licons (.int 6) (.o2 .licons (.int 14) (.o2 .licons (.int 18) (.lis [])))) (.at 4))) (.o2 (.quo .i64) (.o2 (.add .i64) (.at 5) (.at 15)) (.int 8))))
            (.obl (.o2 .lt (.o2 (.add .i64) (.o2 (.add .i64) (.int 0) (.o2 .liget (.o2 .licons (.int 6) (.o2 .licons (.int 14) (.o2 .licons (.int 18) (.lis [])))) (.at 4))) (.o2 (.quo .i64) (.o2 (.add .i64) (.at 5) (.at 15)) (.int 8))) (.o1 .lilen (.at 16)))
            (.obl (.o2 .le (.int 0) (.o2 .rem (.o2 (.add .i64) (.at 5) (.at 15)) (.int 8)))
            (.back 0 [(.at 0), (.at 1), (.at 2), (.at 3), (.at 4), (.at 5), (.at 6), (.at 14), (.at 15), (.at 16)] [(.at 0), (.at 1), (.at 2), (.at 3), (.at 4), (.at 5), (.at 6), (.bool true), (.o2 (.add .i64) (.at 15) (.int 1)), (.o3 .liset (.at 16) (.o2 (.add .i64) (.o2 (.add .i64) (.int 0) (.o2 .liget (.o2 .licons (.int 6) (.o2 .licons (.int 14) (.o2 .licons (.int 18) (.lis [])))) (.at 4))) (.o2 (.quo .i64) (.o2 (.add .i64) (.at 5) (.at 15)) (.int 8))) (.o2 (.bits .xor .u8) (.o2 .liget (.at 16) (.o2 (.add .i64) (.o2 (.add .i64) (.int 0) (.o2 .liget (.o2 .licons (.int 6) (.o2 .licons (.int 14) (.o2 .licons (.int 18) (.lis [])))) (.at 4))) (.o2 (.quo .i64) (.o2 (.add .i64) (.at 5) (.at 15)) (.int 8)))) (.o2 (.shl .u8) (.int 1) (.o2 .rem (.o2 (.add .i64) (.at 5) (.at 15)) (.int 8)))))])))))
            (.imp (.o2 .eq (.o2 (.bits .and .u32) (.o2 (.shr .u32) (.at 6) (.at 15)) (.int 1)) (.int 1)) false
            (.back 0 [(.at 0), (.at 1), (.at 2), (.at 3), (.at 4), (.at 5), (.at 6), (.at 14), (.at 15), (.at 16)] [(.at 0), (.at 1), (.at 2), (.at 3), (.at 4), (.at 5), (.at 6), (.at 14), (.o2 (.add .i64) (.at 15) (.int 1)), (.at 16)])))))
           (.imp (.o2 .lt (.o2 (.add .i64) (.at 5) (.at 15)) (.o2 (.mul .i64) (.int 8) (.o2 (.sub .i64) (.o2 (.add .i64) (.int 0) (.o2 .liget (.o2 .licons (.int 14) (.o2 .licons (.int 18) (.o2 .licons (.o2 (.sub .i64) (.o2 .liget (.at 9) (.at 3)) (.int 0)) (.lis [])))) (.at 4))) (.o2 (.add .i64) (.int 0) (.o2 .liget (.o2 .licons (.int 6) (.o2 .licons (.int 14) (.o2 .licons (.int 18) (.lis [])))) (.at 4)))))) false
           (.pre 3 [(.o1 .ofLi (.at 16)), (.at 2)]
           (.all .V
           (.all .L
           (.all .I
           (.post 3 [(.o1 .ofLi (.at 16)), (.at 2), (.at 17), (.at 18), (.at 19)]
           (.know (.has .i64 (.at 19))
           (.know (.ekok [.str] (.at 18))
           (.and
            (.imp (.o1 .not (.at 14)) true
            (.pre 2 []
            (.all .B
            (.post 2 [(.at 20)]
            (.and
             (.imp (.at 20) true
             (.ret [(.at 0), (.at 1), (.at 2), (.at 3), (.at 4), (.at 5), (.at 6), (.o2 .eq (.at 19) (.o1 .slen (.at 7)))]))
             (.imp (.at 20) false
             (.ret [(.at 0), (.at 1), (.at 2), (.at 3), (.at 4), (.at 5), (.at 6), (.bool false)])))))))
            (.imp (.o1 .not (.at 14)) false
            (.pre 2 []
            (.all .B
            (.post 2 [(.at 20)]
            (.and
             (.imp (.at 20) true
             (.and
              (.imp (.o2 .eq (.o1 .llen (.at 18)) (.at 3)) true
              (.ret [(.at 0), (.at 1), (.at 2), (.at 3), (.at 4), (.at 5), (.at 6), (.o2 .eq (.at 19) (.int 0))]))
              (.imp (.o2 .eq (.o1 .llen (.at 18)) (.at 3)) false
              (.ret [(.at 0), (.at 1), (.at 2), (.at 3), (.at 4), (.at 5), (.at 6), (.bool false)]))))
             (.imp (.at 20) false
             (.ret [(.at 0), (.at 1), (.at 2), (.at 3), (.at 4), (.at 5), (.at 6), (.bool false)]))))))))))))))))))
          (.imp (.o2 .lt (.at 15) (.int 32)) false
          (.pre 3 [(.o1 .ofLi (.at 16)), (.at 2)]
          (.all .V
          (.all .L
          (.all .I
          (.post 3 [(.o1 .ofLi (.at 16)), (.at 2), (.at 17), (.at 18), (.at 19)]
          (.know (.has .i64 (.at 19))
          (.know (.ekok [.str] (.at 18))
          (.and
           (.imp (.o1 .not (.at 14)) true
           (.pre 2 []
           (.all .B
           (.post 2 [(.at 20)]
           (.and
            (.imp (.at 20) true
            (.ret [(.at 0), (.at 1), (.at 2), (.at 3), (.at 4), (.at 5), (.at 6), (.o2 .eq (.at 19) (.o1 .slen (.at 7)))]))
            (.imp (.at 20) false
            (.ret [(.at 0), (.at 1), (.at 2), (.at 3), (.at 4), (.at 5), (.at 6), (.bool false)])))))))
           (.imp (.o1 .not (.at 14)) false
           (.pre 2 []
           (.all .B
           (.post 2 [(.at 20)]
           (.and
            (.imp (.at 20) true
            (.and
             (.imp (.o2 .eq (.o1 .llen (.at 18)) (.at 3)) true
             (.ret [(.at 0), (.at 1), (.at 2), (.at 3), (.at 4), (.at 5), (.at 6), (.o2 .eq (.at 19) (.int 0))]))
             (.imp (.o2 .eq (.o1 .llen (.at 18)) (.at 3)) false
             (.ret [(.at 0), (.at 1), (.at 2), (.at 3), (.at 4), (.at 5), (.at 6), (.bool false)]))))
            (.imp (.at 20) false
            (.ret [(.at 0), (.at 1), (.at 2), (.at 3), (.at 4), (.at 5), (.at 6), (.bool false)]))))))))))))))))))))))))))))))))))))))))))))))))))))))))))))))))))))))))
def LFBent.Pure : Prop :=
 ∀ (v0 : Value),
 ∀ (l1 : List D),
 ∀ (i2 : Int),
 ∀ (i3 : Int),
 ∀ (i4 : Int),
 ∀ (i5 : Int),
 ∀ (i6 : Int),
 (0 ≤ i2 ∧ i2 < 18446744073709551616) →
 (-9223372036854775808 ≤ i3 ∧ i3 < 9223372036854775808) →
 (-9223372036854775808 ≤ i4 ∧ i4 < 9223372036854775808) →
 (-9223372036854775808 ≤ i5 ∧ i5 < 9223372036854775808) →
 (0 ≤ i6 ∧ i6 < 4294967296) →
 (EK.ok [.str] (D.L l1)) →
 LFBent.sig.pre [(D.V v0), (D.L l1), (D.I i2), (D.I i3), (D.I i4), (D.I i5), (D.I i6)] →
 Laid.sig.pre [(D.V v0), (D.L l1), (D.I i2)] ∧ (
 ∀ (s7 : ByteArray),
 ∀ (v8 : Value),
 ∀ (z9 : List Int),
 Laid.sig.post [(D.V v0), (D.L l1), (D.I i2), (D.S s7), (D.V v8), (D.Z z9)] →
 ((s7.size : Int) ≤ 9223372036854775807) →
 (∀ x ∈ z9, IntKind.has .i64 x) →
 Awake06.sig.pre [] ∧ (
 ∀ (b10 : Bool),
 Awake06.sig.post [(D.B b10)] →
 ((
  (b10 = false) →
  Awake06.sig.pre [] ∧ (
  ∀ (b11 : Bool),
  Awake06.sig.post [(D.B b11)] →
  LFBent.sig.post [(D.V v0), (D.L l1), (D.I i2), (D.I i3), (D.I i4), (D.I i5), (D.I i6), (D.B b11)])) ∧ (
  (b10 = true) →
  ((
   (i3 < (0 : Int)) →
   Awake06.sig.pre [] ∧ (
   ∀ (b11 : Bool),
   Awake06.sig.post [(D.B b11)] →
   LFBent.sig.post [(D.V v0), (D.L l1), (D.I i2), (D.I i3), (D.I i4), (D.I i5), (D.I i6), (D.B b11)])) ∧ (
   ((0 : Int) ≤ i3) →
   ((
    (((z9.length : Nat) : Int) ≤ i3) →
    Awake06.sig.pre [] ∧ (
    ∀ (b11 : Bool),
    Awake06.sig.post [(D.B b11)] →
    LFBent.sig.post [(D.V v0), (D.L l1), (D.I i2), (D.I i3), (D.I i4), (D.I i5), (D.I i6), (D.B b11)])) ∧ (
    (i3 < ((z9.length : Nat) : Int)) →
    ((
     (i4 < (0 : Int)) →
     Awake06.sig.pre [] ∧ (
     ∀ (b11 : Bool),
     Awake06.sig.post [(D.B b11)] →
     LFBent.sig.post [(D.V v0), (D.L l1), (D.I i2), (D.I i3), (D.I i4), (D.I i5), (D.I i6), (D.B b11)])) ∧ (
     ((0 : Int) ≤ i4) →
     ((
      ((2 : Int) < i4) →
      Awake06.sig.pre [] ∧ (
      ∀ (b11 : Bool),
      Awake06.sig.post [(D.B b11)] →
      LFBent.sig.post [(D.V v0), (D.L l1), (D.I i2), (D.I i3), (D.I i4), (D.I i5), (D.I i6), (D.B b11)])) ∧ (
      (i4 ≤ (2 : Int)) →
      ((
       (i5 < (0 : Int)) →
       Awake06.sig.pre [] ∧ (
       ∀ (b11 : Bool),
       Awake06.sig.post [(D.B b11)] →
       LFBent.sig.post [(D.V v0), (D.L l1), (D.I i2), (D.I i3), (D.I i4), (D.I i5), (D.I i6), (D.B b11)])) ∧ (
       ((0 : Int) ≤ i5) →
       ((
        ((0 : Int) < i3) →
        ((0 : Int) ≤ (IntKind.wrap .i64 (i3 - (1 : Int)))) ∧ (((0 : Int) ≤ (IntKind.wrap .i64 (i3 - (1 : Int)))) →
        ((IntKind.wrap .i64 (i3 - (1 : Int))) < ((z9.length : Nat) : Int)) ∧ (((IntKind.wrap .i64 (i3 - (1 : Int))) < ((z9.length : Nat) : Int)) →
        ∀ (v11 : Value),
        ((0 : Int) ≤ i4) ∧ (((0 : Int) ≤ i4) →
        (i4 < ((((6 : Int) :: ((14 : Int) :: ((18 : Int) :: ([] : List Int)))).length : Nat) : Int)) ∧ ((i4 < ((((6 : Int) :: ((14 : Int) :: ((18 : Int) :: ([] : List Int)))).length : Nat) : Int)) →
        ((0 : Int) ≤ i3) ∧ (((0 : Int) ≤ i3) →
        (i3 < ((z9.length : Nat) : Int)) ∧ ((i3 < ((z9.length : Nat) : Int)) →
        ∀ (v12 : Value),
        (i4 < ((((14 : Int) :: ((18 : Int) :: ((IntKind.wrap .i64 ((z9.getD i3.toNat 0) - (z9.getD (IntKind.wrap .i64 (i3 - (1 : Int))).toNat 0))) :: ([] : List Int)))).length : Nat) : Int)) ∧ ((i4 < ((((14 : Int) :: ((18 : Int) :: ((IntKind.wrap .i64 ((z9.getD i3.toNat 0) - (z9.getD (IntKind.wrap .i64 (i3 - (1 : Int))).toNat 0))) :: ([] : List Int)))).length : Nat) : Int)) →
        ((
         ((IntKind.wrap .i64 ((8 : Int) * (IntKind.wrap .i64 ((IntKind.wrap .i64 ((z9.getD (IntKind.wrap .i64 (i3 - (1 : Int))).toNat 0) + (((14 : Int) :: ((18 : Int) :: ((IntKind.wrap .i64 ((z9.getD i3.toNat 0) - (z9.getD (IntKind.wrap .i64 (i3 - (1 : Int))).toNat 0))) :: ([] : List Int)))).getD i4.toNat 0))) - (IntKind.wrap .i64 ((z9.getD (IntKind.wrap .i64 (i3 - (1 : Int))).toNat 0) + (((6 : Int) :: ((14 : Int) :: ((18 : Int) :: ([] : List Int)))).getD i4.toNat 0))))))) ≤ i5) →
         Awake06.sig.pre [] ∧ (
         ∀ (b13 : Bool),
         Awake06.sig.post [(D.B b13)] →
         LFBent.sig.post [(D.V v0), (D.L l1), (D.I i2), (D.I i3), (D.I i4), (D.I i5), (D.I i6), (D.B b13)])) ∧ (
         (i5 < (IntKind.wrap .i64 ((8 : Int) * (IntKind.wrap .i64 ((IntKind.wrap .i64 ((z9.getD (IntKind.wrap .i64 (i3 - (1 : Int))).toNat 0) + (((14 : Int) :: ((18 : Int) :: ((IntKind.wrap .i64 ((z9.getD i3.toNat 0) - (z9.getD (IntKind.wrap .i64 (i3 - (1 : Int))).toNat 0))) :: ([] : List Int)))).getD i4.toNat 0))) - (IntKind.wrap .i64 ((z9.getD (IntKind.wrap .i64 (i3 - (1 : Int))).toNat 0) + (((6 : Int) :: ((14 : Int) :: ((18 : Int) :: ([] : List Int)))).getD i4.toNat 0)))))))) →
         ∀ (v13 : Value),
         LFBent.I0 [(D.V v0), (D.L l1), (D.I i2), (D.I i3), (D.I i4), (D.I i5), (D.I i6), (D.B false), (D.I (0 : Int)), (D.Z (bytesOf s7))] ∧ (
         ∀ (b14 : Bool),
         ∀ (i15 : Int),
         ∀ (z16 : List Int),
         (-9223372036854775808 ≤ i15 ∧ i15 < 9223372036854775808) →
         (∀ x ∈ z16, IntKind.has .u8 x) →
         LFBent.I0 [(D.V v0), (D.L l1), (D.I i2), (D.I i3), (D.I i4), (D.I i5), (D.I i6), (D.B b14), (D.I i15), (D.Z z16)] →
         ((
          (i15 < (32 : Int)) →
          ((
           ((IntKind.wrap .i64 (i5 + i15)) < (IntKind.wrap .i64 ((8 : Int) * (IntKind.wrap .i64 ((IntKind.wrap .i64 ((z9.getD (IntKind.wrap .i64 (i3 - (1 : Int))).toNat 0) + (((14 : Int) :: ((18 : Int) :: ((IntKind.wrap .i64 ((z9.getD i3.toNat 0) - (z9.getD (IntKind.wrap .i64 (i3 - (1 : Int))).toNat 0))) :: ([] : List Int)))).getD i4.toNat 0))) - (IntKind.wrap .i64 ((z9.getD (IntKind.wrap .i64 (i3 - (1 : Int))).toNat 0) + (((6 : Int) :: ((14 : Int) :: ((18 : Int) :: ([] : List Int)))).getD i4.toNat 0)))))))) →
           ((0 : Int) ≤ i15) ∧ (((0 : Int) ≤ i15) →
           ((
            ((Go.bits .and .u32 (shrI .u32 i6 i15) (1 : Int)) = (1 : Int)) →
            ((0 : Int) ≤ (IntKind.wrap .i64 ((IntKind.wrap .i64 ((z9.getD (IntKind.wrap .i64 (i3 - (1 : Int))).toNat 0) + (((6 : Int) :: ((14 : Int) :: ((18 : Int) :: ([] : List Int)))).getD i4.toNat 0))) + (IntKind.wrap .i64 (Int.tdiv (IntKind.wrap .i64 (i5 + i15)) (8 : Int)))))) ∧ (((0 : Int) ≤ (IntKind.wrap .i64 ((IntKind.wrap .i64 ((z9.getD (IntKind.wrap .i64 (i3 - (1 : Int))).toNat 0) + (((6 : Int) :: ((14 : Int) :: ((18 : Int) :: ([] : List Int)))).getD i4.toNat 0))) + (IntKind.wrap .i64 (Int.tdiv (IntKind.wrap .i64 (i5 + i15)) (8 : Int)))))) →
            ((IntKind.wrap .i64 ((IntKind.wrap .i64 ((z9.getD (IntKind.wrap .i64 (i3 - (1 : Int))).toNat 0) + (((6 : Int) :: ((14 : Int) :: ((18 : Int) :: ([] : List Int)))).getD i4.toNat 0))) + (IntKind.wrap .i64 (Int.tdiv (IntKind.wrap .i64 (i5 + i15)) (8 : Int))))) < ((z16.length : Nat) : Int)) ∧ (((IntKind.wrap .i64 ((IntKind.wrap .i64 ((z9.getD (IntKind.wrap .i64 (i3 - (1 : Int))).toNat 0) + (((6 : Int) :: ((14 : Int) :: ((18 : Int) :: ([] : List Int)))).getD i4.toNat 0))) + (IntKind.wrap .i64 (Int.tdiv (IntKind.wrap .i64 (i5 + i15)) (8 : Int))))) < ((z16.length : Nat) : Int)) →
            ((0 : Int) ≤ (Int.tmod (IntKind.wrap .i64 (i5 + i15)) (8 : Int))) ∧ (((0 : Int) ≤ (Int.tmod (IntKind.wrap .i64 (i5 + i15)) (8 : Int))) →
            LFBent.I0 [(D.V v0), (D.L l1), (D.I i2), (D.I i3), (D.I i4), (D.I i5), (D.I i6), (D.B true), (D.I (IntKind.wrap .i64 (i15 + (1 : Int)))), (D.Z (z16.set (IntKind.wrap .i64 ((IntKind.wrap .i64 ((z9.getD (IntKind.wrap .i64 (i3 - (1 : Int))).toNat 0) + (((6 : Int) :: ((14 : Int) :: ((18 : Int) :: ([] : List Int)))).getD i4.toNat 0))) + (IntKind.wrap .i64 (Int.tdiv (IntKind.wrap .i64 (i5 + i15)) (8 : Int))))).toNat (Go.bits .xor .u8 (z16.getD (IntKind.wrap .i64 ((IntKind.wrap .i64 ((z9.getD (IntKind.wrap .i64 (i3 - (1 : Int))).toNat 0) + (((6 : Int) :: ((14 : Int) :: ((18 : Int) :: ([] : List Int)))).getD i4.toNat 0))) + (IntKind.wrap .i64 (Int.tdiv (IntKind.wrap .i64 (i5 + i15)) (8 : Int))))).toNat 0) (shlI .u8 (1 : Int) (Int.tmod (IntKind.wrap .i64 (i5 + i15)) (8 : Int))))))] ∧ LFBent.I0M [(D.V v0), (D.L l1), (D.I i2), (D.I i3), (D.I i4), (D.I i5), (D.I i6), (D.B true), (D.I (IntKind.wrap .i64 (i15 + (1 : Int)))), (D.Z (z16.set (IntKind.wrap .i64 ((IntKind.wrap .i64 ((z9.getD (IntKind.wrap .i64 (i3 - (1 : Int))).toNat 0) + (((6 : Int) :: ((14 : Int) :: ((18 : Int) :: ([] : List Int)))).getD i4.toNat 0))) + (IntKind.wrap .i64 (Int.tdiv (IntKind.wrap .i64 (i5 + i15)) (8 : Int))))).toNat (Go.bits .xor .u8 (z16.getD (IntKind.wrap .i64 ((IntKind.wrap .i64 ((z9.getD (IntKind.wrap .i64 (i3 - (1 : Int))).toNat 0) + (((6 : Int) :: ((14 : Int) :: ((18 : Int) :: ([] : List Int)))).getD i4.toNat 0))) + (IntKind.wrap .i64 (Int.tdiv (IntKind.wrap .i64 (i5 + i15)) (8 : Int))))).toNat 0) (shlI .u8 (1 : Int) (Int.tmod (IntKind.wrap .i64 (i5 + i15)) (8 : Int))))))] < LFBent.I0M [(D.V v0), (D.L l1), (D.I i2), (D.I i3), (D.I i4), (D.I i5), (D.I i6), (D.B b14), (D.I i15), (D.Z z16)])))) ∧ (
            ((Go.bits .and .u32 (shrI .u32 i6 i15) (1 : Int)) ≠ (1 : Int)) →
            LFBent.I0 [(D.V v0), (D.L l1), (D.I i2), (D.I i3), (D.I i4), (D.I i5), (D.I i6), (D.B b14), (D.I (IntKind.wrap .i64 (i15 + (1 : Int)))), (D.Z z16)] ∧ LFBent.I0M [(D.V v0), (D.L l1), (D.I i2), (D.I i3), (D.I i4), (D.I i5), (D.I i6), (D.B b14), (D.I (IntKind.wrap .i64 (i15 + (1 : Int)))), (D.Z z16)] < LFBent.I0M [(D.V v0), (D.L l1), (D.I i2), (D.I i3), (D.I i4), (D.I i5), (D.I i6), (D.B b14), (D.I i15), (D.Z z16)])))) ∧ (
           ((IntKind.wrap .i64 ((8 : Int) * (IntKind.wrap .i64 ((IntKind.wrap .i64 ((z9.getD (IntKind.wrap .i64 (i3 - (1 : Int))).toNat 0) + (((14 : Int) :: ((18 : Int) :: ((IntKind.wrap .i64 ((z9.getD i3.toNat 0) - (z9.getD (IntKind.wrap .i64 (i3 - (1 : Int))).toNat 0))) :: ([] : List Int)))).getD i4.toNat 0))) - (IntKind.wrap .i64 ((z9.getD (IntKind.wrap .i64 (i3 - (1 : Int))).toNat 0) + (((6 : Int) :: ((14 : Int) :: ((18 : Int) :: ([] : List Int)))).getD i4.toNat 0))))))) ≤ (IntKind.wrap .i64 (i5 + i15))) →
           FScan.sig.pre [(D.S (textOf z16)), (D.I i2)] ∧ (
           ∀ (v17 : Value),
           ∀ (l18 : List D),
           ∀ (i19 : Int),
           FScan.sig.post [(D.S (textOf z16)), (D.I i2), (D.V v17), (D.L l18), (D.I i19)] →
           (-9223372036854775808 ≤ i19 ∧ i19 < 9223372036854775808) →
           (EK.ok [.str] (D.L l18)) →
           ((
            (b14 = false) →
            Awake06.sig.pre [] ∧ (
            ∀ (b20 : Bool),
            Awake06.sig.post [(D.B b20)] →
            ((
             (b20 = true) →
             LFBent.sig.post [(D.V v0), (D.L l1), (D.I i2), (D.I i3), (D.I i4), (D.I i5), (D.I i6), (D.B (i19 == ((s7.size : Nat) : Int)))]) ∧ (
             (b20 = false) →
             LFBent.sig.post [(D.V v0), (D.L l1), (D.I i2), (D.I i3), (D.I i4), (D.I i5), (D.I i6), (D.B false)])))) ∧ (
            (b14 = true) →
            Awake06.sig.pre [] ∧ (
            ∀ (b20 : Bool),
            Awake06.sig.post [(D.B b20)] →
            ((
             (b20 = true) →
             ((
              (((l18.length : Nat) : Int) = i3) →
              LFBent.sig.post [(D.V v0), (D.L l1), (D.I i2), (D.I i3), (D.I i4), (D.I i5), (D.I i6), (D.B (i19 == (z9.getD (IntKind.wrap .i64 (i3 - (1 : Int))).toNat 0)))]) ∧ (
              (((l18.length : Nat) : Int) ≠ i3) →
              LFBent.sig.post [(D.V v0), (D.L l1), (D.I i2), (D.I i3), (D.I i4), (D.I i5), (D.I i6), (D.B false)]))) ∧ (
             (b20 = false) →
             LFBent.sig.post [(D.V v0), (D.L l1), (D.I i2), (D.I i3), (D.I i4), (D.I i5), (D.I i6), (D.B false)]))))))))) ∧ (
          ((32 : Int) ≤ i15) →
          FScan.sig.pre [(D.S (textOf z16)), (D.I i2)] ∧ (
          ∀ (v17 : Value),
          ∀ (l18 : List D),
          ∀ (i19 : Int),
          FScan.sig.post [(D.S (textOf z16)), (D.I i2), (D.V v17), (D.L l18), (D.I i19)] →
          (-9223372036854775808 ≤ i19 ∧ i19 < 9223372036854775808) →
          (EK.ok [.str] (D.L l18)) →
          ((
           (b14 = false) →
           Awake06.sig.pre [] ∧ (
           ∀ (b20 : Bool),
           Awake06.sig.post [(D.B b20)] →
           ((
            (b20 = true) →
            LFBent.sig.post [(D.V v0), (D.L l1), (D.I i2), (D.I i3), (D.I i4), (D.I i5), (D.I i6), (D.B (i19 == ((s7.size : Nat) : Int)))]) ∧ (
            (b20 = false) →
            LFBent.sig.post [(D.V v0), (D.L l1), (D.I i2), (D.I i3), (D.I i4), (D.I i5), (D.I i6), (D.B false)])))) ∧ (
           (b14 = true) →
           Awake06.sig.pre [] ∧ (
           ∀ (b20 : Bool),
           Awake06.sig.post [(D.B b20)] →
           ((
            (b20 = true) →
            ((
             (((l18.length : Nat) : Int) = i3) →
             LFBent.sig.post [(D.V v0), (D.L l1), (D.I i2), (D.I i3), (D.I i4), (D.I i5), (D.I i6), (D.B (i19 == (z9.getD (IntKind.wrap .i64 (i3 - (1 : Int))).toNat 0)))]) ∧ (
             (((l18.length : Nat) : Int) ≠ i3) →
             LFBent.sig.post [(D.V v0), (D.L l1), (D.I i2), (D.I i3), (D.I i4), (D.I i5), (D.I i6), (D.B false)]))) ∧ (
            (b20 = false) →
            LFBent.sig.post [(D.V v0), (D.L l1), (D.I i2), (D.I i3), (D.I i4), (D.I i5), (D.I i6), (D.B false)]))))))))))))))))))) ∧ (
        (i3 ≤ (0 : Int)) →
        ∀ (v11 : Value),
        ((0 : Int) ≤ i4) ∧ (((0 : Int) ≤ i4) →
        (i4 < ((((6 : Int) :: ((14 : Int) :: ((18 : Int) :: ([] : List Int)))).length : Nat) : Int)) ∧ ((i4 < ((((6 : Int) :: ((14 : Int) :: ((18 : Int) :: ([] : List Int)))).length : Nat) : Int)) →
        ((0 : Int) ≤ i3) ∧ (((0 : Int) ≤ i3) →
        (i3 < ((z9.length : Nat) : Int)) ∧ ((i3 < ((z9.length : Nat) : Int)) →
        ∀ (v12 : Value),
        (i4 < ((((14 : Int) :: ((18 : Int) :: ((IntKind.wrap .i64 ((z9.getD i3.toNat 0) - (0 : Int))) :: ([] : List Int)))).length : Nat) : Int)) ∧ ((i4 < ((((14 : Int) :: ((18 : Int) :: ((IntKind.wrap .i64 ((z9.getD i3.toNat 0) - (0 : Int))) :: ([] : List Int)))).length : Nat) : Int)) →
        ((
         ((IntKind.wrap .i64 ((8 : Int) * (IntKind.wrap .i64 ((IntKind.wrap .i64 ((0 : Int) + (((14 : Int) :: ((18 : Int) :: ((IntKind.wrap .i64 ((z9.getD i3.toNat 0) - (0 : Int))) :: ([] : List Int)))).getD i4.toNat 0))) - (IntKind.wrap .i64 ((0 : Int) + (((6 : Int) :: ((14 : Int) :: ((18 : Int) :: ([] : List Int)))).getD i4.toNat 0))))))) ≤ i5) →
         Awake06.sig.pre [] ∧ (
         ∀ (b13 : Bool),
         Awake06.sig.post [(D.B b13)] →
         LFBent.sig.post [(D.V v0), (D.L l1), (D.I i2), (D.I i3), (D.I i4), (D.I i5), (D.I i6), (D.B b13)])) ∧ (
         (i5 < (IntKind.wrap .i64 ((8 : Int) * (IntKind.wrap .i64 ((IntKind.wrap .i64 ((0 : Int) + (((14 : Int) :: ((18 : Int) :: ((IntKind.wrap .i64 ((z9.getD i3.toNat 0) - (0 : Int))) :: ([] : List Int)))).getD i4.toNat 0))) - (IntKind.wrap .i64 ((0 : Int) + (((6 : Int) :: ((14 : Int) :: ((18 : Int) :: ([] : List Int)))).getD i4.toNat 0)))))))) →
         ∀ (v13 : Value),
         LFBent.I0 [(D.V v0), (D.L l1), (D.I i2), (D.I i3), (D.I i4), (D.I i5), (D.I i6), (D.B false), (D.I (0 : Int)), (D.Z (bytesOf s7))] ∧ (
         ∀ (b14 : Bool),
         ∀ (i15 : Int),
         ∀ (z16 : List Int),
         (-9223372036854775808 ≤ i15 ∧ i15 < 9223372036854775808) →
         (∀ x ∈ z16, IntKind.has .u8 x) →
         LFBent.I0 [(D.V v0), (D.L l1), (D.I i2), (D.I i3), (D.I i4), (D.I i5), (D.I i6), (D.B b14), (D.I i15), (D.Z z16)] →
         ((
          (i15 < (32 : Int)) →
          ((
           ((IntKind.wrap .i64 (i5 + i15)) < (IntKind.wrap .i64 ((8 : Int) * (IntKind.wrap .i64 ((IntKind.wrap .i64 ((0 : Int) + (((14 : Int) :: ((18 : Int) :: ((IntKind.wrap .i64 ((z9.getD i3.toNat 0) - (0 : Int))) :: ([] : List Int)))).getD i4.toNat 0))) - (IntKind.wrap .i64 ((0 : Int) + (((6 : Int) :: ((14 : Int) :: ((18 : Int) :: ([] : List Int)))).getD i4.toNat 0)))))))) →
           ((0 : Int) ≤ i15) ∧ (((0 : Int) ≤ i15) →
           ((
            ((Go.bits .and .u32 (shrI .u32 i6 i15) (1 : Int)) = (1 : Int)) →
            ((0 : Int) ≤ (IntKind.wrap .i64 ((IntKind.wrap .i64 ((0 : Int) + (((6 : Int) :: ((14 : Int) :: ((18 : Int) :: ([] : List Int)))).getD i4.toNat 0))) + (IntKind.wrap .i64 (Int.tdiv (IntKind.wrap .i64 (i5 + i15)) (8 : Int)))))) ∧ (((0 : Int) ≤ (IntKind.wrap .i64 ((IntKind.wrap .i64 ((0 : Int) + (((6 : Int) :: ((14 : Int) :: ((18 : Int) :: ([] : List Int)))).getD i4.toNat 0))) + (IntKind.wrap .i64 (Int.tdiv (IntKind.wrap .i64 (i5 + i15)) (8 : Int)))))) →
            ((IntKind.wrap .i64 ((IntKind.wrap .i64 ((0 : Int) + (((6 : Int) :: ((14 : Int) :: ((18 : Int) :: ([] : List Int)))).getD i4.toNat 0))) + (IntKind.wrap .i64 (Int.tdiv (IntKind.wrap .i64 (i5 + i15)) (8 : Int))))) < ((z16.length : Nat) : Int)) ∧ (((IntKind.wrap .i64 ((IntKind.wrap .i64 ((0 : Int) + (((6 : Int) :: ((14 : Int) :: ((18 : Int) :: ([] : List Int)))).getD i4.toNat 0))) + (IntKind.wrap .i64 (Int.tdiv (IntKind.wrap .i64 (i5 + i15)) (8 : Int))))) < ((z16.length : Nat) : Int)) →
            ((0 : Int) ≤ (Int.tmod (IntKind.wrap .i64 (i5 + i15)) (8 : Int))) ∧ (((0 : Int) ≤ (Int.tmod (IntKind.wrap .i64 (i5 + i15)) (8 : Int))) →
            LFBent.I0 [(D.V v0), (D.L l1), (D.I i2), (D.I i3), (D.I i4), (D.I i5), (D.I i6), (D.B true), (D.I (IntKind.wrap .i64 (i15 + (1 : Int)))), (D.Z (z16.set (IntKind.wrap .i64 ((IntKind.wrap .i64 ((0 : Int) + (((6 : Int) :: ((14 : Int) :: ((18 : Int) :: ([] : List Int)))).getD i4.toNat 0))) + (IntKind.wrap .i64 (Int.tdiv (IntKind.wrap .i64 (i5 + i15)) (8 : Int))))).toNat (Go.bits .xor .u8 (z16.getD (IntKind.wrap .i64 ((IntKind.wrap .i64 ((0 : Int) + (((6 : Int) :: ((14 : Int) :: ((18 : Int) :: ([] : List Int)))).getD i4.toNat 0))) + (IntKind.wrap .i64 (Int.tdiv (IntKind.wrap .i64 (i5 + i15)) (8 : Int))))).toNat 0) (shlI .u8 (1 : Int) (Int.tmod (IntKind.wrap .i64 (i5 + i15)) (8 : Int))))))] ∧ LFBent.I0M [(D.V v0), (D.L l1), (D.I i2), (D.I i3), (D.I i4), (D.I i5), (D.I i6), (D.B true), (D.I (IntKind.wrap .i64 (i15 + (1 : Int)))), (D.Z (z16.set (IntKind.wrap .i64 ((IntKind.wrap .i64 ((0 : Int) + (((6 : Int) :: ((14 : Int) :: ((18 : Int) :: ([] : List Int)))).getD i4.toNat 0))) + (IntKind.wrap .i64 (Int.tdiv (IntKind.wrap .i64 (i5 + i15)) (8 : Int))))).toNat (Go.bits .xor .u8 (z16.getD (IntKind.wrap .i64 ((IntKind.wrap .i64 ((0 : Int) + (((6 : Int) :: ((14 : Int) :: ((18 : Int) :: ([] : List Int)))).getD i4.toNat 0))) + (IntKind.wrap .i64 (Int.tdiv (IntKind.wrap .i64 (i5 + i15)) (8 : Int))))).toNat 0) (shlI .u8 (1 : Int) (Int.tmod (IntKind.wrap .i64 (i5 + i15)) (8 : Int))))))] < LFBent.I0M [(D.V v0), (D.L l1), (D.I i2), (D.I i3), (D.I i4), (D.I i5), (D.I i6), (D.B b14), (D.I i15), (D.Z z16)])))) ∧ (
            ((Go.bits .and .u32 (shrI .u32 i6 i15) (1 : Int)) ≠ (1 : Int)) →
            LFBent.I0 [(D.V v0), (D.L l1), (D.I i2), (D.I i3), (D.I i4), (D.I i5), (D.I i6), (D.B b14), (D.I (IntKind.wrap .i64 (i15 + (1 : Int)))), (D.Z z16)] ∧ LFBent.I0M [(D.V v0), (D.L l1), (D.I i2), (D.I i3), (D.I i4), (D.I i5), (D.I i6), (D.B b14), (D.I (IntKind.wrap .i64 (i15 + (1 : Int)))), (D.Z z16)] < LFBent.I0M [(D.V v0), (D.L l1), (D.I i2), (D.I i3), (D.I i4), (D.I i5), (D.I i6), (D.B b14), (D.I i15), (D.Z z16)])))) ∧ (
           ((IntKind.wrap .i64 ((8 : Int) * (IntKind.wrap .i64 ((IntKind.wrap .i64 ((0 : Int) + (((14 : Int) :: ((18 : Int) :: ((IntKind.wrap .i64 ((z9.getD i3.toNat 0) - (0 : Int))) :: ([] : List Int)))).getD i4.toNat 0))) - (IntKind.wrap .i64 ((0 : Int) + (((6 : Int) :: ((14 : Int) :: ((18 : Int) :: ([] : List Int)))).getD i4.toNat 0))))))) ≤ (IntKind.wrap .i64 (i5 + i15))) →
           FScan.sig.pre [(D.S (textOf z16)), (D.I i2)] ∧ (
           ∀ (v17 : Value),
           ∀ (l18 : List D),
           ∀ (i19 : Int),
           FScan.sig.post [(D.S (textOf z16)), (D.I i2), (D.V v17), (D.L l18), (D.I i19)] →
           (-9223372036854775808 ≤ i19 ∧ i19 < 9223372036854775808) →
           (EK.ok [.str] (D.L l18)) →
           ((
            (b14 = false) →
            Awake06.sig.pre [] ∧ (
            ∀ (b20 : Bool),
            Awake06.sig.post [(D.B b20)] →
            ((
             (b20 = true) →
             LFBent.sig.post [(D.V v0), (D.L l1), (D.I i2), (D.I i3), (D.I i4), (D.I i5), (D.I i6), (D.B (i19 == ((s7.size : Nat) : Int)))]) ∧ (
             (b20 = false) →
             LFBent.sig.post [(D.V v0), (D.L l1), (D.I i2), (D.I i3), (D.I i4), (D.I i5), (D.I i6), (D.B false)])))) ∧ (
            (b14 = true) →
            Awake06.sig.pre [] ∧ (
            ∀ (b20 : Bool),
            Awake06.sig.post [(D.B b20)] →
            ((
             (b20 = true) →
             ((
              (((l18.length : Nat) : Int) = i3) →
              LFBent.sig.post [(D.V v0), (D.L l1), (D.I i2), (D.I i3), (D.I i4), (D.I i5), (D.I i6), (D.B (i19 == (0 : Int)))]) ∧ (
              (((l18.length : Nat) : Int) ≠ i3) →
              LFBent.sig.post [(D.V v0), (D.L l1), (D.I i2), (D.I i3), (D.I i4), (D.I i5), (D.I i6), (D.B false)]))) ∧ (
             (b20 = false) →
             LFBent.sig.post [(D.V v0), (D.L l1), (D.I i2), (D.I i3), (D.I i4), (D.I i5), (D.I i6), (D.B false)]))))))))) ∧ (
          ((32 : Int) ≤ i15) →
          FScan.sig.pre [(D.S (textOf z16)), (D.I i2)] ∧ (
          ∀ (v17 : Value),
          ∀ (l18 : List D),
          ∀ (i19 : Int),
          FScan.sig.post [(D.S (textOf z16)), (D.I i2), (D.V v17), (D.L l18), (D.I i19)] →
          (-9223372036854775808 ≤ i19 ∧ i19 < 9223372036854775808) →
          (EK.ok [.str] (D.L l18)) →
          ((
           (b14 = false) →
           Awake06.sig.pre [] ∧ (
           ∀ (b20 : Bool),
           Awake06.sig.post [(D.B b20)] →
           ((
            (b20 = true) →
            LFBent.sig.post [(D.V v0), (D.L l1), (D.I i2), (D.I i3), (D.I i4), (D.I i5), (D.I i6), (D.B (i19 == ((s7.size : Nat) : Int)))]) ∧ (
            (b20 = false) →
            LFBent.sig.post [(D.V v0), (D.L l1), (D.I i2), (D.I i3), (D.I i4), (D.I i5), (D.I i6), (D.B false)])))) ∧ (
           (b14 = true) →
           Awake06.sig.pre [] ∧ (
           ∀ (b20 : Bool),
           Awake06.sig.post [(D.B b20)] →
           ((
            (b20 = true) →
            ((
             (((l18.length : Nat) : Int) = i3) →
             LFBent.sig.post [(D.V v0), (D.L l1), (D.I i2), (D.I i3), (D.I i4), (D.I i5), (D.I i6), (D.B (i19 == (0 : Int)))]) ∧ (
             (((l18.length : Nat) : Int) ≠ i3) →
             LFBent.sig.post [(D.V v0), (D.L l1), (D.I i2), (D.I i3), (D.I i4), (D.I i5), (D.I i6), (D.B false)]))) ∧ (
            (b20 = false) →
            LFBent.sig.post [(D.V v0), (D.L l1), (D.I i2), (D.I i3), (D.I i4), (D.I i5), (D.I i6), (D.B false)]))))))))))))))))))))))))))))))))
theorem LFBent.den : LFBent.vc.den2 (mkEnv LFBent.sig [Laid.sig, Awake06.sig, FScan.sig] [(LFBent.I0, LFBent.I0M)]) [] = LFBent.Pure := by kernel_rfl
end Go.Vc

namespace Go.Vc

def has8 (l : List Int) : Prop := ∀ x ∈ l, 0 ≤ x ∧ x < 256

theorem burst_crc {C C' : List Int} (hC : has8 C) (hC' : has8 C') (hl : C'.length = C.length) {a m : Nat} {bits : Int} (ha : a ≤ 8 * C.length)
    (hd : ∀ i, i < 8 * C.length → bitAt C' i = (bitAt C i ^^ (decide (a ≤ i ∧ i - a < 32 ∧ i - a < m) && bt bits (i - a))))
    (hj : ∃ j, j < 32 ∧ j < m ∧ a + j < 8 * C.length ∧ bt bits j = true) : crcOf 0 C' ≠ crcOf 0 C := by
  intro h
  have hruns : crcRun (~~~ cv 0) C' ^^^ crcRun (~~~ cv 0) C = br 0#32 (fun i => bitAt C' i ^^ bitAt C i) (8 * C.length) := by
    rw [run_br' _ hC', run_br' _ hC, hl, ← br_xor, BitVec.xor_self]
  have h1 := congrArg cv h
  rw [crcOf_eq, crcOf_eq] at h1
  have h2 := congrArg (fun x : W32 => ~~~ x) h1
  simp only [BitVec.not_not] at h2
  rw [h2, BitVec.xor_self] at hruns
  have hz := (burst_zero (d := fun i => bitAt C' i ^^ bitAt C i) (a := a) (n := 8 * C.length) ha (lowMask m (cv bits)) (fun i hi => by
    rw [hd i hi]
    by_cases q : a ≤ i ∧ i - a < 32
    · rw [decide_eq_true q, lowMask_bit m _ _ q.2, cv_bit]
      have e : (decide (a ≤ i ∧ i - a < 32 ∧ i - a < m)) = decide (i - a < m) := by
        by_cases c : i - a < m
        · rw [decide_eq_true c, decide_eq_true ⟨q.1, q.2, c⟩]
        · rw [decide_eq_false c, decide_eq_false (fun h => c h.2.2)]
      rw [e, decide_eq_true q.2]
      cases bitAt C i <;> simp
    · rw [decide_eq_false q, decide_eq_false (fun h => q ⟨h.1, h.2.1⟩)]
      cases bitAt C i <;> rfl)).1 hruns.symm
  obtain ⟨j, j1, j2, j3, j4⟩ := hj
  have := hz j j1 j3
  rw [lowMask_bit m _ _ j1, cv_bit, j4] at this
  simp [j1, j2] at this

theorem bitAt_drop (l : List Int) (n i : Nat) : bitAt (l.drop n) i = bitAt l (8 * n + i) := by
  rw [bitAt, bitAt, getD_drop, show (8 * n + i) / 8 = i / 8 + n from by omega, show (8 * n + i) % 8 = i % 8 from by omega]
theorem bitAt_take (l : List Int) {n i : Nat} (h : i < 8 * n) : bitAt (l.take n) i = bitAt l i := by
  rw [bitAt, bitAt, getD_take, if_pos (by omega)]
theorem getD_app (a b : List Int) (i : Nat) : (a ++ b).getD i 0 = if i < a.length then a.getD i 0 else b.getD (i - a.length) 0 := by
  simp only [List.getD, List.getElem?_append]
  split <;> rfl
theorem bitAt_app (a b : List Int) (i : Nat) : bitAt (a ++ b) i = if i < 8 * a.length then bitAt a i else bitAt b (i - 8 * a.length) := by
  rw [bitAt, getD_app]
  by_cases h : i < 8 * a.length
  · rw [if_pos h, if_pos (by omega), bitAt]
  · rw [if_neg h, if_neg (by omega), bitAt, show (i - 8 * a.length) / 8 = i / 8 - a.length from by omega, show (i - 8 * a.length) % 8 = i % 8 from by omega]

theorem getD_has8 {l : List Int} (h : has8 l) (p : Nat) : 0 ≤ l.getD p 0 ∧ l.getD p 0 < 256 := by
  by_cases hp : p < l.length
  · simp only [List.getD, List.getElem?_eq_getElem hp, Option.getD_some]
    exact h _ (List.getElem_mem _)
  · simp only [List.getD, List.getElem?_eq_none (show l.length ≤ p by omega), Option.getD_none]
    decide

theorem take_of_bits {l l' : List Int} (h : has8 l) (h' : has8 l') {n : Nat} (hn : n ≤ l.length) (hn' : n ≤ l'.length) (hb : ∀ i, i < 8 * n → bitAt l i = bitAt l' i) : l.take n = l'.take n := by
  apply List.ext_getElem (by rw [List.length_take, List.length_take]; omega)
  intro p h1 h2
  rw [List.length_take] at h1
  have e : l.getD p 0 = l'.getD p 0 := by
    have g1 := getD_has8 h p
    have g2 := getD_has8 h' p
    apply eq_of_bt (w := 8) g1.1 g1.2 g2.1 g2.2
    intro j hj
    have := hb (8 * p + j) (by omega)
    rwa [bitAt, bitAt, show (8 * p + j) / 8 = p from by omega, show (8 * p + j) % 8 = j from by omega] at this
  rw [List.getElem_take, List.getElem_take]
  simpa [List.getD, List.getElem?_eq_getElem (show p < l.length by omega), List.getElem?_eq_getElem (show p < l'.length by omega)] using e

theorem all_of_bits {l l' : List Int} (h : has8 l) (h' : has8 l') {n : Nat} (hn : l.length = n) (hn' : l'.length = n) (hb : ∀ i, i < 8 * n → bitAt l i = bitAt l' i) : l = l' := by
  have := take_of_bits h h' (n := n) (by omega) (by omega) hb
  rwa [← hn, List.take_length, hn, ← hn', List.take_length] at this

theorem bent_drop {P g b : List Int} {A k m bits : Int} (hA : 0 ≤ A) (hP : has8 P) (hg : has8 g) (hb : has8 b) (h : bentAt (P ++ g) b (8 * P.length + A) k m bits) :
    bentAt g (b.drop P.length) A k m bits ∧ b.take P.length = P := by
  obtain ⟨h1, h2⟩ := h
  rw [List.length_append] at h1
  refine ⟨⟨by rw [List.length_drop]; omega, fun i hi => ?_⟩, ?_⟩
  · rw [List.length_drop] at hi
    rw [bitAt_drop, h2 _ (by omega), bitAt_app, if_neg (by omega), show 8 * P.length + i - 8 * P.length = i from by omega]
    congr 1
    rw [show 8 * P.length + i - (8 * (P.length : Int) + A).toNat = i - A.toNat from by omega]
    congr 1
    apply decide_eq_decide.2
    omega
  · have e : (P ++ g).take P.length = P := List.take_left
    rw [← e]
    have hPg : has8 (P ++ g) := fun x hx => (List.mem_append.1 hx).elim (hP x) (hg x)
    rw [show ((P ++ g).take P.length).length = P.length from by rw [e]]
    apply take_of_bits hb hPg (by omega) (by rw [List.length_append]; omega)
    intro i hi
    rw [h2 i (by omega)]
    have : ¬ (8 * (P.length : Int) + A ≤ i ∧ (i : Int) - (8 * P.length + A) < k ∧ (i : Int) - (8 * P.length + A) < m) := by omega
    rw [decide_eq_false this]; simp

theorem has8_drop {l : List Int} (h : has8 l) (n : Nat) : has8 (l.drop n) := fun x hx => h x (List.mem_of_mem_drop hx)
theorem has8_take {l : List Int} (h : has8 l) (n : Nat) : has8 (l.take n) := fun x hx => h x (List.mem_of_mem_take hx)
theorem has8_app {a b : List Int} (h : has8 a) (h' : has8 b) : has8 (a ++ b) := fun x hx => (List.mem_append.1 hx).elim (h x) (h' x)

/-- What the sum is over, bit by bit. -/
theorem cover_bit (l : List Int) {n : Nat} (hl : 18 + n ≤ l.length) {i : Nat} (hi : i < 8 * (12 + n)) :
    bitAt ((l.drop 2).take 12 ++ (l.drop 18).take n) i = bitAt l (if i < 96 then i + 16 else i + 48) := by
  have h12 : ((l.drop 2).take 12).length = 12 := by rw [List.length_take, List.length_drop]; omega
  rw [bitAt_app, h12]
  by_cases c : i < 96
  · rw [if_pos (by omega), if_pos c, bitAt_take _ (by omega), bitAt_drop, show 8 * 2 + i = i + 16 from by omega]
  · rw [if_neg (by omega), if_neg c, bitAt_take _ (by omega), bitAt_drop, show 8 * 18 + (i - 8 * 12) = i + 48 from by omega]

theorem bent_read {q : Int} {R : ByteArray} {more r : List Int} {p a bits : Int} (hR : R.size ≤ 60) (hm : has8 more) (hr : has8 r) (hp : 0 ≤ p ∧ p ≤ 2) (ha : 0 ≤ a)
    (W : Int) (hW : W = if p = 0 then 8 else if p = 1 then 4 else (R.size : Int)) (haW : a < 8 * W)
    (h : bentAt (frameB q R ++ more) r (8 * offF p + a) 32 (8 * W - a) bits) (hj : ∃ j : Nat, (j : Int) < 32 ∧ bt bits j = true ∧ (j : Int) < 8 * W - a) :
    (fRead r).2.2.2 ≠ 0 := by
  obtain ⟨p1, p2, p3, p4, p5, p6⟩ := frame_parts q R more
  generalize hgd : frameB q R ++ more = g at h p1 p2 p3 p4 p5 p6
  have hg : has8 g := by rw [← hgd]; exact has8_app (frameB_has _ _) hm
  have gl : g.length = 18 + R.size + more.length := by rw [← hgd, List.length_append, frameB_len]
  obtain ⟨rl, rb⟩ := h
  have hoff : offF p = 6 ∨ offF p = 14 ∨ offF p = 18 := by unfold offF; split; exact .inl rfl; split; exact .inr (.inl rfl); exact .inr (.inr rfl)
  have t6 : r.take 6 = g.take 6 := by
    apply take_of_bits hr hg (by omega) (by omega)
    intro i hi
    rw [rb i (by omega)]
    have : ¬ (8 * offF p + a ≤ (i : Int) ∧ (i : Int) - (8 * offF p + a) < 32 ∧ (i : Int) - (8 * offF p + a) < 8 * W - a) := by omega
    rw [decide_eq_false this]; simp
  have q1 : r.take 2 = [79, 74] := by
    have := congrArg (List.take 2) t6
    rw [List.take_take, List.take_take] at this
    rw [show min 2 6 = 2 from rfl] at this
    rw [this, p1]
  have q2 : (r.drop 2).take 4 = beB R.size 4 := by
    have := congrArg (List.drop 2) t6
    rw [List.drop_take, List.drop_take] at this
    rw [this, p2]
  have hn : beNum (beB (R.size : Int) 4) = R.size := beNum_be (by omega) (by rw [pow4]; omega)
  have ht : (bytesOf R ++ more).take R.size = bytesOf R := take_left (bytesOf_length' R)
  have gsum : crcOf 0 ((g.drop 2).take 12 ++ (g.drop 18).take R.size) = beNum ((g.drop 14).take 4) := by
    rw [p3, p6, ht, p5, beNum_be (crcOf_has _ _).1 (by rw [pow4]; exact (crcOf_has _ _).2)]
  have cl : ∀ l : List Int, 18 + R.size ≤ l.length → ((l.drop 2).take 12 ++ (l.drop 18).take R.size).length = 12 + R.size := by
    intro l hl
    rw [List.length_append, List.length_take, List.length_take, List.length_drop, List.length_drop]; omega
  have cr := cl r (by omega)
  have cg := cl g (by omega)
  have hCr : has8 ((r.drop 2).take 12 ++ (r.drop 18).take R.size) := has8_app (has8_take (has8_drop hr _) _) (has8_take (has8_drop hr _) _)
  have hCg : has8 ((g.drop 2).take 12 ++ (g.drop 18).take R.size) := has8_app (has8_take (has8_drop hg _) _) (has8_take (has8_drop hg _) _)
  have sl : ∀ l : List Int, 18 + R.size ≤ l.length → ((l.drop 14).take 4).length = 4 := by
    intro l hl
    rw [List.length_take, List.length_drop]; omega
  have ne : crcOf 0 ((r.drop 2).take 12 ++ (r.drop 18).take R.size) ≠ beNum ((r.drop 14).take 4) := by
    by_cases c1 : p = 1
    · -- the sum itself is bent
      have ho : offF p = 14 := by unfold offF; rw [if_neg (by omega), if_pos c1]
      have hw4 : W = 4 := by rw [hW, if_neg (by omega), if_pos c1]
      rw [ho, hw4] at rb
      rw [hw4] at hj haW
      have same : (r.drop 2).take 12 ++ (r.drop 18).take R.size = (g.drop 2).take 12 ++ (g.drop 18).take R.size := by
        exact all_of_bits hCr hCg cr cg (fun i hi => by
          rw [cover_bit r (by omega) hi, cover_bit g (by omega) hi, rb _ (by split <;> omega)]
          have : ∀ x : Nat, x = (if i < 96 then i + 16 else i + 48) → ¬ (8 * (14 : Int) + a ≤ (x : Int) ∧ (x : Int) - (8 * 14 + a) < 32 ∧ (x : Int) - (8 * 14 + a) < 8 * 4 - a) := by
            intro x hx
            split at hx <;> omega
          rw [decide_eq_false (this _ rfl)]; simp)
      rw [same, gsum]
      intro heq
      obtain ⟨j, j1, j2, j3⟩ := hj
      have e1 := beB_beNum (l := (g.drop 14).take 4) (has8_take (has8_drop hg _) _)
      have e2 := beB_beNum (l := (r.drop 14).take 4) (has8_take (has8_drop hr _) _)
      rw [sl g (by omega), heq] at e1
      rw [sl r (by omega), e1] at e2
      have hb : bitAt ((r.drop 14).take 4) (a.toNat + j) = bitAt ((g.drop 14).take 4) (a.toNat + j) := by rw [e2]
      rw [bitAt_take _ (by omega), bitAt_take _ (by omega), bitAt_drop, bitAt_drop, rb _ (by omega)] at hb
      have yes : 8 * (14 : Int) + a ≤ ((8 * 14 + (a.toNat + j) : Nat) : Int) ∧ ((8 * 14 + (a.toNat + j) : Nat) : Int) - (8 * 14 + a) < 32 ∧ ((8 * 14 + (a.toNat + j) : Nat) : Int) - (8 * 14 + a) < 8 * 4 - a := by omega
      rw [decide_eq_true yes, show 8 * 14 + (a.toNat + j) - (8 * (14 : Int) + a).toNat = j from by omega, j2] at hb
      revert hb
      cases bitAt g (8 * 14 + (a.toNat + j)) <;> simp
    · have same : (r.drop 14).take 4 = (g.drop 14).take 4 := by
        exact all_of_bits (has8_take (has8_drop hr 14) 4) (has8_take (has8_drop hg 14) 4) (sl r (by omega)) (sl g (by omega)) (fun i hi => by
          rw [bitAt_take _ hi, bitAt_take _ hi, bitAt_drop, bitAt_drop, rb _ (by omega)]
          have : ¬ (8 * offF p + a ≤ ((8 * 14 + i : Nat) : Int) ∧ ((8 * 14 + i : Nat) : Int) - (8 * offF p + a) < 32 ∧ ((8 * 14 + i : Nat) : Int) - (8 * offF p + a) < 8 * W - a) := by
            by_cases c0 : p = 0
            · have ho : offF p = 6 := by unfold offF; rw [if_pos c0]
              have : W = 8 := by rw [hW, if_pos c0]
              omega
            · have ho : offF p = 18 := by unfold offF; rw [if_neg c0, if_neg c1]
              omega
          rw [decide_eq_false this]; simp)
      rw [same, ← gsum]
      obtain ⟨j, j1, j2, j3⟩ := hj
      have big : ∃ A : Nat, A + (8 * W - a).toNat ≤ 8 * (12 + R.size) ∧ ∀ i : Nat, i < 8 * (12 + R.size) → ∀ x : Nat, x = (if i < 96 then i + 16 else i + 48) →
          ((8 * offF p + a ≤ (x : Int) ∧ (x : Int) - (8 * offF p + a) < 32 ∧ (x : Int) - (8 * offF p + a) < 8 * W - a) ↔ (A ≤ i ∧ i - A < 32 ∧ i - A < (8 * W - a).toNat)) ∧
          ((A ≤ i ∧ i - A < 32 ∧ i - A < (8 * W - a).toNat) → x - (8 * offF p + a).toNat = i - A) := by
        by_cases c0 : p = 0
        · have ho : offF p = 6 := by unfold offF; rw [if_pos c0]
          have hw : W = 8 := by rw [hW, if_pos c0]
          refine ⟨32 + a.toNat, by omega, fun i hi x hx => ?_⟩
          split at hx <;> (constructor <;> omega)
        · have ho : offF p = 18 := by unfold offF; rw [if_neg c0, if_neg c1]
          have hw : W = R.size := by rw [hW, if_neg c0, if_neg c1]
          refine ⟨96 + a.toNat, by omega, fun i hi x hx => ?_⟩
          split at hx <;> (constructor <;> omega)
      obtain ⟨A, A1, A2⟩ := big
      apply burst_crc hCg hCr (by omega) (a := A) (m := (8 * W - a).toNat) (bits := bits) (by omega)
      · intro i hi
        rw [cg] at hi
        rw [cover_bit r (by omega) hi, cover_bit g (by omega) hi, rb _ (by split <;> omega)]
        have hh := A2 i hi _ rfl
        by_cases c : A ≤ i ∧ i - A < 32 ∧ i - A < (8 * W - a).toNat
        · rw [decide_eq_true (hh.1.2 c), decide_eq_true c, hh.2 c]
        · rw [decide_eq_false (fun h => c (hh.1.1 h)), decide_eq_false c]; rfl
      · exact ⟨j, by omega, by omega, by omega, j2⟩
  unfold fRead
  rw [if_neg (by omega), if_neg (by rw [q1]; simp), if_neg (by omega)]
  simp only [q2, hn]
  rw [if_neg (by omega), if_neg (by omega), show ((R.size : Int)).toNat = R.size from by omega, if_pos ne]
  decide

end Go.Vc

namespace Go.Vc

theorem laidB_append : ∀ (xs ys : List ByteArray) (q : Int), 0 ≤ q ∧ q < 18446744073709551616 → laidB q (xs ++ ys) = laidB q xs ++ laidB ((q + xs.length) % 18446744073709551616) ys
  | [], ys, q, h => by
    have e : (q + (([] : List ByteArray).length : Nat)) % 18446744073709551616 = q := by simp; omega
    rw [e]; rfl
  | x :: xs, ys, q, h => by
    simp only [List.cons_append, laidB, List.append_assoc]
    rw [laidB_append xs ys _ (by omega)]
    congr 3
    simp only [List.length_cons]
    omega

theorem split_at {rs : List ByteArray} {w : Nat} (h : w < rs.length) : rs = rs.take w ++ rs.getD w default :: rs.drop (w + 1) := by
  have e : rs.getD w default = rs[w] := by simp [List.getD, h]
  rw [e, List.getElem_cons_drop, List.take_append_drop]

theorem lenL_succ {rs : List ByteArray} {w : Nat} (h : w < rs.length) : (lenL (rs.take (w + 1)) : Int) = begF rs w + 18 + sizF rs w := by
  have e : rs.take (w + 1) = rs.take w ++ [rs.getD w default] := by
    rw [List.take_add_one]
    congr 1
    simp [List.getD, h]
  rw [e, lenL_append, begF, sizF]
  simp only [lenL]
  omega

theorem ends_get : ∀ (rs : List ByteArray) (a : Int) (i : Nat), i < rs.length → (endsF a rs).getD i 0 = a + lenL (rs.take (i + 1))
  | [], _, _, h => by simp at h
  | r :: rs, a, 0, _ => by simp only [endsF, List.take_succ_cons, List.take_zero, lenL, List.getD_cons_zero]; omega
  | r :: rs, a, i + 1, h => by
    simp only [endsF, List.getD_cons_succ, List.take_succ_cons, lenL]
    rw [ends_get rs _ i (by simpa using h)]
    omega

theorem scan_bent {rs : List ByteArray} {q p a bits : Int} {w : Nat} {b : List Int} (hq : 0 ≤ q ∧ q < 18446744073709551616) (hw : w < rs.length) (hp : 0 ≤ p ∧ p ≤ 2) (ha : 0 ≤ a) (haW : a < 8 * widF rs w p)
    (hb : has8 b) (h : bentAt (laidB q rs) b (8 * (begF rs w + offF p) + a) 32 (8 * widF rs w p - a) bits) (hj : ∃ j : Nat, (j : Int) < 32 ∧ bt bits j = true ∧ (j : Int) < 8 * widF rs w p - a) :
    scanF b q = (cuts (rs.take w), begF rs w) := by
  have sp := laidB_append (rs.take w) (rs.getD w default :: rs.drop (w + 1)) q hq
  rw [← split_at hw] at sp
  simp only [laidB] at sp
  have hP : has8 (laidB q (rs.take w)) := laidB_has _ _
  have hPl : (laidB q (rs.take w)).length = lenL (rs.take w) := laidB_len _ _
  have hm := laidB_has (rs.drop (w + 1)) (((q + (rs.take w).length) % 18446744073709551616 + 1) % 18446744073709551616)
  rw [sp] at h
  have hoff : 0 ≤ offF p := by unfold offF; split; decide; split <;> decide
  rw [show 8 * (begF rs w + offF p) + a = 8 * ((laidB q (rs.take w)).length : Int) + (8 * offF p + a) from by rw [hPl, begF]; omega] at h
  have d := bent_drop (by omega) hP (has8_app (frameB_has _ _) hm) hb h
  have c60 := cut60 (rs.getD w default)
  have hne := bent_read c60 hm (has8_drop hb _) hp ha (widF rs w p) (by unfold widF sizF; rfl) haW d.1 hj
  have eb : b = laidB q (rs.take w) ++ b.drop (laidB q (rs.take w)).length := by
    rw [← d.2]
    rw [d.2]
    conv => lhs; rw [← List.take_append_drop (laidB q (rs.take w)).length b, d.2]
  rw [eb, scanF, scan_laid (rs.take w) q _ _ hq (Nat.lt_succ_self _) hne]
  rfl

theorem scan_whole {rs : List ByteArray} {q : Int} (hq : 0 ≤ q ∧ q < 18446744073709551616) : scanF (laidB q rs) q = (cuts rs, (lenL rs : Int)) := by
  have := scan_laid rs q [] ((laidB q rs).length + 1) hq (by rw [List.append_nil]; omega) (by decide)
  rw [List.append_nil] at this
  exact this

theorem bentAt_all {s b : List Int} {A k m bits : Int} (h : bentAt s b A k m bits) (hk : k = 32 ∨ (m ≤ k ∧ k ≤ 32)) : bentAt s b A 32 m bits := by
  refine ⟨h.1, fun i hi => ?_⟩
  rw [h.2 i hi]
  congr 2
  apply decide_eq_decide.2
  omega

theorem bentAt_none {s b : List Int} {A k m bits : Int} (hs : has8 s) (hb : has8 b) (hA : 0 ≤ A) (h : bentAt s b A k m bits) (hn : ∀ j : Nat, (j : Int) < k → (j : Int) < m → bt bits j = false) : b = s := by
  refine all_of_bits hb hs h.1 rfl (fun i hi => ?_)
  rw [h.2 i (by rw [h.1]; exact hi)]
  by_cases c : A ≤ (i : Int) ∧ (i : Int) - A < k ∧ (i : Int) - A < m
  · rw [hn (i - A.toNat) (by omega) (by omega)]; simp
  · rw [decide_eq_false c]; simp

/-- One more bit is looked at. -/
theorem bentAt_keep {s b : List Int} {A k m bits : Int} (hA : 0 ≤ A) (hk : 0 ≤ k) (h : bentAt s b A k m bits) (hc : bt bits k.toNat = false) : bentAt s b A (k + 1) m bits := by
  refine ⟨h.1, fun i hi => ?_⟩
  rw [h.2 i hi]
  congr 1
  by_cases q : A ≤ (i : Int) ∧ (i : Int) - A < k ∧ (i : Int) - A < m
  · rw [decide_eq_true q, decide_eq_true (by omega)]
  · by_cases q' : A ≤ (i : Int) ∧ (i : Int) - A < k + 1 ∧ (i : Int) - A < m
    · rw [show i - A.toNat = k.toNat from by omega, hc]; simp
    · rw [decide_eq_false q, decide_eq_false q']
theorem bentAt_flip {s b : List Int} {F a k m bits : Int} (hb : has8 b) (hF : 0 ≤ F) (ha : 0 ≤ a) (hk : 0 ≤ k) (hm : k < m) (h : bentAt s b (8 * F + a) k m bits) (hc : bt bits k.toNat = true) (hl : 8 * F + a + k < 8 * b.length) :
    bentAt s (b.set (F + (a + k) / 8).toNat (Go.bits .xor .u8 (b.getD (F + (a + k) / 8).toNat 0) (shlI .u8 1 ((a + k) % 8)))) (8 * F + a) (k + 1) m bits := by
  obtain ⟨h1, h2⟩ := h
  refine ⟨by rw [List.length_set]; exact h1, fun i hi => ?_⟩
  rw [List.length_set] at hi
  have hdi := h2 i hi
  rw [bitAt_set _ _ _ (by omega)]
  by_cases q : i / 8 = (F + (a + k) / 8).toNat
  · rw [if_pos q, bt_xor .u8 _ _ (show i % 8 < 8 by omega), u8_shl_bit (by omega) _ (by omega) rfl]
    have hz : bt (b.getD (F + (a + k) / 8).toNat 0) (i % 8) = bitAt b i := by rw [bitAt, q]
    rw [hz, hdi]
    by_cases q2 : i % 8 = ((a + k) % 8).toNat
    · have n1 : ¬ (8 * F + a ≤ (i : Int) ∧ (i : Int) - (8 * F + a) < k ∧ (i : Int) - (8 * F + a) < m) := by omega
      have n2 : 8 * F + a ≤ (i : Int) ∧ (i : Int) - (8 * F + a) < k + 1 ∧ (i : Int) - (8 * F + a) < m := by omega
      rw [decide_eq_true q2, decide_eq_false n1, decide_eq_true n2, show i - (8 * F + a).toNat = k.toNat from by omega, hc]; simp
    · have n1 : (8 * F + a ≤ (i : Int) ∧ (i : Int) - (8 * F + a) < k ∧ (i : Int) - (8 * F + a) < m) ↔ (8 * F + a ≤ (i : Int) ∧ (i : Int) - (8 * F + a) < k + 1 ∧ (i : Int) - (8 * F + a) < m) := by omega
      rw [decide_eq_false q2]
      simp only [n1, Bool.xor_false]
  · rw [if_neg q, hdi]
    have n1 : (8 * F + a ≤ (i : Int) ∧ (i : Int) - (8 * F + a) < k ∧ (i : Int) - (8 * F + a) < m) ↔ (8 * F + a ≤ (i : Int) ∧ (i : Int) - (8 * F + a) < k + 1 ∧ (i : Int) - (8 * F + a) < m) := by omega
    simp only [n1]

end Go.Vc

namespace Go.Vc

theorem bit_test {x k : Int} (hx : 0 ≤ x ∧ x < 4294967296) (hk : 0 ≤ k ∧ k < 32) : Go.bits .and .u32 (shrI .u32 x k) 1 = b2i (bt x k.toNat) := by
  apply eq_u32 (bits_has _ _ _ _)
  · rw [u32_has]; unfold b2i; split <;> decide
  · intro i hi
    rw [bt_and .u32 _ _ hi, bt_one, bt_shr_u32 _ (u32i hx)]
    by_cases h : i = 0
    · subst h; rw [Nat.zero_add]; unfold b2i; cases bt x k.toNat <;> simp [bt_zero, bt_one]
    · unfold b2i; cases bt x k.toNat <;> simp [bt_zero, bt_one, h]

theorem LFBent.pure : LFBent.Pure := by
  intro v0 l1 i2 i3 i4 i5 i6 h1 h2 h3 h4 h5 h6 h7
  have aw : ∀ b : Bool, Awake06.sig.post [D.B b] → LFBent.sig.post [(D.V v0), (D.L l1), (D.I i2), (D.I i3), (D.I i4), (D.I i5), (D.I i6), (D.B b)] := fun b h => yesB (l := [_, _, _, _, _, _, _]) (awake06 h)
  refine ⟨trivial, ?_⟩
  intro s7 v8 z9 h8 h9 h10
  obtain ⟨es, ez⟩ : s7 = textOf (laidB i2 (recs l1)) ∧ z9 = endsF 0 (recs l1) := h8
  have bs : bytesOf s7 = laidB i2 (recs l1) := by rw [es, bytesOf_textOf (laidB_has _ _)]
  have hrl : (recs l1).length ≤ 6 ∧ (recs l1).length ≤ l1.length := by rw [recs, List.length_map, List.length_take]; omega
  have hll := lenL_le (recs l1)
  have hz9 : z9.length = (recs l1).length := by rw [ez, endsF_len]
  refine ⟨trivial, ?_⟩
  intro b10 h11
  refine ⟨fun _ => ⟨trivial, aw⟩, fun _ => ?_⟩
  refine ⟨fun _ => ⟨trivial, aw⟩, fun c1 => ?_⟩
  refine ⟨fun _ => ⟨trivial, aw⟩, fun c2 => ?_⟩
  refine ⟨fun _ => ⟨trivial, aw⟩, fun c3 => ?_⟩
  refine ⟨fun _ => ⟨trivial, aw⟩, fun c4 => ?_⟩
  refine ⟨fun _ => ⟨trivial, aw⟩, fun c5 => ?_⟩
  have hw : i3.toNat < (recs l1).length := by omega
  have off : ((6 : Int) :: ((14 : Int) :: ((18 : Int) :: ([] : List Int)))).getD i4.toNat 0 = offF i4 := by
    have hc : i4 = 0 ∨ i4 = 1 ∨ i4 = 2 := by omega
    rcases hc with rfl | rfl | rfl <;> rfl
  have hend : z9.getD i3.toNat 0 = begF (recs l1) i3.toNat + 18 + sizF (recs l1) i3.toNat := by
    rw [ez, ends_get _ _ _ hw, lenL_succ hw]; omega
  have hb0 : 0 ≤ begF (recs l1) i3.toNat := by unfold begF; omega
  have hs0 : 0 ≤ sizF (recs l1) i3.toNat ∧ sizF (recs l1) i3.toNat ≤ 60 := by
    have := cut60 ((recs l1).getD i3.toNat default)
    unfold sizF; omega
  have hbe : begF (recs l1) i3.toNat + 18 + sizF (recs l1) i3.toNat ≤ lenL (recs l1) := by
    have e := lenL_succ hw
    have e2 := lenL_append ((recs l1).take (i3.toNat + 1)) ((recs l1).drop (i3.toNat + 1))
    rw [List.take_append_drop] at e2
    omega
  have ow : offF i4 + widF (recs l1) i3.toNat i4 ≤ 18 + sizF (recs l1) i3.toNat ∧ 0 ≤ offF i4 ∧ offF i4 ≤ 18 ∧ 0 ≤ widF (recs l1) i3.toNat i4 ∧ widF (recs l1) i3.toNat i4 ≤ 60 := by
    have hc : i4 = 0 ∨ i4 = 1 ∨ i4 = 2 := by omega
    rcases hc with rfl | rfl | rfl
    · exact ⟨show (6 : Int) + 8 ≤ _ by omega, by decide, by decide, by show (0 : Int) ≤ 8; decide, by show (8 : Int) ≤ 60; decide⟩
    · exact ⟨show (14 : Int) + 4 ≤ _ by omega, by decide, by decide, by show (0 : Int) ≤ 4; decide, by show (4 : Int) ≤ 60; decide⟩
    · exact ⟨show (18 : Int) + sizF _ _ ≤ _ by exact Int.le_refl _, by decide, by decide, hs0.1, hs0.2⟩
  have to : ∀ E : Int, E = 18 + sizF (recs l1) i3.toNat → ((14 : Int) :: ((18 : Int) :: (E :: ([] : List Int)))).getD i4.toNat 0 = offF i4 + widF (recs l1) i3.toNat i4 := by
    intro E hE
    have hc : i4 = 0 ∨ i4 = 1 ∨ i4 = 2 := by omega
    rcases hc with rfl | rfl | rfl
    · rfl
    · rfl
    · show E = 18 + sizF _ _
      exact hE
  refine ⟨fun c6 => ?_, fun c6 => ?_⟩
  · have hw1 : IntKind.wrap .i64 (i3 - (1 : Int)) = i3 - 1 := i64w (by omega) (by omega)
    rw [hw1]
    refine ⟨by omega, fun k1 => ⟨by omega, fun k2 v11 => ⟨c3, fun k3 => ⟨?_, fun k4 => ⟨by clear k4; omega, fun k5 => ⟨by clear k4; omega, fun k6 v12 => ⟨?_, fun k7 => ?_⟩⟩⟩⟩⟩⟩⟩
    · show i4 < 3; omega
    · show i4 < 3; omega
    clear k1 k2 k3 k4 k5 k6 k7
    have hbeg : z9.getD (i3 - 1).toNat 0 = begF (recs l1) i3.toNat := by
      rw [ez, ends_get _ _ _ (by omega), show (i3 - 1).toNat + 1 = i3.toNat from by omega]; unfold begF; omega
    rw [hbeg, hend, i64w (x := begF (recs l1) i3.toNat + 18 + sizF (recs l1) i3.toNat - begF (recs l1) i3.toNat) (by omega) (by omega), to _ (by omega), off,
      i64w (x := begF (recs l1) i3.toNat + (offF i4 + widF (recs l1) i3.toNat i4)) (by omega) (by omega), i64w (x := begF (recs l1) i3.toNat + offF i4) (by omega) (by omega),
      i64w (x := begF (recs l1) i3.toNat + (offF i4 + widF (recs l1) i3.toNat i4) - (begF (recs l1) i3.toNat + offF i4)) (by omega) (by omega),
      show begF (recs l1) i3.toNat + (offF i4 + widF (recs l1) i3.toNat i4) - (begF (recs l1) i3.toNat + offF i4) = widF (recs l1) i3.toNat i4 from by omega, i64w (x := 8 * widF (recs l1) i3.toNat i4) (by omega) (by omega)]
    have bg0 : True := trivial
    refine ⟨fun _ => ⟨trivial, aw⟩, fun h26 v13 => ?_⟩
    refine ⟨⟨by decide, by decide, ⟨by rw [bs], fun i hi => ?_⟩, ?_⟩, ?_⟩
    · rw [bs]
      have : ¬ (8 * (begF (recs l1) i3.toNat + offF i4) + i5 ≤ (i : Int) ∧ (i : Int) - (8 * (begF (recs l1) i3.toNat + offF i4) + i5) < 0 ∧ (i : Int) - (8 * (begF (recs l1) i3.toNat + offF i4) + i5) < 8 * widF (recs l1) i3.toNat i4 - i5) := by omega
      rw [decide_eq_false this]; simp
    · constructor
      · intro h; cases h
      · rintro ⟨j, hj, _⟩; omega
    intro b14 i15 z16 k27 k28 k29
    obtain ⟨x1, x2, x3, x4⟩ : 0 ≤ i15 ∧ i15 ≤ 32 ∧ bentAt (laidB i2 (recs l1)) z16 (8 * (begF (recs l1) i3.toNat + offF i4) + i5) i15 (8 * widF (recs l1) i3.toNat i4 - i5) i6 ∧
        (b14 = true ↔ ∃ j : Nat, (j : Int) < i15 ∧ bt i6 j = true ∧ (j : Int) < 8 * widF (recs l1) i3.toNat i4 - i5) := k29
    have hz16 : has8 z16 := fun x hx => has_in.1 (k28 x hx)
    have zl : z16.length = lenL (recs l1) := by rw [x3.1, laidB_len]
    have fin : (i15 = 32 ∨ 8 * widF (recs l1) i3.toNat i4 - i5 ≤ i15) → FScan.sig.pre [(D.S (textOf z16)), (D.I i2)] ∧ ∀ (v17 : Value) (l18 : List D) (i19 : Int), FScan.sig.post [(D.S (textOf z16)), (D.I i2), (D.V v17), (D.L l18), (D.I i19)] →
        (b14 = false → i19 = ((s7.size : Nat) : Int)) ∧ (b14 = true → ((l18.length : Nat) : Int) = i3 ∧ i19 = begF (recs l1) i3.toNat) := by
      intro hx
      refine ⟨by show (textOf z16).size ≤ 1000000000; rw [size_textOf]; omega, ?_⟩
      intro v17 l18 i19 hp
      have hp : l18 = txts (scanF (bytesOf (textOf z16)) i2).1 ∧ i19 = (scanF (bytesOf (textOf z16)) i2).2 := hp
      rw [bytesOf_textOf hz16] at hp
      have xa := bentAt_all (m := 8 * widF (recs l1) i3.toNat i4 - i5) x3 (by omega)
      constructor
      · intro hb
        have hn : ∀ j : Nat, (j : Int) < i15 → (j : Int) < 8 * widF (recs l1) i3.toNat i4 - i5 → bt i6 j = false := by
          intro j j1 j2
          cases hbt : bt i6 j with
          | false => rfl
          | true => rw [x4.2 ⟨j, j1, hbt, j2⟩] at hb; cases hb
        have e := bentAt_none (laidB_has _ _) hz16 (by omega) x3 hn
        rw [e, scan_whole h1] at hp
        rw [hp.2, es, size_textOf, laidB_len]
      · intro hb
        obtain ⟨j, j1, j2, j3⟩ := x4.1 hb
        have e := scan_bent h1 hw ⟨by omega, by omega⟩ (by omega) (by omega) hz16 xa ⟨j, by omega, j2, j3⟩
        rw [e] at hp
        refine ⟨?_, hp.2⟩
        rw [hp.1, txts_len, cuts, List.length_map, List.length_take, Nat.min_eq_left (Nat.le_of_lt hw)]; exact Int.toNat_of_nonneg c1
    refine ⟨?_, ?_⟩
    · intro k30
      rw [i64w (x := i5 + i15) (by omega) (by omega)]
      refine ⟨?_, ?_⟩
      · intro k31
        refine ⟨x1, fun _ => ?_⟩
        rw [bit_test h5 ⟨x1, by omega⟩, i64w (x := i15 + 1) (by omega) (by omega)]
        have less : ∀ b z, LFBent.I0M [(D.V v0), (D.L l1), (D.I i2), (D.I i3), (D.I i4), (D.I i5), (D.I i6), (D.B b), (D.I (i15 + 1)), (D.Z z)] < LFBent.I0M [(D.V v0), (D.L l1), (D.I i2), (D.I i3), (D.I i4), (D.I i5), (D.I i6), (D.B b14), (D.I i15), (D.Z z16)] := by
          intro b z
          show (32 - (i15 + 1)).toNat < (32 - i15).toNat
          omega
        have ediv : Int.tdiv (i5 + i15) 8 = (i5 + i15) / 8 := Int.tdiv_eq_ediv_of_nonneg (by omega)
        have emod : Int.tmod (i5 + i15) 8 = (i5 + i15) % 8 := Int.tmod_eq_emod_of_nonneg (by omega)
        rw [ediv, emod, i64w (x := (i5 + i15) / 8) (by omega) (by omega), i64w (x := begF (recs l1) i3.toNat + offF i4 + (i5 + i15) / 8) (by omega) (by omega)]
        refine ⟨?_, ?_⟩
        · intro k33
          have hb1 : bt i6 i15.toNat = true := b2i_inj (b := true) k33
          refine ⟨by omega, fun _ => ⟨by omega, fun _ => ⟨by omega, fun _ => ⟨⟨by omega, by omega, ?_, ?_⟩, less _ _⟩⟩⟩⟩
          · exact bentAt_flip hz16 (by omega) (by omega) x1 (by omega) x3 hb1 (by omega)
          · exact ⟨fun _ => ⟨i15.toNat, by omega, hb1, by omega⟩, fun _ => rfl⟩
        · intro k33
          have hb0 : bt i6 i15.toNat = false := by
            cases hb : bt i6 i15.toNat with
            | false => rfl
            | true => rw [hb] at k33; exact absurd rfl k33
          refine ⟨⟨by omega, by omega, bentAt_keep (by omega) x1 x3 hb0, ?_⟩, less _ _⟩
          rw [x4]
          constructor
          · rintro ⟨j, g1, g2, g3⟩; exact ⟨j, by omega, g2, g3⟩
          · rintro ⟨j, g1, g2, g3⟩
            refine ⟨j, ?_, g2, g3⟩
            apply Classical.byContradiction
            intro hne
            have hj : j = i15.toNat := by omega
            rw [hj, hb0] at g2; cases g2
      · intro k31
        have f := fin (.inr (by omega))
        refine ⟨f.1, ?_⟩
        intro v17 l18 i19 k32 _ _
        have g := f.2 v17 l18 i19 k32
        refine ⟨fun hb => ⟨trivial, fun b20 k36 => ⟨fun _ => yesB (l := [_, _, _, _, _, _, _]) (by rw [g.1 hb]; simp), fun h => (by rw [awake06 k36] at h; cases h)⟩⟩, fun hb => ⟨trivial, fun b20 k36 => ⟨fun _ => ⟨fun _ => yesB (l := [_, _, _, _, _, _, _]) (by rw [(g.2 hb).2]; simp [bg0]), fun h => absurd (g.2 hb).1 h⟩, fun h => (by rw [awake06 k36] at h; cases h)⟩⟩⟩
    · intro k30
      have f := fin (.inl (by omega))
      refine ⟨f.1, ?_⟩
      intro v17 l18 i19 k32 _ _
      have g := f.2 v17 l18 i19 k32
      refine ⟨fun hb => ⟨trivial, fun b20 k36 => ⟨fun _ => yesB (l := [_, _, _, _, _, _, _]) (by rw [g.1 hb]; simp), fun h => (by rw [awake06 k36] at h; cases h)⟩⟩, fun hb => ⟨trivial, fun b20 k36 => ⟨fun _ => ⟨fun _ => yesB (l := [_, _, _, _, _, _, _]) (by rw [(g.2 hb).2]; simp [bg0]), fun h => absurd (g.2 hb).1 h⟩, fun h => (by rw [awake06 k36] at h; cases h)⟩⟩⟩
  · intro v11
    refine ⟨c3, fun k3 => ⟨?_, fun k4 => ⟨by clear k4; omega, fun k5 => ⟨by clear k4; omega, fun k6 v12 => ⟨?_, fun k7 => ?_⟩⟩⟩⟩⟩
    · show i4 < 3; omega
    · show i4 < 3; omega
    clear k3 k4 k5 k6 k7
    have bg0 : begF (recs l1) i3.toNat = 0 := by
      rw [show i3.toNat = 0 from by omega]; rfl
    have z1 : (0 : Int) + offF i4 = begF (recs l1) i3.toNat + offF i4 := by omega
    have z2 : (0 : Int) + (offF i4 + widF (recs l1) i3.toNat i4) = begF (recs l1) i3.toNat + (offF i4 + widF (recs l1) i3.toNat i4) := by omega
    rw [hend, i64w (x := begF (recs l1) i3.toNat + 18 + sizF (recs l1) i3.toNat - 0) (by omega) (by omega), to _ (by omega), off, z1, z2,
      i64w (x := begF (recs l1) i3.toNat + (offF i4 + widF (recs l1) i3.toNat i4)) (by omega) (by omega), i64w (x := begF (recs l1) i3.toNat + offF i4) (by omega) (by omega),
      i64w (x := begF (recs l1) i3.toNat + (offF i4 + widF (recs l1) i3.toNat i4) - (begF (recs l1) i3.toNat + offF i4)) (by omega) (by omega),
      show begF (recs l1) i3.toNat + (offF i4 + widF (recs l1) i3.toNat i4) - (begF (recs l1) i3.toNat + offF i4) = widF (recs l1) i3.toNat i4 from by omega, i64w (x := 8 * widF (recs l1) i3.toNat i4) (by omega) (by omega)]
    refine ⟨fun _ => ⟨trivial, aw⟩, fun h26 v13 => ?_⟩
    refine ⟨⟨by decide, by decide, ⟨by rw [bs], fun i hi => ?_⟩, ?_⟩, ?_⟩
    · rw [bs]
      have : ¬ (8 * (begF (recs l1) i3.toNat + offF i4) + i5 ≤ (i : Int) ∧ (i : Int) - (8 * (begF (recs l1) i3.toNat + offF i4) + i5) < 0 ∧ (i : Int) - (8 * (begF (recs l1) i3.toNat + offF i4) + i5) < 8 * widF (recs l1) i3.toNat i4 - i5) := by omega
      rw [decide_eq_false this]; simp
    · constructor
      · intro h; cases h
      · rintro ⟨j, hj, _⟩; omega
    intro b14 i15 z16 k27 k28 k29
    obtain ⟨x1, x2, x3, x4⟩ : 0 ≤ i15 ∧ i15 ≤ 32 ∧ bentAt (laidB i2 (recs l1)) z16 (8 * (begF (recs l1) i3.toNat + offF i4) + i5) i15 (8 * widF (recs l1) i3.toNat i4 - i5) i6 ∧
        (b14 = true ↔ ∃ j : Nat, (j : Int) < i15 ∧ bt i6 j = true ∧ (j : Int) < 8 * widF (recs l1) i3.toNat i4 - i5) := k29
    have hz16 : has8 z16 := fun x hx => has_in.1 (k28 x hx)
    have zl : z16.length = lenL (recs l1) := by rw [x3.1, laidB_len]
    have fin : (i15 = 32 ∨ 8 * widF (recs l1) i3.toNat i4 - i5 ≤ i15) → FScan.sig.pre [(D.S (textOf z16)), (D.I i2)] ∧ ∀ (v17 : Value) (l18 : List D) (i19 : Int), FScan.sig.post [(D.S (textOf z16)), (D.I i2), (D.V v17), (D.L l18), (D.I i19)] →
        (b14 = false → i19 = ((s7.size : Nat) : Int)) ∧ (b14 = true → ((l18.length : Nat) : Int) = i3 ∧ i19 = begF (recs l1) i3.toNat) := by
      intro hx
      refine ⟨by show (textOf z16).size ≤ 1000000000; rw [size_textOf]; omega, ?_⟩
      intro v17 l18 i19 hp
      have hp : l18 = txts (scanF (bytesOf (textOf z16)) i2).1 ∧ i19 = (scanF (bytesOf (textOf z16)) i2).2 := hp
      rw [bytesOf_textOf hz16] at hp
      have xa := bentAt_all (m := 8 * widF (recs l1) i3.toNat i4 - i5) x3 (by omega)
      constructor
      · intro hb
        have hn : ∀ j : Nat, (j : Int) < i15 → (j : Int) < 8 * widF (recs l1) i3.toNat i4 - i5 → bt i6 j = false := by
          intro j j1 j2
          cases hbt : bt i6 j with
          | false => rfl
          | true => rw [x4.2 ⟨j, j1, hbt, j2⟩] at hb; cases hb
        have e := bentAt_none (laidB_has _ _) hz16 (by omega) x3 hn
        rw [e, scan_whole h1] at hp
        rw [hp.2, es, size_textOf, laidB_len]
      · intro hb
        obtain ⟨j, j1, j2, j3⟩ := x4.1 hb
        have e := scan_bent h1 hw ⟨by omega, by omega⟩ (by omega) (by omega) hz16 xa ⟨j, by omega, j2, j3⟩
        rw [e] at hp
        refine ⟨?_, hp.2⟩
        rw [hp.1, txts_len, cuts, List.length_map, List.length_take, Nat.min_eq_left (Nat.le_of_lt hw)]; exact Int.toNat_of_nonneg c1
    refine ⟨?_, ?_⟩
    · intro k30
      rw [i64w (x := i5 + i15) (by omega) (by omega)]
      refine ⟨?_, ?_⟩
      · intro k31
        refine ⟨x1, fun _ => ?_⟩
        rw [bit_test h5 ⟨x1, by omega⟩, i64w (x := i15 + 1) (by omega) (by omega)]
        have less : ∀ b z, LFBent.I0M [(D.V v0), (D.L l1), (D.I i2), (D.I i3), (D.I i4), (D.I i5), (D.I i6), (D.B b), (D.I (i15 + 1)), (D.Z z)] < LFBent.I0M [(D.V v0), (D.L l1), (D.I i2), (D.I i3), (D.I i4), (D.I i5), (D.I i6), (D.B b14), (D.I i15), (D.Z z16)] := by
          intro b z
          show (32 - (i15 + 1)).toNat < (32 - i15).toNat
          omega
        have ediv : Int.tdiv (i5 + i15) 8 = (i5 + i15) / 8 := Int.tdiv_eq_ediv_of_nonneg (by omega)
        have emod : Int.tmod (i5 + i15) 8 = (i5 + i15) % 8 := Int.tmod_eq_emod_of_nonneg (by omega)
        rw [ediv, emod, i64w (x := (i5 + i15) / 8) (by omega) (by omega), i64w (x := begF (recs l1) i3.toNat + offF i4 + (i5 + i15) / 8) (by omega) (by omega)]
        refine ⟨?_, ?_⟩
        · intro k33
          have hb1 : bt i6 i15.toNat = true := b2i_inj (b := true) k33
          refine ⟨by omega, fun _ => ⟨by omega, fun _ => ⟨by omega, fun _ => ⟨⟨by omega, by omega, ?_, ?_⟩, less _ _⟩⟩⟩⟩
          · exact bentAt_flip hz16 (by omega) (by omega) x1 (by omega) x3 hb1 (by omega)
          · exact ⟨fun _ => ⟨i15.toNat, by omega, hb1, by omega⟩, fun _ => rfl⟩
        · intro k33
          have hb0 : bt i6 i15.toNat = false := by
            cases hb : bt i6 i15.toNat with
            | false => rfl
            | true => rw [hb] at k33; exact absurd rfl k33
          refine ⟨⟨by omega, by omega, bentAt_keep (by omega) x1 x3 hb0, ?_⟩, less _ _⟩
          rw [x4]
          constructor
          · rintro ⟨j, g1, g2, g3⟩; exact ⟨j, by omega, g2, g3⟩
          · rintro ⟨j, g1, g2, g3⟩
            refine ⟨j, ?_, g2, g3⟩
            apply Classical.byContradiction
            intro hne
            have hj : j = i15.toNat := by omega
            rw [hj, hb0] at g2; cases g2
      · intro k31
        have f := fin (.inr (by omega))
        refine ⟨f.1, ?_⟩
        intro v17 l18 i19 k32 _ _
        have g := f.2 v17 l18 i19 k32
        refine ⟨fun hb => ⟨trivial, fun b20 k36 => ⟨fun _ => yesB (l := [_, _, _, _, _, _, _]) (by rw [g.1 hb]; simp), fun h => (by rw [awake06 k36] at h; cases h)⟩⟩, fun hb => ⟨trivial, fun b20 k36 => ⟨fun _ => ⟨fun _ => yesB (l := [_, _, _, _, _, _, _]) (by rw [(g.2 hb).2]; simp [bg0]), fun h => absurd (g.2 hb).1 h⟩, fun h => (by rw [awake06 k36] at h; cases h)⟩⟩⟩
    · intro k30
      have f := fin (.inl (by omega))
      refine ⟨f.1, ?_⟩
      intro v17 l18 i19 k32 _ _
      have g := f.2 v17 l18 i19 k32
      refine ⟨fun hb => ⟨trivial, fun b20 k36 => ⟨fun _ => yesB (l := [_, _, _, _, _, _, _]) (by rw [g.1 hb]; simp), fun h => (by rw [awake06 k36] at h; cases h)⟩⟩, fun hb => ⟨trivial, fun b20 k36 => ⟨fun _ => ⟨fun _ => yesB (l := [_, _, _, _, _, _, _]) (by rw [(g.2 hb).2]; simp [bg0]), fun h => absurd (g.2 hb).1 h⟩, fun h => (by rw [awake06 k36] at h; cases h)⟩⟩⟩

end Go.Vc
