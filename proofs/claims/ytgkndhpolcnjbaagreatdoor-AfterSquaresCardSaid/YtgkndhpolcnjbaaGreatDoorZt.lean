/- Several texts in one: PinsAB. -/

import Derived.Test.YtgkndhpolcnjbaaGreatDoorZh
namespace Go.Proofs.YtgkndhpolcnjbaaGreatDoor
open Go.RowKit
end Go.Proofs.YtgkndhpolcnjbaaGreatDoor
namespace Go.Proofs.YtgkndhpolcnjbaaGreatDoor
open Go.RowKit
namespace N
def fst (c : Nat → Int) (k : Int) (d : Nat) : BitVec 64 := bAnd (L.dir k d (S.all c)) (S.all c)
def lin (c : Nat → Int) (k : Int) (d : Nat) : BitVec 64 := L.dir k d (bAndn (S.all c) (fst c k d))
def byS (c : Nat → Int) (k : Int) (d : Nat) : BitVec 64 := bAndn (bAnd (lin c k d) (S.all c)) (fst c k d)
def goes (kind : Int) (d : Nat) : Bool := kind == 5 || (d % 2 == 0 && kind == 4 || d % 2 == 1 && kind == 3)
def pinB (c : Nat → Int) (color k : Int) (d : Nat) : Bool :=
  U (bAnd (fst c k d) (S.of c color 0)) != 0 && (U (byS c k d) != 0 && (U (bAnd (byS c k d) (S.of c color 0)) == 0 && goes (P.kind (c (1 + (B.first (byS c k d)).toNat))) d))
def res (c : Nat → Int) (color k : Int) (d : Nat) : Option (Int × Int × BitVec 64) :=
  if pinB c color k d = true then some (B.first (fst c k d), B.first (byS c k d), lin c k d) else none
end N
end Go.Proofs.YtgkndhpolcnjbaaGreatDoor
