/- The operations on data that the typed machine's answers are made of. -/
import Derived.Test.YtkafcpbbcpngdaaTx
namespace Go.Ve
@[reducible] def bcond {α : Type} (b : Bool) (x y : α) : α := bif b then x else y
@[reducible] def obind {α β : Type} (o : Option α) (f : α → Option β) : Option β := o.bind f
@[reducible] def oif {α : Type} (p : Prop) (dec : Decidable p) (x : Option α) : Option α := @ite _ p dec x none
@[reducible] def nif {α : Type} (a b : Nat) (x y : α) : α := if a = b then x else y
@[reducible] def getX {α : Type} (xs : List α) (i : Nat) (d : α) : α := xs.getD i d
@[reducible] def setX {α : Type} (xs : List α) (i : Nat) (x : α) : List α := xs.set i x
@[reducible] def lenX {α : Type} (xs : List α) : Nat := xs.length
@[reducible] def repX {α : Type} (n : Nat) (x : α) : List α := List.replicate n x
@[reducible] def dropX {α : Type} (n : Nat) (xs : List α) : List α := xs.drop n
@[reducible] def takeX {α : Type} (n : Nat) (xs : List α) : List α := xs.take n
@[reducible] def sizeS (s : ByteArray) : Nat := s.size
@[reducible] def catS (a b : ByteArray) : ByteArray := a ++ b
@[reducible] def cutS (s : ByteArray) (a b : Nat) : ByteArray := s.extract a b
@[reducible] def idxS (s : ByteArray) (i : Nat) : Int := ((s.data.toList.getD i 0).toNat : Int)
@[reducible] def andB (a b : Bool) : Bool := a && b
@[reducible] def eqB (a b : Bool) : Bool := a == b
@[reducible] def notB (b : Bool) : Bool := !b
@[reducible] def eqI (a b : Int) : Bool := decide (a = b)
@[reducible] def neI (a b : Int) : Bool := !decide (a = b)
@[reducible] def ltI (a b : Int) : Bool := decide (a < b)
@[reducible] def leI (a b : Int) : Bool := decide (a ≤ b)
@[reducible] def eqS (a b : ByteArray) : Bool := decide (a.data.toList = b.data.toList)
@[reducible] def neS (a b : ByteArray) : Bool := !decide (a.data.toList = b.data.toList)
@[reducible] def ltS (a b : ByteArray) : Bool := Op.bytesLess a.data.toList b.data.toList
@[reducible] def minI (x y : Int) : Int := if y < x then y else x
@[reducible] def maxI (x y : Int) : Int := if x < y then y else x
@[reducible] def ofN (n : Nat) : Int := n
@[reducible] def natI (n : Int) : Nat := n.toNat
@[reducible] def catX {α : Type} (xs ys : List α) : List α := xs ++ ys
end Go.Ve
