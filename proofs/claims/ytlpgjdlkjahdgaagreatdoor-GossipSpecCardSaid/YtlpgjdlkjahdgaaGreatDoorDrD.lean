/- the digests of a directory, plainly; no program -/
import Derived.Test.YtlpgjdlkjahdgaaGreatDoorShaPlain
namespace Go.Dr
structure Lst where
  dev : Int
  ver : Int
  leaf : Int
  vers : Int
  gone : Bool
def num8 (n : Int) : List Nat := Sha.be 8 (n % 18446744073709551616).toNat
def noneD (dev : Int) : List Nat := Sha.tagged [101, 109, 112, 116, 121] (num8 dev)
def listD (x : Lst) : List Nat := Sha.tagged [108, 105, 115, 116, 105, 110, 103] (num8 x.dev ++ num8 x.ver ++ num8 x.leaf ++ num8 x.vers ++ [if x.gone then 1 else 0])
def pairD (a b : List Nat) : List Nat := Sha.tagged [112, 97, 105, 114] (a ++ b)
def ofL (l : List Lst) (dev : Int) : Option Lst := l.find? (fun x => decide (x.dev = dev))
def leafD (l : List Lst) (dev : Int) : List Nat := match ofL l dev with | some x => listD x | none => noneD dev
/-- the digest of a node that stands d steps above the leaves. -/
def nodeD (l : List Lst) : Nat → Nat → List Nat
  | 0, n => leafD l ((n : Int) - 512)
  | d + 1, n => pairD (nodeD l d (2 * n)) (nodeD l d (2 * n + 1))
def rootD (l : List Lst) : List Nat := nodeD l 9 1
end Go.Dr
