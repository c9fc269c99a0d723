/- Names for parts of a function's code and for states, in which the printed equations are said. -/
import Derived.Test.YtmkhglpfhnocaaaEvB
import Derived.Laws.Externs
namespace Go.Proofs.Ytmkhglpfhnocaaa.Ev
open Go Go.RowKit

/-- A part of a piece of code: false goes to the first part, true to the second. -/
def sub : Code → List Bool → Code
  | c, [] => c
  | .seq a b, x :: l => bif x then sub b l else sub a l
  | .cond _ a b, x :: l => bif x then sub b l else sub a l
  | .block _ c, _ :: l => sub c l
  | .loop c, _ :: l => sub c l
  | c, _ :: _ => c

def findV (t : Nat) : List (Nat × V) → V
  | [] => .unk
  | (i, v) :: l => bif Nat.beq i t then v else findV t l
def findB (t : Nat) : List (Nat × Blk) → Blk
  | [] => .gone
  | (i, v) :: l => bif Nat.beq i t then v else findB t l
/-- A state told by what is known in it, of n temporaries. -/
def stOf (n : Nat) (ts : List (Nat × V)) (hs : List (Nat × Blk)) : St := ⟨(List.range n).map fun i => findV i ts, (List.range n).map fun i => findB i hs⟩
def stOfX (n m : Nat) (ts : List (Nat × V)) (hs : List (Nat × Blk)) : St := ⟨(List.range n).map fun i => findV i ts, (List.range m).map fun i => findB i hs⟩
def liveOf : List (Nat × Keep) → Nat → Option Keep
  | [], _ => none
  | (i, k) :: l, j => bif Nat.beq i j then some k else liveOf l j
/-! ### words -/
def cat {α : Type} (n : Nat) (f g : Nat → α) (i : Nat) : α := bif Nat.blt i n then f i else g (i - n)
def mx (a b : Int) : Int := if b > a then b else a
def mn (a b : Int) : Int := if b < a then b else a
def shl (k : IntKind) (x y : Int) : Int := k.wrap (x * 2 ^ min y.toNat k.bits)
def shr (k : IntKind) (x y : Int) : Int := x.fdiv (2 ^ min y.toNat k.bits)
end Go.Proofs.Ytmkhglpfhnocaaa.Ev
