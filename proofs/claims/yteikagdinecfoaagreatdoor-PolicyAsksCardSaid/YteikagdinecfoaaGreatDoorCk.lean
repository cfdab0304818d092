/- What Check says of a policy: plain data, no program. -/
import Derived.Test.YteikagdinecfoaaGreatDoorTh
import Derived.Test.YteikagdinecfoaaGreatDoorLk
import Derived.Test.YteikagdinecfoaaGreatDoorRo
import Derived.Test.YteikagdinecfoaaGreatDoorIn
set_option linter.unusedVariables false
namespace Go.Proofs.YteikagdinecfoaaGreatDoor.Ck
open Go.RowKit Lb Gr Pd Go.Proofs.YteikagdinecfoaaGreatDoor.Th Go.Proofs.YteikagdinecfoaaGreatDoor.Lk Go.Proofs.YteikagdinecfoaaGreatDoor.Ro Is

/-- may an element be allowed -/
def inA (s : ByteArray) : Bool := inS s 15
def tagB (s : ByteArray) : Bool := wrt false s.data.toList
def closedB (l : List ElD) : Bool := l.all fun e => (needsL e.name).all fun n => hasE l n
def schOk (l : List ByteArray) : Bool := onceFrom schemeB [] l
def dropOk (p : PolD) : Bool := onceFrom (fun n => tagB n && !hasE p.els n) [] p.drop
def limOk (p : PolD) : Bool := decide (1 ≤ p.depth) && decide (p.depth ≤ 512) && decide (16 ≤ p.window) && decide (p.window ≤ 1048576) && decide (w64 (thingsN p) ≤ 1000)
def elsI (p : PolD) : Int := elsFrom inA [] p.els
def globI (p : PolD) : Int := if rulesB p.glob then 0 else 141
def closI (p : PolD) : Int := if closedB p.els then 0 else 142
def schI (p : PolD) : Int := if schOk p.schemes then 0 else 143
def dropI (p : PolD) : Int := if dropOk p then 0 else 140
def limI (p : PolD) : Int := if limOk p then 0 else 144
def firstI : List Int → Int
  | [] => 0
  | x :: r => if x = 0 then firstI r else x
def checkI (p : PolD) : Int := firstI [elsI p, globI p, closI p, schI p, dropI p, limI p]
/-- what a policy's lists must not pass, to be looked through -/
def OkE (l : List ElD) : Prop := l.length ≤ 9223372036854775807 ∧ ∀ i (h : i < l.length), OkR l[i].rules
def OkT (l : List ByteArray) : Prop := l.length ≤ 9223372036854775807 ∧ ∀ i (h : i < l.length), l[i].size ≤ maxLen
def OkP (p : PolD) : Prop := OkE p.els ∧ OkR p.glob ∧ OkT p.schemes ∧ OkT p.drop
end Go.Proofs.YteikagdinecfoaaGreatDoor.Ck
