/- Walks of the second program: insert, mer -/
import Derived.Test.YtakbihknkdpmgaaGreatDoorLA
import Derived.Test.YtakbihknkdpmgaaGreatDoorKB
import Derived.Test.YtakbihknkdpmgaaGreatDoorKQ
set_option linter.all false
open Nat renaming reduceEqDiff → zE,reduceAdd → zA
namespace Go.Proofs.Tryz
open Go Go.Iv
set_option maxRecDepth 4000
variable (gl:Nat->Option IV)
def L3 (op:Nat)(n:ByteArray)(t G:Tag)(E ys:List IV)(st:ISt) :
  ICall prog gl 204 [.agg [.raw (.int .u8 op),n,.sl t E,.sl G ys]] st (λx st'=>x=(isQ op:Bool)/\st'=st):=by
 refine iI func204 ?_;by_cases D:op=8
 ·simp only[go_sem,zE,zA,show decide ((op:Int)=8)=true from dEt (by omega)];exact c_ ⟨by simp[isQ,D],rfl⟩
 ·have d8:decide ((op:Int)=8)=false:=dEf (by omega);by_cases A:op=9
  ·simp only[go_sem,zE,zA,d8,show decide ((op:Int)=9)=true from dEt (by omega)];exact c_ ⟨by simp[isQ,A],rfl⟩
  ·simp only[go_sem,zE,zA,d8,show decide ((op:Int)=9)=false from dEf (by omega)];exact c_ ⟨by simp[isQ,D,A],rfl⟩
