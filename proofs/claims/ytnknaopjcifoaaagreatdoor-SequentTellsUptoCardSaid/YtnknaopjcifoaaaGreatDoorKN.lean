/- Walks of the second program: decimal, Fr -/
import Derived.Test.YtnknaopjcifoaaaGreatDoorKM
set_option linter.all false
open Nat renaming reduceEqDiff → zE,reduceAdd → zA,reduceMul → zM,reduceLeDiff → zL
namespace Go.Proofs.Tryz
open Go Go.Iv
set_option maxRecDepth 4000
variable (gl:Nat->Option IV)
def RD (n:Nat):Prop:=n<=9223372036854775000->∀(st:ISt),ICall prog gl 262 [.raw (.int .i64 n)] st (λr st'=>r=.raw (.string ⟨(Lib.decDigits n).toArray⟩)/\st'=st)
theorem wU6 (n:Nat)(hn:n<=9223372036854775000):(if (10:Int)=0 then none else some (Value.int .i64 (((n:Nat):Int).tmod 10)))=some (Value.int .i64 ((n%10:Nat):Int)):=by
 rw[if_neg (by decide),show (((n:Nat):Int).tmod 10)=((n%10:Nat):Int) from rfl]
theorem wU7 (n:Nat)(hn:n<=9223372036854775000):(if (10:Int)=0 then none else some (Value.int .i64 (IntKind.i64.wrap (((n:Nat):Int).tdiv 10))))=some (Value.int .i64 ((n / 10:Nat):Int)):=by
 rw[if_neg (by decide),show (((n:Nat):Int).tdiv 10)=((n / 10:Nat):Int) from rfl,w64]<;>omega
theorem xZ3 (n:Nat)(IH:∀m,m<n->RD gl m):RD gl n:=by
 intro hn st;have e0:(#[]:Array UInt8).size<=281474976710656:=by decide
 refine iI func262 ?_;simp only[go_sem,zM,zL,reduceCtorEq,e0];rw[wU6 n hn];obtain⟨d,hd⟩:∃d:UInt8,d=UInt8.ofNat (48+n%10):=⟨_,rfl⟩
 have hadd:IntKind.i64.wrap (48+((n%10:Nat):Int))=((48+n%10:Nat):Int):=by rw[w64]<;>omega
 have hdn:d.toNat=48+n%10:=by rw[hd,UInt8.toNat_ofNat'];omega
 have hu:IntKind.u8.wrap ((48+n%10:Nat):Int)=((d.toNat:Nat):Int):=by
  rw[hdn];exact IntWalk.u8_in _ (by omega)
 have i3:intK prog 3=some .i64:=by kernel_rfl
 have i5:intK prog 5=some .u8:=by kernel_rfl
 have hconv:=xZ5 prog 3 5 i3 i5 .i64 ((48+n%10:Nat):Int);rw[hu] at hconv;have hbd:((some [d]).bind λl=>if l=[] then none else some (IV.raw (Value.string ⟨l.toArray⟩)))=some (IV.raw (Value.string ⟨[d].toArray⟩)):=by simp
 simp only[go_sem,reduceCtorEq,fits,hadd,hconv,hbd,yQ2];by_cases h10:n<10
 ·simp only[go_sem,zE,show decide (((n:Nat):Int)<10)=true from dEt (by omega)];refine yQ0 ⟨?_,rfl⟩;rw[Lib.decDigits,dif_pos h10,hd,Nat.mod_eq_of_lt h10]
 ·simp only[go_sem,zA,reduceCtorEq,show decide (((n:Nat):Int)<10)=false from dEf (by omega)];rw[wU7 n hn];simp only[go_sem];refine (IH (n / 10) (by omega) (by omega) _).mono ?_;rintro _ st ⟨rfl,rfl⟩;simp only[go_sem,zE];have hsz:(Lib.decDigits (n / 10)).toArray.size+#[d].size<=281474976710656:=by
   have h1:=yWp 18 (n / 10) (by omega);simp only[List.size_toArray,Lib.decDigits_length,List.length_cons,List.length_nil];omega
  have happ:(⟨(Lib.decDigits (n / 10)).toArray⟩:ByteArray)++⟨#[d]⟩=⟨(Lib.decDigits n).toArray⟩:=by
   refine zKt ?_;rw[ByteArray.data_append]
   conv=>rhs;rw[Lib.decDigits,dif_neg h10]
   simp[hd]
  simp only[go_sem,hsz,happ];exact yQ0 ⟨rfl,rfl⟩
theorem zKi:∀(n:Nat),RD gl n:=by
 intro n
 induction n using Nat.strongRecOn with
 | ind n IH=>exact xZ3 gl n (λm hm=>IH m hm)
theorem wJx (tg:Tag)(htg:okEs tg 1)(l:List ByteArray)(hl:l.length<=1099511627776)(st:ISt) :
  ICall prog gl 248 [.sl tg (strI l)] st (λr st'=>r=.raw (.string (yJn l))/\st'=st):=by
 obtain⟨s1,s2,s3,s4⟩:=yY7 l;have e0:(#[]:Array UInt8).size<=281474976710656:=by decide
 have e1:(#[120]:Array UInt8).size<=281474976710656:=by decide
 have hcat:∀n:Nat,n<=2199023255552->(#[120]:Array UInt8).size+(Lib.decDigits n).toArray.size<=281474976710656:=λn hn=>by
  have h1:=yWp 18 n (by omega);simp only[List.size_toArray,Lib.decDigits_length,List.length_cons,List.length_nil];omega
 refine iI func248 ?_;simp only[go_sem,e0];refine LoopC.ctr (yKe l-1) (λk fr st' ds=>fr 0=.iv (.sl tg (strI l))/\fr 3=.iv (.raw (.int .i64 ((k+1:Nat):Int)))/\st'=st/\ds=[]) ?_ ?_ ?_
 ·simp only[go_sem,reduceCtorEq];rfl
 ·rintro k fr st _ hlt ⟨f0,f3,rfl,rfl⟩;have hc:=hcat (k+1) (by omega);have hw:IntKind.i64.wrap (((k+1:Nat):Int)+1)=((k+1+1:Nat):Int):=by rw[w64]<;>omega
  simp only[go_sem,zE,zA,f0,f3];refine (zKi gl (k+1) (by omega) _).mono ?_;rintro _ st ⟨rfl,rfl⟩;simp only[go_sem,zE,zA,e1,hc,yUr];refine (xGm gl tg l _ htg (by omega) _).mono ?_;rintro _ st ⟨rfl,rfl⟩;have hh:hasB l (yVk (k+1))=true:=zK4.2 (s4 (k+1) (by omega) (by omega));simp only[go_sem,zE,reduceCtorEq,f0,f3,hh,hw]
 ·rintro fr st _ ⟨f0,f3,rfl,rfl⟩;rw[show yKe l-1+1=yKe l by omega] at f3;have hc:=hcat (yKe l) (by omega);simp only[go_sem,zE,zA,f0,f3];refine (zKi gl (yKe l) (by omega) _).mono ?_;rintro _ st ⟨rfl,rfl⟩;simp only[go_sem,zE,zA,e1,hc,yUr];refine (xGm gl tg l _ htg (by omega) _).mono ?_;rintro _ st ⟨rfl,rfl⟩;have hh:hasB l (yVk (yKe l))=false:=zWk.2 s3;simp only[go_sem,zE,zA,f3,hh];refine (zKi gl (yKe l) (by omega) _).mono ?_;rintro _ st ⟨rfl,rfl⟩;simp only[go_sem,e1,hc,yUr];exact yQ0 ⟨rfl,rfl⟩
