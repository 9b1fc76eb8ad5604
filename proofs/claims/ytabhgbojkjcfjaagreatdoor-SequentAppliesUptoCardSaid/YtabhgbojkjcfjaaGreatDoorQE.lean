/- Trees to the letter; the fixed trees as -/
import Derived.Test.YtabhgbojkjcfjaaGreatDoorQD
import Derived.Test.YtabhgbojkjcfjaaGreatDoorLD
set_option linter.all false
open Nat renaming reduceEqDiff → zE,reduceBEq → zB,reduceAdd → zA,reduceMul → zM,reduceSub → zS,reduceLeDiff → zL
namespace Go.Proofs.Tryz
open Go Go.Iv
set_option maxRecDepth 4000
def tagR:List Tr->Tag
 | []=>⟨true,.nil,0⟩
 | _::_=>⟨true,.full,12⟩
theorem wGz (l:List Tr):okEs (tagR l) 12:=by cases l<;>simp[tagR,okEs]
mutual
def trI:Tr->IV
 | .mk rule s (.mk o fn us fs) (.mk v un ts) n sub=>.agg [.raw (.int .u8 rule),.sl (tagF s.l) (fmsI s.l),.sl (tagF s.r) (fmsI s.r),.raw (.int .u8 o),.raw (.string fn),.sl (tagT us) (tmsI us),.sl (tagF fs) (fmsI fs),.raw (.bool v),.raw (.string un),.sl (tagT ts) (tmsI ts),.raw (.string n),.sl (tagR sub) (trsI sub)]
def trsI:List Tr->List IV
 | []=>[]
 | a::l=>trI a::trsI l
end
mutual
def bytT:Tr->Bool
 | .mk rule s f _ _ sub=>decide (rule<256)&&zY7 s.l&&zY7 s.r&&wVd f&&wWr sub
def wWr:List Tr->Bool
 | []=>true
 | a::l=>bytT a&&wWr l
end
mutual
theorem wQa:∀t:Tr,bytT t=true->IsTr t (trI t)
 | .mk rule s (.mk o fn us fs) (.mk v un ts) n sub,h=>by
  simp only[bytT,bAt,dTe] at h;obtain⟨⟨⟨⟨h1,h2⟩,h3⟩,h4⟩,h5⟩:=h;have hf:=xY8 (.mk o fn us fs) h4;have ht:=xVi (.mk v un ts);simp only[fmI] at hf;simp only[tmI] at ht;simp only[IsTr];exact⟨tagF s.l,fmsI s.l,tagF s.r,fmsI s.r,o,fn,tagT us,tmsI us,tagF fs,fmsI fs,v,un,tagT ts,tmsI ts,tagR sub,trsI sub,by simp only[trI],h1,yKc _,yK4 _ h2,yKc _,yK4 _ h3,hf,ht,wGz _,wQ9 sub h5⟩
theorem wQ9:∀l:List Tr,wWr l=true->IsTrs l (trsI l)
 | [],_=>rfl
 | a::l,h=>by
  simp only[wWr,bAt] at h;exact⟨_,_,by simp only[trsI],wQa a h.1,wQ9 l h.2⟩
end
def fitB (l:List Fm):Bool:=l.all λf=>decide (f.size<=1000000)
theorem zWi {l:List Fm}(h:fitB l=true):fitL l:=λg hg=>of_decide_eq_true (List.all_eq_true.1 h g hg)
def wZo:Tr->Bool
 | .mk _ s m u _ sub=>fitB s.l&&fitB s.r&&decide (m.size<=1000000)&&decide (u.size<=1000000)&&sub.all λa=>fitB a.sq.l&&fitB a.sq.r
theorem vJs {t:Tr}(h:wZo t=true):xWi t:=by
 obtain⟨rule,s,m,u,n,sub⟩:=t;simp only[wZo,bAt,dTe,List.all_eq_true] at h;obtain⟨⟨⟨⟨h1,h2⟩,h3⟩,h4⟩,h5⟩:=h;exact⟨⟨zWi h1,zWi h2⟩,h3,h4,λa ha=>⟨zWi (h5 a ha).1,zWi (h5 a ha).2⟩⟩
theorem wJ2 {t:Tr}(h:(t.walk []).all (λq=>wZo q.2)=true)(hh:t.height<=1099511627776):wW5 t:=⟨λq hq=>vJs (List.all_eq_true.1 h q hq),hh⟩
theorem vV8:wW5 trA:=wJ2 (by decide) (by decide)
theorem vV7:wW5 trE:=wJ2 (by decide) (by decide)
theorem is_A:IsTr trA (trI trA):=wQa trA (by decide)
theorem is_E:IsTr trE (trI trE):=wQa trE (by decide)
end Go.Proofs.Tryz
namespace Go.Proofs.Tryz
open Go Go.Iv
set_option maxRecDepth 4000
variable (gl:Nat->Option IV)
theorem yZu (x y z:Operand):yKi 3 [(0,x),(1,y),(2,z)]=true:=rfl
theorem wV6 (G:Gl gl)(T:Gt gl)(st:ISt):ICall prog gl 10 [] st (λr st'=>r=.raw (.bool true)/\st'=st):=by
 have hA1:=λst=>xQ1 gl G T 1 trA (trI trA) is_A vV8 st;have hA2:=λst=>xQ1 gl G T 2 trA (trI trA) is_A vV8 st;have hE1:=λst=>xQ1 gl G T 1 trE (trI trE) is_E vV7 st;have hE2:=λst=>xQ1 gl G T 2 trE (trI trE) is_E vV7 st;simp only[wYa] at hA1;simp only[wY9] at hA2;simp only[wY8] at hE1;simp only[wY7] at hE2;refine ICall.intro (c:=cf prog gl [] [(2,[2,10,0,1,3,4,5,6,7,8,9,11]),(4,[0,2,9,10,11,13,1,3,4,5,6,7,8,12,14]),(9,[8,9,11,0,1,2,3,4,5,6,7,10,12]),(10,[0,1,2,5,6,8,3,4,7,9]),(18,[3,4,7,8,0,1,2,5,6,9,10,11,12,13,14]),(19,[0,1,3,4,7,8,2,5,6,9,10,11,12,13,14]),(21,[0,1,10,2,3,4,5,6,7,8,9,11,12]),(22,[0,1,2,3,4,5,6,7,8,9,10,14,15,11,12,13,16,17,18,19,20,21,22,23,24,25,26,27,28,29,30,31,32,33,35,34,36,37,38,39,40,41])]) func10 rfl (by show _<=241;simp) (by kernel_rfl) ?_;simp only[go_sem,zA,zL,yQm]
 repeat (first
  | (refine (q_p gl _ _ _ _).mono ?_;rintro _ st ⟨rfl,rfl⟩;simp only[go_sem,zE,zA,zM,zL,fits,yQ2,yQq,yQm,fits])
  | (refine (q_no gl _ _ _ _ _ _ _).mono ?_;rintro _ st ⟨rfl,rfl⟩;simp only[go_sem,zE,zB,zA,zM,zS,zL,reduceCtorEq,fits,yQ2,yQq,yZu,yQm,decide_true,fits])
  | (refine (xJq gl _ _ _ _ _ _ _ _ _ _ _ _ _ _).mono ?_;rintro _ st ⟨rfl,rfl⟩;simp only[go_sem,zE,zA,zL,yQm])
  | (refine (q_fs gl _ _ _).mono ?_;rintro _ st ⟨rfl,rfl⟩;simp only[go_sem,zE,zA,zL,yQm])
  | (refine (q_sq gl _ _ _ _ _).mono ?_;rintro _ st ⟨rfl,rfl⟩;simp only[go_sem,zE,zA,zM,zL,fits,yQq,yQm,fits])
  | (refine (q_v gl _ _).mono ?_;rintro _ st ⟨rfl,rfl⟩;simp only[go_sem,zE,zB,zA,zM,zS,zL,reduceCtorEq,fits,yQ2,yQq,yZu,yQm,decide_true,fits]))
 refine (hA1 _).mono ?_;rintro _ st ⟨⟨tg1,rfl,ht1⟩,rfl⟩;simp only[go_sem,zE,zA,zL];refine (hA2 _).mono ?_;rintro _ st ⟨⟨tg2,rfl,ht2⟩,rfl⟩;simp only[go_sem,zE,zA,zL,yQm]
 repeat (first
  | (refine (q_p gl _ _ _ _).mono ?_;rintro _ st ⟨rfl,rfl⟩;simp only[go_sem,zA,zM,zL,fits,yQ2,yQm,fits])
  | (refine (q_no gl _ _ _ _ _ _ _).mono ?_;rintro _ st ⟨rfl,rfl⟩;simp only[go_sem,zE,zA,zM,zL,fits,yQq,yQm,fits])
  | (refine (xJq gl _ _ _ _ _ _ _ _ _ _ _ _ _ _).mono ?_;rintro _ st ⟨rfl,rfl⟩;simp only[go_sem,zE,zA,zL,yQm])
  | (refine (q_fs gl _ _ _).mono ?_;rintro _ st ⟨rfl,rfl⟩;simp only[go_sem,zE,zA,zL,yQm])
  | (refine (q_sq gl _ _ _ _ _).mono ?_;rintro _ st ⟨rfl,rfl⟩;simp only[go_sem,zE,zA,zM,zL,fits,yQ2,yQm,fits])
  | (refine (q_v gl _ _).mono ?_;rintro _ st ⟨rfl,rfl⟩;simp only[go_sem,zE,zB,zA,zM,zS,zL,reduceCtorEq,fits,yQ2,yQq,yZu,yQm,decide_true,fits]))
 refine (hE1 _).mono ?_;rintro _ st ⟨⟨tg3,rfl,ht3⟩,rfl⟩;simp only[go_sem,zE,zA,zL];refine (hE2 _).mono ?_;rintro _ st ⟨⟨tg4,rfl,ht4⟩,rfl⟩;have hz1:IntKind.i64.wrap (((0:Nat):Int)+((0:Nat):Int))=0:=rfl;have hz2:IntKind.i64.wrap ((0:Int)+((0:Nat):Int))=0:=rfl;have hz3:decide ((0:Int)=0)=true:=rfl;have hz4:decide (((195:Nat):Int)=195)=true:=rfl;have hz5:plI []=[]:=rfl;have hS:=λst=>vZ6 gl trA (trI trA) is_A (by decide) st;have hH:=λst=>wY4 gl trA (trI trA) is_A (by decide) st;have hC:=λst=>vW0 gl trA (trI trA) is_A (by decide) st;simp only[wU2] at hS;simp only[wW0] at hH;simp only[vVb] at hC;simp only[go_sem,zE,zA,zL,hz1,hz2,hz4,hz5,decide_true,show decide (((0:Nat):Int)=0)=true from rfl];intros;refine (hS _).mono ?_;rintro _ st ⟨rfl,rfl⟩;simp only[go_sem,zE,zA,zL,show decide (((3:Nat):Int)=3)=true from rfl];refine (hH _).mono ?_;rintro _ st ⟨rfl,rfl⟩;simp only[go_sem,zE,zA,zL,show decide (((2:Nat):Int)=2)=true from rfl];refine (hC _).mono ?_;rintro _ st ⟨rfl,rfl⟩;simp only[go_sem,zE,zL,yQm,show decide (((0:Nat):Int)=0)=true from rfl]
 repeat (first
  | (refine (q_p gl _ _ _ _).mono ?_;rintro _ st ⟨rfl,rfl⟩;simp only[go_sem,zA,zM,zL,fits,yQ2,fits])
  | (refine (q_no gl _ _ _ _ _ _ _).mono ?_;rintro _ st ⟨rfl,rfl⟩;simp only[go_sem,zE,zB,zA,zM,zS,zL,reduceCtorEq,fits,yQ2,yQq,yZu,yQm,decide_true,fits])
  | (refine (xJq gl _ _ _ _ _ _ _ _ _ _ _ _ _ _).mono ?_;rintro _ st ⟨rfl,rfl⟩;simp only[go_sem,zE,zB,zA,zM,zS,zL,reduceCtorEq,fits,yQ2,yQq,yZu,yQm,decide_true,fits])
  | (refine (q_fs gl _ _ _).mono ?_;rintro _ st ⟨rfl,rfl⟩;simp only[go_sem,zE,zA,zM,zL,fits,yQ2,yQm,fits])
  | (refine (q_sq gl _ _ _ _ _).mono ?_;rintro _ st ⟨rfl,rfl⟩;simp only[go_sem,zE,zA,zL,yQm])
  | (refine (q_v gl _ _).mono ?_;rintro _ st ⟨rfl,rfl⟩;simp only[go_sem,zE,zA,zM,zL,fits,yQ2,yQq,yQm,fits]))
 have hB1:=λst=>wGl gl G T 3 ⟨[zP],[zX]⟩ (.agg [.sl (tagF [zP]) (fmsI [zP]),.sl (tagF [zX]) (fmsI [zX])]) ⟨_,_,_,_,rfl,yKc _,yK4 _ (by decide),yKc _,yK4 _ (by decide)⟩ ⟨zWi (by decide),zWi (by decide)⟩ 14 zX (fmI zX) (xY8 zX (by decide)) (by decide) tm0 (tmI tm0) (xVi tm0) (by decide) qu st;simp only[vW2] at hB1;refine (hB1 _).mono ?_;rintro _ st ⟨tg5,xs5,rfl,ht5,hx5,rfl⟩;obtain⟨w5,_,rfl,hw5,rfl⟩:=hx5;simp only[go_sem,zE,zA,zM,zL,fits,yQ2]
 repeat (first
  | (refine (q_p gl _ _ _ _).mono ?_;rintro _ st ⟨rfl,rfl⟩;simp only[go_sem,zE,zB,zA,zM,zS,zL,reduceCtorEq,fits,yQ2,yQq,yZu,yQm,decide_true,fits])
  | (refine (q_no gl _ _ _ _ _ _ _).mono ?_;rintro _ st ⟨rfl,rfl⟩;simp only[go_sem,zE,zB,zA,zM,zS,zL,reduceCtorEq,fits,yQ2,yQq,yZu,yQm,decide_true,fits])
  | (refine (xJq gl _ _ _ _ _ _ _ _ _ _ _ _ _ _).mono ?_;rintro _ st ⟨rfl,rfl⟩;simp only[go_sem,zE,zB,zA,zM,zS,zL,reduceCtorEq,fits,yQ2,yQq,yZu,yQm,decide_true,fits])
  | (refine (q_fs gl _ _ _).mono ?_;rintro _ st ⟨rfl,rfl⟩;simp only[go_sem,zE,zA])
  | (refine (q_sq gl _ _ _ _ _).mono ?_;rintro _ st ⟨rfl,rfl⟩;simp only[go_sem,zE,zA,zL,yQm])
  | (refine (q_v gl _ _).mono ?_;rintro _ st ⟨rfl,rfl⟩;simp only[go_sem,zE,zB,zA,zM,zS,zL,reduceCtorEq,fits,yQ2,yQq,yZu,yQm,decide_true,fits]))
 have hB2:=λst=>wGl gl G T 3 ⟨[zY],[zX]⟩ (.agg [.sl (tagF [zY]) (fmsI [zY]),.sl (tagF [zX]) (fmsI [zX])]) ⟨_,_,_,_,rfl,yKc _,yK4 _ (by decide),yKc _,yK4 _ (by decide)⟩ ⟨zWi (by decide),zWi (by decide)⟩ 14 zX (fmI zX) (xY8 zX (by decide)) (by decide) tm0 (tmI tm0) (xVi tm0) (by decide) qu st;simp only[vW1] at hB2;refine (hB2 _).mono ?_;rintro _ st ⟨tg6,xs6,rfl,ht6,hx6,rfl⟩;simp only[go_sem,zE,zA,zL,yQm]
 repeat (first
  | (refine (q_p gl _ _ _ _).mono ?_;rintro _ st ⟨rfl,rfl⟩;simp only[go_sem,zE,zA,zM,zL,fits,yZu,yQm,fits])
  | (refine (q_no gl _ _ _ _ _ _ _).mono ?_;rintro _ st ⟨rfl,rfl⟩;simp only[go_sem,zE,zB,zA,zM,zS,zL,reduceCtorEq,fits,yQ2,yQq,yZu,yQm,decide_true,fits])
  | (refine (xJq gl _ _ _ _ _ _ _ _ _ _ _ _ _ _).mono ?_;rintro _ st ⟨rfl,rfl⟩;simp only[go_sem,zE,zA,zL,yQm])
  | (refine (q_fs gl _ _ _).mono ?_;rintro _ st ⟨rfl,rfl⟩;simp only[go_sem,zA])
  | (refine (q_sq gl _ _ _ _ _).mono ?_;rintro _ st ⟨rfl,rfl⟩;simp only[go_sem,zA])
  | (refine (q_v gl _ _).mono ?_;rintro _ st ⟨rfl,rfl⟩;simp only[go_sem,zE,zB,zA,zM,zS,zL,reduceCtorEq,fits,yQ2,yQq,yZu,yQm,decide_true,fits]))
 have hD:=λst=>uU0 gl G T ⟨[zD,zD,zP],[]⟩ (.agg [.sl (tagF [zD,zD,zP]) (fmsI [zD,zD,zP]),.sl (tagF []) (fmsI [])]) ⟨_,_,_,_,rfl,yKc _,yK4 _ (by decide),yKc _,yK4 _ (by decide)⟩ ⟨zWi (by decide),zWi (by decide)⟩ (by decide) st;simp only[uU1] at hD;refine (hD _).mono ?_;rintro _ st ⟨⟨y,rfl,hy⟩,rfl⟩;obtain⟨ty1,xy1,ty2,xy2,rfl,ey1,iy1,ey2,iy2⟩:=hy;obtain⟨tw1,xw1,tw2,xw2,rfl,ew1,iw1,ew2,iw2⟩:=hw5;have z1:decide (((1:Nat):Int)=1)=true:=rfl;have z2:decide (((193:Nat):Int)=193)=true:=rfl;have z3:decide (((0:Nat):Int)=0)=true:=rfl;simp only[go_sem,zE,zB,zA,zL,fits,yQm,yQ1 ht5,Int.le_refl,Int.toNat_zero,z1,z3]
 repeat (first
  | (refine (q_p gl _ _ _ _).mono ?_;rintro _ st ⟨rfl,rfl⟩;simp only[go_sem,zE,zA,zM,zL,fits,yQ2,yQq,fits])
  | (refine (q_no gl _ _ _ _ _ _ _).mono ?_;rintro _ st ⟨rfl,rfl⟩;simp only[go_sem,zE,zB,zA,zM,zS,zL,reduceCtorEq,fits,yQ2,yQq,yZu,yQm,decide_true,fits])
  | (refine (xJq gl _ _ _ _ _ _ _ _ _ _ _ _ _ _).mono ?_;rintro _ st ⟨rfl,rfl⟩;simp only[go_sem,zE,zB,zA,zM,zS,zL,reduceCtorEq,fits,yQ2,yQq,yZu,yQm,decide_true,fits])
  | (refine (q_fs gl _ _ _).mono ?_;rintro _ st ⟨rfl,rfl⟩;simp only[go_sem,zE,zA,zL,yQm])
  | (refine (q_sq gl _ _ _ _ _).mono ?_;rintro _ st ⟨rfl,rfl⟩;simp only[go_sem,zE,zA])
  | (refine (q_v gl _ _).mono ?_;rintro _ st ⟨rfl,rfl⟩;simp only[go_sem,zE,zA,zM,zL,fits,yQ2,yQm,fits]))
 have hS1:=λst=>yGv gl ⟨[zP],[zX,zU]⟩ ⟨[zP],[zX,zU]⟩ (.agg [.sl tw1 xw1,.sl tw2 xw2]) (.agg [.sl (tagF [zP]) (fmsI [zP]),.sl (tagF [zX,zU]) (fmsI [zX,zU])]) ⟨_,_,_,_,rfl,ew1,iw1,ew2,iw2⟩ ⟨_,_,_,_,rfl,yKc _,yK4 _ (by decide),yKc _,yK4 _ (by decide)⟩ st;have hS2:=λst=>yGv gl ⟨[zP,zD],[]⟩ ⟨[zP,zD],[]⟩ (.agg [.sl ty1 xy1,.sl ty2 xy2]) (.agg [.sl (tagF [zP,zD]) (fmsI [zP,zD]),.sl (tagF []) (fmsI [])]) ⟨_,_,_,_,rfl,ey1,iy1,ey2,iy2⟩ ⟨_,_,_,_,rfl,yKc _,yK4 _ (by decide),yKc _,yK4 _ (by decide)⟩ st;refine (hS1 _).mono ?_;rintro _ st ⟨rfl,rfl⟩;simp only[go_sem,zE,zA,zL,yQm,show ∀s:Sq,eqB s s=true from λs=>yQk.2 rfl,z2,z3]
 repeat (first
  | (refine (q_p gl _ _ _ _).mono ?_;rintro _ st ⟨rfl,rfl⟩;simp only[go_sem,zE,zA,zM,zL,fits,yQq,fits])
  | (refine (q_no gl _ _ _ _ _ _ _).mono ?_;rintro _ st ⟨rfl,rfl⟩;simp only[go_sem,zE,zB,zA,zM,zS,zL,reduceCtorEq,fits,yQ2,yQq,yZu,yQm,decide_true,fits])
  | (refine (xJq gl _ _ _ _ _ _ _ _ _ _ _ _ _ _).mono ?_;rintro _ st ⟨rfl,rfl⟩;simp only[go_sem,zE,zB,zA,zM,zS,zL,reduceCtorEq,fits,yQ2,yQq,yZu,yQm,decide_true,fits])
  | (refine (q_fs gl _ _ _).mono ?_;rintro _ st ⟨rfl,rfl⟩;simp only[go_sem,zE,zA])
  | (refine (q_sq gl _ _ _ _ _).mono ?_;rintro _ st ⟨rfl,rfl⟩;simp only[go_sem,zE,zA])
  | (refine (q_v gl _ _).mono ?_;rintro _ st ⟨rfl,rfl⟩;simp only[go_sem,zE,zB,zA,zM,zS,zL,reduceCtorEq,fits,yQ2,yQq,yZu,yQm,decide_true,fits]))
 refine (hS2 _).mono ?_;rintro _ st ⟨rfl,rfl⟩;simp only[go_sem,zE,show ∀s:Sq,eqB s s=true from λs=>yQk.2 rfl];exact yQ0 ⟨rfl,rfl⟩
end Go.Proofs.Tryz
namespace Go.Proofs.Tryz
open Go Go.Iv
mutual
theorem zQf:∀t:Tm,t.size<=wTm t
 | .mk _ n us=>by have:=zK5 us;simp only[wTm,Tm.size];omega
theorem zK5:∀l:List Tm,yQ8 l<=wTms l
 | []=>Nat.le_refl _
 | a::l=>by have:=zQf a;have:=zK5 l;simp only[wTms,yQ8];omega
end
mutual
theorem zJ7:∀f:Fm,f.size<=wFm f
 | .mk _ n us sub=>by have:=zK5 us;have:=yKo sub;simp only[wFm,Fm.size];omega
theorem yKo:∀l:List Fm,yQ7 l<=wFms l
 | []=>Nat.le_refl _
 | a::l=>by have:=zJ7 a;have:=yKo l;simp only[wFms,yQ7];omega
end
theorem yKf {s:Sq}{f:Fm}{u:Tm}{n:ByteArray}(h:xK0 s f u n=true):wFms s.l+wFms s.r<=300/\wFm f<=300/\wTm u<=300/\n.size<=100:=by
 unfold xK0 at h;simp only[bAt,dTe,Bool.not_eq_true',decide_eq_false_iff_not] at h;omega
theorem zUm {s:Sq}(h:wFms s.l+wFms s.r<=300):yWf s:=by
 have:=yKo s.l;have:=yKo s.r;exact⟨λf hf=>by have:=yGp hf;omega,λf hf=>by have:=yGp hf;omega⟩
theorem zGz:∀ {l:List Tr}{a:Tr},okTs l=true->a∈l->okT a=true
 | b::l,a,h,ha=>by
  simp only[okTs,bAt] at h;rcases List.mem_cons.1 ha with rfl|ha
  ·exact h.1
  ·exact zGz h.2 ha
theorem wVf:∀ {t:Tr},okT t=true->xWi t
 | .mk rule s m u n sub,h=>by
  simp only[okT,bAt] at h;obtain⟨h1,h2,h3,_⟩:=yKf h.1;have:=zJ7 m;have:=zQf u;refine⟨zUm h1,by omega,by omega,λa ha=>?_⟩;have:=zGz h.2 ha;obtain⟨rule',s',m',u',n',sub'⟩:=a;simp only[okT,bAt] at this;exact zUm (yKf this.1).1
end Go.Proofs.Tryz
namespace Go.Proofs.Tryz
open Go Go.Iv
set_option maxRecDepth 4000
variable (gl:Nat->Option IV)
theorem Lents.nil (st:ISt):Lents st [] []:=rfl
theorem Lents.self {st:ISt}{y:IV}{ys xs:List IV}(h:Lents st ys xs):Lents st (y::ys) (y::xs):=⟨_,_,rfl,.inl rfl,h⟩
theorem Lents.lent {st:ISt}{y x0:IV}{ys xs:List IV}(ho:OI st y x0)(h:Lents st ys xs):Lents st (y::ys) (age x0::xs):=⟨_,_,rfl,.inr ⟨x0,ho,rfl⟩,h⟩
theorem _root_.Go.Iv.OI.sub {T st:ISt}{y x:IV}(h:OI T y x)(hs:subSt T st):OI st y x:=h.mono λ_ _ k=>hs _ _ k
variable {gl} in
theorem xZn {f:FuncId}{args args':List IV}{b:Bool}{st:ISt}(hf:flatSt st)(hl:Lents st args args')(h:∀st,ICall prog gl f args' st (λr st'=>r=.raw (.bool b)/\st'=st)) :
  ICall prog gl f args st (λr st'=>r=.raw (.bool b)/\st'=st) :=
 (ICall.lent (K:=λr=>r=.raw (.bool b)) (wX7 hf) hl ((h (yWn st)).mono λr st' k=>⟨k.2,by rw[k.1];trivial,k.1⟩)).mono λr st' k=>⟨k.2,k.1⟩
theorem yQv {tg:Tag}{es:Nat}(h:okEs tg es)(len hh l:Nat):okEs (yX9 (reTag es tg) len hh l none) es:=by
 have:=yQ1 h;unfold yX9;by_cases h1:(reTag es tg).cap=.nil
 ·rw[if_pos h1];exact .inr this
 ·rw[if_neg h1];by_cases h2:l=0/\hh=len
  ·simp only[if_pos h2];exact .inr this
  ·simp only[if_neg h2];exact .inr this
theorem yZk {n:Nat}(h:1<=n):yX8 (some 1) none n=some (1,n):=by
 simp only[yX8,Option.getD_none,Option.getD_some];rw[if_pos (by omega)];rfl
theorem yZj {n:Nat}(h:1<=n):yX8 none (some 1) n=some (0,1):=by
 simp only[yX8,Option.getD_none,Option.getD_some];rw[if_pos (by omega)];rfl
theorem yGb (x y:Operand):yKi 2 [(0,x),(1,y)]=true:=rfl
theorem xYn {ca rule:Nat}{r:Rw}{main:Fm}{u:Tm}{n:ByteArray}(h:¬ (fmB ca main=true/\(r.op≠0->main.op=r.op))):yZo ca rule r main u n=([],192):=by
 unfold yZo;rw[if_pos];by_cases hf:fmB ca main=true
 ·have h0:r.op≠0:=λh0=>h ⟨hf,λq=>absurd h0 q⟩;have h1:main.op≠r.op:=λh1=>h ⟨hf,λ_=>h1⟩;simp[h0,h1]
 ·simp[hf]
theorem yJ4 {ca rule:Nat}{r:Rw}{main:Fm}{u:Tm}{n:ByteArray}(hf:fmB ca main=true)(h1:r.op≠0->main.op=r.op)(h0:r.asks=0):yZo ca rule r main u n=(addS ca rule main ((main.subs[0]?).getD fm0) ((main.subs[1]?).getD fm0),0):=by
 unfold yZo;rw[if_neg (by rw[hf];intro hx;simp at hx;first|exact hx.2 (h1 hx.1)|exact (of_decide_eq_true hx.2) (h1 hx.1))];simp only[if_pos h0]
theorem zJp {ca rule:Nat}{r:Rw}{main:Fm}{u t:Tm}{n:ByteArray}(hf:fmB ca main=true)(h1:r.op≠0->main.op=r.op)(h0:r.asks≠0)(ht:t=if r.asks=2 then .mk true n [] else u):yZo ca rule r main u n =
  (if t.ok=false then ([],193) else if (yZc ((main.subs[0]?).getD fm0) [(main.nm,t)]).2≠0 then ([],193) else (addS ca rule main (yZc ((main.subs[0]?).getD fm0) [(main.nm,t)]).1 ((main.subs[1]?).getD fm0),0)):=by
 unfold yZo;rw[if_neg (by rw[hf];intro hx;simp at hx;first|exact hx.2 (h1 hx.1)|exact (of_decide_eq_true hx.2) (h1 hx.1))];simp only[if_neg h0,<- ht];cases t.ok<;>rfl
set_option maxHeartbeats 4000000 in
theorem xW2 (ca rule:Nat)(main:Fm)(y:IV)(hy:IsFm main y)(hm:main.size<=1000000)(term:Tm)(z:IV)(hz:IsTm term z)(ht:term.size<=900000)(name:ByteArray)(st:ISt) :
  ICall prog gl 22 [.raw (.int .u8 ca),.raw (.int .u8 rule),y,z,.raw (.string name)] st (AdR st (yGk ca rule main term name)):=by
 have hW:=λst=>xUz gl ca rule st;have hF:=λst=>wZa gl ca main y hy (by omega) st;have hy0:=hy;have hz0:=hz;obtain⟨op,nm,us,sub⟩:=main;obtain⟨t1,x1,t4,x4,rfl,ho,e1,i1,e4,i4⟩:=hy.mk;obtain⟨v5,n5,t5,x5,rfl⟩:=hz.agg;have k1:decide (((ca:Nat):Int)<1)=decide (ca<1):=by rw[decide_eq_decide];omega
 have k2:decide ((3:Int)<((ca:Nat):Int))=decide (3<ca):=by rw[decide_eq_decide];omega
 refine ICall.intro (c:=cf prog gl [] [(39,[0,1,3,4,2,5,6,7,8]),(48,[0,1,2,3,4,5,10,6,7,8,9,11,12])]) func22 rfl (by show _<=197;simp) (by kernel_rfl) ?_;cases hk:yX2 ca
 ·have hAS:yGk ca rule (.mk op nm us sub) term name=([],2):=by unfold yGk;rw[hk];rfl
  rw[hAS];by_cases q1:ca<1
  ·have q1:=dEt q1;simp only[go_sem,zE,reduceCtorEq,k1,q1];intros;exact yQ0 ⟨_,_,rfl,.inl rfl,rfl,rfl⟩
  ·have q2:decide (3<ca)=true:=dEt (by simp only[yX2,Bool.and_eq_false_iff,decide_eq_false_iff_not] at hk;omega);have q1:=dEf q1;simp only[go_sem,zE,reduceCtorEq,k1,k2,q1,q2];intros;exact yQ0 ⟨_,_,rfl,.inl rfl,rfl,rfl⟩
 have hkk:=hk;simp only[yX2,bAt,dTe] at hkk;have q1:decide (ca<1)=false:=dEf (by omega);have q2:decide (3<ca)=false:=dEf (by omega);simp only[go_sem,zE,zA,reduceCtorEq,k1,k2,q1,q2];intros;refine (hW _).mono ?_;rintro w st ⟨hw,rfl⟩;unfold yKl at hw;cases hrow:rowS ca rule with
 | none =>
  rw[hrow] at hw;obtain⟨o9,a9,b9,rfl⟩:=hw;have hAS:yGk ca rule (.mk op nm us sub) term name=([],191):=by unfold yGk;rw[hk,hrow];rfl
  rw[hAS];simp only[go_sem,zE];exact yQ0 ⟨_,_,rfl,.inl rfl,rfl,rfl⟩
 | some r =>
  rw[hrow] at hw;simp only at hw;subst hw;have hAd:yGk ca rule (.mk op nm us sub) term name=yZo ca rule r (.mk op nm us sub) term name:=by unfold yGk;rw[hk,hrow];rfl
  rw[hAd];have k4:decide (((r.op:Nat):Int)=0)=decide (r.op=0):=by rw[decide_eq_decide];omega
  have k5:decide (((op:Nat):Int)=((r.op:Nat):Int))=decide (op=r.op):=by rw[decide_eq_decide];omega
  simp only[go_sem,zE,zA,zL,reduceCtorEq];refine (hF _).mono ?_;rintro _ st ⟨rfl,rfl⟩;cases hf:fmB ca (.mk op nm us sub)
  ·rw[xYn (λh=>by rw[h.1] at hf;cases hf)];simp only[go_sem,zE];exact yQ0 ⟨_,_,rfl,.inl rfl,rfl,rfl⟩
  have hmain:r.op≠0->op≠r.op->yZo ca rule r (.mk op nm us sub) term name=([],192):=λh1 h2=>xYn λh=>h2 (h.2 h1);have hlen:=wUv (zZ3.1 hf).1;have d2:∀h:Bool,decide (ca=2)=h->decide (((ca:Nat):Int)=2)=h:=λh hh=>by rw[<- hh,decide_eq_decide];omega
  rcases xQw hrow with⟨hru,hr⟩|⟨hru,hr⟩|⟨hru,hr⟩|⟨hru,hr⟩|⟨hru,hr⟩|⟨hru,hr⟩|⟨hru,hr⟩|⟨hru,hr⟩|⟨hru,hr⟩|⟨hru,hr⟩|⟨hru,hr⟩|⟨hru,hr⟩|⟨hru,hr⟩|⟨hru,hr⟩|⟨hru,hr⟩|⟨hru,hr⟩|⟨hru,hr⟩|⟨hru,hr⟩
  ·have dt:decide (((rule:Nat):Int)=1)=true:=dEt (by omega);have ds:∀j:Int,j≠1->decide (((rule:Nat):Int)=j)=false:=λj hj=>dEf (by omega);have hrop:r.op=0:=by rw[hr]
   have k6:decide (r.op=0)=true:=dEt hrop;rw[yJ4 hf (λh=>absurd hrop h) (by rw[hr]),show ∀A B,addS ca rule (.mk op nm us sub) A B=[] from λA B=>by rw[hru];rfl];by_cases hsl:sub.length=0
   ·have k8:decide ((0:Int)<((sub.length:Nat):Int))=false:=dEf (by omega);simp only[go_sem,zE,k4,k6,dt,i4.len,k8];intros
    repeat (refine (yJ6 gl _ _ _ _ _).mono ?_;rintro _ _ ⟨rfl,rfl⟩;simp only[go_sem,zE,zB,zA,zM,zS,zL,reduceCtorEq,fits,k4,k5,k6,dt,ds,Int.reduceNe,ne_eq,nFt,nTf,Int.reduceEq,yQ2,yGb])
    exact yQ0 ⟨_,_,rfl,.inl rfl,rfl,rfl⟩
   ·have k8:decide ((0:Int)<((sub.length:Nat):Int))=true:=dEt (by omega);simp only[go_sem,zE,k4,k6,dt,i4.len,k8,yZk (show 1<=sub.length by omega),yZj (show 1<=sub.length by omega),yQ1 e4];intros
    repeat (refine (yJ6 gl _ _ _ _ _).mono ?_;rintro _ _ ⟨rfl,rfl⟩;simp only[go_sem,zE,zB,zA,zM,zS,zL,reduceCtorEq,fits,k4,k5,k6,dt,ds,Int.reduceNe,ne_eq,nFt,nTf,Int.reduceEq,yQ2,yGb])
    exact yQ0 ⟨_,_,rfl,.inl rfl,rfl,rfl⟩
  ·have dt:decide (((rule:Nat):Int)=2)=true:=dEt (by omega);have ds:∀j:Int,j≠2->decide (((rule:Nat):Int)=j)=false:=λj hj=>dEf (by omega);have hrop:r.op=2:=by rw[hr]
   have k6:decide (r.op=0)=false:=dEf (by omega);by_cases hop:op=r.op
   case neg =>
    rw[hmain (by omega) hop];have k7:decide (op=r.op)=false:=dEf hop;simp only[go_sem,zE,zA,k4,k5,k6,k7];intros;exact yQ0 ⟨_,_,rfl,.inl rfl,rfl,rfl⟩
   have k7:decide (op=r.op)=true:=dEt hop;rw[yJ4 hf (λh=>hop) (by rw[hr]),show ∀A B,addS ca rule (.mk op nm us sub) A B=[] from λA B=>by rw[hru];rfl];by_cases hsl:sub.length=0
   ·have k8:decide ((0:Int)<((sub.length:Nat):Int))=false:=dEf (by omega);simp only[go_sem,zE,zA,k4,k5,k6,k7,dt,ds,ne_eq,nFt,Int.reduceEq,i4.len,k8];intros
    repeat (refine (yJ6 gl _ _ _ _ _).mono ?_;rintro _ _ ⟨rfl,rfl⟩;simp only[go_sem,zE,zB,zA,zM,zS,zL,reduceCtorEq,fits,k4,k5,k6,k7,dt,ds,Int.reduceNe,ne_eq,nFt,nTf,Int.reduceEq,yQ2,yGb])
    exact yQ0 ⟨_,_,rfl,.inl rfl,rfl,rfl⟩
   ·have k8:decide ((0:Int)<((sub.length:Nat):Int))=true:=dEt (by omega);simp only[go_sem,zE,zA,k4,k5,k6,k7,dt,ds,ne_eq,nFt,Int.reduceEq,i4.len,k8,yZk (show 1<=sub.length by omega),yZj (show 1<=sub.length by omega),yQ1 e4];intros
    repeat (refine (yJ6 gl _ _ _ _ _).mono ?_;rintro _ _ ⟨rfl,rfl⟩;simp only[go_sem,zE,zB,zA,zM,zS,zL,reduceCtorEq,fits,k4,k5,k6,k7,dt,ds,Int.reduceNe,ne_eq,nFt,nTf,Int.reduceEq,yQ2,yGb])
    exact yQ0 ⟨_,_,rfl,.inl rfl,rfl,rfl⟩
  ·have dt:decide (((rule:Nat):Int)=3)=true:=dEt (by omega);have ds:∀j:Int,j≠3->decide (((rule:Nat):Int)=j)=false:=λj hj=>dEf (by omega);have hrop:r.op=3:=by rw[hr]
   have k6:decide (r.op=0)=false:=dEf (by omega);by_cases hop:op=r.op
   case neg =>
    rw[hmain (by omega) hop];have k7:decide (op=r.op)=false:=dEf hop;simp only[go_sem,zE,zA,k4,k5,k6,k7];intros;exact yQ0 ⟨_,_,rfl,.inl rfl,rfl,rfl⟩
   have k7:decide (op=r.op)=true:=dEt hop;obtain⟨a,rfl⟩:∃a,sub=[a]:=by
    have:=hlen.1 (by omega)
    match sub,this with
    | [a],_=>exact⟨a,rfl⟩
   simp only[IsFms] at i4;obtain⟨ya,_,rfl,hya,rfl⟩:=i4;obtain⟨oa,na,ta1,xa1,ta2,xa2,rfl⟩:=hya.agg;have k8:decide ((0:Int)<((1:Nat):Int))=true:=rfl;have s1:=yZk (show 1<=1 by omega);have s2:=yZj (show 1<=1 by omega);have s3:∀a b c,(reTag 4 (yX9 (reTag 4 t4) a b c none)).es=4:=λa b c=>yQ1 (yQv e4 a b c);generalize haS:yZo ca rule r (.mk op nm us [a]) term name=addSS;have hA0:addSS=(addS ca rule (.mk op nm us [a]) a fm0,0):=by rw[<- haS,yJ4 hf (λ_=>hop) (by rw[hr])];rfl
   have hv:addSS=([⟨[],[a]⟩],0):=by rw[hA0,show addS ca rule (.mk op nm us [a]) a fm0=[⟨[],[a]⟩] from by rw[hru];rfl]
   rw[hv];simp only[go_sem,zE,zA,zS,zL,k4,k5,k6,k7,dt,ds,ne_eq,nFt,Int.reduceEq,k8,s1,s2,yQ1 e4];intros
   repeat (refine (yJ6 gl _ _ _ _ _).mono ?_;rintro _ _ ⟨rfl,rfl⟩;simp only[go_sem,zE,zA,zM,zL,fits,yQ2])
   exact yQ0 ⟨_,_,rfl,.inr rfl,⟨_,_,rfl,⟨_,_,_,_,rfl,.inl rfl,rfl,yQv e4 _ _ _,⟨_,_,rfl,hya,rfl⟩⟩,rfl⟩,rfl⟩
  ·have dt:decide (((rule:Nat):Int)=4)=true:=dEt (by omega);have ds:∀j:Int,j≠4->decide (((rule:Nat):Int)=j)=false:=λj hj=>dEf (by omega);have hrop:r.op=3:=by rw[hr]
   have k6:decide (r.op=0)=false:=dEf (by omega);by_cases hop:op=r.op
   case neg =>
    rw[hmain (by omega) hop];have k7:decide (op=r.op)=false:=dEf hop;simp only[go_sem,zE,zA,k4,k5,k6,k7];intros;exact yQ0 ⟨_,_,rfl,.inl rfl,rfl,rfl⟩
   have k7:decide (op=r.op)=true:=dEt hop;obtain⟨a,rfl⟩:∃a,sub=[a]:=by
    have:=hlen.1 (by omega)
    match sub,this with
    | [a],_=>exact⟨a,rfl⟩
   simp only[IsFms] at i4;obtain⟨ya,_,rfl,hya,rfl⟩:=i4;obtain⟨oa,na,ta1,xa1,ta2,xa2,rfl⟩:=hya.agg;have k8:decide ((0:Int)<((1:Nat):Int))=true:=rfl;have s1:=yZk (show 1<=1 by omega);have s2:=yZj (show 1<=1 by omega);have s3:∀a b c,(reTag 4 (yX9 (reTag 4 t4) a b c none)).es=4:=λa b c=>yQ1 (yQv e4 a b c);generalize haS:yZo ca rule r (.mk op nm us [a]) term name=addSS;have hA0:addSS=(addS ca rule (.mk op nm us [a]) a fm0,0):=by rw[<- haS,yJ4 hf (λ_=>hop) (by rw[hr])];rfl
   have hv:addSS=([⟨[a],[]⟩],0):=by rw[hA0,show addS ca rule (.mk op nm us [a]) a fm0=[⟨[a],[]⟩] from by rw[hru];rfl]
   rw[hv];simp only[go_sem,zE,zA,zS,zL,k4,k5,k6,k7,dt,ds,ne_eq,nFt,Int.reduceEq,k8,s1,s2,yQ1 e4];intros
   repeat (refine (yJ6 gl _ _ _ _ _).mono ?_;rintro _ _ ⟨rfl,rfl⟩;simp only[go_sem,zE,zA,zM,zL,fits,yQ2])
   exact yQ0 ⟨_,_,rfl,.inr rfl,⟨_,_,rfl,⟨_,_,_,_,rfl,yQv e4 _ _ _,⟨_,_,rfl,hya,rfl⟩,.inl rfl,rfl⟩,rfl⟩,rfl⟩
  ·have dt:decide (((rule:Nat):Int)=5)=true:=dEt (by omega);have ds:∀j:Int,j≠5->decide (((rule:Nat):Int)=j)=false:=λj hj=>dEf (by omega);have hrop:r.op=4:=by rw[hr]
   have k6:decide (r.op=0)=false:=dEf (by omega);by_cases hop:op=r.op
   case neg =>
    rw[hmain (by omega) hop];have k7:decide (op=r.op)=false:=dEf hop;simp only[go_sem,zE,zA,k4,k5,k6,k7];intros;exact yQ0 ⟨_,_,rfl,.inl rfl,rfl,rfl⟩
   have k7:decide (op=r.op)=true:=dEt hop;obtain⟨a,b,rfl⟩:∃a b,sub=[a,b]:=by
    have:=hlen.2 (by omega)
    match sub,this with
    | [a,b],_=>exact⟨a,b,rfl⟩
   simp only[IsFms] at i4;obtain⟨ya,_,rfl,hya,yb,_,rfl,hyb,rfl⟩:=i4;obtain⟨oa,na,ta1,xa1,ta2,xa2,rfl⟩:=hya.agg;obtain⟨ob,nb,tb1,xb1,tb2,xb2,rfl⟩:=hyb.agg;have k8:decide ((0:Int)<((2:Nat):Int))=true:=rfl;have s1:=yZk (show 1<=2 by omega);have s2:=yZj (show 1<=2 by omega);have s3:∀a b c,(reTag 4 (yX9 (reTag 4 t4) a b c none)).es=4:=λa b c=>yQ1 (yQv e4 a b c);generalize haS:yZo ca rule r (.mk op nm us [a,b]) term name=addSS;have hA0:addSS=(addS ca rule (.mk op nm us [a,b]) a b,0):=by rw[<- haS,yJ4 hf (λ_=>hop) (by rw[hr])];rfl
   have hv:addSS=([⟨[a,b],[]⟩],0):=by rw[hA0,show addS ca rule (.mk op nm us [a,b]) a b=[⟨[a,b],[]⟩] from by rw[hru];rfl]
   rw[hv];simp only[go_sem,zE,zA,zS,zL,k4,k5,k6,k7,dt,ds,ne_eq,nFt,Int.reduceEq,k8,s1,s2,yQ1 e4];intros
   repeat (refine (yJ6 gl _ _ _ _ _).mono ?_;rintro _ _ ⟨rfl,rfl⟩;simp only[go_sem,zE,zA,zM,zL,fits,yQ2])
   exact yQ0 ⟨_,_,rfl,.inr rfl,⟨_,_,rfl,⟨_,_,_,_,rfl,e4,⟨_,_,rfl,hya,_,_,rfl,hyb,rfl⟩,.inl rfl,rfl⟩,rfl⟩,rfl⟩
  ·have dt:decide (((rule:Nat):Int)=6)=true:=dEt (by omega);have ds:∀j:Int,j≠6->decide (((rule:Nat):Int)=j)=false:=λj hj=>dEf (by omega);have hrop:r.op=4:=by rw[hr]
   have k6:decide (r.op=0)=false:=dEf (by omega);by_cases hop:op=r.op
   case neg =>
    rw[hmain (by omega) hop];have k7:decide (op=r.op)=false:=dEf hop;simp only[go_sem,zE,zA,k4,k5,k6,k7];intros;exact yQ0 ⟨_,_,rfl,.inl rfl,rfl,rfl⟩
   have k7:decide (op=r.op)=true:=dEt hop;obtain⟨a,b,rfl⟩:∃a b,sub=[a,b]:=by
    have:=hlen.2 (by omega)
    match sub,this with
    | [a,b],_=>exact⟨a,b,rfl⟩
   simp only[IsFms] at i4;obtain⟨ya,_,rfl,hya,yb,_,rfl,hyb,rfl⟩:=i4;obtain⟨oa,na,ta1,xa1,ta2,xa2,rfl⟩:=hya.agg;obtain⟨ob,nb,tb1,xb1,tb2,xb2,rfl⟩:=hyb.agg;have k8:decide ((0:Int)<((2:Nat):Int))=true:=rfl;have s1:=yZk (show 1<=2 by omega);have s2:=yZj (show 1<=2 by omega);have s3:∀a b c,(reTag 4 (yX9 (reTag 4 t4) a b c none)).es=4:=λa b c=>yQ1 (yQv e4 a b c);generalize haS:yZo ca rule r (.mk op nm us [a,b]) term name=addSS;have hA0:addSS=(addS ca rule (.mk op nm us [a,b]) a b,0):=by rw[<- haS,yJ4 hf (λ_=>hop) (by rw[hr])];rfl
   have hv:addSS=([⟨[],[a]⟩,⟨[],[b]⟩],0):=by rw[hA0,show addS ca rule (.mk op nm us [a,b]) a b=[⟨[],[a]⟩,⟨[],[b]⟩] from by rw[hru];rfl]
   rw[hv];simp only[go_sem,zE,zA,zS,zL,k4,k5,k6,k7,dt,ds,ne_eq,nFt,Int.reduceEq,k8,s1,s2,yQ1 e4];intros
   repeat (refine (yJ6 gl _ _ _ _ _).mono ?_;rintro _ _ ⟨rfl,rfl⟩;simp only[go_sem,zE,zA,zM,zL,fits,yGb])
   exact yQ0 ⟨_,_,rfl,.inr rfl,⟨_,_,rfl,⟨_,_,_,_,rfl,.inl rfl,rfl,yQv e4 _ _ _,⟨_,_,rfl,hya,rfl⟩⟩,⟨_,_,rfl,⟨_,_,_,_,rfl,.inl rfl,rfl,yQv e4 _ _ _,⟨_,_,rfl,hyb,rfl⟩⟩,rfl⟩⟩,rfl⟩
  ·have dt:decide (((rule:Nat):Int)=7)=true:=dEt (by omega);have ds:∀j:Int,j≠7->decide (((rule:Nat):Int)=j)=false:=λj hj=>dEf (by omega);have hrop:r.op=5:=by rw[hr]
   have k6:decide (r.op=0)=false:=dEf (by omega);by_cases hop:op=r.op
   case neg =>
    rw[hmain (by omega) hop];have k7:decide (op=r.op)=false:=dEf hop;simp only[go_sem,zE,zA,k4,k5,k6,k7];intros;exact yQ0 ⟨_,_,rfl,.inl rfl,rfl,rfl⟩
   have k7:decide (op=r.op)=true:=dEt hop;obtain⟨a,b,rfl⟩:∃a b,sub=[a,b]:=by
    have:=hlen.2 (by omega)
    match sub,this with
    | [a,b],_=>exact⟨a,b,rfl⟩
   simp only[IsFms] at i4;obtain⟨ya,_,rfl,hya,yb,_,rfl,hyb,rfl⟩:=i4;obtain⟨oa,na,ta1,xa1,ta2,xa2,rfl⟩:=hya.agg;obtain⟨ob,nb,tb1,xb1,tb2,xb2,rfl⟩:=hyb.agg;have k8:decide ((0:Int)<((2:Nat):Int))=true:=rfl;have s1:=yZk (show 1<=2 by omega);have s2:=yZj (show 1<=2 by omega);have s3:∀a b c,(reTag 4 (yX9 (reTag 4 t4) a b c none)).es=4:=λa b c=>yQ1 (yQv e4 a b c);generalize haS:yZo ca rule r (.mk op nm us [a,b]) term name=addSS;have hA0:addSS=(addS ca rule (.mk op nm us [a,b]) a b,0):=by rw[<- haS,yJ4 hf (λ_=>hop) (by rw[hr])];rfl
   have hv:addSS=([⟨[a],[]⟩,⟨[b],[]⟩],0):=by rw[hA0,show addS ca rule (.mk op nm us [a,b]) a b=[⟨[a],[]⟩,⟨[b],[]⟩] from by rw[hru];rfl]
   rw[hv];simp only[go_sem,zE,zA,zS,zL,k4,k5,k6,k7,dt,ds,ne_eq,nFt,Int.reduceEq,k8,s1,s2,yQ1 e4];intros
   repeat (refine (yJ6 gl _ _ _ _ _).mono ?_;rintro _ _ ⟨rfl,rfl⟩;simp only[go_sem,zE,zA,zM,zL,fits,yGb])
   exact yQ0 ⟨_,_,rfl,.inr rfl,⟨_,_,rfl,⟨_,_,_,_,rfl,yQv e4 _ _ _,⟨_,_,rfl,hya,rfl⟩,.inl rfl,rfl⟩,⟨_,_,rfl,⟨_,_,_,_,rfl,yQv e4 _ _ _,⟨_,_,rfl,hyb,rfl⟩,.inl rfl,rfl⟩,rfl⟩⟩,rfl⟩
  ·have dt:decide (((rule:Nat):Int)=8)=true:=dEt (by omega);have ds:∀j:Int,j≠8->decide (((rule:Nat):Int)=j)=false:=λj hj=>dEf (by omega);have hrop:r.op=5:=by rw[hr]
   have k6:decide (r.op=0)=false:=dEf (by omega);by_cases hop:op=r.op
   case neg =>
    rw[hmain (by omega) hop];have k7:decide (op=r.op)=false:=dEf hop;simp only[go_sem,zE,zA,k4,k5,k6,k7];intros;exact yQ0 ⟨_,_,rfl,.inl rfl,rfl,rfl⟩
   have k7:decide (op=r.op)=true:=dEt hop;obtain⟨a,b,rfl⟩:∃a b,sub=[a,b]:=by
    have:=hlen.2 (by omega)
    match sub,this with
    | [a,b],_=>exact⟨a,b,rfl⟩
   simp only[IsFms] at i4;obtain⟨ya,_,rfl,hya,yb,_,rfl,hyb,rfl⟩:=i4;obtain⟨oa,na,ta1,xa1,ta2,xa2,rfl⟩:=hya.agg;obtain⟨ob,nb,tb1,xb1,tb2,xb2,rfl⟩:=hyb.agg;have k8:decide ((0:Int)<((2:Nat):Int))=true:=rfl;have s1:=yZk (show 1<=2 by omega);have s2:=yZj (show 1<=2 by omega);have s3:∀a b c,(reTag 4 (yX9 (reTag 4 t4) a b c none)).es=4:=λa b c=>yQ1 (yQv e4 a b c);generalize haS:yZo ca rule r (.mk op nm us [a,b]) term name=addSS;have hA0:addSS=(addS ca rule (.mk op nm us [a,b]) a b,0):=by rw[<- haS,yJ4 hf (λ_=>hop) (by rw[hr])];rfl
   by_cases hc2:ca=2
   ·have dc:=d2 true (dEt hc2);have hv:addSS=([⟨[],[a]⟩],0):=by rw[hA0,show addS ca rule (.mk op nm us [a,b]) a b=[⟨[],[a]⟩] from by rw[hru,hc2];rfl]
    rw[hv];simp only[go_sem,zE,zA,zS,zL,reduceCtorEq,k4,k5,k6,k7,dt,ds,ne_eq,nFt,Int.reduceEq,k8,s1,s2,yQ1 e4,dc];intros
    repeat (refine (yJ6 gl _ _ _ _ _).mono ?_;rintro _ _ ⟨rfl,rfl⟩;simp only[go_sem,zE,zA,zM,zL,fits,yQ2])
    exact yQ0 ⟨_,_,rfl,.inr rfl,⟨_,_,rfl,⟨_,_,_,_,rfl,.inl rfl,rfl,yQv e4 _ _ _,⟨_,_,rfl,hya,rfl⟩⟩,rfl⟩,rfl⟩
   ·have dc:=d2 false (dEf hc2);have hv:addSS=([⟨[],[a,b]⟩],0):=by rw[hA0,show addS ca rule (.mk op nm us [a,b]) a b=[⟨[],[a,b]⟩] from by rw[hru];unfold addS;simp[hc2]]
    rw[hv];simp only[go_sem,zE,zA,zS,zL,reduceCtorEq,k4,k5,k6,k7,dt,ds,ne_eq,nFt,Int.reduceEq,k8,s1,s2,yQ1 e4,dc];intros
    repeat (refine (yJ6 gl _ _ _ _ _).mono ?_;rintro _ _ ⟨rfl,rfl⟩;simp only[go_sem,zE,zA,zM,zL,fits,yQ2])
    exact yQ0 ⟨_,_,rfl,.inr rfl,⟨_,_,rfl,⟨_,_,_,_,rfl,.inl rfl,rfl,e4,⟨_,_,rfl,hya,_,_,rfl,hyb,rfl⟩⟩,rfl⟩,rfl⟩
  ·have dt:decide (((rule:Nat):Int)=9)=true:=dEt (by omega);have ds:∀j:Int,j≠9->decide (((rule:Nat):Int)=j)=false:=λj hj=>dEf (by omega);have hrop:r.op=6:=by rw[hr]
   have k6:decide (r.op=0)=false:=dEf (by omega);by_cases hop:op=r.op
   case neg =>
    rw[hmain (by omega) hop];have k7:decide (op=r.op)=false:=dEf hop;simp only[go_sem,zE,zA,k4,k5,k6,k7];intros;exact yQ0 ⟨_,_,rfl,.inl rfl,rfl,rfl⟩
   have k7:decide (op=r.op)=true:=dEt hop;obtain⟨a,b,rfl⟩:∃a b,sub=[a,b]:=by
    have:=hlen.2 (by omega)
    match sub,this with
    | [a,b],_=>exact⟨a,b,rfl⟩
   simp only[IsFms] at i4;obtain⟨ya,_,rfl,hya,yb,_,rfl,hyb,rfl⟩:=i4;obtain⟨oa,na,ta1,xa1,ta2,xa2,rfl⟩:=hya.agg;obtain⟨ob,nb,tb1,xb1,tb2,xb2,rfl⟩:=hyb.agg;have k8:decide ((0:Int)<((2:Nat):Int))=true:=rfl;have s1:=yZk (show 1<=2 by omega);have s2:=yZj (show 1<=2 by omega);have s3:∀a b c,(reTag 4 (yX9 (reTag 4 t4) a b c none)).es=4:=λa b c=>yQ1 (yQv e4 a b c);generalize haS:yZo ca rule r (.mk op nm us [a,b]) term name=addSS;have hA0:addSS=(addS ca rule (.mk op nm us [a,b]) a b,0):=by rw[<- haS,yJ4 hf (λ_=>hop) (by rw[hr])];rfl
   have hv:addSS=([⟨[],[a]⟩,⟨[b],[]⟩],0):=by rw[hA0,show addS ca rule (.mk op nm us [a,b]) a b=[⟨[],[a]⟩,⟨[b],[]⟩] from by rw[hru];rfl]
   rw[hv];simp only[go_sem,zE,zA,zS,zL,k4,k5,k6,k7,dt,ds,ne_eq,nFt,Int.reduceEq,k8,s1,s2,yQ1 e4];intros
   repeat (refine (yJ6 gl _ _ _ _ _).mono ?_;rintro _ _ ⟨rfl,rfl⟩;simp only[go_sem,zE,zA,zM,zL,fits,yGb])
   exact yQ0 ⟨_,_,rfl,.inr rfl,⟨_,_,rfl,⟨_,_,_,_,rfl,.inl rfl,rfl,yQv e4 _ _ _,⟨_,_,rfl,hya,rfl⟩⟩,⟨_,_,rfl,⟨_,_,_,_,rfl,yQv e4 _ _ _,⟨_,_,rfl,hyb,rfl⟩,.inl rfl,rfl⟩,rfl⟩⟩,rfl⟩
  ·have dt:decide (((rule:Nat):Int)=10)=true:=dEt (by omega);have ds:∀j:Int,j≠10->decide (((rule:Nat):Int)=j)=false:=λj hj=>dEf (by omega);have hrop:r.op=6:=by rw[hr]
   have k6:decide (r.op=0)=false:=dEf (by omega);by_cases hop:op=r.op
   case neg =>
    rw[hmain (by omega) hop];have k7:decide (op=r.op)=false:=dEf hop;simp only[go_sem,zE,zA,k4,k5,k6,k7];intros;exact yQ0 ⟨_,_,rfl,.inl rfl,rfl,rfl⟩
   have k7:decide (op=r.op)=true:=dEt hop;obtain⟨a,b,rfl⟩:∃a b,sub=[a,b]:=by
    have:=hlen.2 (by omega)
    match sub,this with
    | [a,b],_=>exact⟨a,b,rfl⟩
   simp only[IsFms] at i4;obtain⟨ya,_,rfl,hya,yb,_,rfl,hyb,rfl⟩:=i4;obtain⟨oa,na,ta1,xa1,ta2,xa2,rfl⟩:=hya.agg;obtain⟨ob,nb,tb1,xb1,tb2,xb2,rfl⟩:=hyb.agg;have k8:decide ((0:Int)<((2:Nat):Int))=true:=rfl;have s1:=yZk (show 1<=2 by omega);have s2:=yZj (show 1<=2 by omega);have s3:∀a b c,(reTag 4 (yX9 (reTag 4 t4) a b c none)).es=4:=λa b c=>yQ1 (yQv e4 a b c);generalize haS:yZo ca rule r (.mk op nm us [a,b]) term name=addSS;have hA0:addSS=(addS ca rule (.mk op nm us [a,b]) a b,0):=by rw[<- haS,yJ4 hf (λ_=>hop) (by rw[hr])];rfl
   have hv:addSS=([⟨[a],[b]⟩],0):=by rw[hA0,show addS ca rule (.mk op nm us [a,b]) a b=[⟨[a],[b]⟩] from by rw[hru];rfl]
   rw[hv];simp only[go_sem,zE,zA,zS,zL,k4,k5,k6,k7,dt,ds,ne_eq,nFt,Int.reduceEq,k8,s1,s2,yQ1 e4];intros
   repeat (refine (yJ6 gl _ _ _ _ _).mono ?_;rintro _ _ ⟨rfl,rfl⟩;simp only[go_sem,zE,zA,zM,zL,fits,yQ2])
   exact yQ0 ⟨_,_,rfl,.inr rfl,⟨_,_,rfl,⟨_,_,_,_,rfl,yQv e4 _ _ _,⟨_,_,rfl,hya,rfl⟩,yQv e4 _ _ _,⟨_,_,rfl,hyb,rfl⟩⟩,rfl⟩,rfl⟩
  ·have dt:decide (((rule:Nat):Int)=11)=true:=dEt (by omega);have ds:∀j:Int,j≠11->decide (((rule:Nat):Int)=j)=false:=λj hj=>dEf (by omega);have hrop:r.op=7:=by rw[hr]
   have k6:decide (r.op=0)=false:=dEf (by omega);by_cases hop:op=r.op
   case neg =>
    rw[hmain (by omega) hop];have k7:decide (op=r.op)=false:=dEf hop;simp only[go_sem,zE,zA,k4,k5,k6,k7];intros;exact yQ0 ⟨_,_,rfl,.inl rfl,rfl,rfl⟩
   have k7:decide (op=r.op)=true:=dEt hop;obtain⟨a,b,rfl⟩:∃a b,sub=[a,b]:=by
    have:=hlen.2 (by omega)
    match sub,this with
    | [a,b],_=>exact⟨a,b,rfl⟩
   simp only[IsFms] at i4;obtain⟨ya,_,rfl,hya,yb,_,rfl,hyb,rfl⟩:=i4;obtain⟨oa,na,ta1,xa1,ta2,xa2,rfl⟩:=hya.agg;obtain⟨ob,nb,tb1,xb1,tb2,xb2,rfl⟩:=hyb.agg;have k8:decide ((0:Int)<((2:Nat):Int))=true:=rfl;have s1:=yZk (show 1<=2 by omega);have s2:=yZj (show 1<=2 by omega);have s3:∀a b c,(reTag 4 (yX9 (reTag 4 t4) a b c none)).es=4:=λa b c=>yQ1 (yQv e4 a b c);generalize haS:yZo ca rule r (.mk op nm us [a,b]) term name=addSS;have hA0:addSS=(addS ca rule (.mk op nm us [a,b]) a b,0):=by rw[<- haS,yJ4 hf (λ_=>hop) (by rw[hr])];rfl
   have hv:addSS=([⟨[impF a b,impF b a],[]⟩],0):=by rw[hA0,show addS ca rule (.mk op nm us [a,b]) a b=[⟨[impF a b,impF b a],[]⟩] from by rw[hru];rfl]
   rw[hv];simp only[go_sem,zE,zB,zA,zM,zS,zL,fits,k4,k5,k6,k7,dt,ds,ne_eq,nFt,Int.reduceEq,yGb,k8,s1,s2,s3,yQ1 e4,Int.le_refl,Int.toNat_zero];intros
   repeat (refine (yJ6 gl _ _ _ _ _).mono ?_;rintro _ _ ⟨rfl,rfl⟩;simp only[go_sem,zE,zA,zM,zL,fits,yQ2])
   refine yQ0 ⟨_,_,rfl,.inr rfl,⟨_,_,rfl,⟨_,_,_,_,rfl,.inr rfl,?_,.inl rfl,rfl⟩,rfl⟩,rfl⟩;simp only[IsFms,impF,IsFm];exact⟨_,_,rfl,⟨_,_,_,_,rfl,by omega,.inl rfl,rfl,e4,⟨_,_,rfl,hya,_,_,rfl,hyb,rfl⟩⟩,_,_,rfl,⟨_,_,_,_,rfl,by omega,.inl rfl,rfl,.inr rfl,⟨_,_,rfl,hyb,_,_,rfl,hya,rfl⟩⟩,rfl⟩
  ·have dt:decide (((rule:Nat):Int)=12)=true:=dEt (by omega);have ds:∀j:Int,j≠12->decide (((rule:Nat):Int)=j)=false:=λj hj=>dEf (by omega);have hrop:r.op=7:=by rw[hr]
   have k6:decide (r.op=0)=false:=dEf (by omega);by_cases hop:op=r.op
   case neg =>
    rw[hmain (by omega) hop];have k7:decide (op=r.op)=false:=dEf hop;simp only[go_sem,zE,zA,k4,k5,k6,k7];intros;exact yQ0 ⟨_,_,rfl,.inl rfl,rfl,rfl⟩
   have k7:decide (op=r.op)=true:=dEt hop;obtain⟨a,b,rfl⟩:∃a b,sub=[a,b]:=by
    have:=hlen.2 (by omega)
    match sub,this with
    | [a,b],_=>exact⟨a,b,rfl⟩
   simp only[IsFms] at i4;obtain⟨ya,_,rfl,hya,yb,_,rfl,hyb,rfl⟩:=i4;obtain⟨oa,na,ta1,xa1,ta2,xa2,rfl⟩:=hya.agg;obtain⟨ob,nb,tb1,xb1,tb2,xb2,rfl⟩:=hyb.agg;have k8:decide ((0:Int)<((2:Nat):Int))=true:=rfl;have s1:=yZk (show 1<=2 by omega);have s2:=yZj (show 1<=2 by omega);have s3:∀a b c,(reTag 4 (yX9 (reTag 4 t4) a b c none)).es=4:=λa b c=>yQ1 (yQv e4 a b c);generalize haS:yZo ca rule r (.mk op nm us [a,b]) term name=addSS;have hA0:addSS=(addS ca rule (.mk op nm us [a,b]) a b,0):=by rw[<- haS,yJ4 hf (λ_=>hop) (by rw[hr])];rfl
   have hv:addSS=([⟨[a],[b]⟩,⟨[b],[a]⟩],0):=by rw[hA0,show addS ca rule (.mk op nm us [a,b]) a b=[⟨[a],[b]⟩,⟨[b],[a]⟩] from by rw[hru];rfl]
   rw[hv];simp only[go_sem,zE,zA,zS,zL,k4,k5,k6,k7,dt,ds,ne_eq,nFt,Int.reduceEq,k8,s1,s2,yQ1 e4];intros
   repeat (refine (yJ6 gl _ _ _ _ _).mono ?_;rintro _ _ ⟨rfl,rfl⟩;simp only[go_sem,zE,zA,zM,zL,fits,yGb])
   exact yQ0 ⟨_,_,rfl,.inr rfl,⟨_,_,rfl,⟨_,_,_,_,rfl,yQv e4 _ _ _,⟨_,_,rfl,hya,rfl⟩,yQv e4 _ _ _,⟨_,_,rfl,hyb,rfl⟩⟩,⟨_,_,rfl,⟨_,_,_,_,rfl,yQv e4 _ _ _,⟨_,_,rfl,hyb,rfl⟩,yQv e4 _ _ _,⟨_,_,rfl,hya,rfl⟩⟩,rfl⟩⟩,rfl⟩
  ·have dt:decide (((rule:Nat):Int)=13)=true:=dEt (by omega);have ds:∀j:Int,j≠13->decide (((rule:Nat):Int)=j)=false:=λj hj=>dEf (by omega);have hrop:r.op=8:=by rw[hr]
   have k6:decide (r.op=0)=false:=dEf (by omega);by_cases hop:op=r.op
   case neg =>
    rw[hmain (by omega) hop];have k7:decide (op=r.op)=false:=dEf hop;simp only[go_sem,zE,zA,k4,k5,k6,k7];intros;exact yQ0 ⟨_,_,rfl,.inl rfl,rfl,rfl⟩
   have k7:decide (op=r.op)=true:=dEt hop;obtain⟨a,rfl⟩:∃a,sub=[a]:=by
    have:=hlen.1 (by omega)
    match sub,this with
    | [a],_=>exact⟨a,rfl⟩
   simp only[IsFms] at i4;obtain⟨ya,_,rfl,hya,rfl⟩:=i4;obtain⟨oa,na,ta1,xa1,ta2,xa2,rfl⟩:=hya.agg;have k8:decide ((0:Int)<((1:Nat):Int))=true:=rfl;have s1:=yZk (show 1<=1 by omega);have s2:=yZj (show 1<=1 by omega);have s3:∀a b c,(reTag 4 (yX9 (reTag 4 t4) a b c none)).es=4:=λa b c=>yQ1 (yQv e4 a b c);have hT:=λst=>zKd gl term _ hz0 (by omega) st;have hP:=λst=>xVy gl a _ hya (by simp only[Fm.size,yQ7] at hm;have:=(zZ3.1 hf).2.1;simp only[Fm.size,yQ7] at this;omega) nm term _ hz0 (by omega) st;generalize haS:yZo ca rule r (.mk op nm us [a]) term name=addSS;have hA0:=haS.symm.trans (zJp (t:=term) hf (λ_=>hop) (by rw[hr];decide) (by rw[hr];rfl));simp only[Fm.subs,Fm.nm,List.getElem?_cons_zero,Option.getD_some] at hA0;simp only[go_sem,zE,zA,zS,zL,k4,k5,k6,k7,ds,ne_eq,nFt,Int.reduceEq,k8,s1,s2,yQ1 e4];intros;refine (hT _).mono ?_;rintro _ st ⟨rfl,rfl⟩;cases hok:term.ok
   ·rw[hok] at hA0;rw[hA0];simp only[go_sem,zE,ne_eq];exact yQ0 ⟨_,_,rfl,.inl rfl,rfl,rfl⟩
   rw[hok] at hA0;rw[if_neg (by decide)] at hA0;simp only[go_sem,zE,zB,zA,zL,fits,s3,Int.le_refl,Int.toNat_zero];intros;refine (hP _).mono ?_;rintro _ st ⟨yg,rfl,hg,rfl⟩;obtain⟨og,ng,tg1,xg1,tg2,xg2,rfl⟩:=hg.agg;rcases wV8 hA0.symm with⟨he,hA1⟩|⟨he,hA1⟩
   ·have k9:decide ((((yZc a [(nm,term)]).2:Nat):Int)=0)=false:=dEf (by omega);rw[<- hA1];simp only[go_sem,zE,zA,zL,k9];exact yQ0 ⟨_,_,rfl,.inl rfl,rfl,rfl⟩
   ·have k9:decide ((((yZc a [(nm,term)]).2:Nat):Int)=0)=true:=dEt (by omega);rw[<- hA1,show ∀A B,addS ca rule (.mk op nm us [a]) A B=[⟨[A],[]⟩] from λA B=>by rw[hru];rfl];simp only[go_sem,zE,zA,zM,zL,fits,dt,yQ2,k9];intros
    repeat (refine (yJ6 gl _ _ _ _ _).mono ?_;rintro _ _ ⟨rfl,rfl⟩;simp only[go_sem,zE,zA,zM,zL,fits,yQ2])
    exact yQ0 ⟨_,_,rfl,.inr rfl,⟨_,_,rfl,⟨_,_,_,_,rfl,.inr rfl,⟨_,_,rfl,hg,rfl⟩,.inl rfl,rfl⟩,rfl⟩,rfl⟩
  ·have dt:decide (((rule:Nat):Int)=14)=true:=dEt (by omega);have ds:∀j:Int,j≠14->decide (((rule:Nat):Int)=j)=false:=λj hj=>dEf (by omega);have hrop:r.op=8:=by rw[hr]
   have k6:decide (r.op=0)=false:=dEf (by omega);by_cases hop:op=r.op
   case neg =>
    rw[hmain (by omega) hop];have k7:decide (op=r.op)=false:=dEf hop;simp only[go_sem,zE,zA,k4,k5,k6,k7];intros;exact yQ0 ⟨_,_,rfl,.inl rfl,rfl,rfl⟩
   have k7:decide (op=r.op)=true:=dEt hop;obtain⟨a,rfl⟩:∃a,sub=[a]:=by
    have:=hlen.1 (by omega)
    match sub,this with
    | [a],_=>exact⟨a,rfl⟩
   simp only[IsFms] at i4;obtain⟨ya,_,rfl,hya,rfl⟩:=i4;obtain⟨oa,na,ta1,xa1,ta2,xa2,rfl⟩:=hya.agg;have k8:decide ((0:Int)<((1:Nat):Int))=true:=rfl;have s1:=yZk (show 1<=1 by omega);have s2:=yZj (show 1<=1 by omega);have s3:∀a b c,(reTag 4 (yX9 (reTag 4 t4) a b c none)).es=4:=λa b c=>yQ1 (yQv e4 a b c);have hT:=λst=>zKd gl (Tm.mk true name []) (.agg [.raw (.bool true),.raw (.string name),.sl ⟨true,.nil,0⟩ []]) ⟨⟨true,.nil,0⟩,[],rfl,.inl rfl,rfl⟩ (by simp[Tm.size,yQ8]) st;have hP:=λst=>xVy gl a _ hya (by simp only[Fm.size,yQ7] at hm;have:=(zZ3.1 hf).2.1;simp only[Fm.size,yQ7] at this;omega) nm (Tm.mk true name []) (.agg [.raw (.bool true),.raw (.string name),.sl ⟨true,.nil,0⟩ []]) ⟨⟨true,.nil,0⟩,[],rfl,.inl rfl,rfl⟩ (by simp[Tm.size,yQ8]) st;generalize haS:yZo ca rule r (.mk op nm us [a]) term name=addSS;have hA0:=haS.symm.trans (zJp (t:=(Tm.mk true name [])) hf (λ_=>hop) (by rw[hr];decide) (by rw[hr];rfl));simp only[Fm.subs,Fm.nm,List.getElem?_cons_zero,Option.getD_some] at hA0;have hV:=λst=>yJr gl name st;simp only[go_sem,zE,zA,zS,zL,k4,k5,k6,k7,dt,ds,ne_eq,nFt,Int.reduceEq,k8,s1,s2,yQ1 e4];intros;refine (hV _).mono ?_;rintro _ st ⟨rfl,rfl⟩;cases hnv:yKg name
   ·rw[if_pos (show (Tm.mk true name []).ok=false from by simp[Tm.ok,hnv])] at hA0;rw[hA0];simp only[go_sem,zE];exact yQ0 ⟨_,_,rfl,.inl rfl,rfl,rfl⟩
   have hok:(Tm.mk true name []).ok=true:=by simp[Tm.ok,hnv]
   rw[hok] at hT;simp only[go_sem,zE,zA,zL,fits];refine (hT _).mono ?_;rintro _ st ⟨rfl,rfl⟩;rw[hok] at hA0;rw[if_neg (by decide)] at hA0;simp only[go_sem,zE,zB,zA,zL,fits,s3,Int.le_refl,Int.toNat_zero];intros;refine (hP _).mono ?_;rintro _ st ⟨yg,rfl,hg,rfl⟩;obtain⟨og,ng,tg1,xg1,tg2,xg2,rfl⟩:=hg.agg;rcases wV8 hA0.symm with⟨he,hA1⟩|⟨he,hA1⟩
   ·have k9:decide ((((yZc a [(nm,(Tm.mk true name []))]).2:Nat):Int)=0)=false:=dEf (by omega);rw[<- hA1];simp only[go_sem,zE,zA,zL,k9];exact yQ0 ⟨_,_,rfl,.inl rfl,rfl,rfl⟩
   ·have k9:decide ((((yZc a [(nm,(Tm.mk true name []))]).2:Nat):Int)=0)=true:=dEt (by omega);rw[<- hA1,show ∀A B,addS ca rule (.mk op nm us [a]) A B=[⟨[],[A]⟩] from λA B=>by rw[hru];rfl];simp only[go_sem,zE,zA,zM,zL,fits,ds,ne_eq,nFt,Int.reduceEq,yQ2,k9];intros
    repeat (refine (yJ6 gl _ _ _ _ _).mono ?_;rintro _ _ ⟨rfl,rfl⟩;simp only[go_sem,zE,zA,zM,zL,fits,yQ2])
    exact yQ0 ⟨_,_,rfl,.inr rfl,⟨_,_,rfl,⟨_,_,_,_,rfl,.inl rfl,rfl,.inr rfl,⟨_,_,rfl,hg,rfl⟩⟩,rfl⟩,rfl⟩
  ·have dt:decide (((rule:Nat):Int)=15)=true:=dEt (by omega);have ds:∀j:Int,j≠15->decide (((rule:Nat):Int)=j)=false:=λj hj=>dEf (by omega);have hrop:r.op=9:=by rw[hr]
   have k6:decide (r.op=0)=false:=dEf (by omega);by_cases hop:op=r.op
   case neg =>
    rw[hmain (by omega) hop];have k7:decide (op=r.op)=false:=dEf hop;simp only[go_sem,zE,zA,k4,k5,k6,k7];intros;exact yQ0 ⟨_,_,rfl,.inl rfl,rfl,rfl⟩
   have k7:decide (op=r.op)=true:=dEt hop;obtain⟨a,rfl⟩:∃a,sub=[a]:=by
    have:=hlen.1 (by omega)
    match sub,this with
    | [a],_=>exact⟨a,rfl⟩
   simp only[IsFms] at i4;obtain⟨ya,_,rfl,hya,rfl⟩:=i4;obtain⟨oa,na,ta1,xa1,ta2,xa2,rfl⟩:=hya.agg;have k8:decide ((0:Int)<((1:Nat):Int))=true:=rfl;have s1:=yZk (show 1<=1 by omega);have s2:=yZj (show 1<=1 by omega);have s3:∀a b c,(reTag 4 (yX9 (reTag 4 t4) a b c none)).es=4:=λa b c=>yQ1 (yQv e4 a b c);have hT:=λst=>zKd gl (Tm.mk true name []) (.agg [.raw (.bool true),.raw (.string name),.sl ⟨true,.nil,0⟩ []]) ⟨⟨true,.nil,0⟩,[],rfl,.inl rfl,rfl⟩ (by simp[Tm.size,yQ8]) st;have hP:=λst=>xVy gl a _ hya (by simp only[Fm.size,yQ7] at hm;have:=(zZ3.1 hf).2.1;simp only[Fm.size,yQ7] at this;omega) nm (Tm.mk true name []) (.agg [.raw (.bool true),.raw (.string name),.sl ⟨true,.nil,0⟩ []]) ⟨⟨true,.nil,0⟩,[],rfl,.inl rfl,rfl⟩ (by simp[Tm.size,yQ8]) st;generalize haS:yZo ca rule r (.mk op nm us [a]) term name=addSS;have hA0:=haS.symm.trans (zJp (t:=(Tm.mk true name [])) hf (λ_=>hop) (by rw[hr];decide) (by rw[hr];rfl));simp only[Fm.subs,Fm.nm,List.getElem?_cons_zero,Option.getD_some] at hA0;have hV:=λst=>yJr gl name st;simp only[go_sem,zE,zA,zS,zL,k4,k5,k6,k7,dt,ds,ne_eq,nFt,Int.reduceEq,k8,s1,s2,yQ1 e4];intros;refine (hV _).mono ?_;rintro _ st ⟨rfl,rfl⟩;cases hnv:yKg name
   ·rw[if_pos (show (Tm.mk true name []).ok=false from by simp[Tm.ok,hnv])] at hA0;rw[hA0];simp only[go_sem,zE];exact yQ0 ⟨_,_,rfl,.inl rfl,rfl,rfl⟩
   have hok:(Tm.mk true name []).ok=true:=by simp[Tm.ok,hnv]
   rw[hok] at hT;simp only[go_sem,zE,zA,zL,fits];refine (hT _).mono ?_;rintro _ st ⟨rfl,rfl⟩;rw[hok] at hA0;rw[if_neg (by decide)] at hA0;simp only[go_sem,zE,zB,zA,zL,fits,s3,Int.le_refl,Int.toNat_zero];intros;refine (hP _).mono ?_;rintro _ st ⟨yg,rfl,hg,rfl⟩;obtain⟨og,ng,tg1,xg1,tg2,xg2,rfl⟩:=hg.agg;rcases wV8 hA0.symm with⟨he,hA1⟩|⟨he,hA1⟩
   ·have k9:decide ((((yZc a [(nm,(Tm.mk true name []))]).2:Nat):Int)=0)=false:=dEf (by omega);rw[<- hA1];simp only[go_sem,zE,zA,zL,k9];exact yQ0 ⟨_,_,rfl,.inl rfl,rfl,rfl⟩
   ·have k9:decide ((((yZc a [(nm,(Tm.mk true name []))]).2:Nat):Int)=0)=true:=dEt (by omega);rw[<- hA1,show ∀A B,addS ca rule (.mk op nm us [a]) A B=[⟨[A],[]⟩] from λA B=>by rw[hru];rfl];simp only[go_sem,zE,zA,zM,zL,fits,dt,ds,ne_eq,nFt,Int.reduceEq,yQ2,k9];intros
    repeat (refine (yJ6 gl _ _ _ _ _).mono ?_;rintro _ _ ⟨rfl,rfl⟩;simp only[go_sem,zE,zA,zM,zL,fits,yQ2])
    exact yQ0 ⟨_,_,rfl,.inr rfl,⟨_,_,rfl,⟨_,_,_,_,rfl,.inr rfl,⟨_,_,rfl,hg,rfl⟩,.inl rfl,rfl⟩,rfl⟩,rfl⟩
  ·have dt:decide (((rule:Nat):Int)=16)=true:=dEt (by omega);have ds:∀j:Int,j≠16->decide (((rule:Nat):Int)=j)=false:=λj hj=>dEf (by omega);have hrop:r.op=9:=by rw[hr]
   have k6:decide (r.op=0)=false:=dEf (by omega);by_cases hop:op=r.op
   case neg =>
    rw[hmain (by omega) hop];have k7:decide (op=r.op)=false:=dEf hop;simp only[go_sem,zE,zA,k4,k5,k6,k7];intros;exact yQ0 ⟨_,_,rfl,.inl rfl,rfl,rfl⟩
   have k7:decide (op=r.op)=true:=dEt hop;obtain⟨a,rfl⟩:∃a,sub=[a]:=by
    have:=hlen.1 (by omega)
    match sub,this with
    | [a],_=>exact⟨a,rfl⟩
   simp only[IsFms] at i4;obtain⟨ya,_,rfl,hya,rfl⟩:=i4;obtain⟨oa,na,ta1,xa1,ta2,xa2,rfl⟩:=hya.agg;have k8:decide ((0:Int)<((1:Nat):Int))=true:=rfl;have s1:=yZk (show 1<=1 by omega);have s2:=yZj (show 1<=1 by omega);have s3:∀a b c,(reTag 4 (yX9 (reTag 4 t4) a b c none)).es=4:=λa b c=>yQ1 (yQv e4 a b c);have hT:=λst=>zKd gl term _ hz0 (by omega) st;have hP:=λst=>xVy gl a _ hya (by simp only[Fm.size,yQ7] at hm;have:=(zZ3.1 hf).2.1;simp only[Fm.size,yQ7] at this;omega) nm term _ hz0 (by omega) st;generalize haS:yZo ca rule r (.mk op nm us [a]) term name=addSS;have hA0:=haS.symm.trans (zJp (t:=term) hf (λ_=>hop) (by rw[hr];decide) (by rw[hr];rfl));simp only[Fm.subs,Fm.nm,List.getElem?_cons_zero,Option.getD_some] at hA0;simp only[go_sem,zE,zA,zS,zL,k4,k5,k6,k7,ds,ne_eq,nFt,Int.reduceEq,k8,s1,s2,yQ1 e4];intros;refine (hT _).mono ?_;rintro _ st ⟨rfl,rfl⟩;cases hok:term.ok
   ·rw[hok] at hA0;rw[hA0];simp only[go_sem,zE,ne_eq];exact yQ0 ⟨_,_,rfl,.inl rfl,rfl,rfl⟩
   rw[hok] at hA0;rw[if_neg (by decide)] at hA0;simp only[go_sem,zE,zB,zA,zL,fits,s3,Int.le_refl,Int.toNat_zero];intros;refine (hP _).mono ?_;rintro _ st ⟨yg,rfl,hg,rfl⟩;obtain⟨og,ng,tg1,xg1,tg2,xg2,rfl⟩:=hg.agg;rcases wV8 hA0.symm with⟨he,hA1⟩|⟨he,hA1⟩
   ·have k9:decide ((((yZc a [(nm,term)]).2:Nat):Int)=0)=false:=dEf (by omega);rw[<- hA1];simp only[go_sem,zE,zA,zL,k9];exact yQ0 ⟨_,_,rfl,.inl rfl,rfl,rfl⟩
   ·have k9:decide ((((yZc a [(nm,term)]).2:Nat):Int)=0)=true:=dEt (by omega);rw[<- hA1,show ∀A B,addS ca rule (.mk op nm us [a]) A B=[⟨[],[A]⟩] from λA B=>by rw[hru];rfl];simp only[go_sem,zE,zA,zM,zL,fits,ds,ne_eq,nFt,Int.reduceEq,yQ2,k9];intros
    repeat (refine (yJ6 gl _ _ _ _ _).mono ?_;rintro _ _ ⟨rfl,rfl⟩;simp only[go_sem,zE,zA,zM,zL,fits,yQ2])
    exact yQ0 ⟨_,_,rfl,.inr rfl,⟨_,_,rfl,⟨_,_,_,_,rfl,.inl rfl,rfl,.inr rfl,⟨_,_,rfl,hg,rfl⟩⟩,rfl⟩,rfl⟩
  ·have dt:decide (((rule:Nat):Int)=17)=true:=dEt (by omega);have ds:∀j:Int,j≠17->decide (((rule:Nat):Int)=j)=false:=λj hj=>dEf (by omega);have hrop:r.op=0:=by rw[hr]
   have k6:decide (r.op=0)=true:=dEt hrop;rw[yJ4 hf (λh=>absurd hrop h) (by rw[hr]),show ∀A B,addS ca rule (.mk op nm us sub) A B=[⟨[],[.mk op nm us sub]⟩,⟨[.mk op nm us sub],[]⟩] from λA B=>by rw[hru];rfl];by_cases hsl:sub.length=0
   ·have k8:decide ((0:Int)<((sub.length:Nat):Int))=false:=dEf (by omega);simp only[go_sem,zE,zA,zM,zL,fits,k4,k6,dt,ds,ne_eq,nFt,Int.reduceEq,yQ2,i4.len,k8];intros
    repeat (refine (yJ6 gl _ _ _ _ _).mono ?_;rintro _ _ ⟨rfl,rfl⟩;simp only[go_sem,zE,zA,zM,zL,fits,yGb])
    exact yQ0 ⟨_,_,rfl,.inr rfl,⟨_,_,rfl,⟨_,_,_,_,rfl,.inl rfl,rfl,.inr rfl,⟨_,_,rfl,hy0,rfl⟩⟩,⟨_,_,rfl,⟨_,_,_,_,rfl,.inr rfl,⟨_,_,rfl,hy0,rfl⟩,.inl rfl,rfl⟩,rfl⟩⟩,rfl⟩
   ·have k8:decide ((0:Int)<((sub.length:Nat):Int))=true:=dEt (by omega);simp only[go_sem,zE,zA,zM,zL,fits,k4,k6,dt,ds,ne_eq,nFt,Int.reduceEq,yQ2,i4.len,k8,yZk (show 1<=sub.length by omega),yZj (show 1<=sub.length by omega),yQ1 e4];intros
    repeat (refine (yJ6 gl _ _ _ _ _).mono ?_;rintro _ _ ⟨rfl,rfl⟩;simp only[go_sem,zE,zA,zM,zL,fits,yGb])
    exact yQ0 ⟨_,_,rfl,.inr rfl,⟨_,_,rfl,⟨_,_,_,_,rfl,.inl rfl,rfl,.inr rfl,⟨_,_,rfl,hy0,rfl⟩⟩,⟨_,_,rfl,⟨_,_,_,_,rfl,.inr rfl,⟨_,_,rfl,hy0,rfl⟩,.inl rfl,rfl⟩,rfl⟩⟩,rfl⟩
  ·have dt:decide (((rule:Nat):Int)=18)=true:=dEt (by omega);have ds:∀j:Int,j≠18->decide (((rule:Nat):Int)=j)=false:=λj hj=>dEf (by omega);have hrop:r.op=5:=by rw[hr]
   have k6:decide (r.op=0)=false:=dEf (by omega);by_cases hop:op=r.op
   case neg =>
    rw[hmain (by omega) hop];have k7:decide (op=r.op)=false:=dEf hop;simp only[go_sem,zE,zA,k4,k5,k6,k7];intros;exact yQ0 ⟨_,_,rfl,.inl rfl,rfl,rfl⟩
   have k7:decide (op=r.op)=true:=dEt hop;obtain⟨a,b,rfl⟩:∃a b,sub=[a,b]:=by
    have:=hlen.2 (by omega)
    match sub,this with
    | [a,b],_=>exact⟨a,b,rfl⟩
   simp only[IsFms] at i4;obtain⟨ya,_,rfl,hya,yb,_,rfl,hyb,rfl⟩:=i4;obtain⟨oa,na,ta1,xa1,ta2,xa2,rfl⟩:=hya.agg;obtain⟨ob,nb,tb1,xb1,tb2,xb2,rfl⟩:=hyb.agg;have k8:decide ((0:Int)<((2:Nat):Int))=true:=rfl;have s1:=yZk (show 1<=2 by omega);have s2:=yZj (show 1<=2 by omega);have s3:∀a b c,(reTag 4 (yX9 (reTag 4 t4) a b c none)).es=4:=λa b c=>yQ1 (yQv e4 a b c);generalize haS:yZo ca rule r (.mk op nm us [a,b]) term name=addSS;have hA0:addSS=(addS ca rule (.mk op nm us [a,b]) a b,0):=by rw[<- haS,yJ4 hf (λ_=>hop) (by rw[hr])];rfl
   have hv:addSS=([⟨[],[b]⟩],0):=by rw[hA0,show addS ca rule (.mk op nm us [a,b]) a b=[⟨[],[b]⟩] from by rw[hru];rfl]
   rw[hv];simp only[go_sem,zE,zA,zS,zL,k4,k5,k6,k7,dt,ds,ne_eq,nFt,Int.reduceEq,k8,s1,s2,yQ1 e4];intros
   repeat (refine (yJ6 gl _ _ _ _ _).mono ?_;rintro _ _ ⟨rfl,rfl⟩;simp only[go_sem,zE,zA,zM,zL,fits,yQ2])
   exact yQ0 ⟨_,_,rfl,.inr rfl,⟨_,_,rfl,⟨_,_,_,_,rfl,.inl rfl,rfl,yQv e4 _ _ _,⟨_,_,rfl,hyb,rfl⟩⟩,rfl⟩,rfl⟩
end Go.Proofs.Tryz
namespace Go.Proofs.Tryz
open Go Go.Iv
end Go.Proofs.Tryz
namespace Go.Proofs.Tryz
open Go Go.Iv
mutual
def NA:Tr->Prop
 | .mk _ s m u _ sub=>yWf s/\m.size<=1000000/\u.size<=1000000/\NAs sub
def NAs:List Tr->Prop
 | []=>True
 | a::l=>NA a/\NAs l
end
mutual
theorem wYr:∀ {t:Tr},okT t=true->NA t
 | .mk _ s m u n sub,h=>by
  have hn:=wVf h;simp only[okT,bAt] at h;exact⟨hn.1,hn.2.1,hn.2.2.1,xWf h.2⟩
theorem xWf:∀ {l:List Tr},okTs l=true->NAs l
 | [],_=>trivial
 | a::l,h=>by
  simp only[okTs,bAt] at h;exact⟨wYr h.1,xWf h.2⟩
end
end Go.Proofs.Tryz
namespace Go.Proofs.Tryz
open Go Go.Iv
set_option maxRecDepth 4000
variable (gl:Nat->Option IV)
theorem zJn {ca rule:Nat}{r:Rw}(h:rowS ca rule=some r):r.asks=2↔rule=14\/rule=15:=by
 rcases xQw h with⟨rfl,rfl⟩|⟨rfl,rfl⟩|⟨rfl,rfl⟩|⟨rfl,rfl⟩|⟨rfl,rfl⟩|⟨rfl,rfl⟩|⟨rfl,rfl⟩|⟨rfl,rfl⟩|⟨rfl,rfl⟩|⟨rfl,rfl⟩|⟨rfl,rfl⟩|⟨rfl,rfl⟩|⟨rfl,rfl⟩|⟨rfl,rfl⟩|⟨rfl,rfl⟩|⟨rfl,rfl⟩|⟨rfl,rfl⟩|⟨rfl,rfl⟩<;>simp
def yZw (q:List Sq×Nat)(bl br bf:Bool)(r:Rw):List Sq×Nat :=
 if decide (q.2=192) || (r.left&&!bl) || (r.right&&!br) then ([],192) else if q.2≠0 then ([],q.2) else if decide (r.asks=2)&&bf then ([],193) else (q.1,0)
theorem wUc {ca rule:Nat}{s:Sq}{m:Fm}{u:Tm}{n:ByteArray}{r:Rw}(hv:yXo ca s=true)(hr:rowS ca rule=some r) :
  yXj ca s rule m u n=yZw (yZo ca rule r m u n) (hasF s.l m) (hasF s.r m) (yVs s n) r:=by
 unfold yXj yZw;rw[hv,hr];rfl
set_option maxHeartbeats 4000000 in
theorem wZb (G:Gl gl)(ca:Nat)(t:Tr)(x:IV)(hx:IsTr t x)(hn:NA t)(hu:zZj t=true)(st:ISt) :
  ICall prog gl 108 [.raw (.int .u8 ca),x] st (AdR st (match t with|.mk rule s m u n _=>yXj ca s rule m u n)):=by
 obtain⟨rule,s,m,u,n,sub⟩:=t;obtain⟨tl,xl,tr,xr,op,fn,ta,xa,tb,xb,v,un,tu,xu,ts,xs,rfl,hru,e1,i1,e2,i2,hy,hz,e3,i3⟩:=hx.mk;simp only[NA] at hn;simp only[zZj,bAt,dTe] at hu;have hV:=λst=>wV3 gl ca s _ ⟨tl,xl,tr,xr,rfl,e1,i1,e2,i2⟩ hn.1 st;have hW:=λst=>xUz gl ca rule st;have hA:=λst=>xW2 gl ca rule m _ hy hn.2.1 u _ hz hu.1 n st;refine iI func108 rfl rfl (by kernel_rfl) ?_;simp only[go_sem,zE,zA,zL,reduceCtorEq];refine (hV _).mono ?_;rintro _ st ⟨rfl,rfl⟩;cases hv:yXo ca s
 ·rw[show yXj ca s rule m u n=([],190) from by unfold yXj;rw[hv];rfl];simp only[go_sem,zE];exact yQ0 ⟨_,_,rfl,.inl rfl,rfl,rfl⟩
 obtain⟨hk,hl64,hr64,_⟩:=zZi.1 hv;have hHl:=λst=>wYo gl G s.l tl xl e1 i1 m _ hy hn.1.1 hn.2.1 (by omega) st;have hHr:=λst=>wYo gl G s.r tr xr e2 i2 m _ hy hn.1.2 hn.2.1 (by omega) st;have hfl:=λst=>wZ6 gl s.l tl xl e1 i1 n hn.1.1 (by omega) st;have hfr:=λst=>wZ6 gl s.r tr xr e2 i2 n hn.1.2 (by omega) st;simp only[go_sem,zE,zA,reduceCtorEq];refine (hW _).mono ?_;rintro w st ⟨hw,rfl⟩;unfold yKl at hw;cases hrow:rowS ca rule with
 | none =>
  rw[hrow] at hw;obtain⟨o9,a9,b9,rfl⟩:=hw;rw[show yXj ca s rule m u n=([],191) from by unfold yXj;rw[hv,hrow];rfl];simp only[go_sem,zE];exact yQ0 ⟨_,_,rfl,.inl rfl,rfl,rfl⟩
 | some r =>
  rw[hrow] at hw;simp only at hw;subst hw;rw[wUc hv hrow];have hAd:yGk ca rule m u n=yZo ca rule r m u n:=by unfold yGk;rw[hk,hrow];rfl
  rw[hAd] at hA;have herr:=wJp ca rule r m u n;generalize yZo ca rule r m u n=q at hA herr ⊢;have hbf:((s.l.any λf=>memB (frF f) n) || (s.r.any λf=>memB (frF f) n))=yVs s n:=rfl;generalize yVs s n=bf at hbf ⊢;generalize hasF s.l m=bl at hHl ⊢;generalize hasF s.r m=br at hHr ⊢;generalize hS:yZw q bl br bf r=S;simp only[go_sem,zE,zA,zL,reduceCtorEq];refine (hA _).mono ?_;rintro _ st ⟨tga,za,rfl,hta,hza,rfl⟩;by_cases h192:q.2=192
  ·have k192:decide (((q.2:Nat):Int)=192)=true:=dEt (by omega);obtain rfl:S=([],192):=by rw[<- hS];unfold yZw;simp[h192]
   simp only[go_sem,zE,k192];intros;exact yQ0 ⟨_,_,rfl,.inl rfl,rfl,rfl⟩
  have k192:decide (((q.2:Nat):Int)=192)=false:=dEf (by omega);cases hl:r.left
  ·simp only[go_sem,zE,k192];intros;cases hr:r.right
   ·simp only[go_sem,zE];intros;by_cases h0:q.2=0
    case neg =>
     have k0:decide (((q.2:Nat):Int)=0)=false:=dEf (by omega);have h193:q.2=193:=by omega
     obtain rfl:S=([],193):=by rw[<- hS];unfold yZw;simp[h193,hr,hl]
     simp only[go_sem,zE,k0];intros;exact yQ0 ⟨_,_,rfl,.inl rfl,rfl,rfl⟩
    have k0:decide (((q.2:Nat):Int)=0)=true:=dEt (by omega);have haf:=zJn hrow;by_cases h14:rule=14
    ·have k14:decide (((rule:Nat):Int)=14)=true:=dEt (by omega);have has:r.asks=2:=haf.2 (.inl h14);simp only[go_sem,zE,zA,k0,k14];intros;refine (hfl _).mono ?_;rintro _ st ⟨rfl,rfl⟩;cases hb1:(s.l.any λf=>memB (frF f) n)
     ·rw[hb1,Bool.false_or] at hbf;simp only[go_sem,zE,zA];intros;refine (hfr _).mono ?_;rintro _ st ⟨rfl,rfl⟩;cases hb2:(s.r.any λf=>memB (frF f) n)
      ·rw[hb2] at hbf;obtain rfl:S=(q.1,0):=by rw[<- hS];unfold yZw;simp[h0,<- hbf,hr,hl]
       simp only[go_sem,zE];intros;exact yQ0 ⟨_,_,rfl,hta,hza,rfl⟩
      ·rw[hb2] at hbf;obtain rfl:S=([],193):=by rw[<- hS];unfold yZw;simp[has,h0,<- hbf,hr,hl]
       simp only[go_sem,zE];intros;exact yQ0 ⟨_,_,rfl,.inl rfl,rfl,rfl⟩
     ·rw[hb1,Bool.true_or] at hbf;obtain rfl:S=([],193):=by rw[<- hS];unfold yZw;simp[has,h0,<- hbf,hr,hl]
      simp only[go_sem,zE];intros;exact yQ0 ⟨_,_,rfl,.inl rfl,rfl,rfl⟩
    by_cases h15:rule=15
    ·have k14:decide (((rule:Nat):Int)=14)=false:=dEf (by omega);have k15:decide (((rule:Nat):Int)=15)=true:=dEt (by omega);have has:r.asks=2:=haf.2 (.inr h15);simp only[go_sem,zE,zA,k0,k14,k15];intros;refine (hfl _).mono ?_;rintro _ st ⟨rfl,rfl⟩;cases hb1:(s.l.any λf=>memB (frF f) n)
     ·rw[hb1,Bool.false_or] at hbf;simp only[go_sem,zE,zA];intros;refine (hfr _).mono ?_;rintro _ st ⟨rfl,rfl⟩;cases hb2:(s.r.any λf=>memB (frF f) n)
      ·rw[hb2] at hbf;obtain rfl:S=(q.1,0):=by rw[<- hS];unfold yZw;simp[h0,<- hbf,hr,hl]
       simp only[go_sem,zE];intros;exact yQ0 ⟨_,_,rfl,hta,hza,rfl⟩
      ·rw[hb2] at hbf;obtain rfl:S=([],193):=by rw[<- hS];unfold yZw;simp[has,h0,<- hbf,hr,hl]
       simp only[go_sem,zE];intros;exact yQ0 ⟨_,_,rfl,.inl rfl,rfl,rfl⟩
     ·rw[hb1,Bool.true_or] at hbf;obtain rfl:S=([],193):=by rw[<- hS];unfold yZw;simp[has,h0,<- hbf,hr,hl]
      simp only[go_sem,zE];intros;exact yQ0 ⟨_,_,rfl,.inl rfl,rfl,rfl⟩
    ·have k14:decide (((rule:Nat):Int)=14)=false:=dEf (by omega);have k15:decide (((rule:Nat):Int)=15)=false:=dEf (by omega);have has:¬ r.asks=2:=λh=>(haf.1 h).elim h14 h15;obtain rfl:S=(q.1,0):=by rw[<- hS];unfold yZw;simp[has,h0,hr,hl]
     simp only[go_sem,zE,zA,k0,k14,k15];intros;exact yQ0 ⟨_,_,rfl,hta,hza,rfl⟩
   ·simp only[go_sem,zE,zA,zL];intros;refine (hHr _).mono ?_;rintro _ st ⟨rfl,rfl⟩;cases hbr:br
    ·obtain rfl:S=([],192):=by rw[<- hS];unfold yZw;simp[hr,hbr]
     simp only[go_sem,zE];intros;exact yQ0 ⟨_,_,rfl,.inl rfl,rfl,rfl⟩
    ·simp only[go_sem,zE];intros;by_cases h0:q.2=0
     case neg =>
      have k0:decide (((q.2:Nat):Int)=0)=false:=dEf (by omega);have h193:q.2=193:=by omega
      obtain rfl:S=([],193):=by rw[<- hS];unfold yZw;simp[h193,hr,hbr,hl]
      simp only[go_sem,zE,k0];intros;exact yQ0 ⟨_,_,rfl,.inl rfl,rfl,rfl⟩
     have k0:decide (((q.2:Nat):Int)=0)=true:=dEt (by omega);have haf:=zJn hrow;by_cases h14:rule=14
     ·have k14:decide (((rule:Nat):Int)=14)=true:=dEt (by omega);have has:r.asks=2:=haf.2 (.inl h14);simp only[go_sem,zE,zA,k0,k14];intros;refine (hfl _).mono ?_;rintro _ st ⟨rfl,rfl⟩;cases hb1:(s.l.any λf=>memB (frF f) n)
      ·rw[hb1,Bool.false_or] at hbf;simp only[go_sem,zE,zA];intros;refine (hfr _).mono ?_;rintro _ st ⟨rfl,rfl⟩;cases hb2:(s.r.any λf=>memB (frF f) n)
       ·rw[hb2] at hbf;obtain rfl:S=(q.1,0):=by rw[<- hS];unfold yZw;simp[h0,<- hbf,hr,hbr,hl]
        simp only[go_sem,zE];intros;exact yQ0 ⟨_,_,rfl,hta,hza,rfl⟩
       ·rw[hb2] at hbf;obtain rfl:S=([],193):=by rw[<- hS];unfold yZw;simp[has,h0,<- hbf,hr,hbr,hl]
        simp only[go_sem,zE];intros;exact yQ0 ⟨_,_,rfl,.inl rfl,rfl,rfl⟩
      ·rw[hb1,Bool.true_or] at hbf;obtain rfl:S=([],193):=by rw[<- hS];unfold yZw;simp[has,h0,<- hbf,hr,hbr,hl]
       simp only[go_sem,zE];intros;exact yQ0 ⟨_,_,rfl,.inl rfl,rfl,rfl⟩
     by_cases h15:rule=15
     ·have k14:decide (((rule:Nat):Int)=14)=false:=dEf (by omega);have k15:decide (((rule:Nat):Int)=15)=true:=dEt (by omega);have has:r.asks=2:=haf.2 (.inr h15);simp only[go_sem,zE,zA,k0,k14,k15];intros;refine (hfl _).mono ?_;rintro _ st ⟨rfl,rfl⟩;cases hb1:(s.l.any λf=>memB (frF f) n)
      ·rw[hb1,Bool.false_or] at hbf;simp only[go_sem,zE,zA];intros;refine (hfr _).mono ?_;rintro _ st ⟨rfl,rfl⟩;cases hb2:(s.r.any λf=>memB (frF f) n)
       ·rw[hb2] at hbf;obtain rfl:S=(q.1,0):=by rw[<- hS];unfold yZw;simp[h0,<- hbf,hr,hbr,hl]
        simp only[go_sem,zE];intros;exact yQ0 ⟨_,_,rfl,hta,hza,rfl⟩
       ·rw[hb2] at hbf;obtain rfl:S=([],193):=by rw[<- hS];unfold yZw;simp[has,h0,<- hbf,hr,hbr,hl]
        simp only[go_sem,zE];intros;exact yQ0 ⟨_,_,rfl,.inl rfl,rfl,rfl⟩
      ·rw[hb1,Bool.true_or] at hbf;obtain rfl:S=([],193):=by rw[<- hS];unfold yZw;simp[has,h0,<- hbf,hr,hbr,hl]
       simp only[go_sem,zE];intros;exact yQ0 ⟨_,_,rfl,.inl rfl,rfl,rfl⟩
     ·have k14:decide (((rule:Nat):Int)=14)=false:=dEf (by omega);have k15:decide (((rule:Nat):Int)=15)=false:=dEf (by omega);have has:¬ r.asks=2:=λh=>(haf.1 h).elim h14 h15;obtain rfl:S=(q.1,0):=by rw[<- hS];unfold yZw;simp[has,h0,hr,hbr,hl]
      simp only[go_sem,zE,zA,k0,k14,k15];intros;exact yQ0 ⟨_,_,rfl,hta,hza,rfl⟩
  ·simp only[go_sem,zE,zA,zL,k192];intros;refine (hHl _).mono ?_;rintro _ st ⟨rfl,rfl⟩;cases hbl:bl
   ·obtain rfl:S=([],192):=by rw[<- hS];unfold yZw;simp[hl,hbl]
    simp only[go_sem,zE];intros;exact yQ0 ⟨_,_,rfl,.inl rfl,rfl,rfl⟩
   ·simp only[go_sem,zE];intros;cases hr:r.right
    ·simp only[go_sem,zE];intros;by_cases h0:q.2=0
     case neg =>
      have k0:decide (((q.2:Nat):Int)=0)=false:=dEf (by omega);have h193:q.2=193:=by omega
      obtain rfl:S=([],193):=by rw[<- hS];unfold yZw;simp[h193,hr,hl,hbl]
      simp only[go_sem,zE,k0];intros;exact yQ0 ⟨_,_,rfl,.inl rfl,rfl,rfl⟩
     have k0:decide (((q.2:Nat):Int)=0)=true:=dEt (by omega);have haf:=zJn hrow;by_cases h14:rule=14
     ·have k14:decide (((rule:Nat):Int)=14)=true:=dEt (by omega);have has:r.asks=2:=haf.2 (.inl h14);simp only[go_sem,zE,zA,k0,k14];intros;refine (hfl _).mono ?_;rintro _ st ⟨rfl,rfl⟩;cases hb1:(s.l.any λf=>memB (frF f) n)
      ·rw[hb1,Bool.false_or] at hbf;simp only[go_sem,zE,zA];intros;refine (hfr _).mono ?_;rintro _ st ⟨rfl,rfl⟩;cases hb2:(s.r.any λf=>memB (frF f) n)
       ·rw[hb2] at hbf;obtain rfl:S=(q.1,0):=by rw[<- hS];unfold yZw;simp[h0,<- hbf,hr,hl,hbl]
        simp only[go_sem,zE];intros;exact yQ0 ⟨_,_,rfl,hta,hza,rfl⟩
       ·rw[hb2] at hbf;obtain rfl:S=([],193):=by rw[<- hS];unfold yZw;simp[has,h0,<- hbf,hr,hl,hbl]
        simp only[go_sem,zE];intros;exact yQ0 ⟨_,_,rfl,.inl rfl,rfl,rfl⟩
      ·rw[hb1,Bool.true_or] at hbf;obtain rfl:S=([],193):=by rw[<- hS];unfold yZw;simp[has,h0,<- hbf,hr,hl,hbl]
       simp only[go_sem,zE];intros;exact yQ0 ⟨_,_,rfl,.inl rfl,rfl,rfl⟩
     by_cases h15:rule=15
     ·have k14:decide (((rule:Nat):Int)=14)=false:=dEf (by omega);have k15:decide (((rule:Nat):Int)=15)=true:=dEt (by omega);have has:r.asks=2:=haf.2 (.inr h15);simp only[go_sem,zE,zA,k0,k14,k15];intros;refine (hfl _).mono ?_;rintro _ st ⟨rfl,rfl⟩;cases hb1:(s.l.any λf=>memB (frF f) n)
      ·rw[hb1,Bool.false_or] at hbf;simp only[go_sem,zE,zA];intros;refine (hfr _).mono ?_;rintro _ st ⟨rfl,rfl⟩;cases hb2:(s.r.any λf=>memB (frF f) n)
       ·rw[hb2] at hbf;obtain rfl:S=(q.1,0):=by rw[<- hS];unfold yZw;simp[h0,<- hbf,hr,hl,hbl]
        simp only[go_sem,zE];intros;exact yQ0 ⟨_,_,rfl,hta,hza,rfl⟩
       ·rw[hb2] at hbf;obtain rfl:S=([],193):=by rw[<- hS];unfold yZw;simp[has,h0,<- hbf,hr,hl,hbl]
        simp only[go_sem,zE];intros;exact yQ0 ⟨_,_,rfl,.inl rfl,rfl,rfl⟩
      ·rw[hb1,Bool.true_or] at hbf;obtain rfl:S=([],193):=by rw[<- hS];unfold yZw;simp[has,h0,<- hbf,hr,hl,hbl]
       simp only[go_sem,zE];intros;exact yQ0 ⟨_,_,rfl,.inl rfl,rfl,rfl⟩
     ·have k14:decide (((rule:Nat):Int)=14)=false:=dEf (by omega);have k15:decide (((rule:Nat):Int)=15)=false:=dEf (by omega);have has:¬ r.asks=2:=λh=>(haf.1 h).elim h14 h15;obtain rfl:S=(q.1,0):=by rw[<- hS];unfold yZw;simp[has,h0,hr,hl,hbl]
      simp only[go_sem,zE,zA,k0,k14,k15];intros;exact yQ0 ⟨_,_,rfl,hta,hza,rfl⟩
    ·simp only[go_sem,zE,zA,zL];intros;refine (hHr _).mono ?_;rintro _ st ⟨rfl,rfl⟩;cases hbr:br
     ·obtain rfl:S=([],192):=by rw[<- hS];unfold yZw;simp[hr,hbr]
      simp only[go_sem,zE];intros;exact yQ0 ⟨_,_,rfl,.inl rfl,rfl,rfl⟩
     ·simp only[go_sem,zE];intros;by_cases h0:q.2=0
      case neg =>
       have k0:decide (((q.2:Nat):Int)=0)=false:=dEf (by omega);have h193:q.2=193:=by omega
       obtain rfl:S=([],193):=by rw[<- hS];unfold yZw;simp[h193,hr,hbr,hl,hbl]
       simp only[go_sem,zE,k0];intros;exact yQ0 ⟨_,_,rfl,.inl rfl,rfl,rfl⟩
      have k0:decide (((q.2:Nat):Int)=0)=true:=dEt (by omega);have haf:=zJn hrow;by_cases h14:rule=14
      ·have k14:decide (((rule:Nat):Int)=14)=true:=dEt (by omega);have has:r.asks=2:=haf.2 (.inl h14);simp only[go_sem,zE,zA,k0,k14];intros;refine (hfl _).mono ?_;rintro _ st ⟨rfl,rfl⟩;cases hb1:(s.l.any λf=>memB (frF f) n)
       ·rw[hb1,Bool.false_or] at hbf;simp only[go_sem,zE,zA];intros;refine (hfr _).mono ?_;rintro _ st ⟨rfl,rfl⟩;cases hb2:(s.r.any λf=>memB (frF f) n)
        ·rw[hb2] at hbf;obtain rfl:S=(q.1,0):=by rw[<- hS];unfold yZw;simp[h0,<- hbf,hr,hbr,hl,hbl]
         simp only[go_sem,zE];intros;exact yQ0 ⟨_,_,rfl,hta,hza,rfl⟩
        ·rw[hb2] at hbf;obtain rfl:S=([],193):=by rw[<- hS];unfold yZw;simp[has,h0,<- hbf,hr,hbr,hl,hbl]
         simp only[go_sem,zE];intros;exact yQ0 ⟨_,_,rfl,.inl rfl,rfl,rfl⟩
       ·rw[hb1,Bool.true_or] at hbf;obtain rfl:S=([],193):=by rw[<- hS];unfold yZw;simp[has,h0,<- hbf,hr,hbr,hl,hbl]
        simp only[go_sem,zE];intros;exact yQ0 ⟨_,_,rfl,.inl rfl,rfl,rfl⟩
      by_cases h15:rule=15
      ·have k14:decide (((rule:Nat):Int)=14)=false:=dEf (by omega);have k15:decide (((rule:Nat):Int)=15)=true:=dEt (by omega);have has:r.asks=2:=haf.2 (.inr h15);simp only[go_sem,zE,zA,k0,k14,k15];intros;refine (hfl _).mono ?_;rintro _ st ⟨rfl,rfl⟩;cases hb1:(s.l.any λf=>memB (frF f) n)
       ·rw[hb1,Bool.false_or] at hbf;simp only[go_sem,zE,zA];intros;refine (hfr _).mono ?_;rintro _ st ⟨rfl,rfl⟩;cases hb2:(s.r.any λf=>memB (frF f) n)
        ·rw[hb2] at hbf;obtain rfl:S=(q.1,0):=by rw[<- hS];unfold yZw;simp[h0,<- hbf,hr,hbr,hl,hbl]
         simp only[go_sem,zE];intros;exact yQ0 ⟨_,_,rfl,hta,hza,rfl⟩
        ·rw[hb2] at hbf;obtain rfl:S=([],193):=by rw[<- hS];unfold yZw;simp[has,h0,<- hbf,hr,hbr,hl,hbl]
         simp only[go_sem,zE];intros;exact yQ0 ⟨_,_,rfl,.inl rfl,rfl,rfl⟩
       ·rw[hb1,Bool.true_or] at hbf;obtain rfl:S=([],193):=by rw[<- hS];unfold yZw;simp[has,h0,<- hbf,hr,hbr,hl,hbl]
        simp only[go_sem,zE];intros;exact yQ0 ⟨_,_,rfl,.inl rfl,rfl,rfl⟩
      ·have k14:decide (((rule:Nat):Int)=14)=false:=dEf (by omega);have k15:decide (((rule:Nat):Int)=15)=false:=dEf (by omega);have has:¬ r.asks=2:=λh=>(haf.1 h).elim h14 h15;obtain rfl:S=(q.1,0):=by rw[<- hS];unfold yZw;simp[has,h0,hr,hbr,hl,hbl]
       simp only[go_sem,zE,zA,k0,k14,k15];intros;exact yQ0 ⟨_,_,rfl,hta,hza,rfl⟩
theorem zYz (l m:List Sq)(t t':Tag)(xs ys:List IV)(ht:okEs t 2)(ht':okEs t' 2)(hx:IsSqs l xs)(hy:IsSqs m ys)(st:ISt) :
  ICall prog gl 60 [.sl t xs,.sl t' ys] st (λr st'=>r=.raw (.bool (eqB l m))/\st'=st):=by
 refine iI func60 rfl rfl (by kernel_rfl) ?_;simp only[go_sem,zE,reduceCtorEq,hx.len,hy.len];intro hl1 hl2;by_cases hlen:l.length=m.length
 case neg =>
  simp only[go_sem,show decide (((l.length:Nat):Int)=m.length)=false from dEf (by omega)];exact yQ0 ⟨by rw[yQh.2 λh=>hlen (by rw[h])],rfl⟩
 simp only[go_sem,show decide (((l.length:Nat):Int)=m.length)=true from dEt (by omega)];refine LoopC.ctr l.length (λk fr st' ds=>l.take k=m.take k/\fr 0=.iv (.sl t xs)/\fr 1=.iv (.sl t' ys)/\fr 5=.iv (.raw (.int .i64 k))/\st'=st/\ds=[]) ?_ ?_ ?_
 ·simp only[go_sem,zE,reduceCtorEq];simp
 ·rintro k fr st1 _ hlt ⟨hn,f0,f1,f5,rfl,rfl⟩;obtain⟨a,ha⟩:=yQ3 hlt;obtain⟨b,hb⟩:=yQ3 (l:=m) (k:=k) (by omega);obtain⟨x,hkx,hxa⟩:=hx.get ha;obtain⟨y,hky,hyb⟩:=hy.get hb;have hcall:=yGv gl a b x y hxa hyb st1;obtain⟨_,_,_,_,rfl⟩:=IsSq.two hxa;obtain⟨_,_,_,_,rfl⟩:=IsSq.two hyb;simp only[go_sem,zE,zB,zA,reduceCtorEq,f0,f1,f5,hx.len,lt_i hlt,yQ1 ht,yQ1 ht',iNn,hkx,hky,fits];intros;refine hcall.mono ?_;rintro _ _ ⟨rfl,rfl⟩;cases hq:eqB a b
  ·simp only[go_sem];refine yQ0 ⟨?_,rfl⟩;rw[yQh.2 λh=>?_];subst h;rw[ha] at hb;cases hb;exact yQh.1 hq rfl
  ·simp only[go_sem,zE,reduceCtorEq,f0,f1,f5,yQa hlt (show l.length<=281474976710656 by omega)];rw[yQ5 ha,yQ5 hb,hn,yQk.1 hq]
 ·rintro fr st1 _ ⟨hn,f0,f1,f5,rfl,rfl⟩;rw[lTl,show m.take l.length=m by rw[hlen,lTl]] at hn;simp only[go_sem,zE,reduceCtorEq,f0,f5,hx.len,yQj (nLi _)];intros;exact yQ0 ⟨by rw[yQk.2 hn],rfl⟩
theorem wZq (k i:Nat)(st:ISt):ICall prog gl 109 [.raw (.int .i64 k),.raw (.int .i64 i)] st (λr st'=>(∃a b,r=.agg [a,b]/\a.one=true/\b.one=true)/\st'=st):=by
 have hall:(mkD k i).all IV.one=true:=rfl;have hml:(mkD k i).length=4:=rfl;refine iI func109 rfl rfl (by kernel_rfl) ?_;simp only[go_sem,zE,zA,reduceCtorEq];refine (yGt gl k i _).mono ?_;rintro _ st ⟨rfl,rfl⟩;simp only[go_sem,zE,zA,zM,zL,fits,yQ2,hall,hml];exact yQ0 ⟨⟨_,_,rfl,rfl,rfl⟩,rfl⟩
theorem yU7 (f:Bool)(e:Nat)(st:ISt):ICall prog gl 61 [.sl ⟨f,.nil,e⟩ []] st (λ_ st'=>st'=st):=by
 refine iI func61 rfl rfl (by kernel_rfl) ?_;simp only[go_sem];refine LoopC.ctr 0 (λk fr st' ds=>fr 0=.iv (.sl ⟨f,.nil,e⟩ [])/\fr 2=.iv (.raw (.int .i64 0))/\st'=st/\ds=[]) ?_ ?_ ?_
 ·simp only[go_sem,reduceCtorEq]
 ·intro k _ _ _ h;omega
 ·rintro fr st _ ⟨f0,f2,rfl,rfl⟩;simp only[go_sem,zE,zL,reduceCtorEq,f0,f2,show decide ((0:Int)<((0:Nat):Int))=false from rfl,show IntKind.i64.wrap (((0:Nat):Int)+12)=12 from rfl,show min (0:Int) 12=((0:Nat):Int) from rfl,yJm (Nat.le_refl 0)];intros;refine LoopC.ctr 0 (λk fr st' ds=>(∃t,fr 3=.iv (.sl t []))/\fr 4=.iv (.raw (.int .i64 0))/\st'=st/\ds=[]) ?_ ?_ ?_
  ·simp only[go_sem,zE];exact⟨_,rfl⟩
  ·intro k _ _ _ h;omega
  ·rintro fr st _ ⟨⟨t,f3⟩,f4,rfl,rfl⟩;simp only[go_sem,zE,zL,f3,f4,show decide ((0:Int)<((0:Nat):Int))=false from rfl];intros;exact yQ0 rfl
theorem zG0 {D:Nat->Prop}{d:Nat}{x:IV}{st:ISt}(h:OK D d 2 st x):ICall prog gl 61 [x] st (λ_ st'=>∀b,¬ D b->st' b=st b):=by
 cases d with
 | zero =>
  rcases h with⟨f,e,rfl⟩|rfl
  ·exact (yU7 gl f e st).mono λ_ _ h _ _=>by rw[h]
  ·exact ICall.nil1 ((yU7 gl _ _ st).mono λ_ _ h _ _=>by rw[h])
 | succ d =>
  rcases h with (⟨f,e,rfl⟩|rfl)|⟨g,n,c,cs,v,rfl,hD,hn,hnc,hg,hlen,h0,hv,hi⟩
  ·exact (yU7 gl f e st).mono λ_ _ h _ _=>by rw[h]
  ·exact ICall.nil1 ((yU7 gl _ _ st).mono λ_ _ h _ _=>by rw[h])
  have hw:OK D (d+1) 2 st (.raw (.slice (some ⟨g,0,none⟩) n c)):=.inr ⟨g,n,c,cs,v,rfl,hD,hn,hnc,hg,hlen,h0,hv,hi⟩;clear hg hlen h0 hv hi;have hwn:IntKind.i64.wrap ((n:Int)+12)=((n+12:Nat):Int):=by rw[w64]<;>omega
  have hmin:min (c:Int) ((n+12:Nat):Int)=((min c (n+12):Nat):Int):=by omega
  generalize hm:min c (n+12)=m at hmin;have hmc:m<=c:=by omega
  have hmb:m<=281474976710000:=by omega
  refine iI func61 rfl rfl (by kernel_rfl) ?_;simp only[go_sem];refine LoopC.ctr n (λk fr st' ds=>fr 0=.iv (.raw (.slice (some ⟨g,0,none⟩) n c))/\fr 2=.iv (.raw (.int .i64 k))/\Ow D st st'/\ds=[]) ?_ ?_ ?_
  ·simp only[go_sem,reduceCtorEq];exact⟨rfl,Ow.refl _ _⟩
  ·rintro k fr st1 _ hlt ⟨f0,f2,hov,rfl⟩;obtain⟨e,cs1,v,he,_,_,_,hg1,hl1,_,_,hi1⟩:=(hov.keep _ _ _ hw).raw;obtain rfl:d=e:=by omega
   obtain⟨hone,h2⟩:=hi1 k hlt;have hle:k*2+2<=cs1.length:=by omega
   obtain⟨y,q1,y1,y2⟩:=hone 0 (by omega);obtain⟨z,q2,z1,z2⟩:=hone 1 (by omega);have hcl:(cs1.drop (k*2)).take 2=[y,z]:=by
    apply List.ext_getElem?;intro j;rw[List.getElem?_take,List.getElem?_drop]
    match j with
    | 0=>simpa using q1
    | 1=>simpa using q2
    | j+2=>rw[if_neg (by omega)];rfl
   have hcall:=xU0 gl y1 y2 z1 z2 (h2 0 _ 4 q1 rfl) (h2 1 _ 4 q2 rfl);simp only[go_sem,zE,zA,reduceCtorEq,f0,f2,lt_i hlt,iNn,hlt,hg1,hle,hcl];refine hcall.mono ?_;rintro _ st2 hov2;simp only[go_sem,zE,reduceCtorEq,f0,f2,yQa hlt (show n<=281474976710656 by omega)];exact hov.trans hov2
  ·rintro fr st1 _ ⟨f0,f2,hov,rfl⟩;obtain⟨e,cs1,v,_,_,_,_,hg1,hl1,_⟩:=(hov.keep _ _ _ hw).raw;simp only[go_sem,zE,reduceCtorEq,f0,f2,yQj (nLi _),hwn,hmin,hnc,yJm hmc,ite_self,Nat.zero_mul];refine LoopC.ctr m (λk fr st' ds=>fr 3=.iv (.raw (.slice (some ⟨g,0,none⟩) m c))/\fr 4=.iv (.raw (.int .i64 k))/\(∃cs2,st' g=some (.box cs2)/\cs2.length=cs1.length)/\(∀b,¬ D b->st' b=st b)/\ds=[]) ?_ ?_ ?_
   ·simp only[go_sem,zE];exact⟨rfl,⟨_,hg1,rfl⟩,hov.dom⟩
   ·rintro k fr st2 _ hlt ⟨f3,f4,⟨cs2,hg2,hl2⟩,hdom,rfl⟩;have hle:k*2+2<=cs2.length:=by omega
    simp only[go_sem,zE,zA,f3,f4,lt_i hlt];refine (wZq gl 2 k st2).mono ?_;rintro _ st2 ⟨⟨a,b,rfl,ha,hb⟩,rfl⟩;have hln:(yZx cs2 (k*2) [a,b]).length=cs2.length:=xQo hle;have hs3:(st2.put g (some (.box (yZx cs2 (k*2) [a,b])))) g=some (.box (yZx cs2 (k*2) [a,b])):=ISt.put_same ..;have hd3:∀b',¬ D b'->(st2.put g (some (.box (yZx cs2 (k*2) [a,b])))) b'=st b':=λb' hb'=>by
     rw[yZ0 (by rintro rfl;exact hb' hD)];exact hdom b' hb'
    generalize hcs3:yZx cs2 (k*2) [a,b]=cs3 at hln hs3 hd3;unfold yZx at hcs3;rw[show[a,b].length=2 from rfl] at hcs3;simp only[go_sem,zE,zA,f3,f4,iNn,hlt,hg2,hle,ha,hb,yQa hlt (show m<=281474976710656 by omega)];refine⟨⟨_,rfl,?_⟩,?_⟩
    ·rw[hcs3];omega
    ·rw[hcs3];exact hd3
   ·rintro fr st2 _ ⟨f3,f4,_,hdom,rfl⟩;simp only[go_sem,zE,f3,f4,yQj (nLi _)];intros;exact yQ0 hdom
theorem wUq (G:Gl gl)(ca rule:Nat)(s:Sq)(m:Fm)(u:Tm)(n:ByteArray)(sub:List Tr)(x:IV)(hx:IsTr (.mk rule s m u n sub) x)(hn:NA (.mk rule s m u n sub))(hu:zZj (.mk rule s m u n sub)=true)(st:ISt) :
  ICall prog gl 59 [.raw (.int .u8 ca),x] st (AdR st (xQ2 ca s rule m u n)):=by
 have hB:=λst=>wZb gl G ca _ x hx hn hu st;simp only at hB;obtain⟨tl,xl,tr,xr,op,fn,ta,xa,tb,xb,v,un,tu,xu,ts,xs,rfl,hru,e1,i1,e2,i2,hy,hz,e3,i3⟩:=hx.mk;simp only[NA] at hn;unfold xQ2;refine ICall.intro (c:=cf prog gl [] [(10,[0,1,2,3,5,6,7,8,9,11,12,13,14,16,17,18,19,20,23,4,10,15,21,22,24])]) func59 rfl (by show _<=87;simp) (by kernel_rfl) ?_;by_cases k1:1<=ca
 case neg =>
  have d1:decide ((ca:Int)<1)=true:=dEt (by omega);simp only[go_sem,zE,reduceCtorEq,d1];rw[show yX2 ca=false from by simp[yX2,k1]];exact yQ0 ⟨_,_,rfl,.inl rfl,rfl,rfl⟩
 have d1:decide ((ca:Int)<1)=false:=dEf (by omega);by_cases k2:ca<=3
 case neg =>
  have d2:decide ((3:Int)<ca)=true:=dEt (by omega);simp only[go_sem,zE,reduceCtorEq,d1,d2];rw[show yX2 ca=false from by simp[yX2,k2]];exact yQ0 ⟨_,_,rfl,.inl rfl,rfl,rfl⟩
 have d2:decide ((3:Int)<ca)=false:=dEf (by omega);have hk:yX2 ca=true:=by unfold yX2;rw[dEt k1,dEt k2];rfl
 rw[hk];simp only[go_sem,zE,zA,zL,reduceCtorEq,d1,d2];refine (hB _).mono ?_;rintro _ st ⟨tg,ys,rfl,he,hys,rfl⟩;generalize hq:yXj ca s rule m u n=q at hys ⊢;obtain⟨ad,er⟩:=q;simp only at hys ⊢;by_cases h0:er=0
 ·subst h0;obtain⟨hv,r,hr⟩:=xJ5 hq;have hfit:=zVv hr;have hal2:=xXp hr;have hvl:s.l.length<=64/\s.r.length<=64:=by
   unfold yXo at hv;simp only[bAt,dTe] at hv;exact⟨hv.1.1.1.1.2,hv.1.1.1.2⟩
  simp only[if_false,ne_eq,nTf];simp only[go_sem,zE,show decide (((0:Nat):Int)=0)=true from rfl];refine LoopC.ctr ad.length (λk fr st' ds=>(ad.take k).all (okI ca s)=true/\(∃tg' zs,fr 8=.iv (.sl tg' zs)/\IsSqs ((ad.take k).map (yZf ca s)) zs/\own st' tg' k 2 st/\subSt st st')/\fr 0=.iv (.raw (.int .u8 ca)) /\
   fr 3=.box [.raw (.int .u8 rule),.sl tl xl,.sl tr xr,.raw (.int .u8 op),.raw (.string fn),.sl ta xa,.sl tb xb,.raw (.bool v),.raw (.string un),.sl tu xu,.raw (.string n),.sl ts xs]/\fr 6=.iv (.sl tg ys)/\fr 9=.iv (.raw (.int .i64 k))/\ds=[]) ?_ ?_ ?_
  ·simp only[go_sem,zE,reduceCtorEq];exact⟨⟨_,_,rfl,rfl,own.nil _ _ _ _ _,subSt.refl _⟩,rfl⟩
  ·rintro k fr st1 _ hlt ⟨hall,⟨tgo,zs,f8,hzs,hown,hsub⟩,f0,f3,f6,f9,rfl⟩;obtain⟨a,ha⟩:=yQ3 hlt;obtain⟨w,hkw,hw⟩:=hys.get ha;have hza:=hfit a (lMg ha);obtain⟨t5,x5,t6,x6,rfl,k5,j5,k6,j6⟩:=hw;simp only[go_sem,zE,zA,zM,zL,f3,f6,f9,hys.len,lt_i hlt,yQ1 he,iNn,hkw,fits,show yKi 0 []=true from rfl];intros;refine yKw (S0:=st1) (n:=0) (s:=4) (own.full _ _ _ _) rfl i1.len (subSt.refl _) rfl (List.all_eq_true.2 (yXh i1)) (by show _*72<=_;omega) (by omega) λt7 st2 hown7 hsub7 _=>?_;simp only[go_sem,zE,zA];intros;refine yKw hown7 (by rw[i1.len,Nat.zero_add]) j5.len hsub7 rfl (List.all_eq_true.2 (yXh j5)) (by show _*72<=_;have:=hza.2.1;omega) (by have:=hza.2.1;omega) λt8 st3 hown8 hsub8 _=>?_;simp only[go_sem,zE,zA];intros;refine yKw (S0:=st3) (n:=0) (s:=4) (own.full _ _ _ _) rfl i2.len (subSt.refl _) rfl (List.all_eq_true.2 (yXh i2)) (by show _*72<=_;omega) (by omega) λt9 st4 hown9 hsub9 _=>?_;simp only[go_sem,zE,zA];intros;refine yKw hown9 (by rw[i2.len,Nat.zero_add]) j6.len hsub9 rfl (List.all_eq_true.2 (yXh j6)) (by show _*72<=_;have:=hza.2.2;omega) (by have:=hza.2.2;omega) λt10 st5 hown10 hsub10 _=>?_;simp only[go_sem,zE,zA];refine (yJ6 gl _ _ _ _ _).mono ?_;rintro _ st5 ⟨rfl,rfl⟩;have tL:=hown8.es;have tR:=hown10.es;have hsub':=hsub.trans ((hsub8).trans hsub10);have hown':=xW8 hown (hsub8.trans hsub10);obtain⟨L,hL⟩:∃L,L=xl++x5:=⟨_,rfl⟩
   have hLs:IsFms (yZf ca s a).l L:=hL▸i1.append j5;rw[<- hL];by_cases hca:ca=2
   ·have dca:decide ((ca:Int)=2)=true:=dEt (by omega);by_cases hr0:a.r.length=0
    ·obtain⟨R,hR⟩:∃R,R=xr++x6:=⟨_,rfl⟩
     have hRs:IsFms (yZf ca s a).r R:=by rw[hR];unfold yZf;rw[if_pos (by omega)];exact i2.append j6
     rw[<- hR];simp only[go_sem,zE,zA,zL,reduceCtorEq,f0,f6,f9,yQ1 he,iNn,hkw,fits,dca,j6.len,hr0,show decide ((0:Int)<((0:Nat):Int))=false from rfl];have hallA:∀(h:okI ca s a=false),ad.all (okI ca s)=false:=λh=>List.all_eq_false.2 ⟨a,lMg ha,by rw[h];simp⟩;by_cases hl64:(yZf ca s a).l.length<=64
     ·have dl:decide ((64:Int)<(((yZf ca s a).l.length:Nat):Int))=false:=dEf (by omega);by_cases hr64:(yZf ca s a).r.length<=64
      ·have dr:decide ((64:Int)<(((yZf ca s a).r.length:Nat):Int))=false:=dEf (by omega);have hok:okI ca s a=true:=by unfold okI;rw[dEt hl64,dEt hr64];rfl
       simp only[go_sem,zE,zA,zM,zL,f8,fits,hLs.len,hRs.len,dl,dr,yQ2];intros;refine yZq hown' (by rw[hzs.len,List.length_map,List.length_take];omega) hsub' rfl (by simp[fits,IV.one]) (by simp only;omega) (by omega) λtg2 st6 hown2 hsub4 _=>?_;simp only[go_sem,zE,reduceCtorEq,f0,f3,f6,f9,yQa hlt (show ad.length<=281474976710656 by omega)];refine⟨by rw[yQ5 ha,List.all_append,hall];simp[hok],⟨tg2,_,rfl,?_,hown2,hsub4⟩⟩;rw[yQ5 ha,List.map_append];exact hzs.append ⟨_,_,rfl,⟨_,_,_,_,rfl,tL,hLs,tR,hRs⟩,rfl⟩
      ·have dr:decide ((64:Int)<(((yZf ca s a).r.length:Nat):Int))=true:=dEt (by omega);simp only[go_sem,zE,hLs.len,hRs.len,dl,dr];intros;refine yQ9 hsub' ?_;rw[hallA (by unfold okI;rw[dEf hr64,Bool.and_false])];exact⟨_,_,rfl,.inl rfl,rfl,rfl⟩
     ·have dl:decide ((64:Int)<(((yZf ca s a).l.length:Nat):Int))=true:=dEt (by omega);simp only[go_sem,zE,hLs.len,dl];intros;refine yQ9 hsub' ?_;rw[hallA (by unfold okI;rw[dEf hl64,Bool.false_and])];exact⟨_,_,rfl,.inl rfl,rfl,rfl⟩
    ·have hRs:IsFms (yZf ca s a).r x6:=by unfold yZf;rw[if_neg (by omega)];exact j6
     simp only[go_sem,zE,zA,zL,reduceCtorEq,f0,f6,f9,yQ1 he,iNn,hkw,fits,dca,j6.len,show decide ((0:Int)<((a.r.length:Nat):Int))=true from dEt (by omega)];intros;have hallA:∀(h:okI ca s a=false),ad.all (okI ca s)=false:=λh=>List.all_eq_false.2 ⟨a,lMg ha,by rw[h];simp⟩;by_cases hl64:(yZf ca s a).l.length<=64
     ·have dl:decide ((64:Int)<(((yZf ca s a).l.length:Nat):Int))=false:=dEf (by omega);by_cases hr64:(yZf ca s a).r.length<=64
      ·have dr:decide ((64:Int)<(((yZf ca s a).r.length:Nat):Int))=false:=dEf (by omega);have hok:okI ca s a=true:=by unfold okI;rw[dEt hl64,dEt hr64];rfl
       simp only[go_sem,zE,zA,zM,zL,f8,fits,hLs.len,hRs.len,dl,dr,yQ2];intros;refine yZq hown' (by rw[hzs.len,List.length_map,List.length_take];omega) hsub' rfl (by simp[fits,IV.one]) (by simp only;omega) (by omega) λtg2 st6 hown2 hsub4 _=>?_;simp only[go_sem,zE,reduceCtorEq,f0,f3,f6,f9,yQa hlt (show ad.length<=281474976710656 by omega)];refine⟨by rw[yQ5 ha,List.all_append,hall];simp[hok],⟨tg2,_,rfl,?_,hown2,hsub4⟩⟩;rw[yQ5 ha,List.map_append];exact hzs.append ⟨_,_,rfl,⟨_,_,_,_,rfl,tL,hLs,k6,hRs⟩,rfl⟩
      ·have dr:decide ((64:Int)<(((yZf ca s a).r.length:Nat):Int))=true:=dEt (by omega);simp only[go_sem,zE,hLs.len,hRs.len,dl,dr];intros;refine yQ9 hsub' ?_;rw[hallA (by unfold okI;rw[dEf hr64,Bool.and_false])];exact⟨_,_,rfl,.inl rfl,rfl,rfl⟩
     ·have dl:decide ((64:Int)<(((yZf ca s a).l.length:Nat):Int))=true:=dEt (by omega);simp only[go_sem,zE,hLs.len,dl];intros;refine yQ9 hsub' ?_;rw[hallA (by unfold okI;rw[dEf hl64,Bool.false_and])];exact⟨_,_,rfl,.inl rfl,rfl,rfl⟩
   ·have dca:decide ((ca:Int)=2)=false:=dEf (by omega);obtain⟨R,hR⟩:∃R,R=xr++x6:=⟨_,rfl⟩
    have hRs:IsFms (yZf ca s a).r R:=by rw[hR];unfold yZf;rw[if_pos (by omega)];exact i2.append j6
    rw[<- hR];simp only[go_sem,zE,zA,zL,reduceCtorEq,f0,dca];have hallA:∀(h:okI ca s a=false),ad.all (okI ca s)=false:=λh=>List.all_eq_false.2 ⟨a,lMg ha,by rw[h];simp⟩;by_cases hl64:(yZf ca s a).l.length<=64
    ·have dl:decide ((64:Int)<(((yZf ca s a).l.length:Nat):Int))=false:=dEf (by omega);by_cases hr64:(yZf ca s a).r.length<=64
     ·have dr:decide ((64:Int)<(((yZf ca s a).r.length:Nat):Int))=false:=dEf (by omega);have hok:okI ca s a=true:=by unfold okI;rw[dEt hl64,dEt hr64];rfl
      simp only[go_sem,zE,zA,zM,zL,f8,fits,hLs.len,hRs.len,dl,dr,yQ2];intros;refine yZq hown' (by rw[hzs.len,List.length_map,List.length_take];omega) hsub' rfl (by simp[fits,IV.one]) (by simp only;omega) (by omega) λtg2 st6 hown2 hsub4 _=>?_;simp only[go_sem,zE,reduceCtorEq,f0,f3,f6,f9,yQa hlt (show ad.length<=281474976710656 by omega)];refine⟨by rw[yQ5 ha,List.all_append,hall];simp[hok],⟨tg2,_,rfl,?_,hown2,hsub4⟩⟩;rw[yQ5 ha,List.map_append];exact hzs.append ⟨_,_,rfl,⟨_,_,_,_,rfl,tL,hLs,tR,hRs⟩,rfl⟩
     ·have dr:decide ((64:Int)<(((yZf ca s a).r.length:Nat):Int))=true:=dEt (by omega);simp only[go_sem,zE,hLs.len,hRs.len,dl,dr];intros;refine yQ9 hsub' ?_;rw[hallA (by unfold okI;rw[dEf hr64,Bool.and_false])];exact⟨_,_,rfl,.inl rfl,rfl,rfl⟩
    ·have dl:decide ((64:Int)<(((yZf ca s a).l.length:Nat):Int))=true:=dEt (by omega);simp only[go_sem,zE,hLs.len,dl];intros;refine yQ9 hsub' ?_;rw[hallA (by unfold okI;rw[dEf hl64,Bool.false_and])];exact⟨_,_,rfl,.inl rfl,rfl,rfl⟩
  ·rintro fr st1 _ ⟨hall,⟨tgo,zs,f8,hzs,hown,hsub⟩,f0,f3,f6,f9,rfl⟩;rw[lTl] at hall hzs;simp only[go_sem,zE,f6,f8,f9,hys.len,yQj (nLi _)];intros;rw[if_pos hall];exact yQ9 hsub ⟨_,_,rfl,hown.es,hzs,rfl⟩
 ·have hd0:decide (((er:Nat):Int)=0)=false:=dEf (by omega);simp only[ne_eq,h0,nFt,if_true];simp only[go_sem,zE,hd0];exact yQ0 ⟨_,_,rfl,.inl rfl,rfl,rfl⟩
theorem wVz {a:Tr}{x:IV}(h:IsTr a x):IsTrs [a] [x]:=by simp only[IsTrs];exact⟨x,[],rfl,h,rfl⟩
def wXq (t:Tr):Prop:=∀(x:IV) (_:IsTr t x) (_:okT t=true) (_:t.steps<=1000) (st:ISt),ICall prog gl 28 [x] st (λr st'=>IsTr t r/\st'=st)
theorem xU6 (rule:Nat)(s:Sq)(f:Fm)(u:Tm)(n:ByteArray)(sub:List Tr)(IH:∀a∈sub,wXq gl a):wXq gl (.mk rule s f u n sub):=by
 intro x hx hok hst st;obtain⟨tl,xl,tr,xr,op,fn,ta,xa,tb,xb,v,un,tu,xu,ts,xs,rfl,hru,e1,i1,e2,i2,hy,hz,e3,i3⟩:=hx.mk;simp only[Tr.steps] at hst;have hlsub:=yW4 sub;have hok2:okTs sub=true:=by
  simp only[okT,bAt] at hok;exact hok.2
 have hnode:wFms s.l+wFms s.r<=300/\wFm f<=300/\wTm u<=300:=by
  simp only[okT,bAt] at hok;exact⟨(yKf hok.1).1,(yKf hok.1).2.1,(yKf hok.1).2.2.1⟩
 have h1:=λst=>xU1 gl s (.agg [.sl tl xl,.sl tr xr]) ⟨tl,xl,tr,xr,rfl,e1,i1,e2,i2⟩ (by have:=yKo s.l;omega) (by have:=yKo s.r;omega) st;have h2:=λst=>zKr gl f _ hy (by have:=zJ7 f;omega) st;have h3:=λst=>xKc gl u _ hz (by have:=zQf u;omega) st;refine ICall.intro (c:=cf prog gl [] [(1,[0,1,2,3,5,6,8,9,11,12,14,4,7,10,13,15])]) func28 rfl (by show _<=38;simp) (by kernel_rfl) ?_;simp only[go_sem,zE,zA,zL];refine (h1 _).mono ?_;rintro _ st ⟨⟨c1,y1,c2,y2,rfl,g1,_,k1,g2,_,k2⟩,rfl⟩;simp only[go_sem,zE,zA];refine (h2 _).mono ?_;rintro r2 st ⟨hr2,rfl⟩;obtain⟨o2,n2,ta2,xa2,tb2,xb2,rfl⟩:=IsFmD.aggs hr2;simp only[go_sem,zE,zA];refine (h3 _).mono ?_;rintro r3 st ⟨hr3,rfl⟩;obtain⟨v3,n3,t3,x3,rfl⟩:=hr3.agg;simp only[go_sem,zE,zA,zL,fits];refine LoopC.ctr sub.length (λk fr st' ds=>(∃tg' ys,fr 3=.box [.raw (.int .u8 rule),.sl c1 y1,.sl c2 y2,.raw (.int .u8 o2),.raw (.string n2),.sl ta2 xa2,.sl tb2 xb2,.raw (.bool v3),.raw (.string n3),.sl t3 x3,.raw (.string n),.sl tg' ys]/\IsTrs (sub.take k) ys/\own st' tg' k 12 st/\subSt st st') /\
  fr 1=.box [.raw (.int .u8 rule),.sl tl xl,.sl tr xr,.raw (.int .u8 op),.raw (.string fn),.sl ta xa,.sl tb xb,.raw (.bool v),.raw (.string un),.sl tu xu,.raw (.string n),.sl ts xs] /\
  fr 2=.box [.raw (.int .u8 0),.sl ⟨true,.nil,0⟩ [],.sl ⟨true,.nil,0⟩ [],.raw (.int .u8 0),.raw (.string ⟨#[]⟩),.sl ⟨true,.nil,0⟩ [],.sl ⟨true,.nil,0⟩ [],.raw (.bool false),.raw (.string ⟨#[]⟩),.sl ⟨true,.nil,0⟩ [],.raw (.string ⟨#[]⟩),.sl ⟨true,.nil,0⟩ []]/\fr 4=.iv (.raw (.int .i64 k))/\ds=[]) ?_ ?_ ?_
 ·simp only[go_sem,zE];exact⟨⟨_,_,rfl,rfl,own.nil _ _ _ _ _,subSt.refl _⟩,rfl⟩
 ·rintro k fr st1 _ hlt ⟨⟨tg',ys,f3,hys,hown,hsub⟩,f1,f2,f4,rfl⟩;obtain⟨a,ha⟩:=yQ3 hlt;have ham:=lMg ha;obtain⟨z,hkz,hzz⟩:=i3.get ha;have hlen2:ys.length=k:=by rw[hys.len,List.length_take];omega
  have hcall:=λst=>IH a ham z hzz (zGz hok2 ham) (by have:=yYt ham;omega) st;obtain⟨rule',tl',xl',tr',xr',op',fn',ta',xa',tb',xb',v',un',tu',xu',n',ts',xs',rfl⟩:=yUo hzz;simp only[go_sem,zE,zB,zA,f1,f3,f4,i3.len,lt_i hlt,yQ1 e3,iNn,hkz,fits];intro _;refine (hcall _).mono ?_;rintro r _ ⟨hr,rfl⟩;have hn:IsTrs (sub.take (k+1)) (ys++[r]):=by
   rw[yQ5 ha];exact hys.append (wVz hr)
  obtain⟨rule',tl',xl',tr',xr',op',fn',ta',xa',tb',xb',v',un',tu',xu',n',ts',xs',rfl⟩:=yUo hr;simp only[go_sem,zE,zA,zM,zL,fits,yQ2];refine yX4 hown hlen2 hsub rfl (by simp[fits,IV.one]) (by simp only;omega) (by omega) λtg2 st4 hown2 hsub4 _ hap2=>?_;simp only[go_sem,zE,zA,zL,f1,f2,f3,f4,yQa hlt (show sub.length<=281474976710656 by omega)];exact⟨tg2,_,rfl,hn,hown2,hsub4⟩
 ·rintro fr st1 _ ⟨⟨tg',ys,f3,hys,hown,hsub⟩,f1,f2,f4,rfl⟩;rw[lTl] at hys;simp only[go_sem,zE,zA,zL,f1,f2,f3,f4,i3.len,yQj (nLi _)];intro _;refine yQ9 (st':=st) hsub ⟨?_,rfl⟩;simp only[IsTr];exact⟨_,_,_,_,_,_,_,_,_,_,_,_,_,_,_,_,rfl,hru,g1,k1.1,g2,k2.1,hr2.1,hr3.1,hown.es,hys⟩
theorem xZz:∀(k:Nat)(t:Tr),SizeOf.sizeOf t<k->wXq gl t
 | 0,t,h=>by omega
 | k+1,.mk r sq f u n sub,h=>xU6 gl r sq f u n sub (λa ha=>xZz k a (by
   have:=lSm ha;simp at h;omega))
theorem wV9 {N:ISt}(hraw:wV2 N){l:List Sq}{y:IV}{t:Tag}{xs:List IV}(hy:rawY y)(ho:OI N y (.sl t xs))(hes:okEs t 2)(hap:appT l.length t)(hxs:IsSqsD l xs):y.one=true/\∃d,OK (λb=>N b≠none) d 2 N y:=by
 have hlen:=hxs.w.len;cases ho with
 | refl=>exact hy.elim
 | nil _ h=>exact⟨rfl,0,.inr rfl⟩
 | sl g cap _ _ cs hcap hlen' hcl hs hst hroom h =>
  have h3:=zU0 hes hcap;rw[h3] at hroom;have hs3:∀x∈xs,x.cells.length=2:=yZi hxs;have hpos:0<xs.length:=by
   rcases hap with hn|hp
   ·rw[hcap] at hn;cases hn
   ·rw[hlen];exact hp.1
  have hcc:=Nat.mul_le_mul_right 2 hcl;have part:∀i,i<xs.length->∃(r0 r1:IV) (v0 v1:Option Addr×Nat×Nat),cs[2*i]?=some r0/\cs[2*i+1]?=some r1/\r0=.raw (.slice v0.1 v0.2.1 v0.2.2)/\r1=.raw (.slice v1.1 v1.2.1 v1.2.2) /\
    (∃d,OK (λb=>N b≠none) d 4 N r0)/\∃d,OK (λb=>N b≠none) d 4 N r1:=λi hi=>by
   obtain⟨x,hx⟩:=yQ3 hi;obtain⟨s,ha,hax⟩:=hxs.mem hx;obtain⟨t1,x1,t2,x2,rfl,e1,a1,i1,e2,a2,i2⟩:=hax;obtain⟨r0,hr0⟩:=yQ3 (show 2*i<cs.length by omega);obtain⟨r1,hr1⟩:=yQ3 (show 2*i+1<cs.length by omega);have f0:=yVa hs3 hx (show 0<2 by omega);have f1:=yVa hs3 hx (show 1<2 by omega);have o0:=h _ _ _ hr0 f0;have o1:=h _ _ _ hr1 f1;obtain⟨w,rfl⟩:=yG0 (hraw _ _ hst r0 (lMg hr0)) o0;obtain⟨w',rfl⟩:=yG0 (hraw _ _ hst r1 (lMg hr1)) o1;have q0:=zGy hraw _ s.l (Nat.lt_succ_self _) _ _ _ ⟨w,rfl⟩ o0 e1 i1.1 (xVp a1 i1);have q1:=zGy hraw _ s.r (Nat.lt_succ_self _) _ _ _ ⟨w',rfl⟩ o1 e2 i2.1 (xVp a2 i2);have g0:∃q:Option Addr×Nat×Nat,w=.slice q.1 q.2.1 q.2.2:=by cases o0 with|nil=>exact⟨(_,_,_),rfl⟩|sl=>exact⟨(_,_,_),rfl⟩
   have g1:∃q:Option Addr×Nat×Nat,w'=.slice q.1 q.2.1 q.2.2:=by cases o1 with|nil=>exact⟨(_,_,_),rfl⟩|sl=>exact⟨(_,_,_),rfl⟩
   obtain⟨p0,rfl⟩:=g0;obtain⟨p1,rfl⟩:=g1;exact⟨_,_,p0,p1,hr0,hr1,rfl,rfl,q0,q1⟩
  have each:∀i,i<xs.length->∃d,(∀y,cs[i*2+0]?=some y->OK (λb=>N b≠none) d 4 N y)/\∀y,cs[i*2+1]?=some y->OK (λb=>N b≠none) d 4 N y:=λi hi=>by
   obtain⟨r0,r1,v0,v1,k0,k1,_,_,⟨d,hd⟩,e,he⟩:=part i hi;refine⟨d+e,λy hy=>?_,λy hy=>?_⟩
   ·rw[Nat.mul_comm,Nat.add_zero,k0] at hy;cases hy;exact hd.le (by omega)
   ·rw[Nat.mul_comm,k1] at hy;cases hy;exact he.le (by omega)
  obtain⟨d,hd'⟩:=zZa (P:=λd i=>(∀y,cs[i*2+0]?=some y->OK (λb=>N b≠none) d 4 N y)/\∀y,cs[i*2+1]?=some y->OK (λb=>N b≠none) d 4 N y) (λd i h=>⟨λy hy=>(h.1 y hy).up,λy hy=>(h.2 y hy).up⟩) _ each;obtain⟨r0,_,v0,_,k0,_,q0,_⟩:=part 0 hpos;refine⟨rfl,d+1,.inr ⟨g,xs.length,cap,cs,r0,rfl,(by show N g≠none;rw[hst];exact λh=>by cases h),hlen',hcl,hst,hroom,k0,⟨v0,q0⟩,λi hi=>⟨λj hj=>?_,λj y s' hy hn=>by
   obtain⟨rfl|rfl,rfl⟩:=nx2 hn
   ·exact (hd' i hi).1 y hy
   ·exact (hd' i hi).2 y hy⟩⟩⟩
  obtain⟨r0,r1,v0,v1,k0,k1,q0,q1,_⟩:=part i hi;rw[Nat.mul_comm]
  match j,hj with
  | 0,_=>exact⟨r0,k0,by rw[q0];exact⟨rfl,λh=>by cases h⟩⟩
  | 1,_=>exact⟨r1,k1,by rw[q1];exact⟨rfl,λh=>by cases h⟩⟩
mutual
theorem xZa:∀ {t:Tr},okT t=true->zZj t=true
 | .mk rule s f u n sub,h=>by
  simp only[okT,bAt] at h;have h1:=(yKf h.1).2.2.1;have h2:=zQf u;simp only[zZj,bAt,dTe];exact⟨by omega,zY8 h.2⟩
theorem zY8:∀ {l:List Tr},okTs l=true->zJ6 l=true
 | [],_=>rfl
 | a::l,h=>by
  simp only[okTs,bAt] at h;simp only[zJ6,bAt];exact⟨xZa h.1,zY8 h.2⟩
end
theorem xVn:∀ {l:List Sq}{xs:List IV},IsSqsD l xs->dfrs xs/\∀c∈xs.flatMap IV.cells,c.one=true
 | [],xs,h=>by
  simp only[IsSqsD] at h;subst h;exact⟨trivial,λc hc=>by simp at hc⟩
 | a::l,xs,h=>by
  obtain⟨y,ys,rfl,h1,h2⟩:=h;have:=xVn h2;refine⟨⟨h1.dfr,this.1⟩,λc hc=>?_⟩;rw[List.flatMap_cons,List.mem_append] at hc;rcases hc with hc|hc
  ·exact h1.one.2 c hc
  ·exact this.2 c hc
theorem zGe:∀ {l:List Sq}{xs:List IV},IsSqs l xs->IsSqs l (ages xs)
 | [],xs,h=>by
  simp only[IsSqs] at h;subst h;rfl
 | a::l,xs,h=>by
  obtain⟨y,ys,rfl,h1,h2⟩:=h;exact⟨_,_,rfl,h1.aged,zGe h2⟩
theorem LTt.three {T:ISt}{t:Tm}{c:List IV}(h:LTt T t c):∃v n a k l,c=[.raw (.bool v),.raw (.string n),.raw (.slice a k l)]:=by
 obtain⟨v,n,us⟩:=t;obtain⟨a,cs,h,_⟩:=h;exact⟨_,_,_,_,_,h⟩
theorem LFf.four {T:ISt}{t:Fm}{c:List IV}(h:LFf T t c):∃o n a k l b k' l',c=[.raw (.int .u8 o),.raw (.string n),.raw (.slice a k l),.raw (.slice b k' l')]:=by
 obtain⟨o,n,us,sub⟩:=t;obtain⟨a,cs,b,ds,_,h,_⟩:=h;exact⟨_,_,_,_,_,_,_,_,h⟩
variable {gl} in
theorem xW7 {f:FuncId}{args args':List IV}{q:List Sq×Nat}{st:ISt}(hf:flatSt st)(hgl:vZ3 gl)(hl:Lents st args args')(h:ICall prog gl f (ages args') (yWn st) (AdRD (yWn st) q)) :
  ICall prog gl f args st (λr st'=>subSt st st'/\flatSt st'/\∃a k l N tg xs d,r=.tup [.raw (.slice a k l),.raw (.int .i64 q.2)]/\OI N (.raw (.slice a k l)) (.sl tg xs)/\okEs tg 2/\IsSqs q.1 xs/\OK (λb=>N b≠none) d 2 N (.raw (.slice a k l))/\subSt N st'/\∀b,N b≠none->st b=none):=by
 refine (ICall.lentOwn hf hgl hl (K:=λr=>∃tg xs,r=.tup [.sl tg xs,.raw (.int .i64 q.2)]/\okEs tg 2/\appT q.1.length tg/\IsSqsD q.1 xs) (h.mono λr st' ⟨tg,xs,h1,h2,h3,h4,h5⟩=>⟨h5,by
  rw[h1];refine⟨?_,trivial,trivial⟩;simp only[dfr];exact⟨h3.to h4.w.len,xVn h4⟩,tg,xs,h1,h2,h3,h4⟩)).mono ?_
 rintro _ st3 ⟨hs3,hf3,_,N,⟨tg,xs,rfl,he,ha,hx⟩,hoN,hrY,hrN,hN3,hNd⟩;obtain⟨y,rfl,hoy,hry⟩:=wVa hoN hrY;obtain⟨_,d,hOK⟩:=wV9 hrN hry hoy he ha hx;have hraw:∃a k l,y=.raw (.slice a k l):=by cases hoy with|refl=>exact hry.elim|nil=>exact⟨_,_,_,rfl⟩|sl=>exact⟨_,_,_,rfl⟩
 obtain⟨a,k,l,rfl⟩:=hraw;exact⟨hs3,hf3,a,k,l,N,tg,xs,d,rfl,hoy,he,hx.w,hOK,hN3,hNd⟩
theorem wJj (G:Gl gl)(T:Gt gl)(hgl:vZ3 gl)(ca:Nat)(t:Tr)(x:IV)(hx:IsTr t x)(hok:okT t=true)(hst:t.steps<=60)(st:ISt)(hfl:flatSt st) :
  ICall prog gl 15 [.raw (.int .u8 ca),x] st (λr st'=>r=.raw (.bool true)/\st'=st):=by
 have hG:=λst=>xZz gl _ t (Nat.lt_succ_self _) x hx hok (by omega) st;have hNA:=wYr hok;have hte:=xZa hok;obtain⟨rule,s,m,u,n,sub⟩:=t;have hbk:=λx hx st=>wUq gl G ca rule s m u n sub x hx hNA hte st;have hnode:(wFms s.l+wFms s.r<=300/\wFm m<=300/\wTm u<=300)/\yWf s:=by
  simp only[okT,bAt] at hok;have:=yKf hok.1;exact⟨⟨this.1,this.2.1,this.2.2.1⟩,zUm this.1⟩
 obtain⟨⟨w1,w2,w3⟩,hfs⟩:=hnode;have s1:=yKo s.l;have s2:=yKo s.r;have s3:=zJ7 m;have s4:=zQf u;have hx0:=hx;obtain⟨tl,xl,tr,xr,op,fn,ta,xa,tb,xb,v,un,tu,xu,ts,xs,rfl,hru,e1,i1,e2,i2,hy,hz,e3,i3⟩:=hx.mk;have hLs:=λst hfl=>wK4 gl s _ ⟨tl,xl,tr,xr,rfl,e1,i1,e2,i2⟩ (by omega) (by omega) st hfl;have hLm:=λst hfl=>zG1 gl m _ hy (by omega) st hfl;have hLu:=λst hfl=>xUr gl u _ hz (by omega) st hfl;refine ICall.intro (c:=cf prog gl [] [(2,[0,1,3,4,6,7,9,10,11,2,5,8,12,13,14])]) func15 rfl (by show _<=110;simp) (by kernel_rfl) ?_;simp only[go_sem,zE,zA,zL];refine (hG _).mono ?_;rintro r st ⟨hr,rfl⟩;have hr0:=hr;obtain⟨tl2,xl2,tr2,xr2,op2,fn2,ta2,xa2,tb2,xb2,v2,un2,tu2,xu2,ts2,xs2,rfl,_,e12,i12,e22,i22,hy2,hz2,e32,i32⟩:=hr.mk;have hRB:=λst=>hbk _ hr0 st;have hRA:=λst=>xW2 gl ca rule m _ hy2 (by omega) u _ hz2 (by omega) n st;simp only[go_sem,zE,zA,zL];refine (hLs _ hfl).mono ?_;rintro xa st1 ⟨hxa,hs1,hf1⟩;obtain⟨za,hza,hoa⟩:=hxa.oi (by omega) (by omega);obtain⟨pa,ca1,qa,da,rfl,_⟩:=id hxa;simp only[go_sem,zE,zA];refine (hLm _ hf1).mono ?_;rintro _ st2 ⟨cb,rfl,hxb,hs2,hf2⟩;obtain⟨zb,hzb,hob⟩:=hxb.agg (by omega);obtain⟨b1,b2,b3,b4,b5,b6,b7,b8,rfl⟩:=hxb.four;simp only[go_sem,zE,zA];refine (hLu _ hf2).mono ?_;rintro _ st3 ⟨cc,rfl,hxc,hs3,hf3⟩;obtain⟨zc,hzc,hoc⟩:=hxc.agg (by omega);obtain⟨c1,c2,c3,c4,c5,rfl⟩:=hxc.three;have hA3:=hxa.mono λc o hc=>hs3 _ _ (hs2 _ _ (yV0 hc).2);have hB3:=hxb.mono λc o hc=>hs3 _ _ (yV0 hc).2;have hC3:=hxc.mono λc o hc=>(yV0 hc).2;have hoa3:=hoa.sub λc o hc=>hs3 _ _ (hs2 _ _ (yV0 hc).2);have hob3:=hob.sub λc o hc=>hs3 _ _ (yV0 hc).2;have hoc3:=hoc.sub λc o hc=>(yV0 hc).2;have hKa:=wK5 gl s _ _ ⟨tl,xl,tr,xr,rfl,e1,i1,e2,i2⟩ (by omega) (by omega) st3 hf3 hA3;have hKb:=zG2 gl m _ hy (by omega) _ st3 hf3 hB3;have hKc:=xUs gl u _ hz (by omega) _ st3 hf3 hC3;have hA:=xW7 (gl:=gl) hf3 hgl (Lents.self (y:=.raw (.int .u8 ca)) (Lents.self (y:=.raw (.int .u8 rule)) (Lents.lent hob3 (Lents.lent hoc3 (Lents.self (y:=.raw (.string n)) (Lents.nil _))))))
  (vZd gl G T ca rule m (age (age zb)) hzb.aged.aged (by omega) u (age (age zc)) hzc.aged.aged (by omega) n (yWn st3))
 simp only[go_sem,zE,zA,zL,reduceCtorEq];refine hA.mono ?_;rintro _ st4 ⟨hs4,hf4,p1,p2,p3,N1,tg1,xs1,d1,rfl,ho1,he1,hx1,hO1,hN1,hD1⟩;simp only[go_sem,zE,zA,zL,reduceCtorEq];refine (hRA _).mono ?_;rintro _ st4 ⟨tg3,xs3,rfl,he3,hx3,rfl⟩;have hB:=xW7 (gl:=gl) hf4 hgl (Lents.self (y:=.raw (.int .u8 ca)) (Lents.lent (hoa3.sub hs4) (Lents.self (y:=.raw (.int .u8 rule)) (Lents.lent (hob3.sub hs4) (Lents.lent (hoc3.sub hs4) (Lents.self (y:=.raw (.string n)) (Lents.nil _)))))))
  (wGk gl G T ca s (age (age za)) hza.aged.aged hfs rule m (age (age zb)) hzb.aged.aged (by omega) u (age (age zc)) hzc.aged.aged (by omega) n (yWn st4))
 simp only[go_sem,zE,zA,zL,reduceCtorEq];refine hB.mono ?_;rintro _ st5 ⟨hs5,hf5,p4,p5,p6,N2,tg2,xs2,d2,rfl,ho2,he2,hx2,hO2,hN2,hD2⟩;simp only[go_sem,zE,zA,zL,reduceCtorEq];refine (hRB _).mono ?_;rintro _ st5 ⟨tg4,xs4,rfl,he4,hx4,rfl⟩;have hS1:=xZn (gl:=gl) hf5 (Lents.lent ((ho1.sub hN1).sub hs5) (Lents.self (y:=.sl tg3 xs3) (Lents.nil _))) (λst=>by
  simp only[age];exact zYz gl _ _ _ _ _ _ (by exact he1) he3 (zGe hx1) hx3 st)
 have hS2:=xZn (gl:=gl) hf5 (Lents.lent (ho2.sub hN2) (Lents.self (y:=.sl tg4 xs4) (Lents.nil _))) (λst=>by
  simp only[age];exact zYz gl _ _ _ _ _ _ (by exact he2) he4 (zGe hx2) hx4 st)
 rw[yQk.2 rfl] at hS1 hS2;simp only[go_sem,zE,zA,decide_true];refine hS1.mono ?_;rintro _ st5 ⟨rfl,rfl⟩;simp only[go_sem,zE,zA];refine hS2.mono ?_;rintro _ st5 ⟨rfl,rfl⟩;simp only[go_sem,zE,zA];refine (zG0 gl (hO1.mono λc o hc=>hs5 _ _ (hN1 _ _ hc))).mono ?_;rintro _ st6 hov1;have hN26:subSt N2 st6:=λc o hc=>by
  rw[hov1 c λhD=>?_]
  ·exact hN2 _ _ hc
  ·cases hq:N1 c with
   | none=>exact hD hq
   | some o' =>
    have:=hN1 _ _ hq;rw[hD2 c (by rw[hc];exact λh=>by cases h)] at this;cases this
 simp only[go_sem,zE,zA];refine (zG0 gl (hO2.mono hN26)).mono ?_;rintro _ st7 hov2;have hs7:subSt st3 st7:=λc o hc=>by
  have h4:=hs4 _ _ hc;rw[hov2 c λhD=>by rw[hD2 c hD] at h4;cases h4];rw[hov1 c λhD=>by rw[hD1 c hD] at hc;cases hc];exact hs5 _ _ (hs4 _ _ hc)
 simp only[go_sem,zE,zA,zL];refine (ICall.sub hKa hs7).mono ?_;rintro _ st8 ⟨rfl,rfl⟩;simp only[go_sem,zE,zA,zL];refine hKb.mono ?_;rintro _ st8 ⟨rfl,rfl⟩;simp only[go_sem,zE,zA,zL];refine hKc.mono ?_;rintro _ st8 ⟨rfl,rfl⟩;simp only[go_sem,zE];exact yQ9 (λc o hc=>hs3 _ _ (hs2 _ _ (hs1 _ _ hc))) ⟨rfl,rfl⟩
theorem zJ4 (G:Gl gl)(T:Gt gl)(hgl:vZ3 gl)(ca:Nat)(t:Tr)(x:IV)(hx:IsTr t x)(hw:wTr t<=1099511627776)(st:ISt)(hfl:flatSt st) :
  ICall prog gl 5 [.raw (.int .u8 ca),x] st (λr st'=>r=.raw (.bool true)/\st'=st):=by
 have hA:=λst=>wV6 gl G T st;have hS:=λst=>wY0 gl t x hx hw st;have hK:=λhok hst=>wJj gl G T hgl ca t x hx hok hst st hfl;obtain⟨rule',tl',xl',tr',xr',op',fn',ta',xa',tb',xb',v',un',tu',xu',n',ts',xs',rfl⟩:=yUo hx;refine iI func5 rfl rfl (by kernel_rfl) ?_;simp only[go_sem,zE,zA,zL];refine (hS _).mono ?_;rintro _ st ⟨rfl,rfl⟩;cases hsm:(okT t&&decide (t.steps<=60))
 ·simp only[go_sem,zE,zA];refine (hA _).mono ?_;rintro _ st ⟨rfl,rfl⟩;simp only[go_sem,zE];exact yQ0 ⟨rfl,rfl⟩
 ·rw[bAt,dTe] at hsm;have hK:=hK hsm.1 hsm.2;simp only[go_sem,zE,zA,zL,reduceCtorEq];refine hK.mono ?_;rintro _ st ⟨rfl,rfl⟩;simp only[go_sem,zE,zA];refine (hA _).mono ?_;rintro _ st ⟨rfl,rfl⟩;simp only[go_sem,zE];exact yQ0 ⟨rfl,rfl⟩
