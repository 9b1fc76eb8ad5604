/- Walks: maps.Keys and its iterator over a -/
import Derived.Test.YtabhgbojkjcfjaaGreatDoorMB
import Derived.Lib.Bytealg
set_option linter.all false
open Nat renaming reduceEqDiff → zE,reduceBEq → zB,reduceAdd → zA,reduceMul → zM,reduceLeDiff → zL
namespace Go.Proofs.Tryz
open Go Go.Iv
set_option maxRecDepth 4000
variable (gl:Nat->Option IV)
theorem wQ8 (ents:Array MapEntry):yUp ents #[]=ents.toList:=by
 unfold yUp;rw[List.filter_eq_self];intro e _;simp
theorem xUp {ents:Array MapEntry}{seen:Array Nat}{e:MapEntry}(h:e∈yUp ents seen):e∈ents.toList:=(List.mem_filter.1 h).1
theorem xY0 {ents:Array MapEntry}(hn:(ents.toList.map (·.born)).Nodup)(seen:Array Nat){e:MapEntry}(h:e∈ents.toList):wQb ents (seen.push e.born)=keyI e.key:=by
 have hf:ents.toList.find? (λx=>x.born == e.born)=some e:=find_born e ents.toList hn h;unfold wQb;rw[Array.back?_push,Option.bind_some,hf,Option.bind_some]
theorem xWx {ents:Array MapEntry}(hn:(ents.toList.map (·.born)).Nodup){seen:Array Nat}{e:MapEntry}(h:e∈yUp ents seen):(yUp ents (seen.push e.born)).length+1=(yUp ents seen).length:=by
 unfold yUp at h ⊢;generalize ents.toList=l at h hn
 induction l with
 | nil=>cases h
 | cons a l ih =>
  rw[List.map_cons,List.nodup_cons] at hn;by_cases hae:a=e
  ·subst hae;have h1:seen.contains a.born=false:=by simpa using (List.mem_filter.1 h).2
   have h2:(seen.push a.born).contains a.born=true:=by simp
   rw[List.filter_cons_of_neg (by rw[h2];simp),List.filter_cons_of_pos (by rw[h1];rfl),List.length_cons];congr 2;apply List.filter_congr;intro x hx;have hne:x.born≠a.born:=λhq=>hn.1 (hq▸List.mem_map_of_mem hx);simp[hne]
  ·have hm:e∈l.filter λe=>!seen.contains e.born:=by
    have h':=List.mem_filter.1 h;rcases List.mem_cons.1 h'.1 with hq|hq
    ·exact absurd hq.symm hae
    ·exact List.mem_filter.2 ⟨hq,h'.2⟩
   have hel:e∈l:=(List.mem_filter.1 hm).1;have hne:a.born≠e.born:=λhq=>hn.1 (hq▸List.mem_map_of_mem hel);have hi:=ih hm hn.2;have hc:(seen.push e.born).contains a.born=seen.contains a.born:=by
    simp[hne]
   rw[List.filter_cons,List.filter_cons,hc];split
   ·rw[List.length_cons,List.length_cons,<- hi]
   ·exact hi
def wWc (b:Nat):IV:=.fn (.func 269) [] [.raw (.pointer (some ⟨b,0,none⟩))]
theorem wUg (m:Nat)(st:ISt) :
  ICall prog gl 225 [.raw (.map (some m))] st (λr st'=>∃b,st b=none/\r=wWc b/\st'=st.put b (some (.box [.raw (.map (some m))]))):=by
 refine ICall.intro (c:=cf prog gl [1] []) func225 rfl (by show _<=4;simp) (by kernel_rfl) ?_;simp only[go_sem,zE];refine λb=>yQ9 λhb=>?_;exact yQ0 ⟨b,hb,rfl,rfl⟩
def symX (ents:Array MapEntry)(k:Nat)(a:List IV):Prop:=k<ents.toList.length/\∃e∈ents.toList,∃x,keyI e.key=some x/\a=[x]
structure EntOk (ents:Array MapEntry)(clock:Nat):Prop where
 key:∀e∈ents.toList,∃s n,keyI e.key=some (.agg [.raw (.string s),.raw (.int .i64 n)])
 born:∀e∈ents.toList,e.born<clock
 nd:(ents.toList.map (·.born)).Nodup
theorem wVb (m b clock:Nat)(ents:Array MapEntry)(hE:EntOk ents clock):IterC prog gl 269 [] [.raw (.pointer (some ⟨b,0,none⟩))] (symX ents) ents.toList.length
  (λ_ st=>st b=some (.box [.raw (.map (some m))])/\st m=some (.mapx ents clock)):=by
 rintro y I' S' st ⟨g,fi,ca,rfl,hfn,hent⟩ hI hy h0;change ICall prog gl _ [.fn g fi ca,_] st _;obtain⟨stu0,hs0,hb0,hm0⟩:=hI 0 st h0;have hb:=hs0 _ _ hb0;have hm:=hs0 _ _ hm0;refine iI func269 ?_;simp only[go_sem,reduceCtorEq,hb,hm];refine λr=>yQ9 λhr=>?_;have hrb:b≠r:=yXy hb hr;have hrm:m≠r:=yXy hm hr;have hchk:((∀e∈ents.toList,e.born<clock/\(keyI e.key).isSome=true)/\clock<=clock)=True:=eq_true ⟨λe he=>⟨hE.born e he,by obtain⟨s,n,hk⟩:=hE.key e he;rw[hk];rfl⟩,Nat.le_refl _⟩;have hnd:(ents.toList.map (·.born)).Nodup=True:=eq_true hE.nd;refine LoopC.dec ents.toList.length (λk fr st' ds=>(∃seen stu,(yUp ents seen).length=k/\stu r=none/\st'=stu.put r (some (.iter m clock seen clock))/\I' (ents.toList.length-k) stu)/\k<=ents.toList.length/\fr 0=.iv (.fn g fi ca)/\fr 5=.iv (.raw (.pointer (some ⟨r,0,none⟩)))/\ds=[]) ?_ ?_
 ·simp only[go_sem,reduceCtorEq];exact⟨⟨#[],st,by rw[wQ8],hr,rfl,by rw[Nat.sub_self];exact h0⟩,Nat.le_refl _⟩
 ·rintro k fr _ _ ⟨⟨seen,stu,hlen,hr,rfl,hIk⟩,hkl,f0,f5,rfl⟩;obtain⟨stu0,hs0,hb0,hm0⟩:=hI _ stu hIk;have hm:=hs0 _ _ hm0;have hb:=hs0 _ _ hb0;simp only[go_sem,reduceCtorEq,f5,ISt.put_same,yQh hrm,hm,hchk];refine⟨λhnil=>?_,λe he x hx=>?_⟩
  ·simp only[go_sem];refine yQa (yQb hr) (.inl ?_);rw[hnil] at hlen;rw[<- hlen] at hIk;exact hIk
  ·have hem:=xUp he;obtain⟨s,n,hk⟩:=hE.key e hem;rw[hk] at hx;cases hx;have hlast:=xY0 hE.nd seen hem;rw[hk] at hlast;have hpush:=xWx hE.nd he;simp only[go_sem,zE,zA,zL,reduceCtorEq,f0,f5,ISt.put_same,yQh hrm,hm,hnd,hlast,yQ8];refine yXd hent ((ICallV.put gl (hy _ _ stu ⟨by omega,e,hem,_,hk,rfl⟩ hIk) hr _).mono ?_);rintro _ _ ⟨stu',hr',rfl,⟨rfl,h⟩|⟨rfl,h⟩⟩
   ·simp only[go_sem,zE,reduceCtorEq,f0,f5];refine⟨(yUp ents (seen.push e.born)).length,by omega,⟨seen.push e.born,stu',rfl,hr',rfl,?_⟩,by omega⟩;rw[show ents.toList.length-(yUp ents (seen.push e.born)).length=ents.toList.length-k+1 by omega];exact h
   ·simp only[go_sem];exact yQa (yQb hr') (.inr h)
def vZ7 (ents:Array MapEntry)(x:IV):Prop:=(∃e∈ents.toList,keyI e.key=some x)/\∃s n,x=.agg [.raw (.string s),.raw (.int .i64 n)]
def xVp (ents:Array MapEntry)(st:ISt)(k:Nat)(r:IV)(st':ISt):Prop:=∃xs:List IV,xs.length=k/\(∀x∈xs,vZ7 ents x) /\
 ((k=0/\∃f e,r=.sl ⟨f,.nil,e⟩ [])\/∃g cap cs,0<k/\st g=none/\r=.raw (.slice (some ⟨g,0,none⟩) k cap)/\st' g=some (.box cs)/\k<=cap/\cap*2<=cs.length/\cs.take (k*2)=xs.flatMap IV.cells)
theorem one_sl (a:Option Addr)(n c:Nat):IV.one (.raw (.slice a n c))=true:=rfl
theorem put3 (s:ISt)(b g:Nat)(x y z:Option IObj):((s.put b x).put g y).put b z=(s.put g y).put b z:=by
 funext c;simp only[ISt.put_apply];by_cases h:c=b
 ·rw[if_pos h,if_pos h]
 ·rw[if_neg h,if_neg h,if_neg h]
theorem put4 (s:ISt)(b g h:Nat)(x y u z:Option IObj):(((s.put b x).put g y).put h u).put b z=((s.put g y).put h u).put b z:=by
 funext c;simp only[ISt.put_apply];by_cases hc:c=b
 ·rw[if_pos hc,if_pos hc]
 ·rw[if_neg hc,if_neg hc,if_neg hc]
theorem xQj (g:FuncId)(caps:List IV)(ents:Array MapEntry)(hE:∀e∈ents.toList,∃s n,keyI e.key=some (.agg [.raw (.string s),.raw (.int .i64 n)]))(hlen:ents.toList.length<=1000000000)(st:ISt)(he:entI prog g=true)(Base:ISt->Prop)(hB:Base st)
  (hi:IterC prog gl g [] caps (symX ents) ents.toList.length (λ_=>Base)) (f:Bool) (es:Nat) :
  ICall prog gl 299 [.sl ⟨f,.nil,es⟩ [],.fn (.func g) [] caps] st (λr st'=>xVp ents st ents.toList.length r st'/\subSt st st'):=by
 refine ICall.intro (c:=cf prog gl [2,11] []) func299 rfl (by show _<=13;simp) (by kernel_rfl) ?_;simp only[go_sem,zE,reduceCtorEq];refine λb=>yQ9 λhb=>?_;refine RangeC.intro (symX ents) ents.toList.length (λk st'=>∃cell s1,s1 b=none/\st'=s1.put b (some (.box [cell]))/\xVp ents st k cell s1/\subSt st s1) (λ_ _=>False) he ?_ ?_ ?_ ?_ ?_ (λ_ _ _ h=>h.elim)
 ·rintro k a ⟨_,e,_,x,_,rfl⟩;rfl
 ·exact⟨_,st,hb,rfl,⟨[],rfl,(λx hx=>by cases hx),.inl ⟨rfl,f,es,rfl⟩⟩,subSt.refl _⟩
 ·rintro k a _ ⟨hkn,e,hem,x,hx,rfl⟩ ⟨cell,s1,hbn,rfl,⟨xs,hxl,hxs,hcell⟩,hsub⟩;obtain⟨s,n,hk⟩:=hE e hem;rw[hk] at hx;cases hx;rcases hcell with⟨rfl,f,es,rfl⟩|⟨g2,cap,cs,hk0,hgn,rfl,hg,hkc,hcc,htk⟩
  ·simp only[go_sem,zE,zA,zM,zL,ISt.put_same,fits,show yQi 1 [(0,Operand.tmp 9)]=true from rfl];refine λg cap=>yQ9 λ⟨hg,hc⟩=>?_;have hgb:g≠b:=by rintro rfl;rw[ISt.put_same] at hg;cases hg
   rw[yQh hgb] at hg;simp only[go_sem,zL,ISt.put_same,yQh hgb.symm,one_sl];refine⟨_,_,?_,put3 ..,⟨[.agg [.raw (.string s),.raw (.int .i64 n)]],rfl,?_,.inr ⟨g,cap,_,Nat.zero_lt_one,?_,rfl,ISt.put_same ..,hc,?_,?_⟩⟩,hsub.trans (yQb hg)⟩
   ·rw[yQh hgb.symm];exact hbn
   ·intro x hx;rw[List.mem_singleton.1 hx];exact⟨⟨e,hem,hk⟩,_,_,rfl⟩
   ·cases hq:st g with
    | none=>rfl
    | some o=>have:=hsub _ _ hq;rw[hg] at this;cases this
   ·simp[IV.cells];omega
   ·simp[IV.cells]
  ·have hgb:g2≠b:=yXy hg hbn;simp only[go_sem,zE,zA,zM,zL,ISt.put_same,fits,show yQi 1 [(0,Operand.tmp 9)]=true from rfl];refine yGc _ _ _ (cs:=cs) (by rw[yQh hgb];exact hg) (by simp[fits,IV.one]) ⟨by show (k+1)*24<=_;omega,by show k+1<=_;omega⟩ ⟨hkc,by show cap*2<=_;omega⟩ (by simp[IV.cells]) ?_;rintro g cap' cs' hgn' hc1 hc2 htk';have hgb':g≠b:=by
    rcases hgn' with rfl|h
    ·exact hgb
    ·rintro rfl;rw[ISt.put_same] at h;cases h
   have hs1g:g=g2\/s1 g=none:=hgn'.imp id λh=>by rwa [yQh hgb'] at h
   have hstg:st g=none:=by
    rcases hs1g with rfl|h
    ·exact hgn
    ·cases hq:st g with
     | none=>rfl
     | some o=>have:=hsub _ _ hq;rw[h] at this;cases this
   simp only[go_sem,zE,zL,ISt.put_same,yQh hgb.symm,yQh hgb'.symm,one_sl];refine⟨_,_,?_,put4 ..,⟨xs++[.agg [.raw (.string s),.raw (.int .i64 n)]],by simp[hxl],?_,.inr ⟨g,cap',cs',Nat.succ_pos _,hstg,rfl,ISt.put_same ..,hc1,hc2,?_⟩⟩,λc o hc=>?_⟩
   ·rw[yQh hgb'.symm,yQh hgb.symm];exact hbn
   ·intro x hx;rcases List.mem_append.1 hx with hx|hx
    ·exact hxs x hx
    ·rw[List.mem_singleton.1 hx];exact⟨⟨e,hem,hk⟩,_,_,rfl⟩
   ·have:cs'.take ((k+1)*2)=cs.take (k*2)++[.raw (.string s),.raw (.int .i64 n)]:=by simpa[IV.cells] using htk'
    rw[this,htk];simp[IV.cells]
   ·rw[yQh (by rintro rfl;rw[hstg] at hc;cases hc),yQh (by rintro rfl;rw[hgn] at hc;cases hc)];exact hsub _ _ hc
 ·rintro y I' S' st' hfn hI hy h0;refine hi y I' S' st' hfn (λk stu hk=>?_) hy h0;obtain⟨stu0,hs,cell,s1,hbn,rfl,_,hsub⟩:=hI k stu hk;exact⟨st,λc o hc=>hs _ _ (yQb hbn _ _ (hsub _ _ hc)),hB⟩
 ·rintro _ r ⟨cell,s1,hbn,rfl,hsy,hsub⟩;have hci:ivOf (.iv cell)=some cell:=by
   obtain⟨xs,_,_,⟨_,f,e,rfl⟩|⟨g,cap,cs,_,_,rfl,_⟩⟩:=hsy<;>rfl
  have hc1:fits false 1 cell=true:=by
   obtain⟨xs,_,_,⟨_,f,e,rfl⟩|⟨g,cap,cs,_,_,rfl,_⟩⟩:=hsy<;>rfl
  simp only[go_sem,zE,ISt.put_same,hci];refine yQa (st':=s1) (yQb hbn) ⟨?_,hsub⟩;exact hsy
end Go.Proofs.Tryz
namespace Go.Iv
open Go
structure Sq where
 l:List Fm
 r:List Fm
inductive Tr where
 | mk (rule:Nat) (s:Sq) (main:Fm) (term:Tm) (name:ByteArray) (sub:List Tr)
def IsSq (s:Sq)(x:IV):Prop:=∃t xs t' ys,x=.agg [.sl t xs,.sl t' ys]/\okEs t 4/\IsFms s.l xs/\okEs t' 4/\IsFms s.r ys
def IsSqs:List Sq->List IV->Prop
 | [],xs=>xs=[]
 | a::aL,xs=>∃y ys,xs=y::ys/\IsSq a y/\IsSqs aL ys
mutual
def IsTr:Tr->IV->Prop
 | .mk rule s f u n sub,x=>∃tl xl tr xr op fn ta xa tb xb v un tu xu ts xs,x=.agg [.raw (.int .u8 rule),.sl tl xl,.sl tr xr,.raw (.int .u8 op),.raw (.string fn),.sl ta xa,.sl tb xb,.raw (.bool v),.raw (.string un),.sl tu xu,.raw (.string n),.sl ts xs] /\
  rule<256/\okEs tl 4/\IsFms s.l xl/\okEs tr 4/\IsFms s.r xr/\IsFm f (.agg [.raw (.int .u8 op),.raw (.string fn),.sl ta xa,.sl tb xb])/\IsTm u (.agg [.raw (.bool v),.raw (.string un),.sl tu xu])/\okEs ts 12/\IsTrs sub xs
def IsTrs:List Tr->List IV->Prop
 | [],xs=>xs=[]
 | a::aL,xs=>∃y ys,xs=y::ys/\IsTr a y/\IsTrs aL ys
end
theorem IsTr.mk {rule:Nat}{s:Sq}{f:Fm}{u:Tm}{n:ByteArray}{sub:List Tr}{x:IV}(h:IsTr (.mk rule s f u n sub) x):∃tl xl tr xr op fn ta xa tb xb v un tu xu ts xs,x=.agg [.raw (.int .u8 rule),.sl tl xl,.sl tr xr,.raw (.int .u8 op),.raw (.string fn),.sl ta xa,.sl tb xb,.raw (.bool v),.raw (.string un),.sl tu xu,.raw (.string n),.sl ts xs] /\
  rule<256/\okEs tl 4/\IsFms s.l xl/\okEs tr 4/\IsFms s.r xr/\IsFm f (.agg [.raw (.int .u8 op),.raw (.string fn),.sl ta xa,.sl tb xb])/\IsTm u (.agg [.raw (.bool v),.raw (.string un),.sl tu xu])/\okEs ts 12/\IsTrs sub xs:=by
 simpa only[IsTr] using h
theorem IsSqs.len:∀ {aL:List Sq}{xs:List IV},IsSqs aL xs->xs.length=aL.length
 | [],xs,h=>by simp only[IsSqs] at h;subst h;rfl
 | a::aL,xs,h=>by
  simp only[IsSqs] at h;obtain⟨y,ys,rfl,_,h⟩:=h;simp[IsSqs.len h]
theorem IsSqs.get:∀ {aL:List Sq}{xs:List IV}{k:Nat}{a:Sq},IsSqs aL xs->aL[k]?=some a->∃x,xs[k]?=some x/\IsSq a x
 | [],xs,k,a,h,hk=>by simp at hk
 | b::aL,xs,k,a,h,hk=>by
  simp only[IsSqs] at h;obtain⟨y,ys,rfl,hy,h⟩:=h;cases k with
  | zero=>simp at hk;subst hk;exact⟨y,rfl,hy⟩
  | succ k=>simpa using IsSqs.get h (by simpa using hk)
theorem IsTrs.len:∀ {aL:List Tr}{xs:List IV},IsTrs aL xs->xs.length=aL.length
 | [],xs,h=>by simp only[IsTrs] at h;subst h;rfl
 | a::aL,xs,h=>by
  simp only[IsTrs] at h;obtain⟨y,ys,rfl,_,h⟩:=h;simp[IsTrs.len h]
theorem IsTrs.get:∀ {aL:List Tr}{xs:List IV}{k:Nat}{a:Tr},IsTrs aL xs->aL[k]?=some a->∃x,xs[k]?=some x/\IsTr a x
 | [],xs,k,a,h,hk=>by simp at hk
 | b::aL,xs,k,a,h,hk=>by
  simp only[IsTrs] at h;obtain⟨y,ys,rfl,hy,h⟩:=h;cases k with
  | zero=>simp at hk;subst hk;exact⟨y,rfl,hy⟩
  | succ k=>simpa using IsTrs.get h (by simpa using hk)
mutual
def Tr.steps:Tr->Nat
 | .mk _ _ _ _ _ sub=>1+yQo sub
def yQo:List Tr->Nat
 | []=>0
 | a::l=>a.steps+yQo l
end
mutual
def Tr.height:Tr->Nat
 | .mk _ _ _ _ _ sub=>1+yZm sub
def yZm:List Tr->Nat
 | []=>0
 | a::l=>max a.height (yZm l)
end
mutual
def Tr.cuts:Tr->Nat
 | .mk rule _ _ _ _ sub=>(if rule=17 then 1 else 0)+yYn sub
def yYn:List Tr->Nat
 | []=>0
 | a::l=>a.cuts+yYn l
end
theorem yV0:∀l m:List Tr,yQo (l++m)=yQo l+yQo m
 | [],m=>by simp[yQo]
 | a::l,m=>by simp only[List.cons_append,yQo,yV0 l m];omega
theorem Tr.height_le_steps:∀t:Tr,t.height<=t.steps:=by
 have key:∀k:Nat,(∀t:Tr,SizeOf.sizeOf t<k->t.height<=t.steps):=λk=>by
  induction k with
  | zero=>intro t h;omega
  | succ k ih =>
   rintro⟨rule,s,f,u,n,sub⟩ h;have:∀l:List Tr,SizeOf.sizeOf l<k+1->yZm l<=yQo l:=λl=>by
    induction l with
    | nil=>intro _;simp[yZm,yQo]
    | cons a l ihl =>
     intro hl;simp only[List.cons.sizeOf_spec] at hl;have h1:=ih a (by omega);have h2:=ihl (by omega);simp only[yZm,yQo];omega
   simp only[Tr.mk.sizeOf_spec] at h;have:=this sub (by omega);simp only[Tr.height,Tr.steps];omega
 exact λt=>key _ t (Nat.lt_succ_self _)
mutual
def Tr.walk:List Nat->Tr->List (List Nat×Tr)
 | p,t@(.mk _ _ _ _ _ sub)=>(p,t)::yZb p 0 sub
def yZb:List Nat->Nat->List Tr->List (List Nat×Tr)
 | _,_,[]=>[]
 | p,i,a::l=>a.walk (p++[i])++yZb p (i+1) l
end
def yZa (e:Tr->Nat):List (List Nat×Tr)->List Nat×Nat
 | []=>([],0)
 | (p,t)::l=>if e t=0 then yZa e l else (p,e t)
theorem yJx (e:Tr->Nat):∀l m,yZa e (l++m)=if (yZa e l).2=0 then yZa e m else yZa e l
 | [],m=>by simp[yZa]
 | (p,t)::l,m=>by
  have ih:=yJx e l m;by_cases h:e t=0
  ·simp only[List.cons_append,yZa,h,if_true,ih]
  ·simp[yZa,h]
def Fm.op:Fm->Nat
 | .mk op _ _ _=>op
def Fm.subs:Fm->List Fm
 | .mk _ _ _ sub=>sub
def Fm.nm:Fm->ByteArray
 | .mk _ n _ _=>n
def Tr.sq:Tr->Sq
 | .mk _ s _ _ _ _=>s
def Sq.plus (s m:Sq):Sq:=⟨s.l++m.l,s.r++m.r⟩
end Go.Iv
namespace Go.Proofs.Tryz
open Go Go.Iv
set_option maxRecDepth 4000
variable (gl:Nat->Option IV)
theorem zKm (v w:Bool)(n m:ByteArray)(us ws:List Tm)(x y:IV)(hx:IsTm (.mk v n us) x)(hy:IsTm (.mk w m ws) y)
  (IH:∀(t t':Tag) (xs ys:List IV),okEs t 3->okEs t' 3->IsTms us xs->IsTms ws ys->∀st,ICall prog gl 130 [.sl t xs,.sl t' ys] st (λx st'=>x=.raw (.bool (eqB us ws))/\st'=st)) (st:ISt) :
  ICall prog gl 89 [x,y] st (λr st'=>r=.raw (.bool (eqB (Tm.mk v n us) (.mk w m ws)))/\st'=st):=by
 obtain⟨tx,cx,rfl,htx,hcx⟩:=hx.mk;obtain⟨ty,cy,rfl,hty,hcy⟩:=hy.mk;refine iI func89 ?_;by_cases hv:v=w
 ·subst hv;by_cases hnm:n=m
  ·subst hnm;simp only[go_sem,zE,zA,decide_true];refine (IH tx ty cx cy htx hty hcx hcy _).mono ?_;rintro _ _ ⟨rfl,rfl⟩;simp only[go_sem,zE];refine yQ0 ⟨?_,rfl⟩;by_cases hc:us=ws
   ·subst hc;rw[yZ6.2 rfl,yZ6.2 rfl]
   ·rw[yQl.2 hc,yQl.2 (by rintro⟨⟩;exact hc rfl)]
  ·simp only[go_sem,zE,zA,dEf hnm];exact yQ0 ⟨by rw[yQl.2 (by rintro⟨⟩;exact hnm rfl)],rfl⟩
 ·simp only[go_sem,zE,zA,beq_eq_false_iff_ne.2 hv];exact yQ0 ⟨by rw[yQl.2 (by rintro⟨⟩;exact hv rfl)],rfl⟩
theorem zZ6 (t t':Tag)(us ws:List Tm)(xs ys:List IV)(ht:okEs t 3)(ht':okEs t' 3)(ha:IsTms us xs)(hb:IsTms ws ys)(st:ISt) :
  ICall prog gl 130 [.sl t xs,.sl t' ys] st (λx st'=>x=.raw (.bool (eqB us ws))/\st'=st):=by
 refine iI func130 ?_;simp only[go_sem,zE,reduceCtorEq,ha.len,hb.len];intro hla hlb;refine yX9 (λh=>?_) (λh=>?_)
 ·have hne:us≠ws:=by rintro rfl;simp at h
  simp only[go_sem];exact yQ0 ⟨by rw[yQl.2 hne],rfl⟩
 have hlen:us.length=ws.length:=by simp at h;omega
 refine LoopC.ctr us.length (λk fr st' ds=>us.take k=ws.take k/\fr 0=.iv (.sl t xs)/\fr 1=.iv (.sl t' ys)/\fr 5=.iv (.raw (.int .i64 k))/\st'=st/\ds=[]) ?_ ?_ ?_
 ·simp only[go_sem,zE,reduceCtorEq];rfl
 ·rintro k fr st' ds hlt ⟨hn,h0,h1,h5,rfl,rfl⟩;obtain⟨a,hka⟩:=yQ4 hlt;obtain⟨b,hkb⟩:=yQ4 (hlen▸hlt);obtain⟨x,hkx,hx⟩:=ha.get hka;obtain⟨y,hky,hy⟩:=hb.get hkb;obtain⟨v,n,cs⟩:=a;obtain⟨w,m,ds⟩:=b;have hx0:=hx;have hy0:=hy;obtain⟨tx,cx,rfl,htx,hcx⟩:=hx.mk;obtain⟨ty,cy,rfl,hty,hcy⟩:=hy.mk;have hcall:=zKm gl v w n m cs ds _ _ hx0 hy0 (λt1 t2 x1 y1 q1 q2 q3 q4 st1=>zZ6 t1 t2 cs ds x1 y1 q1 q2 q3 q4 st1) st';simp only[go_sem,zE,zB,zA,reduceCtorEq,h0,h1,h5,ha.len,lt_i hlt,yQ1 ht,yQ1 ht',iNn,hkx,hky,fits];intro _;refine hcall.mono ?_;rintro _ _ ⟨rfl,rfl⟩;by_cases hc:Tm.mk v n cs=.mk w m ds
  ·simp only[go_sem,zE,reduceCtorEq,h0,h1,h5,yQf hlt (show us.length<=281474976710656 by omega),yZ6.2 hc];rw[yQ6 hka,yQ6 hkb,hn,hc]
  ·have hne:us≠ws:=by
    rintro rfl;rw[hka] at hkb;exact hc (Option.some.inj hkb)
   simp only[go_sem,yQl.2 hc];exact yQ0 ⟨by rw[yQl.2 hne],rfl⟩
 ·rintro fr st' ds ⟨hn,h0,h1,h5,rfl,rfl⟩;simp only[go_sem,zE,reduceCtorEq,h0,h5,ha.len,yQs (nLi _)];intro _;have he:us=ws:=by rw[lTl] at hn;rw[hn,hlen,lTl]
  exact yQ0 ⟨by rw[yZ6.2 he],rfl⟩
termination_by SizeOf.sizeOf us
decreasing_by exact xW9 (lMg hka)
def kSF (f:Fm):Prop:=∀(g:Fm) (x y:IV) (_:IsFm f x) (_:IsFm g y) (st:ISt),ICall prog gl 88 [x,y] st (λr st'=>r=.raw (.bool (eqB f g))/\st'=st)
theorem yYh (us ws:List Fm)(IH:∀a∈us,kSF gl a)(t t':Tag)(xs ys:List IV)(ht:okEs t 4)(ht':okEs t' 4)(ha:IsFms us xs)(hb:IsFms ws ys)(st:ISt) :
  ICall prog gl 93 [.sl t xs,.sl t' ys] st (λx st'=>x=.raw (.bool (eqB us ws))/\st'=st):=by
 refine iI func93 ?_;simp only[go_sem,zE,reduceCtorEq,ha.len,hb.len];intro hla hlb;refine yX9 (λh=>?_) (λh=>?_)
 ·have hne:us≠ws:=by rintro rfl;simp at h
  simp only[go_sem];exact yQ0 ⟨by rw[yQl.2 hne],rfl⟩
 have hlen:us.length=ws.length:=by simp at h;omega
 refine LoopC.ctr us.length (λk fr st' ds=>us.take k=ws.take k/\fr 0=.iv (.sl t xs)/\fr 1=.iv (.sl t' ys)/\fr 5=.iv (.raw (.int .i64 k))/\st'=st/\ds=[]) ?_ ?_ ?_
 ·simp only[go_sem,zE,reduceCtorEq];rfl
 ·rintro k fr st' ds hlt ⟨hn,h0,h1,h5,rfl,rfl⟩;obtain⟨a,hka⟩:=yQ4 hlt;obtain⟨b,hkb⟩:=yQ4 (hlen▸hlt);obtain⟨x,hkx,hx⟩:=ha.get hka;obtain⟨y,hky,hy⟩:=hb.get hkb;have hcall:=IH a (lMg hka) b x y hx hy st';obtain⟨o,n,cs,sub⟩:=a;obtain⟨o',m,ds,sub'⟩:=b;obtain⟨tx,cx,sx,dx,rfl,_⟩:=hx.mk;obtain⟨ty,cy,sy,dy,rfl,_⟩:=hy.mk;simp only[go_sem,zE,zB,zA,reduceCtorEq,h0,h1,h5,ha.len,lt_i hlt,yQ1 ht,yQ1 ht',iNn,hkx,hky,fits];intro _;refine hcall.mono ?_;rintro _ _ ⟨rfl,rfl⟩;by_cases hc:Fm.mk o n cs sub=.mk o' m ds sub'
  ·simp only[go_sem,zE,reduceCtorEq,h0,h1,h5,yQf hlt (show us.length<=281474976710656 by omega),yZ6.2 hc];rw[yQ6 hka,yQ6 hkb,hn,hc]
  ·have hne:us≠ws:=by
    rintro rfl;rw[hka] at hkb;exact hc (Option.some.inj hkb)
   simp only[go_sem,yQl.2 hc];exact yQ0 ⟨by rw[yQl.2 hne],rfl⟩
 ·rintro fr st' ds ⟨hn,h0,h1,h5,rfl,rfl⟩;simp only[go_sem,zE,reduceCtorEq,h0,h5,ha.len,yQs (nLi _)];intro _;have he:us=ws:=by rw[lTl] at hn;rw[hn,hlen,lTl]
  exact yQ0 ⟨by rw[yZ6.2 he],rfl⟩
theorem zKn (o:Nat)(n:ByteArray)(us:List Tm)(sub:List Fm)(IH:∀a∈sub,kSF gl a):kSF gl (.mk o n us sub):=by
 intro g x y hx hy st;obtain⟨o',m,ws,sub'⟩:=g;obtain⟨tx,cx,sx,dx,rfl,ho,htx,hcx,hsx,hdx⟩:=hx.mk;obtain⟨ty,cy,sy,dy,rfl,ho',hty,hcy,hsy,hdy⟩:=hy.mk;have hcall:=yYh gl sub sub' IH sx sy dx dy hsx hsy hdx hdy;refine iI func88 ?_;by_cases hv:o=o'
 ·subst hv;by_cases hnm:n=m
  ·subst hnm;simp only[go_sem,zE,zA,decide_true];refine (zZ6 gl tx ty us ws cx cy htx hty hcx hcy _).mono ?_;rintro _ _ ⟨rfl,rfl⟩;by_cases hc:us=ws
   ·subst hc;simp only[go_sem,zE,zA,yZ6.2 rfl];refine (hcall _).mono ?_;rintro _ _ ⟨rfl,rfl⟩;simp only[go_sem,zE];refine yQ0 ⟨?_,rfl⟩;by_cases hd:sub=sub'
    ·subst hd;rw[yZ6.2 rfl,yZ6.2 rfl]
    ·rw[yQl.2 hd,yQl.2 (by rintro⟨⟩;exact hd rfl)]
   ·simp only[go_sem,zE,yQl.2 hc];exact yQ0 ⟨by rw[yQl.2 (by rintro⟨⟩;exact hc rfl)],rfl⟩
  ·simp only[go_sem,zE,zA,dEf hnm,decide_true];exact yQ0 ⟨by rw[yQl.2 (by rintro⟨⟩;exact hnm rfl)],rfl⟩
 ·have hv':decide ((o:Int)=(o':Int))=false:=dEf (by omega);simp only[go_sem,zE,zA,hv'];exact yQ0 ⟨by rw[yQl.2 (by rintro⟨⟩;exact hv rfl)],rfl⟩
theorem yUq:∀(k:Nat)(f:Fm),SizeOf.sizeOf f<k->kSF gl f
 | 0,f,h=>by omega
 | k+1,.mk o n us sub,h=>zKn gl o n us sub (λa ha=>yUq k a (by
   have:=lSm ha;simp only[Fm.mk.sizeOf_spec] at h;omega))
theorem xX5 (f:Fm):kSF gl f:=yUq gl _ f (Nat.lt_succ_self _)
theorem zZ7 (us ws:List Fm)(t t':Tag)(xs ys:List IV)(ht:okEs t 4)(ht':okEs t' 4)(ha:IsFms us xs)(hb:IsFms ws ys)(st:ISt) :
  ICall prog gl 93 [.sl t xs,.sl t' ys] st (λx st'=>x=.raw (.bool (eqB us ws))/\st'=st):=yYh gl us ws (λa _=>xX5 gl a) t t' xs ys ht ht' ha hb st
theorem zVq (a b:Sq)(x y:IV)(hx:IsSq a x)(hy:IsSq b y)(st:ISt):ICall prog gl 43 [x,y] st (λr st'=>r=.raw (.bool (eqB a b))/\st'=st):=by
 obtain⟨l,r⟩:=a;obtain⟨l',r'⟩:=b;obtain⟨t1,x1,t2,x2,rfl,h1,h2,h3,h4⟩:=hx;obtain⟨t3,x3,t4,x4,rfl,h5,h6,h7,h8⟩:=hy;refine iI func43 ?_;simp only[go_sem,zE,zA];refine (zZ7 gl l l' t1 t3 x1 x3 h1 h5 h2 h6 _).mono ?_;rintro _ _ ⟨rfl,rfl⟩;by_cases hc:l=l'
 ·subst hc;simp only[go_sem,zE,zA,yZ6.2 rfl];refine (zZ7 gl r r' t2 t4 x2 x4 h3 h7 h4 h8 _).mono ?_;rintro _ _ ⟨rfl,rfl⟩;simp only[go_sem,zE];refine yQ0 ⟨?_,rfl⟩;by_cases hd:r=r'
  ·subst hd;rw[yZ6.2 rfl,yZ6.2 rfl]
  ·rw[yQl.2 hd,yQl.2 (by rintro⟨⟩;exact hd rfl)]
 ·simp only[go_sem,zE,yQl.2 hc];exact yQ0 ⟨by rw[yQl.2 (by rintro⟨⟩;exact hc rfl)],rfl⟩
theorem IsFmD.aggs {f:Fm}{r:IV}(h:IsFmD f r):∃o n t x t' x',r=.agg [.raw (.int .u8 o),.raw (.string n),.sl t x,.sl t' x']:=by
 obtain⟨o,n,us,sub⟩:=f;obtain⟨t,xs,t',ys,rfl,_⟩:=h.mk;exact⟨_,_,_,_,_,_,rfl⟩
end Go.Proofs.Tryz
namespace Go.Iv
open Go
section
variable {P:Program}{gl:Nat->Option IV}{f:FuncId}{args args':List IV}{st:ISt}
theorem xUo {X X':WS}{g:Nat}{o:IObj}(h:Ext X X')(h0:X.st g=none)(h1:X'.st g=some o):X.w.heap.size<=g:=by
 by_cases hlt:g<X.w.heap.size
 ·have:=h.dom g hlt h0;rw[h1] at this;cases this
 ·omega
theorem zZn {X':WS}{S:ISt}{g:Nat}{cs:List IV}(h0:S g=none)(hst':X'.st=S.put g (some (.box cs))):LendOk X'.st (ISt.put (λ_=>none) g (some (.box cs))) S:=by
 refine⟨λb o hb=>?_,λb o hb=>?_,λb cs' hb=>?_⟩
 ·rw[ISt.put_apply] at hb;split at hb
  ·rename_i hbg;subst hbg;cases hb;rw[hst'];exact ISt.put_same ..
  ·cases hb
 ·rw[hst',ISt.put_apply];split
  ·rename_i hbg;rw[hbg,h0] at hb;cases hb
  ·exact hb
 ·rw[ISt.put_apply] at hb;split at hb
  ·rename_i hbg;rw[hbg];exact h0
  ·cases hb
theorem xUn {C:Cx}{X':WS}{S:ISt}{g cap es:Nat}{cs zs:List IV}(h2:Good C X')(h0:S g=none)(hst':X'.st=S.put g (some (.box cs)))(hB:C.B<=g)(hn:zs.length<=140737488355328)(hcap:zs.length<=cap)(hroom:cap*es<=cs.length)
  (htk:cs.take (zs.length*es)=zs.flatMap IV.cells) (hz:∀z∈zs,z.cells.length=es):C.v (X'.lendS (ISt.put (λ_=>none) g (some (.box cs))) S) (.slice (some ⟨g,0,none⟩) zs.length cap) (.sl ⟨true,.app g,es⟩ zs):=by
 have hgs:X'.st g=some (.box cs):=by rw[hst'];exact ISt.put_same ..
 have hex:=h2.lendS_ext (zZn h0 hst');have hs1:(ISt.put (λ_=>none) g (some (.box cs))) g=some (.box cs):=ISt.put_same ..;obtain⟨hL0,c,T,hh,hvl⟩:=h2.ok g _ hgs;have hcl:c.toList.length=cs.length:=hvl.1;have hflat:(zs.flatMap IV.cells).length=zs.length*es:=yQp zs hz;have hle:zs.length*es<=cs.length:=Nat.le_trans (Nat.mul_le_mul_right _ hcap) hroom;refine V.sl (some ⟨g,0,none⟩) cap ⟨true,.app g,es⟩ zs T (c.toList.take (zs.length*es)) rfl hn hcap hz ?_ (λg' hg'=>?_) (λ_ ad had=>?_) (λ_=>⟨_,rfl,rfl,?_,λi r hr=>?_⟩) λi r z hr hz=>?_
 ·rw[List.length_take];simp only;omega
 ·cases hg';refine⟨T,c.size,?_,?_⟩
  ·simp[shq,WS.lendS,hh]
  ·have:c.size=c.toList.length:=by simp
   rw[this,hcl];exact hroom
 ·cases had;refine⟨hB,by simp,?_⟩;simp[ety,shq,WS.lendS,hh]
 ·show 0+(c.toList.take (zs.length*es)).length<=(X'.lendS _ S).L g;rw[zYc hs1,List.length_take];omega
 ·show X'.w.cell? _=_;rw[Nat.zero_add,yZ2 hh];rw[List.getElem?_take] at hr;split at hr
  ·simpa using hr
  ·cases hr
 ·rw[<- htk,List.getElem?_take] at hz;rw[List.getElem?_take] at hr;split at hr
  ·rename_i hi;rw[if_pos hi] at hz;exact hex.v (hvl.2 i r z hr hz)
  ·cases hr
theorem ICall.fixN {K:IV->ISt->Prop}(h:ICall P gl f args st (λy st'=>K y st'\/∃g n cap cs es zs v,st g=none/\y=.tup [.raw (.slice (some ⟨g,0,none⟩) n cap),.raw v]/\st'=st.put g (some (.box cs)) /\
   zs.length=n/\n<=140737488355328/\n<=cap/\cap*es<=cs.length/\cs.take (n*es)=zs.flatMap IV.cells/\(∀z∈zs,z.cells.length=es)/\K (.tup [.sl ⟨true,.app g,es⟩ zs,.raw v]) st)) :
  ICall P gl f args st K:=by
 intro B X rs hg hst hv;subst hst;refine (h B X rs hg rfl hv).mono ?_;rintro e w' ⟨v,rfl,X',y,rfl,h2,h3,h4,hK|⟨g,n,cap,cs,es,zs,u,h0,rfl,hst',rfl,hn,hcap,hroom,htk,hz,hK⟩⟩
 ·exact⟨v,rfl,X',y,rfl,h2,h3,h4,hK⟩
 have hgn:=xUo h3 h0 (by rw[hst'];exact ISt.put_same ..);have hk:=zZn h0 hst';refine⟨v,rfl,X'.lendS _ X.st,_,rfl,h2.lendS hk,h3.trans (h2.lendS_ext hk),?_,hK⟩;obtain⟨rr,rfl,hr⟩:=V.tup_inv h4;refine .tup rr _ (by rw[hr.1];rfl) λi r x h1 h2x=>?_
 match i,h1,h2x with
 | 1,h1,h2x =>
  cases h2x;exact (h2.lendS_ext hk).v (hr.2 1 r _ h1 rfl)
 | 0,h1,h2x =>
  cases h2x;obtain rfl:=V.raw_inv (hr.2 0 r _ h1 rfl);exact xUn h2 h0 hst' (Nat.le_trans hg.B hgn) hn hcap hroom htk hz
theorem ICall.fixL {K:IV->ISt->Prop}(h:ICall P gl f args st (λy st'=>K y st'\/∃g es zs,st g=none/\y=.raw (.slice (some ⟨g,0,none⟩) zs.length zs.length)/\st'=st.put g (some (.box (zs.flatMap IV.cells))) /\
   zs.length<=140737488355328/\(∀z∈zs,z.cells.length=es)/\K (.sl ⟨true,.app g,es⟩ zs) st)):ICall P gl f args st K:=by
 intro B X rs hg hst hv;subst hst;refine (h B X rs hg rfl hv).mono ?_;rintro e w' ⟨v,rfl,X',y,rfl,h2,h3,h4,hK|⟨g,es,zs,h0,rfl,hst',hn,hz,hK⟩⟩
 ·exact⟨v,rfl,X',y,rfl,h2,h3,h4,hK⟩
 have hgn:=xUo h3 h0 (by rw[hst'];exact ISt.put_same ..);have hk:=zZn h0 hst';have hfl:=yQp zs hz;obtain rfl:=V.raw_inv h4;exact⟨_,rfl,X'.lendS _ X.st,_,rfl,h2.lendS hk,h3.trans (h2.lendS_ext hk),xUn h2 h0 hst' (Nat.le_trans hg.B hgn) hn (Nat.le_refl _) (by rw[hfl];exact Nat.le_refl _) (by rw[<- hfl,lTl]) hz,hK⟩
end
end Go.Iv
namespace Go.Proofs.Tryz
open Go Go.Iv
set_option maxRecDepth 4000
variable (gl:Nat->Option IV)
@[go_sem] theorem kQw:((#[]:Array UInt8).size<=281474976710656)=True:=eq_true (Nat.zero_le _)
theorem wY6 (k:Nat):IntKind.u8.wrap ((k:Nat):Int)=((UInt8.ofNat k).toNat:Int):=by
 simp[IntKind.wrap,IntKind.bits,IntKind.signed]
def keyB (mk:UInt8)(n:Nat)(s:ByteArray):ByteArray:=⟨#[mk,UInt8.ofNat (48+n%10)]⟩++s
theorem wK5 (mk:UInt8)(n:Nat)(hn:n<=1000000000)(s:ByteArray)(hs:s.size<=1000000000)(st:ISt) :
  ICall prog gl 124 [.raw (.int .u8 (mk.toNat:Int)),.raw (.string s),.raw (.int .i64 (n:Int))] st (λr st'=>r=.raw (.string (keyB mk n s))/\st'=st):=by
 refine iI func124 ?_;have hcv:=λn:Int=>zUz prog 3 5 vXn vXm .i64 n;have htm:(n:Int).tmod 10=((n%10:Nat):Int):=by rw[Int.tmod_eq_emod_of_nonneg (by omega)];rfl
 have hwr:IntKind.i64.wrap (48+((n%10:Nat):Int))=((48+n%10:Nat):Int):=by rw[w64]<;>omega
 have hby:yYs [.raw (.int .u8 (mk.toNat:Int)),.raw (.int .u8 ((UInt8.ofNat (48+n%10)).toNat:Int))]=some [mk,UInt8.ofNat (48+n%10)]:=by simp only[xXo,xYg,Option.map_some]
 simp only[go_sem,zE,zM,zL,reduceCtorEq,hcv,htm,show ((10:Int)=0)=False from eq_false (by decide),hwr,wY6,fits,show yQi 2 [(0,Operand.tmp 7),(1,Operand.tmp 11)]=true from rfl,Option.map_some,Option.bind_some,hby,show (#[mk,UInt8.ofNat (48+n%10)].size+s.size<=281474976710656)=True from eq_true (by show 2+s.size<=_;omega)];exact yQ0 ⟨rfl,rfl⟩
theorem wYz (e n:Nat)(he:e<=2)(hn:n<=60)(st:ISt) :
  ICall prog gl 125 [.raw (.int .i64 (e:Int)),.raw (.int .i64 (n:Int))] st (λr st'=>r=.raw (.int .i64 ((e ^ n:Nat):Int))/\st'=st):=by
 have hpw:∀k,k<=60->e ^ k<=1152921504606846976:=λk hk=>by
  have h1:e ^ k<=2 ^ k:=Nat.pow_le_pow_left he k;have h2:2 ^ k<=2 ^ 60:=Nat.pow_le_pow_right (by omega) hk;have h3:(2:Nat) ^ 60=1152921504606846976:=by decide
  omega
 refine iI func125 ?_;simp only[go_sem];refine LoopC.ctr n (λk fr st' ds=>fr 0=.iv (.raw (.int .i64 (e:Int)))/\fr 1=.iv (.raw (.int .i64 (n:Int)))/\fr 5=.iv (.raw (.int .i64 ((e ^ k:Nat):Int)))/\fr 6=.iv (.raw (.int .i64 (k:Int)))/\st'=st/\ds=[]) ?_ ?_ ?_
 ·simp only[go_sem,zE,reduceCtorEq];exact⟨by rw[Nat.pow_zero];rfl,rfl⟩
 ·rintro k fr _ _ hlt ⟨f0,f1,f5,f6,rfl,rfl⟩;have h1:=hpw (k+1) (by omega);have hmul:IntKind.i64.wrap (((e ^ k:Nat):Int)*(e:Int))=((e ^ (k+1):Nat):Int):=by
   rw[Nat.pow_succ] at *;rw[<- Int.natCast_mul,w64]<;>omega
  simp only[go_sem,zE,reduceCtorEq,f0,f1,f5,f6,lt_i hlt,hmul,yQf hlt (show n<=281474976710656 by omega)]
 ·rintro fr _ _ ⟨f0,f1,f5,f6,rfl,rfl⟩;simp only[go_sem,zE,f1,f5,f6,yQs (nLi _)];exact yQ0 ⟨rfl,rfl⟩
structure Mo where
 sees:List (List Nat)
 elems:Nat
 syms:List (ByteArray×Nat)
 bits:Nat
 table:Nat
def yXk (l:List Nat):List IV:=l.map λ(n:Nat)=>.raw (.int .i64 (n:Int))
def IsSees:List (List Nat)->List IV->Prop
 | [],xs=>xs=[]
 | a::l,xs=>∃t ys,xs=.sl t (yXk a)::ys/\okEs t 1/\IsSees l ys
def IsMo (M:Mo)(cs:List IV):Prop:=∃t1 xs t2 t3,cs=[.sl t1 xs,.raw (.int .i64 (M.elems:Int)),.sl t2 (M.syms.map λp=>.raw (.string p.1)),.sl t3 (M.syms.map λp=>.raw (.int .i64 (p.2:Int))),.raw (.int .i64 (M.bits:Int)),.raw (.int .i64 (M.table:Int))] /\
 okEs t1 1/\IsSees M.sees xs/\okEs t2 1/\okEs t3 1
def bitL (tb:Nat)(k:ByteArray)(i:Nat):List (ByteArray×Nat)->Nat
 | []=>0
 | p::l=>if p.1=k then tb / 2 ^ (p.2+i)%2 else bitL tb k i l
def Mo.bit (M:Mo)(k:ByteArray)(i:Nat):Nat:=bitL M.table k i M.syms
structure MoOk (M:Mo):Prop where
 el:0<M.elems/\M.elems<=2
 n:M.syms.length<=1000000000
 first:∀p∈M.syms,p.2<=1000000000000
 table:M.table<=1000000
theorem shrN (tb s:Nat)(h:tb<=1000000):Int.fdiv (tb:Int) (2 ^ (min s 64))=((tb / 2 ^ s:Nat):Int):=by
 have h1:(2:Int) ^ min s 64=((2 ^ min s 64:Nat):Int):=by norm_cast
 rw[h1,<- Int.ofNat_fdiv];by_cases hs:s<=64
 ·rw[Nat.min_eq_left hs]
 ·rw[Nat.min_eq_right (by omega)];have h2:(2:Nat) ^ 64<=2 ^ s:=Nat.pow_le_pow_right (by omega) (by omega);have h3:(1000000:Nat)<2 ^ 64:=by decide
  rw[Nat.div_eq_of_lt (by omega),Nat.div_eq_of_lt (by omega)]
theorem andN (x:Nat)(h:x<=1000000):IntKind.i64.wrap ((BitVec.ofInt IntKind.i64.bits ((x:Nat):Int) &&& BitVec.ofInt IntKind.i64.bits 1).toNat:Int)=((x%2:Nat):Int):=by
 show IntKind.i64.wrap ((BitVec.ofInt 64 ((x:Nat):Int) &&& BitVec.ofInt 64 1).toNat:Int)=_;have h3:(1000000:Nat)<2 ^ 64:=by decide
 have h1:(BitVec.ofInt 64 ((x:Nat):Int) &&& BitVec.ofInt 64 1).toNat=x%2:=by
  rw[BitVec.toNat_and,BitVec.ofInt_natCast,show BitVec.ofInt 64 1=BitVec.ofNat 64 1 from rfl,BitVec.toNat_ofNat,BitVec.toNat_ofNat,Nat.mod_eq_of_lt (show x<2 ^ 64 by omega),show 1%2 ^ 64=1 from rfl,Nat.and_one_is_mod]
 rw[h1,w64]<;>omega
theorem wU9 (M:Mo)(cs:List IV)(hM:IsMo M cs)(hO:MoOk M)(k:ByteArray)(i:Nat)(hi:i<=4611686018427387904)(st:ISt) :
  ICall prog gl 126 [.cptr (.agg cs),.raw (.string k),.raw (.int .i64 (i:Int))] st (λr st'=>r=.raw (.int .i64 (M.bit k i:Int))/\st'=st):=by
 obtain⟨t1,xs,t2,t3,rfl,e1,hs,e2,e3⟩:=hM;refine iI func126 ?_;simp only[go_sem];refine LoopC.ctr M.syms.length (λj fr st' ds=>M.bit k i=bitL M.table k i (M.syms.drop j)/\fr 0=.iv (.cptr (.agg [.sl t1 xs,.raw (.int .i64 (M.elems:Int)),.sl t2 (M.syms.map λp=>.raw (.string p.1)),.sl t3 (M.syms.map λp=>.raw (.int .i64 (p.2:Int))),.raw (.int .i64 (M.bits:Int)),.raw (.int .i64 (M.table:Int))])) /\
  fr 1=.iv (.raw (.string k))/\fr 2=.iv (.raw (.int .i64 (i:Int)))/\fr 7=.iv (.raw (.int .i64 (j:Int)))/\st'=st/\ds=[]) ?_ ?_ ?_
 ·simp only[go_sem,zE,reduceCtorEq];exact⟨rfl,rfl⟩
 ·rintro j fr _ _ hlt ⟨hbit,f0,f1,f2,f7,rfl,rfl⟩;obtain⟨p,hp⟩:=yQ4 hlt;have h1:(M.syms.map λp=>IV.raw (.string p.1))[j]?=some (.raw (.string p.1)):=by rw[List.getElem?_map,hp];rfl
  have h2:(M.syms.map λp=>IV.raw (.int .i64 (p.2:Int)))[j]?=some (.raw (.int .i64 (p.2:Int))):=by rw[List.getElem?_map,hp];rfl
  have hf:=hO.first p (lMg hp);rw[List.drop_eq_getElem_cons hlt,(lGs hp).2] at hbit;simp only[bitL] at hbit;simp only[go_sem,zE,reduceCtorEq,f0,f1,f7,fits,List.length_map,lt_i hlt,yQ1 e2,iNn,h1];intro hlen;have hadd:IntKind.i64.wrap ((p.2:Int)+(i:Int))=((p.2+i:Nat):Int):=by rw[w64]<;>omega
  have hdv:M.table / 2 ^ (p.2+i)<=1000000:=Nat.le_trans (Nat.div_le_self _ _) hO.table;by_cases hk:p.1=k
  ·rw[if_pos hk] at hbit;simp -dsimp only[go_sem,zE,reduceCtorEq,f0,f2,f7,fits,dEt hk,yQ1 e3,iNn,h2,hadd,show ((0:Int)<=((p.2+i:Nat):Int))=True from eq_true (by omega),shrN _ _ hO.table,andN _ hdv];intros;exact yQ0 ⟨by rw[hbit],rfl⟩
  ·rw[if_neg hk] at hbit;simp only[go_sem,zE,reduceCtorEq,f0,f1,f2,f7,dEf hk,yQf hlt (show M.syms.length<=281474976710656 by omega)];exact hbit
 ·rintro fr _ _ ⟨hbit,f0,f1,f2,f7,rfl,rfl⟩;rw[List.drop_length] at hbit;simp only[go_sem,zE,reduceCtorEq,f0,f7,fits,List.length_map,yQs (nLi _)];intros;exact yQ0 ⟨by rw[hbit];rfl,rfl⟩
end Go.Proofs.Tryz
namespace Go.Proofs.Tryz
open Go Go.Iv
structure Md where
 sees:Nat->List Nat
 E:Nat
 P:ByteArray->List Nat->Nat->Bool
 F:ByteArray->List Nat->Nat
 V:ByteArray->Nat
abbrev Env:=List (ByteArray×Nat)
def yVg (env:Env)(n:ByteArray):Option Nat:=(env.find? λp=>decide (p.1=n)).map (·.2)
mutual
def valT (M:Md)(env:Env):Tm->Nat
 | .mk true n _=>(yVg env n).getD (M.V n)
 | .mk false n l=>M.F n (yWx M env l)
def yWx (M:Md)(env:Env):List Tm->List Nat
 | []=>[]
 | a::l=>valT M env a::yWx M env l
end
def impB:List Bool->Bool
 | [a,b]=>!a || b
 | _=>true
def iffB:List Bool->Bool
 | [a,b]=>a == b
 | _=>true
mutual
def hold (M:Md):Fm->Env->Nat->Bool
 | .mk op n us sub,env,w =>
  if op=1 then M.P n (yWx M env us) w
  else if op=3 then (M.sees w).all λv=>!((yJ0 M sub env v).all id)
  else if op=4 then (yJ0 M sub env w).all id
  else if op=5 then (yJ0 M sub env w).any id
  else if op=6 then (M.sees w).all λv=>impB (yJ0 M sub env v)
  else if op=7 then (M.sees w).all λv=>iffB (yJ0 M sub env v)
  else if op=8 then (List.range M.E).all λe=>(yJ0 M sub ((n,e)::env) w).all id
  else if op=9 then (List.range M.E).any λe=>(yJ0 M sub ((n,e)::env) w).all id
  else false
def yJ0 (M:Md):List Fm->Env->Nat->List Bool
 | [],_,_=>[]
 | a::l,env,w=>hold M a env w::yJ0 M l env w
end
mutual
def valX (M:Md)(env:List Nat):NlT->Nat
 | .bv i=>(env.reverse[i]?).getD 0
 | .fv n=>M.V n
 | .ap n l=>M.F n (zQ7 M env l)
def zQ7 (M:Md)(env:List Nat):List NlT->List Nat
 | []=>[]
 | a::l=>valX M env a::zQ7 M env l
end
mutual
def zYh (M:Md):NlF->List Nat->Nat->Bool
 | .mk op n us sub,env,w =>
  if op=1 then M.P n (zQ7 M env us) w
  else if op=3 then (M.sees w).all λv=>!((yKq M sub env v).all id)
  else if op=4 then (yKq M sub env w).all id
  else if op=5 then (yKq M sub env w).any id
  else if op=6 then (M.sees w).all λv=>impB (yKq M sub env v)
  else if op=7 then (M.sees w).all λv=>iffB (yKq M sub env v)
  else if op=8 then (List.range M.E).all λe=>(yKq M sub (e::env) w).all id
  else if op=9 then (List.range M.E).any λe=>(yKq M sub (e::env) w).all id
  else false
def yKq (M:Md):List NlF->List Nat->Nat->List Bool
 | [],_,_=>[]
 | a::l,env,w=>zYh M a env w::yKq M l env w
end
theorem xUv (n:ByteArray):∀env:Env,(∀i,yGf (env.map (·.1)) n=some i->i<env.length/\yVg env n=some (((env.map (·.2)).reverse[i]?).getD 0))/\(yGf (env.map (·.1)) n=none->yVg env n=none)
 | []=>⟨λi h=>by simp[yGf] at h,λ_=>rfl⟩
 | (m,e)::env=>by
  obtain⟨h1,h2⟩:=xUv n env;simp only[List.map_cons,yGf];by_cases h:n=m
  ·subst h;simp only[if_true];refine⟨λi hi=>?_,λh=>by cases h⟩;simp only[List.length_map,Option.some.injEq] at hi;subst hi;refine⟨by simp,?_⟩;simp[yVg]
  ·have hm:¬ m=n:=λh'=>h h'.symm;simp only[if_neg h];have hl:yVg ((m,e)::env) n=yVg env n:=by simp[yVg,List.find?,hm]
   rw[hl];refine⟨λi hi=>?_,h2⟩;obtain⟨k1,k2⟩:=h1 i hi;refine⟨by simp only[List.length_cons];omega,?_⟩;rw[k2,List.reverse_cons,List.getElem?_append_left (by simpa using k1)]
mutual
theorem vQz (M:Md)(env:Env):∀t:Tm,valT M env t=valX M (env.map (·.2)) (db (env.map (·.1)) t)
 | .mk true n us=>by
  obtain⟨h1,h2⟩:=xUv n env;simp only[valT,db,yJa];cases h:yGf (env.map (·.1)) n with
  | none=>rw[h2 h];simp[valX]
  | some i=>rw[(h1 i h).2];simp[valX]
 | .mk false n us=>by simp only[valT,db,valX,xQo M env us]
theorem xQo (M:Md)(env:Env):∀l:List Tm,yWx M env l=zQ7 M (env.map (·.2)) (dbs (env.map (·.1)) l)
 | []=>rfl
 | a::l=>by simp only[yWx,dbs,zQ7,vQz M env a,xQo M env l]
end
theorem vXl {op:Nat}(h8:op≠8)(h9:op≠9):isQ op=false:=by simp[isQ,h8,h9]
mutual
theorem yGz (M:Md):∀(f:Fm) (env:Env) (w:Nat),hold M f env w=zYh M (dbF (env.map (·.1)) f) (env.map (·.2)) w
 | .mk op n us sub,env,w=>by
  simp only[hold,dbF,zYh];by_cases h8:op=8
  ·subst h8;have ih:=λe=>zZw M sub ((n,e)::env) w;simp only[List.map_cons] at ih;simp[isQ,ih]
  ·by_cases h9:op=9
   ·subst h9;have ih:=λe=>zZw M sub ((n,e)::env) w;simp only[List.map_cons] at ih;simp[isQ,ih]
   ·have ih:=λv=>zZw M sub env v;simp only[vXl h8 h9,bFt,if_false,if_neg h8,if_neg h9,xQo M env us,ih]
theorem zZw (M:Md):∀(l:List Fm) (env:Env) (w:Nat),yJ0 M l env w=yKq M (dbFs (env.map (·.1)) l) (env.map (·.2)) w
 | [],_,_=>rfl
 | a::l,env,w=>by simp only[yJ0,dbFs,yKq,yGz M a env w,zZw M l env w]
end
theorem xY5 (M:Md){f g:Fm}(h:dbF [] f=dbF [] g)(w:Nat):hold M f [] w=hold M g [] w:=by
 rw[yGz,yGz];simp only[List.map_nil,h]
def Md.upd (M:Md)(x:ByteArray)(e:Nat):Md:={ M with V:=λn=>if x=n then e else M.V n }
theorem xUu (env:Env)(x n:ByteArray)(e d:Nat):(yVg (env++[(x,e)]) n).getD d=(yVg env n).getD (if x=n then e else d):=by
 unfold yVg;rw[List.find?_append];cases List.find? (λp=>decide (p.1=n)) env with
 | some p=>rfl
 | none =>
  by_cases h:x=n
  ·simp[List.find?,h]
  ·simp[List.find?,h]
mutual
theorem wXw (M:Md)(x:ByteArray)(e:Nat)(env:Env):∀t:Tm,valT M (env++[(x,e)]) t=valT (M.upd x e) env t
 | .mk true n us=>by simp only[valT,xUu,Md.upd]
 | .mk false n us=>by simp only[valT,zX4 M x e env us];rfl
theorem zX4 (M:Md)(x:ByteArray)(e:Nat)(env:Env):∀l:List Tm,yWx M (env++[(x,e)]) l=yWx (M.upd x e) env l
 | []=>rfl
 | a::l=>by simp only[yWx,wXw M x e env a,zX4 M x e env l]
end
mutual
theorem zUh (M:Md)(x:ByteArray)(e:Nat):∀(f:Fm) (env:Env) (w:Nat),hold M f (env++[(x,e)]) w=hold (M.upd x e) f env w
 | .mk op n us sub,env,w=>by
  have ih:=λv=>zQn M x e sub env v;have ih2:=λd=>zQn M x e sub ((n,d)::env) w;simp only[List.cons_append] at ih2;simp only[hold,zX4,ih,ih2];rfl
theorem zQn (M:Md)(x:ByteArray)(e:Nat):∀(l:List Fm) (env:Env) (w:Nat),yJ0 M l (env++[(x,e)]) w=yJ0 (M.upd x e) l env w
 | [],_,_=>rfl
 | a::l,env,w=>by simp only[yJ0,zUh M x e a env w,zQn M x e l env w]
end
theorem xKx (M:Md)(x:ByteArray)(e:Nat)(f:Fm)(w:Nat):hold M f [(x,e)] w=hold (M.upd x e) f [] w:=zUh M x e f [] w
mutual
theorem zKw (M:Md)(env:List Nat):∀t:Tm,valX M env (db [] t)=valT M [] t
 | .mk true n us=>by simp[db,yJa,yGf,valX,valT,yVg]
 | .mk false n us=>by simp only[db,valX,valT,zX5 M env us]
theorem zX5 (M:Md)(env:List Nat):∀l:List Tm,zQ7 M env (dbs [] l)=yWx M [] l
 | []=>rfl
 | a::l=>by simp only[dbs,zQ7,yWx,zKw M env a,zX5 M env l]
end
section
variable (M:Md)(x:ByteArray)(t:Tm)
theorem wXv (env:List Nat)(n:ByteArray):valX M env (sub1 x t n)=(M.upd x (valT M [] t)).V n:=by
 unfold sub1 Md.upd;by_cases h:x=n
 ·simp only[if_pos h,zKw]
 ·simp only[if_neg h,valX]
mutual
theorem wXx (env:List Nat):∀d:NlT,valX M env (dsub (sub1 x t) d)=valX (M.upd x (valT M [] t)) env d
 | .bv i=>rfl
 | .fv n=>by simp only[dsub,wXv,valX]
 | .ap n l=>by simp only[dsub,valX,zX6 env l];rfl
theorem zX6 (env:List Nat):∀l:List NlT,zQ7 M env (zKp (sub1 x t) l)=zQ7 (M.upd x (valT M [] t)) env l
 | []=>rfl
 | a::l=>by simp only[zKp,zQ7,wXx env a,zX6 env l]
end
mutual
theorem zUk:∀(d:NlF)(env:List Nat)(w:Nat),zYh M (zJn (sub1 x t) d) env w=zYh (M.upd x (valT M [] t)) d env w
 | .mk op n us sub,env,w=>by
  have ih:=λv=>zQo sub env v;have ih2:=λe=>zQo sub (e::env) w;simp only[zJn,zYh,zX6,ih,ih2];rfl
theorem zQo:∀(l:List NlF)(env:List Nat)(w:Nat),yKq M (yUw (sub1 x t) l) env w=yKq (M.upd x (valT M [] t)) l env w
 | [],_,_=>rfl
 | a::l,env,w=>by simp only[yUw,yKq,zUk a env w,zQo l env w]
end
theorem zZv {f:Fm}(hf:f.ok=true)(w:Nat):hold M (yXr (yKh [(x,t)] (frF f)) f) [] w=hold (M.upd x (valT M [] t)) f [] w:=by
 rw[yGz,yGz];simp only[List.map_nil];rw[wKb hf,zUk]
end
section
variable (M:Md)(y:ByteArray)(e:Nat)
mutual
theorem xG4 (env:List Nat):∀d:NlT,y ∉ frT d->valX (M.upd y e) env d=valX M env d
 | .bv i,_=>rfl
 | .fv n,h=>by
  have:¬ y=n:=λhn=>h (by simp[frT,hn]);simp only[valX,Md.upd,if_neg this]
 | .ap n l,h=>by simp only[valX,zQ6 env l (by simpa[frT] using h)];rfl
theorem zQ6 (env:List Nat):∀l:List NlT,y ∉ frTs l->zQ7 (M.upd y e) env l=zQ7 M env l
 | [],_=>rfl
 | a::l,h=>by
  simp only[frTs,List.mem_append,not_or] at h;simp only[zQ7,xG4 env a h.1,zQ6 env l h.2]
end
mutual
theorem zVt:∀(d:NlF)(env:List Nat)(w:Nat),y ∉ frD d->zYh (M.upd y e) d env w=zYh M d env w
 | .mk op n us sub,env,w,h=>by
  simp only[frD,List.mem_append,not_or] at h;have ih:=λv=>yU0 sub env v h.2;have ih2:=λc=>yU0 sub (c::env) w h.2;simp only[zYh,zQ6 M y e _ us h.1,ih,ih2];rfl
theorem yU0:∀(l:List NlF)(env:List Nat)(w:Nat),y ∉ frDs l->yKq (M.upd y e) l env w=yKq M l env w
 | [],_,_,_=>rfl
 | a::l,env,w,h=>by
  simp only[frDs,List.mem_append,not_or] at h;simp only[yKq,zVt a env w h.1,yU0 l env w h.2]
end
theorem yYj {f:Fm}(hf:f.ok=true)(h:y ∉ frF f)(w:Nat):hold (M.upd y e) f [] w=hold M f [] w:=by
 rw[yGz,yGz];exact zVt M y e _ _ w (by simp only[List.map_nil];rw[zYl hf];exact h)
end
end Go.Proofs.Tryz
namespace Go.Proofs.Tryz
open Go Go.Iv
def cmpN (a b:Nat):Int:=if a<b then -1 else if b<a then 1 else 0
noncomputable def cmpB (a b:ByteArray):Int:=if Op.bytesLess a.data.toList b.data.toList=true then -1 else if Op.bytesLess b.data.toList a.data.toList=true then 1 else 0
def lexI (x y:Int):Int:=if x=0 then y else x
mutual
noncomputable def yW5:Tm->Tm->Int
 | .mk v n us,.mk v' n' us'=>if v=v' then lexI (cmpB n n') (lexI (cmpN us.length us'.length) (yK0 us us')) else if v=true then -1 else 1
noncomputable def yK0:List Tm->List Tm->Int
 | a::l,b::m=>lexI (yW5 a b) (yK0 l m)
 | _,_=>0
end
mutual
noncomputable def yXa:Fm->Fm->Int
 | .mk o n us sub,.mk o' n' us' sub'=>lexI (cmpN o o') (lexI (cmpB n n') (lexI (lexI (cmpN us.length us'.length) (yK0 us us')) (lexI (cmpN sub.length sub'.length) (yYr sub sub'))))
noncomputable def yYr:List Fm->List Fm->Int
 | a::l,b::m=>lexI (yXa a b) (yYr l m)
 | _,_=>0
end
structure Cp {α:Type}(f:α->α->Int)(a:α):Prop where
 eq:∀b,f a b=0↔a=b
 neg:∀b,f b a = - f a b
 tr:∀b c,f a b<0->f b c<0->f a c<0
theorem yV8 {x y:Int}:lexI x y=0↔x=0/\y=0:=by
 unfold lexI;split
 ·rename_i h;simp[h]
 ·rename_i h;simp[h]
theorem yWi (x y:Int):lexI (-x) (-y) = - lexI x y:=by
 unfold lexI;by_cases h:x=0
 ·simp[h]
 ·rw[if_neg (by omega),if_neg h]
theorem zYb {x y:Int}:lexI x y<0↔x<0\/x=0/\y<0:=by
 unfold lexI;split
 ·rename_i h;simp[h]
 ·rename_i h;simp[h]
theorem zVo {p q r p' q' r':Int}(h1:p<0->q<0->r<0)(h2:p=0->q=r)(h3:q=0->p=r)(h4:p'<0->q'<0->r'<0)(h:lexI p p'<0)(k:lexI q q'<0):lexI r r'<0:=by
 rw[zYb] at *;rcases h with h|⟨h,h'⟩
 ·rcases k with k|⟨k,_⟩
  ·exact .inl (h1 h k)
  ·exact .inl (by rw[<- h3 k];exact h)
 ·rcases k with k|⟨k,k'⟩
  ·exact .inl (by rw[<- h2 h];exact k)
  ·exact .inr ⟨by rw[<- h2 h];exact k,h4 h' k'⟩
theorem yYq (a:Nat):Cp cmpN a:=by
 refine⟨λb=>?_,λb=>?_,λb c=>?_⟩<;>unfold cmpN<;>repeat' split
 all_goals (first|omega|simp_all|(constructor<;>intro<;>omega))
open Classical in
theorem zQt {a b:ByteArray}:cmpB a b=if ltN a b then -1 else if ltN b a then 1 else 0:=by
 unfold cmpB;congr 1
 ·exact propext xKj
 ·congr 1;exact propext xKj
open Classical in
theorem yJi (a:ByteArray):Cp cmpB a:=by
 refine⟨λb=>?_,λb=>?_,λb c=>?_⟩
 ·rw[zQt];by_cases h1:ltN a b
  ·rw[if_pos h1];exact⟨λh=>by omega,λh=>absurd h1 (by rw[h];exact xZx b)⟩
  ·rw[if_neg h1];by_cases h2:ltN b a
   ·rw[if_pos h2];exact⟨λh=>by omega,λh=>absurd h2 (by rw[h];exact xZx b)⟩
   ·rw[if_neg h2];exact⟨λ_=>Classical.byContradiction λhne=>h2 (xUs h1 hne),λ_=>rfl⟩
 ·rw[zQt,zQt];by_cases h1:ltN a b
  ·rw[if_pos h1,if_neg (xUt h1),if_pos h1];rfl
  ·by_cases h2:ltN b a
   ·rw[if_pos h2,if_neg h1,if_pos h2]
   ·rw[if_neg h1,if_neg h2,if_neg h2,if_neg h1];rfl
 ·rw[zQt,zQt,zQt];have key:∀x y:ByteArray,(if ltN x y then (-1:Int) else if ltN y x then 1 else 0)<0↔ltN x y:=λx y=>by
   by_cases h1:ltN x y
   ·simp[h1]
   ·by_cases h2:ltN y x<;>simp[h1,h2]
  rw[key,key,key];exact xUr
section
variable {α:Type}{f:α->α->Int}{g:List α->List α->Int}(g0:g [] []=0)(g1:∀a b l m,g (a::l) (b::m)=lexI (f a b) (g l m))
include g0 g1
theorem xZy:∀(l:List α),(∀a∈l,∀b,f a b=0↔a=b)->∀m,l.length=m.length->(g l m=0↔l=m)
 | [],_,m,hm=>by
  obtain rfl:m=[]:=List.eq_nil_of_length_eq_zero hm.symm;simp[g0]
 | a::l,hc,b::m,hm=>by
  rw[g1,yV8,hc a (by simp),xZy l (λb hb=>hc b (by simp[hb])) m (by simpa using hm),List.cons.injEq]
theorem xKg:∀(l:List α),(∀a∈l,∀b,f b a = - f a b)->∀m,l.length=m.length->g m l = - g l m
 | [],_,m,hm=>by
  obtain rfl:m=[]:=List.eq_nil_of_length_eq_zero hm.symm;simp[g0]
 | a::l,hc,b::m,hm=>by
  rw[g1,g1,hc a (by simp),xKg l (λb hb=>hc b (by simp[hb])) m (by simpa using hm),yWi]
theorem xUz (he:∀a b,f a b=0↔a=b):∀(l:List α),(∀a∈l,∀b c,f a b<0->f b c<0->f a c<0)->∀m n,l.length=m.length->m.length=n.length->g l m<0->g m n<0->g l n<0
 | [],_,m,n,hm,hn,h,_=>by
  obtain rfl:m=[]:=List.eq_nil_of_length_eq_zero hm.symm;rw[g0] at h;omega
 | a::l,hc,b::m,c::n,hm,hn,h,k=>by
  rw[g1] at h k ⊢;exact zVo (hc a (by simp) b c) (λe=>by rw[(he a b).1 e]) (λe=>by rw[(he b c).1 e]) (xUz he l (λb hb=>hc b (by simp[hb])) m n (by simpa using hm) (by simpa using hn)) h k
end
def lenL {α:Type}(g:List α->List α->Int)(l m:List α):Int:=lexI (cmpN l.length m.length) (g l m)
theorem yX6 {a b:Nat}:cmpN a b=0↔a=b:=(yYq a).eq b
section
variable {α:Type}{f:α->α->Int}{g:List α->List α->Int}(g0:g [] []=0)(g1:∀a b l m,g (a::l) (b::m)=lexI (f a b) (g l m))
include g0 g1
theorem zJ4 {l:List α}(h:∀a∈l,∀b,f a b=0↔a=b)(m:List α):lenL g l m=0↔l=m:=by
 unfold lenL;rw[yV8,yX6];constructor
 ·rintro⟨h1,h2⟩;exact (xZy g0 g1 l h m h1).1 h2
 ·rintro rfl;exact⟨rfl,(xZy g0 g1 l h l rfl).2 rfl⟩
theorem zYd {l:List α}(h:∀a∈l,∀b,f b a = - f a b)(m:List α):lenL g m l = - lenL g l m:=by
 unfold lenL;rw[(yYq l.length).neg];by_cases hl:l.length=m.length
 ·rw[xKg g0 g1 l h m hl,yWi]
 ·have:¬ cmpN l.length m.length=0:=λh=>hl (yX6.1 h);unfold lexI;rw[if_neg (by omega),if_neg this]
theorem xX1 (he:∀a b,f a b=0↔a=b){l:List α}(h:∀a∈l,∀b c,f a b<0->f b c<0->f a c<0)(m n:List α)(h1:lenL g l m<0)(h2:lenL g m n<0):lenL g l n<0:=by
 unfold lenL at *;rw[zYb] at h1 h2;by_cases hl:l.length=m.length/\m.length=n.length
 ·obtain⟨hl,hm⟩:=hl;have e1:¬ cmpN l.length m.length<0:=by rw[yX6.2 hl];omega
  have e2:¬ cmpN m.length n.length<0:=by rw[yX6.2 hm];omega
  have e3:cmpN l.length n.length=0:=yX6.2 (hl.trans hm);rw[zYb];exact .inr ⟨e3,xUz g0 g1 he l h m n hl hm (h1.resolve_left e1).2 (h2.resolve_left e2).2⟩
 ·rw[zYb];left;rcases h1 with h1|⟨h1,_⟩
  ·rcases h2 with h2|⟨h2,_⟩
   ·exact (yYq _).tr _ _ h1 h2
   ·rw[<- yX6.1 h2];exact h1
  ·rcases h2 with h2|⟨h2,_⟩
   ·rw[yX6.1 h1];exact h2
   ·exact absurd ⟨yX6.1 h1,yX6.1 h2⟩ hl
end
theorem yKp:yK0 [] []=0:=by simp only[yK0]
theorem yKo (a b:Tm)(l m:List Tm):yK0 (a::l) (b::m)=lexI (yW5 a b) (yK0 l m):=by simp only[yK0]
theorem yU5:yYr [] []=0:=by simp only[yYr]
theorem yU4 (a b:Fm)(l m:List Fm):yYr (a::l) (b::m)=lexI (yXa a b) (yYr l m):=by simp only[yYr]
theorem yG8 (v v':Bool)(n n':ByteArray)(us us':List Tm):yW5 (.mk v n us) (.mk v' n' us')=if v=v' then lexI (cmpB n n') (lenL yK0 us us') else if v=true then -1 else 1:=by simp only[yW5,lenL]
theorem yG9 (o o':Nat)(n n':ByteArray)(us us':List Tm)(sub sub':List Fm):yXa (.mk o n us sub) (.mk o' n' us' sub')=lexI (cmpN o o') (lexI (cmpB n n') (lexI (lenL yK0 us us') (lenL yYr sub sub'))):=by simp only[yXa,lenL]
theorem xG9 {p:Tm->Prop}(h:∀v n us,(∀a∈us,p a)->p (.mk v n us))(t:Tm):p t:=by
 have key:∀(k:Nat) (t:Tm),SizeOf.sizeOf t<k->p t:=λk=>by
  induction k with
  | zero=>intro t ht;omega
  | succ k ih =>
   rintro⟨v,n,us⟩ ht;refine h v n us λa ha=>ih a ?_;have:=lSm ha;simp only[Tm.mk.sizeOf_spec] at ht;omega
 exact key _ t (Nat.lt_succ_self _)
theorem wZa {p:Fm->Prop}(h:∀o n us sub,(∀a∈sub,p a)->p (.mk o n us sub))(t:Fm):p t:=by
 have key:∀(k:Nat) (t:Fm),SizeOf.sizeOf t<k->p t:=λk=>by
  induction k with
  | zero=>intro t ht;omega
  | succ k ih =>
   rintro⟨o,n,us,sub⟩ ht;refine h o n us sub λa ha=>ih a ?_;have:=lSm ha;simp only[Fm.mk.sizeOf_spec] at ht;omega
 exact key _ t (Nat.lt_succ_self _)
theorem yUx (a b:Tm):yW5 a b=0↔a=b:=by
 revert b;refine xG9 (p:=λa=>∀b,yW5 a b=0↔a=b) (λv n us ih b=>?_) a;obtain⟨v',n',us'⟩:=b;rw[yG8,Tm.mk.injEq];by_cases hv:v=v'
 ·rw[if_pos hv,yV8,(yJi n).eq,zJ4 yKp yKo ih];simp[hv]
 ·rw[if_neg hv];simp only[hv,false_and,iff_false];split<;>omega
theorem wZv (a b:Tm):yW5 b a = - yW5 a b:=by
 revert b;refine xG9 (p:=λa=>∀b,yW5 b a = - yW5 a b) (λv n us ih b=>?_) a;obtain⟨v',n',us'⟩:=b;rw[yG8,yG8];by_cases hv:v=v'
 ·rw[if_pos hv,if_pos hv.symm,(yJi n).neg,zYd yKp yKo ih,yWi]
 ·rw[if_neg hv,if_neg (λh=>hv h.symm)];cases v<;>cases v'<;>simp_all
theorem wKl (a b c:Tm):yW5 a b<0->yW5 b c<0->yW5 a c<0:=by
 revert b c;refine xG9 (p:=λa=>∀b c,yW5 a b<0->yW5 b c<0->yW5 a c<0) (λv n us ih b c=>?_) a;obtain⟨v',n',us'⟩:=b;obtain⟨v'',n'',us''⟩:=c;rw[yG8,yG8,yG8];have hl:=λ(h:lexI (cmpB n n') (lenL yK0 us us')<0) (k:lexI (cmpB n' n'') (lenL yK0 us' us'')<0) =>
  zVo (r:=cmpB n n'') (r':=lenL yK0 us us'') ((yJi n).tr n' n'') (λe=>by rw[((yJi n).eq n').1 e]) (λe=>by rw[((yJi n').eq n'').1 e]) (xX1 yKp yKo yUx ih us' us'') h k
 cases v<;>cases v'<;>cases v''<;>simp_all
theorem zZy (a b:Fm):yXa a b=0↔a=b:=by
 revert b;refine wZa (p:=λa=>∀b,yXa a b=0↔a=b) (λo n us sub ih b=>?_) a;obtain⟨o',n',us',sub'⟩:=b;rw[yG9,Fm.mk.injEq,yV8,yV8,yV8,yX6,(yJi n).eq,zJ4 yKp yKo (λa _=>yUx a),zJ4 yU5 yU4 ih]
theorem zJv (a b:Fm):yXa b a = - yXa a b:=by
 revert b;refine wZa (p:=λa=>∀b,yXa b a = - yXa a b) (λo n us sub ih b=>?_) a;obtain⟨o',n',us',sub'⟩:=b;rw[yG9,yG9,(yYq o).neg,(yJi n).neg,zYd yKp yKo (λa _=>wZv a),zYd yU5 yU4 ih,yWi,yWi,yWi]
theorem zYw (a b c:Fm):yXa a b<0->yXa b c<0->yXa a c<0:=by
 revert b c;refine wZa (p:=λa=>∀b c,yXa a b<0->yXa b c<0->yXa a c<0) (λo n us sub ih b c=>?_) a;obtain⟨o',n',us',sub'⟩:=b;obtain⟨o'',n'',us'',sub''⟩:=c;rw[yG9,yG9,yG9];refine zVo ((yYq o).tr o' o'') (λe=>by rw[yX6.1 e]) (λe=>by rw[yX6.1 e]) ?_;refine zVo ((yJi n).tr n' n'') (λe=>by rw[((yJi n).eq n').1 e]) (λe=>by rw[((yJi n').eq n'').1 e]) ?_;exact zVo (xX1 yKp yKo yUx (λa _=>wKl a) us' us'') (λe=>by rw[(zJ4 yKp yKo (λa _=>yUx a) us').1 e]) (λe=>by rw[(zJ4 yKp yKo (λa _=>yUx a) us'').1 e])
  (xX1 yU5 yU4 zZy ih sub' sub'')
def SetF (l r:List Fm):Prop:=r.Pairwise (λa b=>yXa a b<0)/\∀f,f∈r↔f∈l
theorem zJw (a:Fm):¬ yXa a a<0:=by rw[(zZy a a).2 rfl];omega
theorem SetF.uniq:∀ {r r':List Fm},r.Pairwise (λa b=>yXa a b<0)->r'.Pairwise (λa b=>yXa a b<0)->(∀x,x∈r↔x∈r')->r=r'
 | [],r',_,_,h=>by
  cases r' with
  | nil=>rfl
  | cons b r'=>exact absurd ((h b).2 (List.mem_cons_self ..)) (by simp)
 | a::r,[],_,_,h=>absurd ((h a).1 (List.mem_cons_self ..)) (by simp)
 | a::r,b::r',h1,h2,h=>by
  have p1:=List.pairwise_cons.1 h1;have p2:=List.pairwise_cons.1 h2;have hab:a=b:=by
   refine Classical.byContradiction λhne=>?_;have ha:a∈r':=by
    rcases List.mem_cons.1 ((h a).1 (List.mem_cons_self ..)) with e|e
    ·exact absurd e hne
    ·exact e
   have hb:b∈r:=by
    rcases List.mem_cons.1 ((h b).2 (List.mem_cons_self ..)) with e|e
    ·exact absurd e.symm hne
    ·exact e
   have h3:=p1.1 b hb;have h4:=p2.1 a ha;rw[zJv] at h4;omega
  subst hab;congr 1;refine SetF.uniq p1.2 p2.2 λx=>?_;constructor
  ·intro hx;rcases List.mem_cons.1 ((h x).1 (List.mem_cons_of_mem _ hx)) with e|e
   ·subst e;exact absurd (p1.1 _ hx) (zJw _)
   ·exact e
  ·intro hx;rcases List.mem_cons.1 ((h x).2 (List.mem_cons_of_mem _ hx)) with e|e
   ·subst e;exact absurd (p2.1 _ hx) (zJw _)
   ·exact e
theorem SetF.one {l r r':List Fm}(h:SetF l r)(h':SetF l r'):r=r':=SetF.uniq h.1 h'.1 λx=>(h.2 x).trans (h'.2 x).symm
end Go.Proofs.Tryz
namespace Go.Proofs.Tryz
open Go Go.Iv Go.Shelf Go.RowKit
set_option maxRecDepth 4000
variable (gl:Nat->Option IV)
theorem zQw (a b:ByteArray)(w:World):Calls prog 249 #[.string a,.string b] w λe w'=>e=.returned (.int .i64 (Lib.compareBytes a.data.toList b.data.toList))/\w'=w:=by
 have t9:prog.underlying 9=some .string:=by kernel_rfl
 have a9:∀w,(isAgg 9).run prog w=.ok false w:=run_isAgg_plain t9 rfl;have t3:prog.underlying 3=some (.int .i64):=by kernel_rfl
 have a3:∀w,(isAgg 3).run prog w=.ok false w:=run_isAgg_plain t3 rfl
 go_enter func249,(show _=_ from rfl)
 go_wp2
 rw[run_callFunc_extern func283 (by kernel_rfl) (by kernel_rfl) (by kernel_rfl) (e:=Extern.BytealgCompare.compare) (by kernel_rfl),Lib.run_compareString];simp only[Result.andThen];rw[Oper.upon_value]
 go_wp2
 go_ret
 exact⟨rfl,rfl⟩
theorem yYp:∀x y:List UInt8,Lib.compareBytes x y=if Op.bytesLess x y=true then -1 else if Op.bytesLess y x=true then 1 else 0
 | [],[]=>by simp[Lib.compareBytes,Op.bytesLess]
 | [],_::_=>by simp[Lib.compareBytes,Op.bytesLess]
 | _::_,[]=>by simp[Lib.compareBytes,Op.bytesLess]
 | a::x,b::y=>by
  have ih:=yYp x y;unfold Lib.compareBytes Op.bytesLess;by_cases h1:a<b
  ·have h2:¬ b<a:=λh=>UInt8.lt_irrefl _ (UInt8.lt_trans h1 h);simp[h1]
  ·by_cases h2:b<a
   ·have h3:a≠b:=by rintro rfl;exact UInt8.lt_irrefl _ h2
    simp[h1,h2,h3]
   ·have:a=b:=UInt8.le_antisymm (UInt8.not_lt.1 h2) (UInt8.not_lt.1 h1);subst this;simp[h1,ih]
theorem zKa (a b:ByteArray)(st:ISt):ICall prog gl 249 [.raw (.string a),.raw (.string b)] st (λr st'=>r=.raw (.int .i64 (cmpB a b))/\st'=st):=by
 intro B X rs hg hst hv;have hr:rs=[.string a,.string b]:=by
  match rs,hv with
  | [r,r'],hv=>rw[V.raw_inv (hv.2 0 r _ rfl rfl),V.raw_inv (hv.2 1 r' _ rfl rfl)]
  | [],hv=>cases hv.1
  | [_],hv=>cases hv.1
  | _::_::_::_,hv=>cases hv.1
 subst hr;refine Calls.mono (zQw a b X.w) ?_;rintro e w' ⟨rfl,rfl⟩;refine⟨_,rfl,X,.raw (.int .i64 (cmpB a b)),rfl,hg,Ext.refl X,?_,rfl,hst⟩;rw[yYp];exact .raw _ trivial
theorem zK9 (a b:ByteArray)(st:ISt):ICall prog gl 183 [.raw (.string a),.raw (.string b)] st (λr st'=>r=.raw (.int .i64 (cmpB a b))/\st'=st):=by
 refine iI func183 ?_;simp only[go_sem,zE,zA,reduceCtorEq];refine (zKa gl a b _).mono ?_;rintro _ _ ⟨rfl,rfl⟩;simp only[go_sem];exact yQ0 ⟨rfl,rfl⟩
theorem zKy (a:Nat)(st:ISt):ICall prog gl 248 [.raw (.int .u8 a)] st (λr st'=>r=.raw (.bool false)/\st'=st):=by
 refine iI func248 ?_;simp only[go_sem,zE,reduceCtorEq];exact yQ0 ⟨rfl,rfl⟩
theorem xVv (a b:Nat)(st:ISt):ICall prog gl 182 [.raw (.int .u8 a),.raw (.int .u8 b)] st (λr st'=>r=.raw (.int .i64 (cmpN a b))/\st'=st):=by
 refine iI func182 ?_;simp only[go_sem,zA,reduceCtorEq];refine (zKy gl a _).mono ?_;rintro _ _ ⟨rfl,rfl⟩;simp only[go_sem,zE,zA];refine (zKy gl b _).mono ?_;rintro _ _ ⟨rfl,rfl⟩;unfold cmpN;by_cases h1:a<b
 ·simp only[go_sem,zE,reduceCtorEq,lt_i h1];exact yQ0 ⟨by rw[if_pos h1],rfl⟩
 ·by_cases h2:b<a
  ·simp only[go_sem,zE,reduceCtorEq,yQs h1,lt_i h2];exact yQ0 ⟨by rw[if_neg h1,if_pos h2],rfl⟩
  ·simp only[go_sem,zE,reduceCtorEq,yQs h1,yQs h2];exact yQ0 ⟨by rw[if_neg h1,if_neg h2],rfl⟩
theorem xKp (a:Nat)(st:ISt):ICall prog gl 270 [.raw (.int .i64 a)] st (λr st'=>r=.raw (.bool false)/\st'=st):=by
 refine iI func270 ?_;simp only[go_sem,zE,reduceCtorEq];exact yQ0 ⟨rfl,rfl⟩
theorem zYe (a b:Nat)(st:ISt):ICall prog gl 227 [.raw (.int .i64 a),.raw (.int .i64 b)] st (λr st'=>r=.raw (.int .i64 (cmpN a b))/\st'=st):=by
 refine iI func227 ?_;simp only[go_sem,zA,reduceCtorEq];refine (xKp gl a _).mono ?_;rintro _ _ ⟨rfl,rfl⟩;simp only[go_sem,zE,zA];refine (xKp gl b _).mono ?_;rintro _ _ ⟨rfl,rfl⟩;unfold cmpN;by_cases h1:a<b
 ·simp only[go_sem,zE,reduceCtorEq,lt_i h1];exact yQ0 ⟨by rw[if_pos h1],rfl⟩
 ·by_cases h2:b<a
  ·simp only[go_sem,zE,reduceCtorEq,yQs h1,lt_i h2];exact yQ0 ⟨by rw[if_neg h1,if_pos h2],rfl⟩
  ·simp only[go_sem,zE,reduceCtorEq,yQs h1,yQs h2];exact yQ0 ⟨by rw[if_neg h1,if_neg h2],rfl⟩
theorem wJ3 {t:Tm}{x:IV}(h:IsTm t x):∃v n tg xs,x=.agg [.raw (.bool v),.raw (.string n),.sl tg xs]:=by
 obtain⟨v,n,us⟩:=t;obtain⟨tg,xs,rfl,_⟩:=h.mk;exact⟨_,_,_,_,rfl⟩
theorem yUm {α:Type}{f:α->α->Int}{g:List α->List α->Int}(g0:g [] []=0)(g1:∀a b l m,g (a::l) (b::m)=lexI (f a b) (g l m)):∀(l m l' m':List α),l.length=m.length->g (l++l') (m++m')=lexI (g l m) (g l' m')
 | [],[],l',m',_=>by rw[g0];simp[lexI]
 | a::l,b::m,l',m',h=>by
  rw[List.cons_append,List.cons_append,g1,g1,yUm g0 g1 l m l' m' (by simpa using h)];unfold lexI;by_cases h1:f a b=0
  ·simp[h1]
  ·simp[h1]
 | [],_::_,_,_,h=>by simp at h
 | _::_,[],_,_,h=>by simp at h
theorem i0 (x:Int)(h:x=0):decide (x=0)=true:=dEt h
theorem i1 (x:Int)(h:¬ x=0):decide (x=0)=false:=dEf h
def CmpT (a:Tm):Prop:=∀(b:Tm) (x y:IV) (_:IsTm a x) (_:IsTm b y) (st:ISt),ICall prog gl 185 [x,y] st (λr st'=>r=.raw (.int .i64 (yW5 a b))/\st'=st)
def CmpF (a:Fm):Prop:=∀(b:Fm) (x y:IV) (_:IsFm a x) (_:IsFm b y) (st:ISt),ICall prog gl 135 [x,y] st (λr st'=>r=.raw (.int .i64 (yXa a b))/\st'=st)
theorem xVe (us:List Tm)(IH:∀a∈us,CmpT gl a)(ws:List Tm)(t t':Tag)(xs ys:List IV)(ht:okEs t 3)(ht':okEs t' 3)(ha:IsTms us xs)(hb:IsTms ws ys)(st:ISt) :
  ICall prog gl 184 [.sl t xs,.sl t' ys,.fn (.func 185) [] []] st (λr st'=>r=.raw (.int .i64 (lenL yK0 us ws))/\st'=st):=by
 refine iI func184 ?_;simp only[go_sem,zE,zA,reduceCtorEq,ha.len,hb.len];intro hla hlb;refine (zYe gl us.length ws.length _).mono ?_;rintro _ st ⟨rfl,rfl⟩;unfold lenL;by_cases h0:cmpN us.length ws.length=0
 ·have hlen:=yX6.1 h0;simp only[go_sem,reduceCtorEq,i0 _ h0,ha.len];intro _;refine LoopC.ctr us.length (λk fr st' ds=>yK0 (us.take k) (ws.take k)=0/\fr 0=.iv (.sl t xs)/\fr 1=.iv (.sl t' ys)/\fr 2=.iv (.fn (.func 185) [] [])/\fr 19=.iv (.raw (.int .i64 us.length))/\fr 20=.iv (.raw (.int .i64 k))/\st'=st/\ds=[]) ?_ ?_ ?_
  ·simp only[go_sem,zE,reduceCtorEq];exact⟨yKp,rfl⟩
  ·rintro k fr st1 _ hlt ⟨hn,f0,f1,f2,f19,f20,rfl,rfl⟩;obtain⟨a,hka⟩:=yQ4 hlt;obtain⟨b,hkb⟩:=yQ4 (l:=ws) (k:=k) (by omega);obtain⟨x,hkx,hx⟩:=ha.get hka;obtain⟨y,hky,hy⟩:=hb.get hkb;have hcall:=IH a (lMg hka) b x y hx hy st1;have htl:(us.take k).length=(ws.take k).length:=by rw[List.length_take,List.length_take];omega
   obtain⟨x1,x2,x3,x4,rfl⟩:=wJ3 hx;obtain⟨y1,y2,y3,y4,rfl⟩:=wJ3 hy;simp only[go_sem,zE,zB,zA,reduceCtorEq,f0,f1,f2,f19,f20,lt_i hlt,yQ1 ht,yQ1 ht',iNn,hkx,hky,fits];refine hcall.mono ?_;rintro _ _ ⟨rfl,rfl⟩;by_cases hc:yW5 a b=0
   ·simp only[go_sem,zE,reduceCtorEq,i0 _ hc,f0,f1,f2,f19,f20,yQf hlt (show us.length<=281474976710656 by omega)];rw[yQ6 hka,yQ6 hkb,yUm yKp yKo _ _ _ _ htl,hn,yKo,yKp,hc];simp[lexI]
   ·simp only[go_sem,zE,i1 _ hc];refine yQ0 ⟨?_,rfl⟩;rw[h0];have h2:yK0 us ws=yW5 a b:=by
     conv=>lhs;rw[<- List.take_append_drop k us,<- List.take_append_drop k ws]
     rw[List.drop_eq_getElem_cons hlt,List.drop_eq_getElem_cons (show k<ws.length by omega),yUm yKp yKo _ _ _ _ htl,hn,yKo,(lGs hka).2,(lGs hkb).2];simp[lexI,hc]
    rw[h2];simp[lexI]
  ·rintro fr st1 _ ⟨hn,f0,f1,f2,f19,f20,rfl,rfl⟩;rw[lTl,show ws.take us.length=ws by rw[hlen,lTl]] at hn;simp only[go_sem,f19,f20,yQs (nLi _)];exact yQ0 ⟨by rw[h0,hn];simp[lexI],rfl⟩
 ·simp only[go_sem,zE,i1 _ h0];exact yQ0 ⟨by simp[lexI,h0],rfl⟩
theorem xQ2 (v:Bool)(n:ByteArray)(us:List Tm)(IH:∀a∈us,CmpT gl a):CmpT gl (.mk v n us):=by
 rintro⟨w,m,ws⟩ x y hx hy st;obtain⟨tx,cx,rfl,htx,hcx⟩:=hx.mk;obtain⟨ty,cy,rfl,hty,hcy⟩:=hy.mk;have hl:=λst=>xVe gl us IH ws tx ty cx cy htx hty hcx hcy st;simp only[yW5];refine iI func185 ?_;by_cases hv:v=w
 ·subst hv;simp only[go_sem,zE,zA,beq_self_eq_true];refine (zK9 gl n m _).mono ?_;rintro _ _ ⟨rfl,rfl⟩;by_cases h0:cmpB n m=0
  ·simp only[go_sem,zE,zA,i0 _ h0];refine (hl _).mono ?_;rintro _ _ ⟨rfl,rfl⟩;simp only[go_sem];exact yQ0 ⟨by simp[lexI,h0,lenL],rfl⟩
  ·simp only[go_sem,zE,i1 _ h0];exact yQ0 ⟨by simp[lexI,h0],rfl⟩
 ·cases v<;>cases w<;>first|exact absurd rfl hv|skip
  all_goals
   simp only[go_sem,zE,reduceCtorEq,beq_eq_false_iff_ne.2 hv];exact yQ0 ⟨by simp,rfl⟩
theorem zJt:∀(k:Nat)(t:Tm),SizeOf.sizeOf t<k->CmpT gl t
 | 0,t,h=>by omega
 | k+1,.mk v n us,h=>xQ2 gl v n us (λa ha=>zJt k a (by
   have:=lSm ha;simp at h;omega))
theorem wZw (t:Tm):CmpT gl t:=zJt gl _ t (Nat.lt_succ_self _)
theorem wKn (us:List Fm)(IH:∀a∈us,CmpF gl a)(ws:List Fm)(t t':Tag)(xs ys:List IV)(ht:okEs t 4)(ht':okEs t' 4)(ha:IsFms us xs)(hb:IsFms ws ys)(st:ISt) :
  ICall prog gl 186 [.sl t xs,.sl t' ys,.fn (.func 135) [] []] st (λr st'=>r=.raw (.int .i64 (lenL yYr us ws))/\st'=st):=by
 refine iI func186 ?_;simp only[go_sem,zE,zA,reduceCtorEq,ha.len,hb.len];intro hla hlb;refine (zYe gl us.length ws.length _).mono ?_;rintro _ st ⟨rfl,rfl⟩;unfold lenL;by_cases h0:cmpN us.length ws.length=0
 ·have hlen:=yX6.1 h0;simp only[go_sem,reduceCtorEq,i0 _ h0,ha.len];intro _;refine LoopC.ctr us.length (λk fr st' ds=>yYr (us.take k) (ws.take k)=0/\fr 0=.iv (.sl t xs)/\fr 1=.iv (.sl t' ys)/\fr 2=.iv (.fn (.func 135) [] [])/\fr 19=.iv (.raw (.int .i64 us.length))/\fr 20=.iv (.raw (.int .i64 k))/\st'=st/\ds=[]) ?_ ?_ ?_
  ·simp only[go_sem,zE,reduceCtorEq];exact⟨yU5,rfl⟩
  ·rintro k fr st1 _ hlt ⟨hn,f0,f1,f2,f19,f20,rfl,rfl⟩;obtain⟨a,hka⟩:=yQ4 hlt;obtain⟨b,hkb⟩:=yQ4 (l:=ws) (k:=k) (by omega);obtain⟨x,hkx,hx⟩:=ha.get hka;obtain⟨y,hky,hy⟩:=hb.get hkb;have hcall:=IH a (lMg hka) b x y hx hy st1;have htl:(us.take k).length=(ws.take k).length:=by rw[List.length_take,List.length_take];omega
   obtain⟨x1,x2,x3,x4,x5,x6,rfl⟩:=hx.agg;obtain⟨y1,y2,y3,y4,y5,y6,rfl⟩:=hy.agg;simp only[go_sem,zE,zB,zA,reduceCtorEq,f0,f1,f2,f19,f20,lt_i hlt,yQ1 ht,yQ1 ht',iNn,hkx,hky,fits];refine hcall.mono ?_;rintro _ _ ⟨rfl,rfl⟩;by_cases hc:yXa a b=0
   ·simp only[go_sem,zE,reduceCtorEq,i0 _ hc,f0,f1,f2,f19,f20,yQf hlt (show us.length<=281474976710656 by omega)];rw[yQ6 hka,yQ6 hkb,yUm yU5 yU4 _ _ _ _ htl,hn,yU4,yU5,hc];simp[lexI]
   ·simp only[go_sem,zE,i1 _ hc];refine yQ0 ⟨?_,rfl⟩;rw[h0];have h2:yYr us ws=yXa a b:=by
     conv=>lhs;rw[<- List.take_append_drop k us,<- List.take_append_drop k ws]
     rw[List.drop_eq_getElem_cons hlt,List.drop_eq_getElem_cons (show k<ws.length by omega),yUm yU5 yU4 _ _ _ _ htl,hn,yU4,(lGs hka).2,(lGs hkb).2];simp[lexI,hc]
    rw[h2];simp[lexI]
  ·rintro fr st1 _ ⟨hn,f0,f1,f2,f19,f20,rfl,rfl⟩;rw[lTl,show ws.take us.length=ws by rw[hlen,lTl]] at hn;simp only[go_sem,f19,f20,yQs (nLi _)];exact yQ0 ⟨by rw[h0,hn];simp[lexI],rfl⟩
 ·simp only[go_sem,zE,i1 _ h0];exact yQ0 ⟨by simp[lexI,h0],rfl⟩
theorem xQ4 (o:Nat)(n:ByteArray)(us:List Tm)(sub:List Fm)(IH:∀a∈sub,CmpF gl a):CmpF gl (.mk o n us sub):=by
 rintro⟨w,m,ws,sub'⟩ x y hx hy st;obtain⟨t1,x1,t2,x2,rfl,_,e1,i1',e2,i2⟩:=hx.mk;obtain⟨t3,x3,t4,x4,rfl,_,e3,i3,e4,i4⟩:=hy.mk;have hl1:=λst=>xVe gl us (λa _=>wZw gl a) ws t1 t3 x1 x3 e1 e3 i1' i3 st;have hl2:=λst=>wKn gl sub IH sub' t2 t4 x2 x4 e2 e4 i2 i4 st;simp only[yXa];refine iI func135 ?_;simp only[go_sem,zE,zA];refine (xVv gl o w _).mono ?_;rintro _ _ ⟨rfl,rfl⟩;by_cases h0:cmpN o w=0
 ·simp only[go_sem,zE,zA,i0 _ h0];refine (zK9 gl n m _).mono ?_;rintro _ _ ⟨rfl,rfl⟩;by_cases h1:cmpB n m=0
  ·simp only[go_sem,zE,zA,i0 _ h1];refine (hl1 _).mono ?_;rintro _ _ ⟨rfl,rfl⟩;by_cases h2:lenL yK0 us ws=0
   ·simp only[go_sem,zE,zA,i0 _ h2];refine (hl2 _).mono ?_;rintro _ _ ⟨rfl,rfl⟩;simp only[go_sem];refine yQ0 ⟨?_,rfl⟩;unfold lenL at h2 ⊢;rw[h0,h1,h2];simp[lexI]
   ·simp only[go_sem,zE,i1 _ h2];refine yQ0 ⟨?_,rfl⟩;unfold lenL at h2 ⊢;rw[h0,h1];generalize lexI (cmpN us.length ws.length) (yK0 us ws)=q at h2 ⊢;simp[lexI,h2]
  ·simp only[go_sem,zE,i1 _ h1];exact yQ0 ⟨by rw[h0];simp[lexI,h1],rfl⟩
 ·simp only[go_sem,zE,i1 _ h0];exact yQ0 ⟨by simp[lexI,h0],rfl⟩
theorem zJu:∀(k:Nat)(t:Fm),SizeOf.sizeOf t<k->CmpF gl t
 | 0,t,h=>by omega
 | k+1,.mk o n us sub,h=>xQ4 gl o n us sub (λa ha=>zJu k a (by
   have:=lSm ha;simp at h;omega))
theorem xQ5 (t:Fm):CmpF gl t:=zJu gl _ t (Nat.lt_succ_self _)
theorem xGx (a b:Fm)(x y:IV)(hx:IsFm a x)(hy:IsFm b y)(st:ISt):ICall prog gl 137 [x,y] st (λr st'=>r=.raw (.bool (decide (yXa a b=0)))/\st'=st):=by
 have hc:=λst=>xQ5 gl a b x y hx hy st;obtain⟨x1,x2,x3,x4,x5,x6,rfl⟩:=hx.agg;obtain⟨y1,y2,y3,y4,y5,y6,rfl⟩:=hy.agg;refine iI func137 ?_;simp only[go_sem,zE,zA,zL];refine (hc _).mono ?_;rintro _ _ ⟨rfl,rfl⟩;simp only[go_sem];exact yQ0 ⟨rfl,rfl⟩
end Go.Proofs.Tryz
namespace Go.Proofs.Tryz
open Go Go.Iv
set_option maxRecDepth 4000
variable (gl:Nat->Option IV)
mutual
def Mo.val (M:Mo)(env:Env):Tm->Nat
 | .mk v n us=>if v=true then (match yVg env n with|some e=>e|none=>M.bit (keyB 118 0 n) 0%M.elems) else M.bit (keyB 102 us.length n) (M.idx env us 0)%M.elems
def Mo.idx (M:Mo)(env:Env):List Tm->Nat->Nat
 | [],acc=>acc
 | a::l,acc=>M.idx env l (acc*M.elems+M.val env a)
end
structure IsEnv (M:Mo)(E:Env)(y z:IV):Prop where
 y:∃t,y=.sl t (E.map λp=>.raw (.string p.1))/\okEs t 1
 z:∃t,z=.sl t (E.map λp=>.raw (.int .i64 (p.2:Int)))/\okEs t 1
 lt:∀p∈E,p.2<M.elems
 len:E.length<=1000000000
mutual
def nmT:Tm->Prop
 | .mk _ n us=>n.size<=1000000000/\us.length<=40/\nmTs us
def nmTs:List Tm->Prop
 | []=>True
 | a::l=>nmT a/\nmTs l
end
theorem xKb:∀ {l:List Tm}{a:Tm},nmTs l->a∈l->nmT a
 | b::l,a,h,ha=>by
  simp only[nmTs] at h;rcases List.mem_cons.1 ha with rfl|ha
  ·exact h.1
  ·exact xKb h.2 ha
theorem wVr (M:Mo)(hO:MoOk M){E:Env}(hE:∀p∈E,p.2<M.elems)(t:Tm):M.val E.reverse t<M.elems:=by
 obtain⟨v,n,us⟩:=t;unfold Mo.val;split
 ·split
  ·rename_i e h;unfold yVg at h;obtain⟨p,hp,rfl⟩:=Option.map_eq_some_iff.1 h;exact hE p (List.mem_reverse.1 (List.mem_of_find?_eq_some hp))
  ·exact Nat.mod_lt _ hO.el.1
 ·exact Nat.mod_lt _ hO.el.1
theorem zYg (M:Mo)(env:Env):∀(l:List Tm) (a:Tm) (acc:Nat),M.idx env (l++[a]) acc=M.idx env l acc*M.elems+M.val env a
 | [],a,acc=>by simp[Mo.idx]
 | b::l,a,acc=>by simp only[List.cons_append,Mo.idx];exact zYg M env l a _
theorem wQq (M:Mo)(hO:MoOk M){E:Env}(hE:∀p∈E,p.2<M.elems):∀(l:List Tm),M.idx E.reverse l 0<2 ^ l.length:=λl=>by
 generalize hn:l.length=n
 induction n generalizing l with
 | zero =>
  have:l=[]:=List.eq_nil_of_length_eq_zero hn;subst this;simp[Mo.idx]
 | succ n ih =>
  rcases List.eq_nil_or_concat l with rfl|⟨m,a,rfl⟩
  ·simp at hn
  ·rw[List.concat_eq_append] at hn ⊢;have h1:=ih m (by simpa using hn);have h2:=wVr M hO hE a;have h3:=hO.el;rw[zYg,Nat.pow_succ];have h4:M.idx E.reverse m 0*M.elems<=M.idx E.reverse m 0*2:=Nat.mul_le_mul_left _ h3.2;omega
def VAL (M:Mo)(t:Tm):Prop:=∀(cs:List IV) (_:IsMo M cs) (x:IV) (_:IsTm t x) (_:nmT t) (E:Env) (y z:IV) (_:IsEnv M E y z) (st:ISt),
 ICall prog gl 173 [.cptr (.agg cs),x,y,z] st (λr st'=>r=.raw (.int .i64 (M.val E.reverse t:Int))/\st'=st)
theorem zVr (M:Mo)(hO:MoOk M)(us:List Tm)(IH:∀a∈us,VAL gl M a)(cs:List IV)(hM:IsMo M cs)(tg:Tag)(xs:List IV)(htg:okEs tg 3)(hxs:IsTms us xs)(hnm:nmTs us)(hlen:us.length<=40)(E:Env)(y z:IV)(hE:IsEnv M E y z)(st:ISt) :
  ICall prog gl 127 [.cptr (.agg cs),.sl tg xs,y,z] st (λr st'=>r=.raw (.int .i64 (M.idx E.reverse us 0:Int))/\st'=st):=by
 have hpw:∀k,k<=40->2 ^ k<=1099511627776:=λk hk=>by
  have h2:2 ^ k<=2 ^ 40:=Nat.pow_le_pow_right (by omega) hk;have h3:(2:Nat) ^ 40=1099511627776:=by decide
  omega
 have hM0:=hM;have hE0:=hE;obtain⟨t1,x1,t2,t3,rfl,_⟩:=hM;obtain⟨t4,rfl,_⟩:=hE.y;obtain⟨t5,rfl,_⟩:=hE.z;refine iI func127 ?_;simp only[go_sem];refine LoopC.ctr us.length (λk fr st' ds=>fr 0=.iv (.cptr (.agg [.sl t1 x1,.raw (.int .i64 (M.elems:Int)),.sl t2 (M.syms.map λp=>.raw (.string p.1)),.sl t3 (M.syms.map λp=>.raw (.int .i64 (p.2:Int))),.raw (.int .i64 (M.bits:Int)),.raw (.int .i64 (M.table:Int))]))/\fr 1=.iv (.sl tg xs)/\fr 2=.iv (.sl t4 (E.map λp=>.raw (.string p.1)))/\fr 3=.iv (.sl t5 (E.map λp=>.raw (.int .i64 (p.2:Int)))) /\
  fr 9=.iv (.raw (.int .i64 ((M.idx E.reverse (us.take k) 0:Nat):Int)))/\fr 10=.iv (.raw (.int .i64 (k:Int)))/\st'=st/\ds=[]) ?_ ?_ ?_
 ·simp only[go_sem,zE,reduceCtorEq];exact⟨by simp[Mo.idx],rfl⟩
 ·rintro k fr _ _ hlt ⟨f0,f1,f2,f3,f9,f10,rfl,rfl⟩;obtain⟨a,ha⟩:=yQ4 hlt;obtain⟨x,hkx,hx⟩:=hxs.get ha;have hcall:=IH a (lMg ha) _ hM0 x hx (xKb hnm (lMg ha)) E _ _ hE0;obtain⟨v2,n2,tx,cx,rfl⟩:=wJ3 hx;have h1:=wQq M hO hE0.lt (us.take k);have h2:=hpw (us.take k).length (by rw[List.length_take];omega);have h3:=wVr M hO hE0.lt a;have h4:=hO.el;have h5:M.idx E.reverse (us.take k) 0*M.elems<=M.idx E.reverse (us.take k) 0*2:=Nat.mul_le_mul_left _ h4.2;have hmul:IntKind.i64.wrap (((M.idx E.reverse (us.take k) 0:Nat):Int)*(M.elems:Int))=((M.idx E.reverse (us.take k) 0*M.elems:Nat):Int):=by rw[<- Int.natCast_mul,w64]<;>omega
  have hadd:IntKind.i64.wrap (((M.idx E.reverse (us.take k) 0*M.elems:Nat):Int)+(M.val E.reverse a:Int))=((M.idx E.reverse (us.take (k+1)) 0:Nat):Int):=by
   rw[yQ6 ha,zYg,w64]<;>omega
  simp only[go_sem,zE,zB,zA,reduceCtorEq,f0,f1,f2,f3,f9,f10,hxs.len,lt_i hlt,yQ1 htg,iNn,hkx,fits,hmul];intros;refine (hcall _).mono ?_;rintro _ _ ⟨rfl,rfl⟩;simp only[go_sem,zE,reduceCtorEq,f0,f1,f2,f3,f10,hadd,yQf hlt (show us.length<=281474976710656 by omega)]
 ·rintro fr _ _ ⟨f0,f1,f2,f3,f9,f10,rfl,rfl⟩;rw[lTl] at f9;simp only[go_sem,zE,f1,f9,f10,hxs.len,yQs (nLi _)];intros;exact yQ0 ⟨rfl,rfl⟩
theorem xWp (l:Env)(n:ByteArray)(j:Nat)(p:ByteArray×Nat)(h:l[j]?=some p):yVg (l.drop j) n=if p.1=n then some p.2 else yVg (l.drop (j+1)) n:=by
 have hlt:=(lGs h).1;rw[List.drop_eq_getElem_cons hlt,(lGs h).2];unfold yVg;rw[List.find?_cons];by_cases hp:p.1=n
 ·rw[if_pos hp,dEt hp];rfl
 ·rw[if_neg hp,dEf hp]
theorem xVu (M:Mo)(hO:MoOk M)(v:Bool)(n:ByteArray)(us:List Tm)(IH:∀a∈us,VAL gl M a):VAL gl M (.mk v n us):=by
 intro cs hM x hx hnm E y z hE st;simp only[nmT] at hnm;have hO4:=hO.el;have hIx:=λtg xs htg hxs st=>zVr gl M hO us IH cs hM tg xs htg hxs hnm.2.2 hnm.2.1 E y z hE st;have hkv:=λst=>wK5 gl 118 0 (by omega) n hnm.1 st;have hkf:=λst=>wK5 gl 102 us.length (by omega) n hnm.1 st;have hbi:=λk i hi st=>wU9 gl M cs hM hO k i hi st;simp only[show (((118:UInt8).toNat:Nat):Int)=118 from rfl,show ((0:Nat):Int)=0 from rfl] at hkv;simp only[show (((102:UInt8).toNat:Nat):Int)=102 from rfl] at hkf;have hnz:(((M.elems:Nat):Int)=0)=False:=eq_false (by omega);have htm:∀b:Nat,((b:Nat):Int).tmod (M.elems:Int)=((b%M.elems:Nat):Int):=λb=>by rw[Int.tmod_eq_emod_of_nonneg (by omega)];rfl
 have hil:=wQq M hO hE.lt us;have hpw:2 ^ us.length<=2 ^ 40:=Nat.pow_le_pow_right (by omega) hnm.2.1;have h40:(2:Nat) ^ 40=1099511627776:=by decide
 obtain⟨tx,cx,rfl,htx,hcx⟩:=hx.mk;have hIx:=λst=>hIx tx cx htx hcx st;obtain⟨t1,x1,t2,t3,rfl,_⟩:=hM;obtain⟨t4,rfl,e4⟩:=hE.y;obtain⟨t5,rfl,e5⟩:=hE.z;unfold Mo.val;refine ICall.intro (c:=cf prog gl [] [(7,[0,1,2,5,6,7,8,3,4,9,10]),(8,[0,1,2,3,4,5,7,8,9,10,11,14,15,16,17,6,12,13,18,19])]) func173 rfl (by show _<=59;simp) (by kernel_rfl) ?_;cases v
 ·simp only[go_sem,zE,zA,reduceCtorEq,fits,hcx.len];intros;refine (hkf _).mono ?_;rintro _ st ⟨rfl,rfl⟩;simp only[go_sem,zE,zA];refine (hIx _).mono ?_;rintro _ st ⟨rfl,rfl⟩;simp only[go_sem,zE,zA];refine (hbi _ _ (by omega) _).mono ?_;rintro _ st ⟨rfl,rfl⟩;simp only[go_sem,zE,hnz,htm,Option.map_some];exact yQ0 ⟨rfl,rfl⟩
 ·have hEl:=hE.len;have hw0:IntKind.i64.wrap ((E.length:Int)-1)=(E.length:Int)-1:=by rw[w64]<;>omega
  simp only[go_sem,zE,List.length_map,hw0];intros;refine LoopC.ctr E.length (λj fr st' ds=>yVg E.reverse n=yVg (E.reverse.drop j) n/\fr 0=.iv (.cptr (.agg [.sl t1 x1,.raw (.int .i64 (M.elems:Int)),.sl t2 (M.syms.map λp=>.raw (.string p.1)),.sl t3 (M.syms.map λp=>.raw (.int .i64 (p.2:Int))),.raw (.int .i64 (M.bits:Int)),.raw (.int .i64 (M.table:Int))]))/\fr 2=.iv (.sl t4 (E.map λp=>.raw (.string p.1)))/\fr 3=.iv (.sl t5 (E.map λp=>.raw (.int .i64 (p.2:Int)))) /\
   fr 5=.box [.raw (.bool true),.raw (.string n),.sl tx cx]/\fr 9=.iv (.raw (.int .i64 ((E.length:Int)-1-(j:Int))))/\st'=st/\ds=[]) ?_ ?_ ?_
  ·simp only[go_sem,zE,reduceCtorEq];simp
  ·rintro j fr _ _ hlt ⟨hlk,f0,f2,f3,f5,f9,rfl,rfl⟩;have hi:(E.length:Int)-1-(j:Int)=((E.length-1-j:Nat):Int):=by omega
   have hw1:IntKind.i64.wrap (((E.length-1-j:Nat):Int)-1)=(E.length:Int)-1-((j+1:Nat):Int):=by rw[w64]<;>omega
   rw[hi] at f9;obtain⟨p,hp⟩:=yQ4 (show E.length-1-j<E.length by omega);have hpr:E.reverse[j]?=some p:=by rw[List.getElem?_reverse hlt];exact hp
   have h1:(E.map λp=>IV.raw (.string p.1))[E.length-1-j]?=some (.raw (.string p.1)):=by rw[List.getElem?_map,hp];rfl
   have h2:(E.map λp=>IV.raw (.int .i64 (p.2:Int)))[E.length-1-j]?=some (.raw (.int .i64 (p.2:Int))):=by rw[List.getElem?_map,hp];rfl
   rw[xWp _ n j p hpr] at hlk;have hge:decide ((0:Int)<=((E.length-1-j:Nat):Int))=true:=dEt (by omega);by_cases hk:p.1=n
   ·rw[if_pos hk] at hlk;simp only[go_sem,zE,f2,f3,f5,f9,fits,decide_true,yQ1 e4,yQ1 e5,iNn,h1,h2,dEt hk];intros;exact yQ0 ⟨by rw[hlk],rfl⟩
   ·rw[if_neg hk] at hlk;simp only[go_sem,zE,reduceCtorEq,f0,f2,f3,f5,f9,fits,decide_true,yQ1 e4,iNn,h1,dEf hk,hw1];exact hlk
  ·rintro fr _ _ ⟨hlk,f0,f2,f3,f5,f9,rfl,rfl⟩;rw[show E.reverse.drop E.length=[] by rw[<- List.length_reverse,List.drop_length]] at hlk;have hge:decide ((0:Int)<=(E.length:Int)-1-(E.length:Int))=false:=dEf (by omega);simp only[go_sem,zE,zA,reduceCtorEq,f0,f5,f9,fits,hge];refine (hkv _).mono ?_;rintro _ st ⟨rfl,rfl⟩;simp only[go_sem,zE,zA];refine (hbi _ 0 (by omega) _).mono ?_;rintro _ st ⟨rfl,rfl⟩;simp only[go_sem,zE,hnz,htm,Option.map_some];refine yQ0 ⟨?_,rfl⟩;rw[hlk];rfl
theorem zG8 (M:Mo)(hO:MoOk M):∀(k:Nat) (t:Tm),SizeOf.sizeOf t<k->VAL gl M t
 | 0,t,h=>by omega
 | k+1,.mk v n us,h=>xVu gl M hO v n us λa ha=>zG8 M hO k a (by
   have:=lSm ha;simp at h;omega)
theorem wGi (M:Mo)(hO:MoOk M)(us:List Tm)(cs:List IV)(hM:IsMo M cs)(tg:Tag)(xs:List IV)(htg:okEs tg 3)(hxs:IsTms us xs)(hnm:nmTs us)(hlen:us.length<=40)(E:Env)(y z:IV)(hE:IsEnv M E y z)(st:ISt) :
  ICall prog gl 127 [.cptr (.agg cs),.sl tg xs,y,z] st (λr st'=>r=.raw (.int .i64 (M.idx E.reverse us 0:Int))/\st'=st) :=
 zVr gl M hO us (λa _=>zG8 gl M hO _ a (Nat.lt_succ_self _)) cs hM tg xs htg hxs hnm hlen E y z hE st
end Go.Proofs.Tryz
namespace Go.Proofs.Tryz
open Go Go.Iv
mutual
def opsB (ca:Nat):Fm->Bool
 | .mk op _ us sub=>decide (1<=op)&&decide (op<=if ca=3 then 9 else 7)&&(decide (ca=3) || us.isEmpty)&&yK4 ca sub
def yK4 (ca:Nat):List Fm->Bool
 | []=>true
 | a::l=>opsB ca a&&yK4 ca l
end
def fmB (ca:Nat)(f:Fm):Bool:=f.right&&opsB ca f
def yKf (ca:Nat):Bool:=decide (1<=ca)&&decide (ca<=3)
noncomputable def eqF (a b:Fm):Bool:=decide (a.op=b.op)&&zW8 a b
noncomputable def hasF (l:List Fm)(f:Fm):Bool:=l.any (eqF f)
noncomputable def allF (l m:List Fm):Bool:=l.all (hasF m)
noncomputable def yKm (a b:Sq):Bool:=allF a.l b.l&&allF a.r b.r
noncomputable def yWn:List Fm->Bool
 | []=>true
 | a::l=>(a::l).all λf=>eqF f a
noncomputable def yXe (ca:Nat)(s:Sq):Bool :=
 yKf ca&&decide (s.l.length<=64)&&decide (s.r.length<=64)&&s.l.all (fmB ca)&&s.r.all (fmB ca)&&(decide (ca≠2) || yWn s.r)
structure Rw where
 left:Bool
 right:Bool
 op:Nat
 asks:Nat
def rowK (rule:Nat):Option Rw :=
 if rule=1 then some ⟨true,true,0,0⟩ else if rule=2 then some ⟨true,false,2,0⟩ else if rule=3 then some ⟨true,false,3,0⟩ else if rule=4 then some ⟨false,true,3,0⟩
 else if rule=5 then some ⟨true,false,4,0⟩ else if rule=6 then some ⟨false,true,4,0⟩ else if rule=7 then some ⟨true,false,5,0⟩ else if rule=8 then some ⟨false,true,5,0⟩
 else if rule=9 then some ⟨true,false,6,0⟩ else if rule=10 then some ⟨false,true,6,0⟩ else if rule=11 then some ⟨true,false,7,0⟩ else if rule=12 then some ⟨false,true,7,0⟩
 else if rule=17 then some ⟨false,false,0,0⟩ else none
def rowS (ca rule:Nat):Option Rw :=
 if ca=2/\rule=18 then some ⟨false,true,5,0⟩
 else if ca=3/\rule=13 then some ⟨true,false,8,1⟩ else if ca=3/\rule=14 then some ⟨false,true,8,2⟩
 else if ca=3/\rule=15 then some ⟨true,false,9,2⟩ else if ca=3/\rule=16 then some ⟨false,true,9,1⟩ else rowK rule
def bE:ByteArray:=⟨#[]⟩
def impF (a b:Fm):Fm:=.mk 6 bE [] [a,b]
def addS (ca rule:Nat)(main a b:Fm):List Sq :=
 if rule=3 then [⟨[],[a]⟩] else if rule=4 then [⟨[a],[]⟩] else if rule=5 then [⟨[a,b],[]⟩] else if rule=6 then [⟨[],[a]⟩,⟨[],[b]⟩]
 else if rule=7 then [⟨[a],[]⟩,⟨[b],[]⟩] else if rule=8 then (if ca=2 then [⟨[],[a]⟩] else [⟨[],[a,b]⟩]) else if rule=9 then [⟨[],[a]⟩,⟨[b],[]⟩]
 else if rule=10 then [⟨[a],[b]⟩] else if rule=11 then [⟨[impF a b,impF b a],[]⟩] else if rule=12 then [⟨[a],[b]⟩,⟨[b],[a]⟩]
 else if rule=13 then [⟨[a],[]⟩] else if rule=14 then [⟨[],[a]⟩] else if rule=15 then [⟨[a],[]⟩] else if rule=16 then [⟨[],[a]⟩]
 else if rule=17 then [⟨[],[main]⟩,⟨[main],[]⟩] else if rule=18 then [⟨[],[b]⟩] else []
noncomputable def yXw (ca rule:Nat)(r:Rw)(main:Fm)(term:Tm)(name:ByteArray):List Sq×Nat :=
 if !fmB ca main || (decide (r.op≠0)&&decide (main.op≠r.op)) then ([],192)
 else
  let a:=(main.subs[0]?).getD fm0
  let b:=(main.subs[1]?).getD fm0
  if r.asks=0 then (addS ca rule main a b,0)
  else
   let t:=if r.asks=2 then .mk true name [] else term
   if !t.ok then ([],193)
   else if (yZf a [(main.nm,t)]).2≠0 then ([],193) else (addS ca rule main (yZf a [(main.nm,t)]).1 b,0)
noncomputable def yJu (s:Sq)(n:ByteArray):Bool:=s.l.any (λf=>memB (frF f) n) || s.r.any (λf=>memB (frF f) n)
noncomputable def yZv (ca:Nat)(s:Sq)(rule:Nat)(main:Fm)(term:Tm)(name:ByteArray):List Sq×Nat :=
 if !yXe ca s then ([],190)
 else match rowS ca rule with
  | none=>([],191)
  | some r =>
   if decide ((yXw ca rule r main term name).2=192) || (r.left&&!hasF s.l main) || (r.right&&!hasF s.r main) then ([],192)
   else if (yXw ca rule r main term name).2≠0 then ([],(yXw ca rule r main term name).2)
   else if decide (r.asks=2)&&yJu s name then ([],193)
   else ((yXw ca rule r main term name).1,0)
noncomputable def yJ6 (s:Sq):List Sq->List Tr->Bool
 | m::l,t::ts=>yKm t.sq (s.plus m)&&yJ6 s l ts
 | _,_=>true
noncomputable def yZn (ca:Nat):Tr->Nat
 | .mk rule s main term name sub =>
  if (yZv ca s rule main term name).2≠0 then (yZv ca s rule main term name).2
  else if sub.length≠(yZv ca s rule main term name).1.length then 194
  else if yJ6 s (yZv ca s rule main term name).1 sub then 0 else 195
noncomputable def yXx (ca:Nat)(t:Tr):List Nat×Nat :=
 if !yKf ca then ([],2) else if 300<t.steps then ([],5) else yZa (yZn ca) (t.walk [])
end Go.Proofs.Tryz
namespace Go.Proofs.Tryz
open Go Go.Iv
theorem zXf {ca:Nat}{s:Sq}{rule:Nat}{main:Fm}{term:Tm}{name:ByteArray}(h:(yZv ca s rule main term name).2=0):yXe ca s=true:=by
 unfold yZv at h;split at h
 ·simp at h
 ·rename_i hv;simpa using hv
theorem xQ6 {ca:Nat}{rule:Nat}{s:Sq}{main:Fm}{term:Tm}{name:ByteArray}{sub:List Tr}(h:yZn ca (.mk rule s main term name sub)=0):yXe ca s=true:=by
 simp only[yZn] at h;split at h
 ·rename_i h1;exact absurd h h1
 ·rename_i h1;exact zXf (Decidable.not_not.1 h1)
end Go.Proofs.Tryz
namespace Go.Proofs.Tryz
open Go Go.Iv
theorem yVo {a b:Fm}:eqF a b=true↔a.op=b.op/\a.right=true/\b.right=true/\dbF [] a=dbF [] b:=by
 unfold eqF zW8;simp only[bAt,dTe,yZ6,and_assoc]
theorem xV9 {a:Fm}(h:a.right=true):eqF a a=true:=yVo.2 ⟨rfl,h,h,rfl⟩
theorem wKh {a b:Fm}(h:eqF a b=true):eqF b a=true:=by
 obtain⟨h1,h2,h3,h4⟩:=yVo.1 h;exact yVo.2 ⟨h1.symm,h3,h2,h4.symm⟩
theorem wZl {a b c:Fm}(h:eqF a b=true)(k:eqF b c=true):eqF a c=true:=by
 obtain⟨h1,h2,_,h4⟩:=yVo.1 h;obtain⟨k1,_,k3,k4⟩:=yVo.1 k;exact yVo.2 ⟨h1.trans k1,h2,k3,h4.trans k4⟩
theorem yKg {l:List Fm}{f:Fm}:hasF l f=true↔∃g∈l,eqF f g=true:=by simp[hasF]
theorem xQc {l m:List Fm}:allF l m=true↔∀f∈l,hasF m f=true:=by simp[allF]
theorem zUs {l:List Fm}(hr:∀f∈l,f.right=true):yWn l=true↔∀f∈l,∀g∈l,eqF f g=true:=by
 cases l with
 | nil=>simp[yWn]
 | cons a l =>
  simp only[yWn,List.all_eq_true];exact⟨λh f hf g hg=>wZl (h f hf) (wKh (h g hg)),λh f hf=>h f hf a (List.mem_cons_self ..)⟩
end Go.Proofs.Tryz
namespace Go.Proofs.Tryz
open Go Go.Iv
theorem wJ8 {ca:Nat}{s:Sq}{rule:Nat}{main:Fm}{term:Tm}{name:ByteArray}{r:Rw}(h1:yXe ca s=true)(h2:rowS ca rule=some r)(h3:(yXw ca rule r main term name).2=0)
  (h4:r.left=true->hasF s.l main=true) (h5:r.right=true->hasF s.r main=true) (h6:r.asks=2->yJu s name=false):yZv ca s rule main term name=((yXw ca rule r main term name).1,0):=by
 unfold yZv;have e1:(r.left&&!hasF s.l main)=false:=by
  cases hl:r.left
  ·rfl
  ·rw[h4 hl];rfl
 have e2:(r.right&&!hasF s.r main)=false:=by
  cases hl:r.right
  ·rfl
  ·rw[h5 hl];rfl
 have e3:(decide (r.asks=2)&&yJu s name)=false:=by
  by_cases hl:r.asks=2
  ·rw[h6 hl];simp
  ·simp[hl]
 simp only[h1,h2,h3,e1,e2,e3,Bool.not_true,bFt,if_false,Bool.or_false,dTe,ne_eq,nTf];rw[if_neg (by decide)]
theorem xVy {ca:Nat}{s:Sq}{rule:Nat}{main:Fm}{term:Tm}{name:ByteArray}(h:(yZv ca s rule main term name).2=0) :
  ∃r,yXe ca s=true/\rowS ca rule=some r/\(yXw ca rule r main term name).2=0/\(r.left=true->hasF s.l main=true)/\(r.right=true->hasF s.r main=true)/\(r.asks=2->yJu s name=false) /\
   yZv ca s rule main term name=((yXw ca rule r main term name).1,0):=by
 have hv:=zXf h;cases hr:rowS ca rule with
 | none=>unfold yZv at h;rw[hv,hr] at h;simp at h
 | some r =>
  have key:(yXw ca rule r main term name).2=0/\(r.left&&!hasF s.l main)=false/\(r.right&&!hasF s.r main)=false/\(decide (r.asks=2)&&yJu s name)=false:=by
   unfold yZv at h;rw[hv,hr] at h;simp only[Bool.not_true,bFt,if_false] at h;split at h
   ·simp at h
   ·rename_i h1;simp only[Bool.or_eq_true,not_or,Bool.not_eq_true] at h1;split at h
    ·rename_i h2;exact absurd h h2
    ·rename_i h2;split at h
     ·simp at h
     ·rename_i h3;exact⟨Decidable.not_not.1 h2,h1.1.2,h1.2,by simpa using h3⟩
  obtain⟨k1,k2,k3,k4⟩:=key;have q4:r.left=true->hasF s.l main=true:=λhl=>by rw[hl] at k2;simpa using k2
  have q5:r.right=true->hasF s.r main=true:=λhl=>by rw[hl] at k3;simpa using k3
  have q6:r.asks=2->yJu s name=false:=λhl=>by rw[hl] at k4;simpa using k4
  exact⟨r,hv,rfl,k1,q4,q5,q6,wJ8 hv hr k1 q4 q5 q6⟩
section
variable {ca rule:Nat}{s:Sq}{f:Fm}{u:Tm}{n:ByteArray}{sub:List Tr}(h:(yXx ca (.mk rule s f u n sub)).2=0)(h1:s.l.length<64)(h2:s.r.length<64)
include h h1 h2
end
end Go.Proofs.Tryz
namespace Go.Proofs.Tryz
open Go Go.Iv
theorem xXm {ca rule:Nat}{s:Sq}{f:Fm}{u:Tm}{n:ByteArray}{sub:List Tr}(hc:yZn ca (.mk rule s f u n sub)=0) :
  (yZv ca s rule f u n).2=0/\sub.length=(yZv ca s rule f u n).1.length/\yJ6 s (yZv ca s rule f u n).1 sub=true:=by
 simp only[yZn] at hc;split at hc
 ·rename_i q;exact absurd hc q
 ·rename_i q;split at hc
  ·simp at hc
  ·rename_i q2;split at hc
   ·rename_i q3;exact⟨Decidable.not_not.1 q,Decidable.not_not.1 q2,q3⟩
   ·simp at hc
section
variable {ca rule:Nat}{s:Sq}{f:Fm}{u:Tm}{n:ByteArray}{sub:List Tr}(h:(yXx ca (.mk rule s f u n sub)).2=0)
include h
end
end Go.Proofs.Tryz
namespace Go.Proofs.Tryz
open Go Go.Iv
theorem yJh:∀ {l:List Fm}{g:Fm},g∈l->g.size<=yQ7 l
 | a::l,g,hg=>by
  simp only[yQ7];rcases List.mem_cons.1 hg with rfl|hg
  ·omega
  ·have:=yJh hg;omega
theorem zJo:∀ {l:List Fm}{g:Fm},g∈l->g.deep<=yZ0 l
 | a::l,g,hg=>by
  simp only[yZ0];rcases List.mem_cons.1 hg with rfl|hg
  ·omega
  ·have:=zJo hg;omega
theorem zU0 {ca:Nat}:∀ {l:List Fm} {g:Fm},yK4 ca l=true->g∈l->opsB ca g=true
 | a::l,g,h,hg=>by
  simp only[yK4,bAt] at h;rcases List.mem_cons.1 hg with rfl|hg
  ·exact h.1
  ·exact zU0 h.2 hg
theorem yXo {ca:Nat}{f:Fm}:fmB ca f=true↔f.ok=true/\f.size<=400/\f.deep<=40/\opsB ca f=true:=by
 unfold fmB Fm.right;simp only[bAt,dTe,and_assoc]
theorem wKe {ca op:Nat}{n:ByteArray}{us:List Tm}{sub:List Fm}(h:fmB ca (.mk op n us sub)=true){g:Fm}(hg:g∈sub):fmB ca g=true:=by
 obtain⟨h1,h2,h3,h4⟩:=yXo.1 h;simp only[Fm.ok,bAt] at h1;simp only[Fm.size] at h2;simp only[Fm.deep] at h3;simp only[opsB,bAt] at h4;have:=yJh hg;have:=zJo hg;exact yXo.2 ⟨yXj h1.2 hg,by omega,by omega,zU0 h4.2 hg⟩
theorem wGp {ca:Nat}{n:ByteArray}{us:List Tm}{a b:Fm}(h:fmB ca (.mk 7 n us [a,b])=true):fmB ca (impF a b)=true/\fmB ca (impF b a)=true:=by
 obtain⟨h1,h2,h3,h4⟩:=yXo.1 h;simp only[Fm.ok,yJz,bAt] at h1;simp only[Fm.size,yQ7] at h2;simp only[Fm.deep,yZ0] at h3;simp only[opsB,yK4,bAt] at h4;have key:∀x y:Fm,x.ok=true->y.ok=true->opsB ca x=true->opsB ca y=true->x.size+y.size+1<=400->max x.deep y.deep+1<=40->fmB ca (impF x y)=true:=λx y q1 q2 q3 q4 q5 q6=>by
  refine yXo.2 ⟨?_,?_,?_,?_⟩
  ·simp[impF,Fm.ok,yJz,yKt,yJp,q1,q2,bE]
  ·simp only[impF,Fm.size,yQ7,yQd];omega
  ·simp only[impF,Fm.deep,yZ0,yQu];omega
  ·simp only[impF,opsB,yK4,q3,q4,List.isEmpty_nil,Bool.or_true,Bool.and_true,bAt,dTe];refine⟨by omega,?_⟩;split<;>omega
 exact⟨key a b h1.2.1 h1.2.2.1 h4.2.1 h4.2.2.1 (by omega) (by omega),key b a h1.2.2.1 h1.2.1 h4.2.2.1 h4.2.1 (by omega) (by omega)⟩
mutual
theorem zU1:∀(f:Fm)(ps:Sb),opsB 3 (yXr ps f)=opsB 3 f
 | .mk op m us sub,ps=>by
  simp only[yXr,opsB,zVg sub,decide_true,Bool.true_or]
theorem zVg:∀(l:List Fm)(ps:Sb),yK4 3 (yJ7 ps l)=yK4 3 l
 | [],_=>rfl
 | a::l,ps=>by simp only[yJ7,yK4,zU1 a,zVg l]
end
