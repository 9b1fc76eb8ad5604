/- Walks: form. -/
import Derived.Test.YtdbmgeebmfpmpaaGreatDoorKA
set_option linter.all false
open Nat renaming reduceEqDiff → zE,reduceBEq → zB,reduceAdd → zA,reduceMul → zM,reduceLeDiff → zL
namespace Go.Proofs.Tryz
open Go Go.Iv
set_option maxRecDepth 4000
variable (gl:Nat->Option IV)
theorem wYd {l:Sb}{p:ByteArray×Tm}(h:p∈l):p.2.size<=wS l:=by
 induction l with
 | nil=>cases h
 | cons a l ih =>
  simp only[wS];rcases List.mem_cons.1 h with rfl|h
  ·omega
  ·have:=ih h;omega
theorem uX0 {ps:List Pc}{p:Pc}(h:p∈ps):p.tm.size<=wS (toS ps):=wYd (p:=(p.nm,p.tm)) (List.mem_map.2 ⟨p,h,rfl⟩)
def FO (f:Fm):Prop:=∀(x:IV) (_:IsFm f x) (ps:List Pc) (tg:Tag) (xs:List IV) (_:okEs tg 7) (_:IsPcs ps xs) (_:f.size+wS (toS ps)<=1099511627776) (_:f.size+ps.length<=1099511627776) (st:ISt) (_:PsOk ps st),
 ICall prog gl 186 [.sl tg xs,x] st (λr st'=>IsFmD (yGn (toS ps) f) r/\st'=st)
theorem wXu (T:Gt gl)(op:Nat)(n:ByteArray)(us:List Tm)(sub:List Fm)(IH:∀a∈sub,FO gl a):FO gl (.mk op n us sub):=by
 intro x hx ps tg xs htg hxs hbd hpl st hps;have hx0:=hx;obtain⟨t1,x1,t2,x2,rfl,hop,ht1,hx1,ht2,hx2⟩:=hx.mk;simp only[Fm.size] at hbd hpl;have hsl1:=yJr us;have hsl2:=yXf sub;refine iI func186 ?_;simp only[go_sem,zE,zA,zL,fits,hx1.len];intros;refine LoopC.ctr us.length (λk fr st' ds=>(∃tg' ys,fr 5=.box [.raw (.int .u8 op),.raw (.string n),.sl tg' ys,.sl ⟨true,.nil,0⟩ []]/\IsTmsD (yZz (yXg (toS ps)) (us.take k)) ys/\appT k tg'/\own st' tg' k 3 st/\subSt st st') /\
  fr 0=.iv (.sl tg xs)/\fr 3=.box [.raw (.int .u8 op),.raw (.string n),.sl t1 x1,.sl t2 x2]/\fr 4=.box [.raw (.int .u8 0),.raw (.string ⟨#[]⟩),.sl ⟨true,.nil,0⟩ [],.sl ⟨true,.nil,0⟩ []] /\
  fr 16=.iv (.sl t1 x1)/\fr 17=.iv (.raw (.int .i64 us.length))/\fr 18=.iv (.raw (.int .i64 k))/\ds=[]) ?_ ?_ ?_
 ·simp only[go_sem,zE,reduceCtorEq];exact⟨⟨_,_,rfl,IsTmsD.nil,.inl rfl,own.nil _ _ _ _ _,subSt.refl _⟩,rfl⟩
 ·rintro k fr st1 _ hlt ⟨⟨tg',ys,f5,hys,hap,hown,hsub1⟩,f0,f3,f4,f16,f17,f18,rfl⟩;obtain⟨a,ha⟩:=yQ1 hlt;obtain⟨y,hky,hy⟩:=hx1.get ha;obtain⟨h1,h2⟩:=yXd ha;have hcall:=xQ8 gl (yXg (toS ps)) (λnm u h=>by have:=wYd (xQ9 h);simp only at this;omega) a y hy (by omega) (.func 227) [.sl tg xs] [] rfl (λi hi=>by cases hi;simp only[go_sem]) st
   (λnm s hs=>ICallV.of_ICall (by simp only[go_sem]) (by rw[<- wVl];exact wXf gl ps tg xs htg hxs nm s)) st1 hsub1
  have hlen2:ys.length=k:=by rw[hys.len,yZj,List.length_take];omega
  have hnext:∀r,IsTmD (yY2 (yXg (toS ps)) a) r->IsTmsD (yZz (yXg (toS ps)) (us.take (k+1))) (ys++[r]):=λr hr=>by
   rw[yQ8 ha,yJc];exact hys.append (IsTmsD.one hr)
  obtain⟨v5,n5,t5,x5,rfl⟩:=hy.agg;simp only[go_sem,zE,zB,zA,zL,reduceCtorEq,f0,f5,f16,f17,f18,lt_i hlt,yQ4 ht1,iNn,hky,fits];refine hcall.mono ?_;rintro r _ ⟨hr,rfl⟩;have hn:=hnext r hr;obtain⟨v6,n6,t6,x6,rfl⟩:=hr.agg;simp only[go_sem,zE,zA,zM,zL,fits,yQ3];refine yJh hown hlen2 hsub1 rfl (by simp[fits,IV.one]) (by simp only;omega) (by omega) λtg2 st2 hown2 hsub2 _ hap2=>?_;simp only[go_sem,zE,zA,zL,reduceCtorEq,f0,f3,f4,f5,f16,f17,f18,yQd hlt (show us.length<=281474976710656 by omega)];exact⟨tg2,_,rfl,hn,hap2,hown2,hsub2⟩
 ·rintro fr st1 _ ⟨⟨ta,xa,f5,hxa,hapa,hown1,hsub1⟩,f0,f3,f4,f16,f17,f18,rfl⟩;rw[lTl] at hxa;have hta:=hown1.es;have hps1:=hps.mono hsub1;simp only[go_sem,zE,zA,zL,f3,f17,f18,yQl (nLi _)];refine (yJ2 gl op n _ _ _ _ _).mono ?_;rintro _ st1 ⟨rfl,rfl⟩;cases hq:isQ op
  ·simp only[go_sem,zE,f3,hx2.len];intros;refine LoopC.ctr sub.length (λk fr st' ds=>(∃tg' ys,fr 5=.box [.raw (.int .u8 op),.raw (.string n),.sl ta xa,.sl tg' ys]/\IsFmsD (yK7 (toS ps) (sub.take k)) ys/\appT k tg'/\own st' tg' k 4 st1/\subSt st1 st') /\
    fr 0=.iv (.sl tg xs)/\fr 4=.box [.raw (.int .u8 0),.raw (.string ⟨#[]⟩),.sl ⟨true,.nil,0⟩ [],.sl ⟨true,.nil,0⟩ []] /\
    fr 42=.iv (.sl t2 x2)/\fr 43=.iv (.raw (.int .i64 sub.length))/\fr 44=.iv (.raw (.int .i64 k))/\ds=[]) ?_ ?_ ?_
   ·simp only[go_sem,zE,reduceCtorEq,f0,f4,f5];exact⟨⟨_,_,rfl,IsFmsD.nil,.inl rfl,own.nil _ _ _ _ _,subSt.refl _⟩,rfl⟩
   ·rintro k fr st3 _ hlt ⟨⟨tg',ys,f5,hys,hap,hown,hsub3⟩,f0,f4,f42,f43,f44,rfl⟩;obtain⟨a,ha⟩:=yQ1 hlt;obtain⟨y,hky,hy⟩:=hx2.get ha;obtain⟨h1,h2⟩:=yZ6 ha;have hcall:=IH a (lMg ha) y hy ps tg xs htg hxs (by omega) (by omega) st3 (hps1.mono hsub3);have hlen2:ys.length=k:=by rw[hys.len,yJg,List.length_take];omega
    have hnext:∀r,IsFmD (yGn (toS ps) a) r->IsFmsD (yK7 (toS ps) (sub.take (k+1))) (ys++[r]):=λr hr=>by
     rw[yQ8 ha,yWs];exact hys.append (IsFmsD.one hr)
    obtain⟨o5,n5,t5,x5,t6,x6,rfl⟩:=hy.agg;simp only[go_sem,zE,zB,zA,zL,reduceCtorEq,f0,f5,f42,f43,f44,lt_i hlt,yQ4 ht2,iNn,hky,fits];refine hcall.mono ?_;rintro r _ ⟨hr,rfl⟩;have hn:=hnext r hr;obtain⟨o7,n7,t7,x7,t8,x8,rfl⟩:=hr.agg;simp only[go_sem,zE,zA,zM,zL,fits,yQ3];refine yJh hown hlen2 hsub3 rfl (by simp[fits,IV.one]) (by simp only;omega) (by omega) λtg2 st4 hown2 hsub4 _ hap2=>?_;simp only[go_sem,zE,zA,zL,reduceCtorEq,f0,f4,f5,f42,f43,f44,yQd hlt (show sub.length<=281474976710656 by omega)];exact⟨tg2,_,rfl,hn,hap2,hown2,hsub4⟩
   rintro fr st3 _ ⟨⟨tb,xb,f5,hxb,hapb,hown,hsub3⟩,f0,f4,f42,f43,f44,rfl⟩;rw[lTl] at hxb;simp only[go_sem,zE,zA,zL,f4,f5,f43,f44,yQl (nLi _)];refine yQg (hsub1.trans hsub3) ⟨?_,rfl⟩;exact IsFmD.of ⟨ta,xa,tb,xb,by simp[hq],hop,hta,hxa.1,hown.es,by simpa[hq] using hxb.1⟩ (hapa.to (by rw[hxa.len,yZj])) hxa.2 (hapb.to (by rw[hxb.len,yJg])) hxb.2
  ·simp only[go_sem,zE,zA,zL,reduceCtorEq,f0,f3];refine (wU0 gl T op n us sub _ hx0 ps tg xs htg hxs (by omega) (by omega) (λp hp=>by have:=uX0 hp;omega) st1 hps1).mono ?_;rintro _ st2 ⟨hsub2,cs,tc,zs,rfl,htc,hzs,hcs,hpc,hcl⟩;have hw:=wKp (toS ps) n (frFs sub);rw[<- hcs] at hw;simp only[go_sem,zE,zA,zL,reduceCtorEq,f3,f5,hx2.len];intros;refine LoopC.ctr sub.length (λk fr st' ds=>(∃tg' ys,fr 5=.box [.raw (.int .u8 op),.raw (.string (yKl (toS ps) n (frFs sub)).1),.sl ta xa,.sl tg' ys]/\IsFmsD (yK7 (toS cs) (sub.take k)) ys/\appT k tg'/\own st' tg' k 4 st2/\subSt st2 st') /\
    fr 0=.iv (.sl tc zs)/\fr 4=.box [.raw (.int .u8 0),.raw (.string ⟨#[]⟩),.sl ⟨true,.nil,0⟩ [],.sl ⟨true,.nil,0⟩ []] /\
    fr 42=.iv (.sl t2 x2)/\fr 43=.iv (.raw (.int .i64 sub.length))/\fr 44=.iv (.raw (.int .i64 k))/\ds=[]) ?_ ?_ ?_
   ·simp only[go_sem,zE,reduceCtorEq,f4];exact⟨⟨_,_,rfl,IsFmsD.nil,.inl rfl,own.nil _ _ _ _ _,subSt.refl _⟩,rfl⟩
   ·rintro k fr st3 _ hlt ⟨⟨tg',ys,f5,hys,hap,hown,hsub3⟩,f0,f4,f42,f43,f44,rfl⟩;obtain⟨a,ha⟩:=yQ1 hlt;obtain⟨y,hky,hy⟩:=hx2.get ha;obtain⟨h1,h2⟩:=yZ6 ha;have hcall:=IH a (lMg ha) y hy cs tc zs htc hzs (by omega) (by omega) st3 (hpc.mono hsub3);have hlen2:ys.length=k:=by rw[hys.len,yJg,List.length_take];omega
    have hnext:∀r,IsFmD (yGn (toS cs) a) r->IsFmsD (yK7 (toS cs) (sub.take (k+1))) (ys++[r]):=λr hr=>by
     rw[yQ8 ha,yWs];exact hys.append (IsFmsD.one hr)
    obtain⟨o5,n5,t5,x5,t6,x6,rfl⟩:=hy.agg;simp only[go_sem,zE,zB,zA,zL,reduceCtorEq,f0,f5,f42,f43,f44,lt_i hlt,yQ4 ht2,iNn,hky,fits];refine hcall.mono ?_;rintro r _ ⟨hr,rfl⟩;have hn:=hnext r hr;obtain⟨o7,n7,t7,x7,t8,x8,rfl⟩:=hr.agg;simp only[go_sem,zE,zA,zM,zL,fits,yQ3];refine yJh hown hlen2 hsub3 rfl (by simp[fits,IV.one]) (by simp only;omega) (by omega) λtg2 st4 hown2 hsub4 _ hap2=>?_;simp only[go_sem,zE,zA,zL,reduceCtorEq,f0,f4,f5,f42,f43,f44,yQd hlt (show sub.length<=281474976710656 by omega)];exact⟨tg2,_,rfl,hn,hap2,hown2,hsub4⟩
   rintro fr st3 _ ⟨⟨tb,xb,f5,hxb,hapb,hown,hsub3⟩,f0,f4,f42,f43,f44,rfl⟩;rw[lTl] at hxb;simp only[go_sem,zE,zA,zL,f4,f5,f43,f44,yQl (nLi _)];refine yQg (hsub1.trans (hsub2.trans hsub3)) ⟨?_,rfl⟩;rw[hcs] at hxb;exact IsFmD.of ⟨ta,xa,tb,xb,by simp[hq],hop,hta,hxa.1,hown.es,by simpa[hq] using hxb.1⟩ (hapa.to (by rw[hxa.len,yZj])) hxa.2 (hapb.to (by rw[hxb.len,yJg])) hxb.2
theorem xWo (T:Gt gl):∀(k:Nat) (t:Fm),SizeOf.sizeOf t<k->FO gl t
 | 0,f,h=>by omega
 | k+1,.mk o n us sub,h=>wXu gl T o n us sub (λa ha=>xWo T k a (by
   have:=lSm ha;simp at h;omega))
theorem vV0 (T:Gt gl)(t:Fm):FO gl t:=xWo gl T _ t (Nat.lt_succ_self _)
def zQ9:List ByteArray->Sb->Bool
 | _,[]=>true
 | seen,p::l=>yU1 p.1&&p.2.ok&&!memB seen p.1&&zQ9 (seen++[p.1]) l
theorem yYs:∀(l m:Sb)(seen:List ByteArray),zQ9 seen (l++m)=(zQ9 seen l&&zQ9 (seen++l.map (·.1)) m)
 | [],m,seen=>by simp[zQ9]
 | p::l,m,seen=>by
  simp only[List.cons_append,zQ9,yYs l m,List.map_cons,List.append_assoc,Bool.and_assoc,List.cons_append,List.nil_append]
theorem zK9:∀(l:Sb)(seen:List ByteArray),zQ9 seen l=true->(l.map (·.1)).Nodup/\∀p∈l,p.1 ∉ seen/\p.2.ok=true/\yU1 p.1=true
 | [],seen,_=>⟨List.nodup_nil,λp h=>by cases h⟩
 | p::l,seen,h=>by
  simp only[zQ9,bAt,Bool.not_eq_true',zXe] at h;obtain⟨⟨⟨h1,h2⟩,h3⟩,h4⟩:=h;obtain⟨i1,i2⟩:=zK9 l _ h4;refine⟨?_,λq hq=>?_⟩
  ·rw[List.map_cons,List.nodup_cons];refine⟨λhm=>?_,i1⟩;obtain⟨q,hq,he⟩:=List.mem_map.1 hm;have:=(i2 q hq).1;simp[he] at this
  ·rcases List.mem_cons.1 hq with rfl|hq
   ·exact⟨h3,h2,h1⟩
   ·have:=i2 q hq;exact⟨λhm=>this.1 (List.mem_append_left _ hm),this.2⟩
def xJg (l:Sb)(fr:List ByteArray):Sb:=l.filter λp=>memB fr p.1
noncomputable def yV1 (f:Fm)(l:Sb):Fm×Nat :=
 if f.right&&zQ9 [] l then
  (if decide ((yGn (xJg l (frF f)) f).size<=400)&&decide ((yGn (xJg l (frF f)) f).deep<=40) then (yGn (xJg l (frF f)) f,0) else (fm0,3))
 else (fm0,2)
theorem vV5 (t t':Tag)(h:okEs t 3)(h':okEs t' 4):IsFm fm0 (.agg [.raw (.int .u8 0),.raw (.string ⟨#[]⟩),.sl t [],.sl t' []]):=⟨t,[],t',[],rfl,by omega,h,rfl,h',rfl⟩
theorem xGz (f f':Bool)(e e':Nat):IsFmD fm0 (.agg [.raw (.int .u8 0),.raw (.string ⟨#[]⟩),.sl ⟨f,.nil,e⟩ [],.sl ⟨f',.nil,e'⟩ []]):=IsFmD.of (vV5 _ _ (.inl rfl) (.inl rfl)) (.inl rfl) trivial (.inl rfl) trivial
theorem xGd (nm:ByteArray)(t:Tm)(v:Bool)(n:ByteArray)(tg:Tag)(xs:List IV)(hx:IsTm t (.agg [.raw (.bool v),.raw (.string n),.sl tg xs]))(hs:t.size<=1099511627776)(st:ISt) :
  ICall prog gl 184 [.agg [.raw (.string nm),.raw (.bool v),.raw (.string n),.sl tg xs]] st
   (λr st'=>∃m,st m=none/\r=yVy nm v n tg xs m t/\st'=st.put m (some (.map .str (setE (yZ1 t))))):=by
 obtain⟨v',n',us⟩:=t;have hx0:=hx;obtain⟨t2,x2,he,_⟩:=hx.mk;cases he;exact zWd gl nm v n us tg xs hx0 hs st
theorem vY9 (G:Gl gl)(T:Gt gl)(f:Fm)(x:IV)(hx:IsFm f x)(hs:f.size<=1000000)(l:Sb)(tg:Tag)(xs:List IV)(htg:okEs tg 4)(hxs:IsOnes l xs)(hl:l.length<=1000000)(hls:∀p∈l,p.2.size<=1000000)(hws:wS l<=1000000000)(st:ISt) :
  ICall prog gl 156 [x,.sl tg xs] st (FED (yV1 f l).1 (yV1 f l).2 st):=by
 have h1:=λst=>zV7 gl G f x hx st hs;have hnames:=λst=>yWr gl f x hx st;have hset:=λst=>wV5 gl 190 [.cptr x] (xJh f) st (by simp only[go_sem]) (λI=>yVc gl f x hx (by omega) I);rw[zXo] at hset;have hfl:=xWn f;have hsize:=λ(cs:List Pc) tp zs htp hzs hM st m hm=>vJj gl cs tp zs htp hzs m 1000000 (by omega) hM f x hx (λ_=>0) [] CntOk.nil (λ_=>by omega) (by omega) st hm;have hform:=λ(cs:List Pc) tp zs htp hzs hw hpl st hps=>vV0 gl T f x hx cs tp zs htp hzs hw hpl st hps;obtain⟨o0,n0,ta,xa,tb,xb,rfl⟩:=hx.agg;cases hr:f.right
 ·rw[hr] at h1;have hE:yV1 f l=(fm0,2):=by simp[yV1,hr]
  rw[hE];refine iI func156 ?_;simp only[go_sem,zE,zA,zL];refine (h1 _).mono ?_;rintro _ st ⟨rfl,rfl⟩;simp only[go_sem,zE,zA,zL];exact yQ0 ⟨_,rfl,xGz _ _ _ _,rfl⟩
 ·rw[hr] at h1;have hok:=(yWj hr).1;have hfs:=(yWj hr).2.1;refine iI func156 ?_;simp only[go_sem,zE,zA,zL];refine (h1 _).mono ?_;rintro _ st ⟨rfl,rfl⟩;simp only[go_sem,zE,zA,zL];refine (hnames _).mono ?_;rintro _ st ⟨rfl,rfl⟩;simp only[go_sem,zA];refine (hset _).mono ?_;rintro _ _ ⟨m1,hm1,rfl,rfl⟩;simp only[go_sem,zE,hxs.len];refine λm2=>yQ9 λhm2=>?_;intros;generalize hS0:st.put m1 (some (.map .str (setE (frF f))))=S0 at *;have hst0:subSt st S0:=hS0▸yQh hm1;have hS1:S0 m1=some (.map .str (setE (frF f))):=by rw[<- hS0,ISt.put_same]
  refine LoopC.ctr l.length (λk fr st' ds=>(zQ9 [] (l.take k)=true/\subSt S0 st'/\∃es2 cs tp zs,SetOk es2 ((l.take k).map (·.1))/\st' m2=some (.map .str es2)/\fr 8=.iv (.sl tp zs)/\IsPcs cs zs/\toS cs=xJg (l.take k) (frF f)/\PsOk cs st' /\
    (∀p∈cs,p.at_≠m2)/\own st' tp cs.length 7 S0) /\
   fr 2=.box [.raw (.int .u8 o0),.raw (.string n0),.sl ta xa,.sl tb xb]/\fr 4=.box [.raw (.int .u8 0),.raw (.string ⟨#[]⟩),.sl ⟨true,.nil,0⟩ [],.sl ⟨true,.nil,0⟩ []]/\fr 6=.iv (.raw (.map (some m1)))/\fr 7=.iv (.raw (.map (some m2))) /\
   fr 21=.iv (.sl tg xs)/\fr 22=.iv (.raw (.int .i64 l.length))/\fr 23=.iv (.raw (.int .i64 k))/\ds=[]) ?_ ?_ ?_
  ·simp only[go_sem,zE];exact⟨⟨rfl,yQh hm2,[],[],_,[],SetOk.nil,rfl,rfl,rfl,rfl,(λp h=>by cases h),(λp h=>by cases h),own.nil _ _ _ _ _⟩,rfl⟩
  ·rintro k fr st1 _ hlt ⟨⟨hgood,hsub,es2,cs,tp,zs,hs2,hm2',f8,hzs,hcs,hpc,hpn,hown⟩,f2,f4,f6,f7,f21,f22,f23,rfl⟩;obtain⟨p,hp⟩:=yQ1 hlt;obtain⟨y,hky,v,n3,t3,x3,rfl,hy⟩:=hxs.get hp;have hpm:=lMg hp;have hps:=hls p hpm;have hg1:zQ9 [] (l.take (k+1))=(yU1 p.1&&p.2.ok&&!memB ((l.take k).map (·.1)) p.1):=by
    rw[yQ8 hp,yYs,hgood];simp[zQ9]
   have hbad:(yU1 p.1&&p.2.ok&&!memB ((l.take k).map (·.1)) p.1)=false->yV1 f l=(fm0,2):=λh=>by
    have:zQ9 [] l=false:=by
     rw[<- List.take_append_drop (k+1) l,yYs,hg1,h];rfl
    simp[yV1,this]
   have hterm:=λst=>wGl gl p.2 _ hy hps st;have hm1':=hsub m1 _ hS1;cases hv1:yU1 p.1
   ·rw[hbad (by simp[hv1])];simp only[go_sem,zE,zB,zA,zL,f21,f22,f23,lt_i hlt,yQ4 htg,iNn,hky,fits];refine (yGm gl p.1 _).mono ?_;rintro _ st1 ⟨rfl,rfl⟩;simp only[go_sem,zE,zA,zL,f4,hv1];exact yQg (hst0.trans hsub) ⟨_,rfl,xGz _ _ _ _,rfl⟩
   ·simp only[go_sem,zE,zB,zA,zL,f21,f22,f23,lt_i hlt,yQ4 htg,iNn,hky,fits];refine (yGm gl p.1 _).mono ?_;rintro _ st1 ⟨rfl,rfl⟩;simp only[go_sem,zE,zA,zL,hv1];refine (hterm _).mono ?_;rintro _ st1 ⟨rfl,rfl⟩;cases hv2:p.2.ok
    ·rw[hbad (by simp[hv1,hv2])];simp only[go_sem,zE,zA,zL,f4];exact yQg (hst0.trans hsub) ⟨_,rfl,xGz _ _ _ _,rfl⟩
    ·cases hv3:memB ((l.take k).map (·.1)) p.1
     ·have hne12:m1≠m2:=yKb hS1 hm2;have e1:∀o,(st1.put m2 o) m1=some (.map .str (setE (frF f))):=λo=>by rw[yQ7 hne12];exact hm1'
      have hgood':zQ9 [] (l.take (k+1))=true:=by rw[hg1,hv1,hv2,hv3];rfl
      have hs2':SetOk (updI (.string p.1) (.raw (.bool true)) es2) ((l.take (k+1)).map (·.1)):=by
       rw[yQ8 hp,List.map_append];exact hs2.upd p.1
      have hfr:xJg (l.take (k+1)) (frF f)=xJg (l.take k) (frF f)++if memB (frF f) p.1 then [p] else []:=by
       rw[yQ8 hp];unfold xJg;rw[List.filter_append];congr 1;simp only[List.filter_cons,List.filter_nil]
      have hsub':subSt S0 (st1.put m2 (some (.map .str (updI (.string p.1) (.raw (.bool true)) es2)))):=yVt hsub hm2;have hpc':PsOk cs (st1.put m2 (some (.map .str (updI (.string p.1) (.raw (.bool true)) es2)))):=λq hq=>by
       obtain⟨e,h1,h2⟩:=hpc q hq;exact⟨e,by rw[yQ7 (hpn q hq)];exact h1,h2⟩
      have hown':own (st1.put m2 (some (.map .str (updI (.string p.1) (.raw (.bool true)) es2)))) tp cs.length 7 S0:=hown.mono λg hg _=>by
       rw[yQ7 (λh=>by rw[h,hm2'] at hg;cases hg)];exact hg
      cases hv4:memB (frF f) p.1
      ·rw[hv4] at hfr;simp only[bFt,if_false,List.append_nil] at hfr;simp only[go_sem,zE,f2,f4,f6,f7,f8,f21,f22,f23,hm2',hs2.look,hv3,e1,(SetOk.ofE (frF f)).look,hv4,yQd hlt (show l.length<=281474976710656 by omega)];exact⟨hgood',hsub',_,cs,tp,zs,hs2',rfl,rfl,hzs,by rw[hcs,hfr],hpc',hpn,hown'⟩
      ·rw[hv4] at hfr;simp only[if_true] at hfr;simp only[go_sem,zE,zA,zL,f6,f7,f8,hm2',hs2.look,hv3,e1,(SetOk.ofE (frF f)).look,hv4];refine (xGd gl p.1 p.2 v n3 t3 x3 hy (by omega) _).mono ?_;rintro _ _ ⟨m3,hm3,rfl,rfl⟩;have hm32:m3≠m2:=λh=>by rw[h,ISt.put_same] at hm3;cases hm3
       have hyp:IsPc ⟨p.1,p.2,m3⟩ (yVy p.1 v n3 t3 x3 m3 p.2):=⟨v,n3,t3,x3,rfl,hy⟩
       have hcl:cs.length<=l.length:=by
        have:cs.length=(toS cs).length:=by simp[toS]
        rw[this,hcs];exact Nat.le_trans (List.length_filter_le _ _) (by rw[List.length_take];omega)
       unfold yVy at hyp ⊢;simp only[go_sem,zE,zA,zM,zL,fits,yQ3];refine yZf (hown'.mono λg hg _=>by rw[yQ7 (yKb hg hm3)];exact hg) hzs.len (hsub'.trans (yQh hm3)) rfl (by simp[fits,IV.one]) (by simp only;omega) (by omega) λtc' st4 hoc' hsub4 hkf=>?_;have k2:st4 m2=some (.map .str (updI (.string p.1) (.raw (.bool true)) es2)):=hkf m2 _ (by rw[yQ7 (λh=>hm32 h.symm),ISt.put_same]) (λ_ h=>by cases h);have k3:=hkf m3 _ (ISt.put_same _ m3 _) (λ_ h=>by cases h);simp only[go_sem,zE,f2,f4,f6,f7,f21,f22,f23,yQd hlt (show l.length<=281474976710656 by omega)];refine⟨hgood',hsub4,_,cs++[⟨p.1,p.2,m3⟩],tc',_,hs2',k2,rfl,hzs.append (IsPcs.one hyp),?_,λq hq=>?_,λq hq=>?_,by rw[lLa];exact hoc'⟩
       ·rw[hfr,<- hcs];simp[toS]
       ·rcases List.mem_append.1 hq with hq|hq
        ·obtain⟨e,h1,h2⟩:=hpc' q hq;exact⟨e,hkf _ _ (by rw[yQ7 (yKb h1 hm3)];exact h1) (λ_ h=>by cases h),h2⟩
        ·rw[List.mem_singleton] at hq;subst hq;exact⟨_,k3,SetOk.ofE _⟩
       ·rcases List.mem_append.1 hq with hq|hq
        ·exact hpn q hq
        ·rw[List.mem_singleton] at hq;subst hq;exact hm32
     ·rw[hbad (by rw[hv1,hv2,hv3];rfl)];simp only[go_sem,zE,zA,zL,f4,f7,hm2',hs2.look,hv3];exact yQg (hst0.trans hsub) ⟨_,rfl,xGz _ _ _ _,rfl⟩
  ·rintro fr st1 _ ⟨⟨hgood,hsub,es2,cs,tp,zs,hs2,hm2',f8,hzs,hcs,hpc,hpn,hown⟩,f2,f4,f6,f7,f21,f22,f23,rfl⟩;rw[lTl] at hgood hcs;have hnd:(cs.map Pc.nm).Nodup:=by
    have h2:=(zK9 l [] hgood).1;have:cs.map Pc.nm=(toS cs).map (·.1):=by simp[toS,Function.comp_def]
    rw[this,hcs];exact h2.sublist ((List.filter_sublist).map _)
   have hM:∀p∈cs,p.tm.size<=1000000:=λp hp=>by
    have:(p.nm,p.tm)∈toS cs:=List.mem_map.2 ⟨p,hp,rfl⟩;rw[hcs] at this;exact hls _ (List.mem_filter.1 this).1
   have hcl:cs.length<=l.length:=by
    have:cs.length=(toS cs).length:=by simp[toS]
    rw[this,hcs];exact List.length_filter_le _ _
   have hww:wS (toS cs)<=wS l:=by rw[hcs];exact yUh _ l
   have hfsz:=vKv hnd hok;have hP:yV1 f l=if decide ((yGn (toS cs) f).size<=400)&&decide ((yGn (toS cs) f).deep<=40) then (yGn (toS cs) f,0) else (fm0,3):=by
    simp only[yV1,hr,hgood,Bool.and_self,if_true,<- hcs]
   simp only[go_sem,zE,zA,zL,f2,f8,f22,f23,yQl (nLi _)];refine λm4=>yQ9 λhm4=>?_;refine (hsize cs tp zs hown.es hzs hM _ m4 (ISt.put_same _ _ _)).mono ?_;rintro _ _ ⟨es4,_,rfl,rfl⟩;rw[hfsz,yQ6];rw[hP];generalize hg:yGn (toS cs) f=g at *;by_cases hz1:g.size<=400
   ·by_cases hz2:g.deep<=40
    ·rw[dEt hz1,dEt hz2];simp only[Bool.and_self,if_true];simp only[go_sem,zE,zA,zL,f2,f8,show decide ((400:Int)<(g.size:Int))=false from dEf (by omega),show decide ((40:Int)<(g.deep:Int))=false from dEf (by omega)];refine (hform cs tp zs hown.es hzs (by omega) (by omega) _ (hpc.mono (yQh hm4))).mono ?_;rintro r _ ⟨hrr,rfl⟩;rw[hg] at hrr;obtain⟨o5,n5,t5,x5,t6,x6,rfl⟩:=hrr.agg;simp only[go_sem,zE,zA,zL,f4];exact yQg ((hst0.trans hsub).trans (yQh hm4)) ⟨_,rfl,hrr,rfl⟩
    ·rw[dEt hz1,dEf hz2];simp only[Bool.and_false,bFt,if_false];simp only[go_sem,zE,zA,zL,f4,show decide ((400:Int)<(g.size:Int))=false from dEf (by omega),show decide ((40:Int)<(g.deep:Int))=true from dEt (by omega)];exact yQg ((hst0.trans hsub).trans (yQh hm4)) ⟨_,rfl,xGz _ _ _ _,rfl⟩
   ·rw[dEf hz1];simp only[Bool.false_and,bFt,if_false];simp only[go_sem,zE,zA,zL,f4,show decide ((400:Int)<(g.size:Int))=true from dEt (by omega)];exact yQg ((hst0.trans hsub).trans (yQh hm4)) ⟨_,rfl,xGz _ _ _ _,rfl⟩
theorem kQ8 (G:Gl gl)(T:Gt gl)(f:Fm)(x:IV)(hx:IsFm f x)(hs:f.size<=1000000)(nm:ByteArray)(t:Tm)(y:IV)(hy:IsTm t y)(ht:t.size<=1000000)(st:ISt) :
  ICall prog gl 113 [x,.raw (.string nm),y] st (FED (yV1 f [(nm,t)]).1 (yV1 f [(nm,t)]).2 st):=by
 obtain⟨v,n3,t3,x3,rfl⟩:=hy.agg;have hones:IsOnes [(nm,t)] [.agg [.raw (.string nm),.raw (.bool v),.raw (.string n3),.sl t3 x3]]:=⟨_,[],rfl,⟨v,n3,t3,x3,rfl,hy⟩,rfl⟩
 have hc:=λtg htg st=>vY9 gl G T f x hx hs [(nm,t)] tg _ htg hones (by simp) (λp hp=>by rw[List.mem_singleton] at hp;subst hp;exact ht) (by simp only[wS];omega) st;obtain⟨o0,n0,ta,xa,tb,xb,rfl⟩:=hx.agg;refine iI func113 ?_;simp only[go_sem,zE,zA,zM,zL,fits,yQ3];refine (hc _ (by simp only[go_sem]) _).mono ?_;rintro _ _ ⟨z,rfl,hz,rfl⟩;obtain⟨o5,n5,t5,x5,t6,x6,rfl⟩:=hz.agg;simp only[go_sem,zE,zA,zL];exact yQ0 ⟨_,rfl,hz,rfl⟩
theorem kQ9 (G:Gl gl)(T:Gt gl)(f:Fm)(x:IV)(hx:IsFm f x)(hs:f.size<=1000000)(nm:ByteArray)(t:Tm)(y:IV)(hy:IsTm t y)(ht:t.size<=1000000)(st:ISt) :
  ICall prog gl 113 [x,.raw (.string nm),y] st (FE (yV1 f [(nm,t)]).1 (yV1 f [(nm,t)]).2 st):=(kQ8 gl G T f x hx hs nm t y hy ht st).mono FED.w
