/- Walks: Alpha; normal's closure. -/
import Derived.Test.YtdbmgeebmfpmpaaGreatDoorJY
set_option linter.all false
open Nat renaming reduceEqDiff → zE,reduceBEq → zB,reduceAdd → zA,reduceMul → zM,reduceLeDiff → zL
namespace Go.Proofs.Tryz
open Go Go.Iv
set_option maxRecDepth 4000
variable (gl:Nat->Option IV)
theorem vZk (G:Gl gl)(f g:Fm)(x y:IV)(hx:IsFm f x)(hy:IsFm g y)(hs:f.size<=1000000)(hs':g.size<=1000000)(st:ISt) :
  ICall prog gl 97 [x,y] st (λr st'=>r=.raw (.bool (zV1 f g))/\st'=st):=by
 have h1:=λst=>zV7 gl G f x hx st hs;have h2:=λst=>zV7 gl G g y hy st hs';have h3:=λhf hg st=>vZc gl f g [] ⟨true,.nil,0⟩ (.inl ⟨rfl,rfl⟩) (by simp;omega) x y hx hy hf hg st;obtain⟨o,n,us,sub⟩:=f;obtain⟨t1,x1,t2,x2,rfl,_⟩:=hx.mk;obtain⟨o',n',us',sub'⟩:=g;obtain⟨t3,x3,t4,x4,rfl,_⟩:=hy.mk;refine iI func97 ?_;simp only[go_sem,zE,zA,zL];refine (h1 _).mono ?_;rintro _ st ⟨rfl,rfl⟩;cases hr:(Fm.mk o n us sub).right
 ·simp only[go_sem,zE];exact yQ0 ⟨by simp[zV1,hr],rfl⟩
 ·simp only[go_sem,zE,zA,zL];refine (h2 _).mono ?_;rintro _ st ⟨rfl,rfl⟩;cases hr':(Fm.mk o' n' us' sub').right
  ·simp only[go_sem,zE];exact yQ0 ⟨by simp[zV1,hr'],rfl⟩
  ·simp only[go_sem,zE,zA,zL];refine (h3 (yWj hr).1 (yWj hr').1 _).mono ?_;rintro _ st ⟨rfl,rfl⟩;simp only[go_sem,zE];exact yQ0 ⟨by simp[zV1,hr,hr'],rfl⟩
theorem wUk {l:Ar}{j:Nat}{p:ByteArray×ByteArray}{nm:ByteArray}(h:l[j]?=some p)(hp:p.1=nm)(hn:∀q∈l.drop (j+1),q.1≠nm):renF l.reverse nm=some (.mk true p.2 []):=by
 have hlt:=(lGs h).1;have hs:l=l.take j++p::l.drop (j+1):=by
  conv=>lhs;rw[<- List.take_append_drop j l,List.drop_eq_getElem_cons hlt,(lGs h).2]
 unfold renF;rw[hs,List.reverse_append,List.reverse_cons,List.append_assoc,List.find?_append];have h1:(l.drop (j+1)).reverse.find? (λp=>decide (p.1=nm))=none:=by
  rw[List.find?_eq_none];intro q hq;simpa using hn q (List.mem_reverse.1 hq)
 rw[h1,Option.none_or,List.find?_append];simp[hp]
theorem wZ1 {l:Ar}{nm:ByteArray}(hn:∀q∈l,q.1≠nm):renF l.reverse nm=none:=by
 unfold renF;rw[Option.map_eq_none_iff,List.find?_eq_none];intro q hq;simpa using hn q (List.mem_reverse.1 hq)
theorem wZc (nm:ByteArray)(b:Nat)(l:Ar)(tl:Tag)(htl:okEs tl 2)(hll:l.length<=1099511627776)(st:ISt)(hb:st b=some (.box [.sl tl (arI l)])) :
  ICall prog gl 244 [.raw (.string nm),.raw (.pointer (some ⟨b,0,none⟩))] st (wY7 (renF l.reverse) nm st):=by
 have hwl:IntKind.i64.wrap ((l.length:Int)-1)=(l.length:Int)-1:=by rw[w64]<;>omega
 refine iI func244 ?_;simp only[go_sem,zE,hb,yKk,hwl];intros;refine LoopC.ctr l.length (λk fr st' ds=>(∀q∈l.drop (l.length-k),q.1≠nm)/\fr 0=.iv (.raw (.string nm))/\fr 1=.iv (.raw (.pointer (some ⟨b,0,none⟩)))/\fr 3=.box [.raw (.bool false),.raw (.string ⟨#[]⟩),.sl ⟨true,.nil,0⟩ []] /\
  fr 5=.iv (.raw (.int .i64 (((l.length-k:Nat):Int)-1)))/\st'=st/\ds=[]) ?_ ?_ ?_
 ·simp only[go_sem,zE,reduceCtorEq];simp
 ·rintro k fr st _ hlt ⟨hn,f0,f1,f3,f5,rfl,rfl⟩;obtain⟨j,hj⟩:∃j,l.length-k=j+1:=⟨l.length-k-1,by omega⟩
  obtain⟨p,hp⟩:=yQ1 (show j<l.length by omega);rw[hj] at hn;rw[hj,show (((j+1:Nat):Int)-1)=(j:Int) by omega] at f5;have hw:IntKind.i64.wrap ((j:Int)-1)=(((l.length-(k+1):Nat):Int)-1):=by rw[w64]<;>omega
  have hjk:l.length-(k+1)=j:=by omega
  by_cases h1:p.1=nm
  ·have hrn:=wUk hp h1 hn;simp only[go_sem,zE,zA,zL,reduceCtorEq,f0,f1,f3,f5,hb,yQ4 htl,iNn,yUf hp,fits,dEt h1,decide_true];refine yQ0 ⟨rfl,.mk true p.2 [],_,?_,by rw[hrn];rfl,λw hw=>by rw[hrn] at hw;exact (Option.some.inj hw).symm⟩;exact⟨_,[],rfl,by simp only[go_sem],rfl⟩
  ·simp only[go_sem,zE,reduceCtorEq,f0,f1,f3,f5,hb,yQ4 htl,iNn,yUf hp,fits,dEf h1,decide_true,hw];rw[hjk,List.drop_eq_getElem_cons (by omega),(lGs hp).2];intro q hq;rcases List.mem_cons.1 hq with rfl|hq
   ·exact h1
   ·exact hn q hq
 ·rintro fr st _ ⟨hn,f0,f1,f3,f5,rfl,rfl⟩;rw[Nat.sub_self,List.drop_zero] at hn;rw[Nat.sub_self] at f5;have hrn:=wZ1 hn;simp only[go_sem,zE,zA,zL,f3,f5,show decide ((0:Int)<=(((0:Nat):Int)-1))=false from rfl];refine yQ0 ⟨rfl,.mk false ⟨#[]⟩ [],_,?_,by rw[hrn];rfl,λw hw=>by rw[hrn] at hw;cases hw⟩;exact⟨_,[],rfl,by simp only[go_sem],rfl⟩
theorem yVt {st s:ISt}{b:Nat}{o:Option IObj}(h:subSt st s)(hb:st b=none):subSt st (s.put b o):=λc x hc=>by
 rw[ISt.put_apply];split
 ·rename_i hcb;rw[hcb,hb] at hc;cases hc
 ·exact h c x hc
theorem zJu {st s:ISt}{b:Nat}(h:subSt st s)(hb:s b=none):st b=none:=by
 cases hq:st b with
 | none=>rfl
 | some o=>rw[h b o hq] at hb;cases hb
theorem frontAt.sub {st st':ISt}{k:Nat}{tg:Tag}(h:frontAt st k tg st'):subSt st st':=by
 rcases h with⟨_,_,rfl⟩|⟨_,g,_,hg,rfl⟩
 ·exact subSt.refl _
 ·exact yQh hg
theorem frontAt.es {st st':ISt}{k:Nat}{tg:Tag}(h:frontAt st k tg st'):okEs tg 3:=by
 rcases h with⟨_,h,_⟩|⟨_,g,rfl,_⟩
 ·exact .inl h
 ·exact .inr rfl
theorem frontF.sub {st st':ISt}{k:Nat}{tg:Tag}(h:frontF st k tg st'):subSt st st':=by
 rcases h with⟨_,_,rfl⟩|⟨_,g,_,hg,rfl⟩
 ·exact subSt.refl _
 ·exact yQh hg
theorem frontF.es {st st':ISt}{k:Nat}{tg:Tag}(h:frontF st k tg st'):okEs tg 4:=by
 rcases h with⟨_,h,_⟩|⟨_,g,rfl,_⟩
 ·exact .inl h
 ·exact .inr rfl
theorem frontAt.ap {st st':ISt}{k:Nat}{tg:Tag}(h:frontAt st k tg st'):appT k tg:=by
 rcases h with⟨_,h,_⟩|⟨hk,g,rfl,_⟩
 ·exact .inl h
 ·exact .inr ⟨hk,rfl,g,rfl⟩
theorem frontF.ap {st st':ISt}{k:Nat}{tg:Tag}(h:frontF st k tg st'):appT k tg:=by
 rcases h with⟨_,h,_⟩|⟨hk,g,rfl,_⟩
 ·exact .inl h
 ·exact .inr ⟨hk,rfl,g,rfl⟩
theorem _root_.Go.Iv.IsFmD.of {f:Fm}{a b:Value}{t t':Tag}{xs ys:List IV}(h:IsFm f (.agg [.raw a,.raw b,.sl t xs,.sl t' ys]))(ha:appT xs.length t)(hx:dfrs xs)(ha':appT ys.length t')(hy:dfrs ys) :
  IsFmD f (.agg [.raw a,.raw b,.sl t xs,.sl t' ys]):=by
 obtain⟨o,n,us,sub⟩:=f;obtain⟨_,_,_,_,he,ho,h1,h2,h3,h4⟩:=h.mk;cases he;exact IsFmD.intro ho h1 (ha.to h2.len.symm) ⟨h2,hx⟩ h3 (ha'.to h4.len.symm) ⟨h4,hy⟩
theorem wZ2 {st:ISt}{g g':Nat}{o:Option IObj}(hg0:st g=none)(hg:g'=g\/(st.put g o) g'=none):st g'=none:=by
 rcases hg with rfl|hg
 ·exact hg0
 ·by_cases h:g'=g
  ·rw[h];exact hg0
  ·rw[yQ7 h] at hg;exact hg
def NM (f:Fm):Prop:=∀(x:IV) (_:IsFm f x) (fv:List ByteArray) (m:Nat) (es:List (Value×IV)) (l:Ar) (tl:Tag) (_:arT tl l) (_:fv.length+l.length+f.size<=1099511627776) (_:f.ok=true) (st:ISt) (_:st m=some (.map .str es)) (_:SetOk es fv),
 ICall prog gl 214 [x,.raw (.map (some m)),.sl tl (arI l)] st (λr st'=>IsFmD (zVh fv l.reverse f) r/\st'=st)
theorem xXu (G:Gt gl)(op:Nat)(n:ByteArray)(us:List Tm)(sub:List Fm)(IH:∀a∈sub,NM gl a):NM gl (.mk op n us sub):=by
 intro x hx fv m es l tl htl hll hok st hm hes;obtain⟨t1,x1,t2,x2,rfl,hop,ht1,hx1,ht2,hx2⟩:=hx.mk;obtain⟨hok1,hok2,_⟩:=zJo hok;simp only[Fm.size] at hll;have hsl1:=yJr us;have hsl2:=yXf sub;refine ICall.intro (c:=cf prog gl [5,54,55,57,78] []) func214 rfl (by show _<=85;simp) (by kernel_rfl) ?_;simp only[go_sem,zE,zA,zL,fits];refine λb=>yQ9 λhb=>?_;simp only[go_sem,hx1.len];intros;refine LoopC.ctr us.length (λk fr st' ds=>(∃tg' ys,fr 7=.box [.raw (.int .u8 op),.raw (.string n),.sl tg' ys,.sl ⟨true,.nil,0⟩ []]/\IsTmsD (yZz (renF l.reverse) (us.take k)) ys/\frontAt (st.put b (some (.box [.sl tl (arI l)]))) k tg' st') /\
  fr 1=.iv (.raw (.map (some m)))/\fr 3=.box [.raw (.int .u8 op),.raw (.string n),.sl t1 x1,.sl t2 x2]/\fr 5=.iv (.raw (.pointer (some ⟨b,0,none⟩)))/\fr 6=.box [.raw (.int .u8 0),.raw (.string ⟨#[]⟩),.sl ⟨true,.nil,0⟩ [],.sl ⟨true,.nil,0⟩ []] /\
  fr 21=.iv (.sl t1 x1)/\fr 22=.iv (.raw (.int .i64 us.length))/\fr 23=.iv (.raw (.int .i64 k))/\ds=[]) ?_ ?_ ?_
 ·simp only[go_sem,zE];exact⟨⟨_,_,rfl,IsTmsD.nil,.inl ⟨rfl,rfl,rfl⟩⟩,rfl⟩
 ·rintro k fr st1 _ hlt ⟨⟨tg',ys,f7,hys,hfr⟩,f1,f3,f5,f6,f21,f22,f23,rfl⟩;obtain⟨a,ha⟩:=yQ1 hlt;obtain⟨x,hkx,hx⟩:=hx1.get ha;obtain⟨h1,h2⟩:=yXd ha;have hcall:=xQ8 gl (renF l.reverse) (λnm u h=>by rw[(wVh h).1];omega) a x hx (by omega) (.func 244) [] [.raw (.pointer (some ⟨b,0,none⟩))] rfl (λi hi=>by cases hi;simp only[go_sem]) (st.put b (some (.box [.sl tl (arI l)])))
   (λnm s hs=>ICallV.of_ICall (by simp only[go_sem]) (wZc gl nm b l tl htl.es (by omega) s (hs b _ (ISt.put_same _ _ _)))) st1 hfr.sub
  have hlen2:ys.length=k:=by rw[hys.len,yZj,List.length_take];omega
  have hnext:∀r,IsTmD (yY2 (renF l.reverse) a) r->IsTmsD (yZz (renF l.reverse) (us.take (k+1))) (ys++[r]):=λr hr=>by
   rw[yQ8 ha,yJc];exact hys.append (IsTmsD.one hr)
  obtain⟨v2,n2,l2⟩:=a;obtain⟨tx,cx,rfl,htx,hcx⟩:=hx.mk;simp only[go_sem,zE,zB,zA,zL,f5,f7,f21,f22,f23,lt_i hlt,yQ4 ht1,iNn,hkx,fits];refine hcall.mono ?_;rintro r _ ⟨hr,rfl⟩;have hn:=hnext r hr;clear hnext hcall;generalize yY2 (renF l.reverse) (.mk v2 n2 l2)=w at hr;obtain⟨v3,n3,m3⟩:=w;obtain⟨t3,x3,rfl,_⟩:=hr.mk;rcases hfr with⟨rfl,hc,rfl⟩|⟨hk,g0,rfl,hg0,rfl⟩
  ·obtain⟨tf,tc,te⟩:=tg';simp only at hc;subst hc;obtain rfl:ys=[]:=List.eq_nil_of_length_eq_zero hlen2;simp only[go_sem,zE,zA,zM,zL,f1,f3,f5,f6,f7,f21,f22,f23,fits];refine yQm rfl λg'=>yQ9 λhg=>⟨⟨_,_,rfl,hn,.inr ⟨Nat.one_pos,g',rfl,hg,rfl⟩⟩,?_⟩
   rfl
  ·simp only[go_sem,zE,zA,zM,zL,f1,f3,f5,f6,f7,f21,f22,f23,fits,ISt.put_same,hlen2];refine yQm rfl (yQm ⟨by omega,by omega⟩ λg'=>yQ9 λhg=>⟨⟨_,_,rfl,hn,.inr ⟨Nat.succ_pos _,g',rfl,wZ2 hg0 hg,?_⟩⟩,?_⟩)
   ·rw[yQ6,yX7 hg0]
   ·rw[yQd hlt (show us.length<=281474976710656 by omega)]
 rintro fr st1 _ ⟨⟨ta,xa,f7,hxa,hfr⟩,f1,f3,f5,f6,f21,f22,f23,rfl⟩;rw[lTl] at hxa;have hsub1:=hfr.sub;have hta:=hfr.es;have hat:=hfr.ap.to (show xa.length=us.length by rw[hxa.len,yZj]);have hb1:st1 b=some (.box [.sl tl (arI l)]):=hsub1 b _ (ISt.put_same _ _ _);have hm1:st1 m=some (.map .str es):=hsub1 m _ (by rw[yQ7 (yKb hm hb)];exact hm);clear hfr;simp only[go_sem,zE,zA,zL,f3,f22,f23,yQl (nLi _)];refine (yJ2 gl op n _ _ _ _ _).mono ?_;rintro _ st1 ⟨rfl,rfl⟩;cases hq:isQ op;simp only[go_sem,zE,f3,hx2.len];intros;obtain⟨nn,hnn⟩:∃nn,nn=(if isQ op then yJ4 (fv++l.reverse.map (·.2)) else n):=⟨_,rfl⟩
 obtain⟨lm,tm,sm,hlm,htm0,hsm⟩:∃lm tm sm,lm=l/\tm=tl/\sm=st1:=⟨_,_,_,rfl,rfl,rfl⟩
 have hbm0:sm b=some (.box [.sl tm (arI lm)]):=by rw[hlm,htm0,hsm];exact hb1
 have hmm0:sm m=some (.map .str es):=by rw[hsm];exact hm1
 have htm:arT tm lm:=by rw[hlm,htm0];exact htl
 have hll2:lm.length<=l.length+1:=by rw[hlm];omega
 have hS:subSt st sm:=by rw[hsm];exact (yQh hb).trans hsub1
 have hlr:(if isQ op then (n,yJ4 (fv++l.reverse.map (·.2)))::l.reverse else l.reverse)=lm.reverse:=by rw[hq,hlm];rfl
 rw[show n=nn by rw[hnn,hq];rfl] at f7;rw[<- hsm]
 rotate_left
 simp only[go_sem,zE,f5];refine λm2=>yQ9 λhm2=>?_;have hbm:b≠m2:=yKb hb1 hm2;have hmm:m≠m2:=yKb hm1 hm2;have hmb:m≠b:=yKb hm hb;have eb:∀e,(st1.put m2 (some (.map .str e))) b=some (.box [.sl tl (arI l)]):=λe=>by rw[yQ7 hbm];exact hb1
 simp only[go_sem,eb [],yKk];intros;refine LoopC.ctr l.length (λk fr st' ds=>(∃es2,SetOk es2 ((l.take k).map (·.2))/\st'=st1.put m2 (some (.map .str es2)))/\fr 1=.iv (.raw (.map (some m)))/\fr 3=.box [.raw (.int .u8 op),.raw (.string n),.sl t1 x1,.sl t2 x2]/\fr 5=.iv (.raw (.pointer (some ⟨b,0,none⟩))) /\
  fr 6=.box [.raw (.int .u8 0),.raw (.string ⟨#[]⟩),.sl ⟨true,.nil,0⟩ [],.sl ⟨true,.nil,0⟩ []]/\fr 7=.box [.raw (.int .u8 op),.raw (.string n),.sl ta xa,.sl ⟨true,.nil,0⟩ []]/\fr 10=.iv (.raw (.map (some m2))) /\
  fr 39=.iv (.sl tl (arI l))/\fr 40=.iv (.raw (.int .i64 l.length))/\fr 41=.iv (.raw (.int .i64 k))/\ds=[]) ?_ ?_ ?_
 ·simp only[go_sem,zE,f1,f3,f5,f6,f7];exact⟨⟨[],SetOk.nil,rfl⟩,rfl⟩
 ·rintro k fr _ _ hlt ⟨⟨es2,hs2,rfl⟩,f1,f3,f5,f6,f7,f10,f39,f40,f41,rfl⟩;obtain⟨p,hp⟩:=yQ1 hlt;simp only[go_sem,zE,zB,zA,zL,f1,f3,f5,f6,f7,f10,f39,f40,f41,lt_i hlt,yQ4 htl.es,iNn,yUf hp,fits,ISt.put_same,yQd hlt (show l.length<=281474976710656 by omega),yQ6];refine⟨_,?_,rfl⟩;rw[yQ8 hp,List.map_append];exact hs2.upd p.2
 rintro fr _ _ ⟨⟨es2,hs2,rfl⟩,f1,f3,f5,f6,f7,f10,f39,f40,f41,rfl⟩;rw[lTl] at hs2;have hlst:=λtg htg=>wX7 gl G [(m,fv),(m2,l.map (·.2))] tg htg (by simp[allM];omega) (st1.put m2 (some (.map .str es2))) (λp hp=>by
  simp only[List.mem_cons,List.not_mem_nil,or_false] at hp;rcases hp with rfl|rfl
  ·exact⟨es,by rw[yQ7 hmm];exact hm1,hes⟩
  ·exact⟨es2,ISt.put_same _ _ _,hs2⟩)
 have hal:yJ4 (allM [(m,fv),(m2,l.map (·.2))])=yJ4 (fv++l.reverse.map (·.2)):=xQd λx=>by
  simp[allM]
 rw[hal] at hlst;generalize hnew:yJ4 (fv++l.reverse.map (·.2))=new at hlst;simp only[go_sem,zE,zA,zM,zL,f1,f10,f40,f41,yQl (nLi _),fits,yJs];refine (hlst _ (by simp only[go_sem])).mono ?_;rintro _ _ ⟨rfl,rfl⟩;obtain⟨lm,hlm⟩:∃lm,lm=l++[(n,new)]:=⟨_,rfl⟩
 have eap:arI l++[.agg [.raw (.string n),.raw (.string new)]]=arI lm:=by rw[hlm,zY2];rfl
 have hlr:(if isQ op then (n,yJ4 (fv++l.reverse.map (·.2)))::l.reverse else l.reverse)=lm.reverse:=by rw[hq,hnew,hlm];simp
 have hnn:new=(if isQ op then yJ4 (fv++l.reverse.map (·.2)) else n):=by rw[hq,hnew];rfl
 have hll2:lm.length<=l.length+1:=by rw[hlm];simp
 generalize new=nn at hnn eap hlm ⊢;rcases htl with⟨rfl,rfl⟩|⟨g0,rfl⟩
 all_goals try
  simp only[go_sem,zE,zA,zM,zL,reduceCtorEq,f3,f5,f7,fits,eb es2,yVw,yKk,zVx,yQ3,xYa,hx2.len]
  first
   | refine λg=>yQ9 λhg=>?_
   | refine yQm ⟨by omega,by omega⟩ λg=>yQ9 λhg=>?_
  have hm2n:st m2=none:=zJu ((yQh hb).trans hsub1) hm2;have hbg:b≠g:=by
   rintro rfl;rw[yQ7 hbm] at hg;rw[hg] at hb1;cases hb1
  have hmg:m≠g:=by
   rintro rfl;rw[yQ7 hmm] at hg;rw[hg] at hm1;cases hm1
  have ebg:∀o:Option IObj,((st1.put m2 (some (.map .str es2))).put g o) b=_:=λo=>(yQ7 hbg).trans (eb es2)
  first
   | have eap2:[IV.agg [.raw (.string n),.raw (.string nn)]]=arI lm:=eap
   | have eap2:=eap
  simp only[go_sem,zL,ebg,eap,eap2];intros;generalize hsm:ISt.put (ISt.put (ISt.put st1 m2 _) g _) b _=sm;have hgn:st g=none:=zJu ((yQh hb).trans (hsub1.trans (yQh hm2))) hg;have hbm0:sm b=some (.box [.sl ⟨true,.app g,2⟩ (arI lm)]):=by rw[<- hsm];exact ISt.put_same _ _ _
  have hmm0:sm m=some (.map .str es):=by rw[<- hsm,yQ7 hmb,yQ7 hmg,yQ7 hmm];exact hm1
  have htm:arT ⟨true,.app g,2⟩ lm:=.inr ⟨g,rfl⟩;have hS:subSt st sm:=by rw[<- hsm];exact yVt (yVt (yVt ((yQh hb).trans hsub1) hm2n) hgn) hb
  generalize (⟨true,.app g,2⟩:Tag)=tm at hbm0 htm
 all_goals
  refine LoopC.ctr sub.length (λk fr st' ds=>(∃tg' ys,fr 7=.box [.raw (.int .u8 op),.raw (.string nn),.sl ta xa,.sl tg' ys]/\IsFmsD (yKr fv lm.reverse (sub.take k)) ys/\frontF sm k tg' st') /\
   fr 1=.iv (.raw (.map (some m)))/\fr 5=.iv (.raw (.pointer (some ⟨b,0,none⟩)))/\fr 6=.box [.raw (.int .u8 0),.raw (.string ⟨#[]⟩),.sl ⟨true,.nil,0⟩ [],.sl ⟨true,.nil,0⟩ []] /\
   fr 68=.iv (.sl t2 x2)/\fr 69=.iv (.raw (.int .i64 sub.length))/\fr 70=.iv (.raw (.int .i64 k))/\ds=[]) ?_ ?_ ?_
  ·simp only[go_sem,zE,f1,f5,f6,f7];exact⟨⟨_,_,rfl,IsFmsD.nil,.inl ⟨rfl,rfl,rfl⟩⟩,rfl⟩
  ·rintro k fr st2 _ hlt ⟨⟨tg',ys,f7,hys,hfr⟩,f1,f5,f6,f68,f69,f70,rfl⟩;obtain⟨a,ha⟩:=yQ1 hlt;obtain⟨x,hkx,hx⟩:=hx2.get ha;obtain⟨h1,h2⟩:=yZ6 ha;have hb3:st2 b=some (.box [.sl tm (arI lm)]):=hfr.sub b _ (by exact hbm0);have hm3:st2 m=some (.map .str es):=hfr.sub m _ (by exact hmm0);have hcall:=IH a (lMg ha) x hx fv m es lm tm (by exact htm) (by omega) (yUz hok2 (lMg ha)) st2 hm3 hes;have hlen2:ys.length=k:=by rw[hys.len,yWm,List.length_take];omega
   have hnext:∀r,IsFmD (zVh fv lm.reverse a) r->IsFmsD (yKr fv lm.reverse (sub.take (k+1))) (ys++[r]):=λr hr=>by
    rw[yQ8 ha,zQ1];exact hys.append (IsFmsD.one hr)
   obtain⟨o2,n2,u2,s2⟩:=a;obtain⟨t3,x3,t4,x4,rfl,_⟩:=hx.mk;simp only[go_sem,zE,zB,zA,zL,f1,f5,f7,f68,f69,f70,lt_i hlt,yQ4 ht2,iNn,hkx,fits,hb3];refine hcall.mono ?_;rintro r _ ⟨hr,rfl⟩;have hn:=hnext r hr;clear hnext hcall;obtain⟨t5,x5,t6,x6,rfl,_⟩:=hr.mk;rcases hfr with⟨rfl,hc,rfl⟩|⟨hk,g0,rfl,hg0,rfl⟩
   ·obtain⟨tf,tc,te⟩:=tg';simp only at hc;subst hc;obtain rfl:ys=[]:=List.eq_nil_of_length_eq_zero hlen2;simp only[go_sem,zE,zA,zM,zL,f1,f5,f6,f7,f68,f69,f70,fits];refine yQm rfl λg'=>yQ9 λhg=>⟨⟨_,_,rfl,hn,.inr ⟨Nat.one_pos,g',rfl,hg,rfl⟩⟩,?_⟩
    rfl
   ·simp only[go_sem,zE,zA,zM,zL,f1,f5,f6,f7,f68,f69,f70,fits,ISt.put_same,hlen2];refine yQm rfl (yQm ⟨by omega,by omega⟩ λg'=>yQ9 λhg=>⟨⟨_,_,rfl,hn,.inr ⟨Nat.succ_pos _,g',rfl,wZ2 hg0 hg,?_⟩⟩,?_⟩)
    ·rw[yQ6,yX7 hg0]
    ·rw[yQd hlt (show sub.length<=281474976710656 by omega)]
  rintro fr st2 _ ⟨⟨tb,xb,f7,hxb,hfr⟩,f1,f5,f6,f68,f69,f70,rfl⟩;rw[lTl] at hxb;have hsub2:=hfr.sub;have htb:=hfr.es;have hbt:=hfr.ap.to (show xb.length=sub.length by rw[hxb.len,yWm]);simp only[go_sem,zE,zA,zL,f6,f7,f69,f70,yQl (nLi _)];refine yQg (st':=st) (hS.trans hsub2) ⟨?_,rfl⟩;exact IsFmD.of ⟨ta,xa,tb,xb,by rw[hnn],hop,hta,hxa.1,htb,by rw[hlr];exact hxb.1⟩ hat hxa.2 hbt hxb.2
