/- Walks of the second program: put. -/
import Derived.Test.YtnknaopjcifoaaaGreatDoorKT
import Derived.Test.YtnknaopjcifoaaaGreatDoorKN
import Derived.Test.YtnknaopjcifoaaaGreatDoorKC
set_option linter.all false
open Nat renaming reduceEqDiff → zE,reduceBEq → zB,reduceAdd → zA,reduceMul → zM,reduceLeDiff → zL
namespace Go.Proofs.Tryz
open Go Go.Iv
set_option maxRecDepth 4000
variable (gl:Nat->Option IV)
theorem IsOnes.append:∀ {l m:Sb}{xs ys:List IV},IsOnes l xs->IsOnes m ys->IsOnes (l++m) (xs++ys)
 | [],m,xs,ys,h,k=>by simp only[IsOnes] at h;subst h;exact k
 | a::l,m,xs,ys,h,k=>by
  simp only[IsOnes] at h;obtain⟨y,zs,rfl,hy,h⟩:=h;exact⟨y,zs++ys,rfl,hy,IsOnes.append h k⟩
theorem IsOnes.one {a:ByteArray×Tm}{x:IV}(h:wUq a x):IsOnes [a] [x]:=⟨x,[],rfl,h,rfl⟩
theorem zWj {L r:List ByteArray}(h:SortedOf L r)(s:ByteArray):hasB r s=memB L s:=by
 rw[Bool.eq_iff_iff,yX8,<- h.2 s];simp[hasB]
theorem wV2 {l:Sb}{k:Nat}{p:ByteArray×Tm}{m:ByteArray}{fr:List ByteArray}(h:l[k]?=some p):cntS (l.take (k+1)) m fr=cntS (l.take k) m fr++if memB fr p.1&&!decide (p.1=m) then [p] else []:=by
 rw[yQ5 h];unfold cntS;rw[List.filter_append];congr 1;simp only[List.filter_cons,List.filter_nil]
theorem wXa {l:Sb}{m:ByteArray}{fr:List ByteArray}{p:ByteArray×Tm}(h:p∈cntS l m fr):p∈l/\p.1∈fr:=by
 unfold cntS at h;rw[List.mem_filter,bAt,yX8] at h;exact⟨h.1,h.2.1⟩
theorem wXb (l:Sb)(m:ByteArray)(fr:List ByteArray):(cntS l m fr).length<=l.length:=List.length_filter_le _ _
theorem xVw {c:Sb}{M:Nat}(h:∀p∈c,p.2.size<=M):(c.flatMap λp=>yQk p.2).length<=c.length*M:=by
 induction c with
 | nil=>simp
 | cons a c ih =>
  rw[List.flatMap_cons,lLa,List.length_cons,Nat.add_mul];have h1:=ih λp hp=>h p (List.mem_cons_of_mem _ hp);have h2:=yKm a.2;have h3:=h a (List.mem_cons_self ..);omega
def RPF (f:Fm):Prop:=∀(x:IV) (_:IsFm f x) (_:f.ok=true) (l:Sb) (tg:Tag) (xs:List IV) (_:okEs tg 4) (_:IsOnes l xs) (_:∀p∈l,p.2.size<=1000000) (_:l.length+f.size<=1000000) (st:ISt),
 ICall prog gl 224 [x,.sl tg xs] st (λr st'=>IsFm (yJh l f) r/\st'=st)
theorem xUu (op:Nat)(n:ByteArray)(us:List Tm)(sub:List Fm)(IH:∀a∈sub,RPF gl a):RPF gl (.mk op n us sub):=by
 intro x hx hok l tg xs htg hxs hls hll st;have hx0:=hx;obtain⟨t1,x1,t2,x2,rfl,hop,ht1,hx1,ht2,hx2⟩:=hx.mk;obtain⟨hok1,hok2,hok3⟩:=yY3 hok;simp only[Fm.size] at hll;have hsl1:=yZx us;have hsl2:=yVj sub;refine iI func224 ?_;simp only[go_sem,zE,zA,zL,fits];refine LoopC.ctr us.length (λk fr st' ds=>(∃tg' ys,fr 5=.box [.raw (.int .u8 op),.raw (.string n),.sl tg' ys,.sl ⟨true,.nil,0⟩ []]/\IsTms (yZg (yZ9 l) (us.take k)) ys/\own st' tg' k 3 st/\subSt st st') /\
  fr 1=.iv (.sl tg xs)/\fr 2=.box [.raw (.int .u8 op),.raw (.string n),.sl t1 x1,.sl t2 x2]/\fr 4=.box [.raw (.int .u8 0),.raw (.string ⟨#[]⟩),.sl ⟨true,.nil,0⟩ [],.sl ⟨true,.nil,0⟩ []]/\fr 6=.iv (.raw (.int .i64 k))/\ds=[]) ?_ ?_ ?_
 ·simp only[go_sem,zE];exact⟨⟨_,_,rfl,rfl,own.nil _ _ _ _ _,subSt.refl _⟩,rfl⟩
 ·rintro k fr st1 _ hlt ⟨⟨tg',ys,f5,hys,hown,hsub1⟩,f1,f2,f4,f6,rfl⟩;obtain⟨a,ha⟩:=yQ3 hlt;obtain⟨y,hky,hy⟩:=hx1.get ha;have hmem:=lMg ha;have hcall:=xYc gl l a y hy tg xs htg hxs (by have:=yY0 hmem;omega) (by omega) st1;have hlen2:ys.length=k:=by rw[hys.len,yZ5,List.length_take];omega
  have hnext:∀r,IsTm (yJq (yZ9 l) a) r->IsTms (yZg (yZ9 l) (us.take (k+1))) (ys++[r]):=λr hr=>by
   rw[yQ5 ha,yX3];exact hys.append (IsTms.one hr)
  obtain⟨v5,n5,t5,x5,rfl⟩:=hy.agg;simp only[go_sem,zE,zB,zA,f1,f2,f5,f6,hx1.len,lt_i hlt,yQ1 ht1,iNn,hky,fits];intros;refine hcall.mono ?_;rintro r _ ⟨hr,rfl⟩;have hn:=hnext r hr;obtain⟨v6,n6,t6,x6,rfl⟩:=hr.agg;simp only[go_sem,zE,zA,zM,zL,fits,yQ2];refine yX9 hown hlen2 hsub1 rfl (by simp[fits,IV.one]) (by simp only;omega) (by omega) λtg2 st2 hown2 hsub2 _=>?_;simp only[go_sem,zE,zA,zL,f1,f2,f4,f5,f6,yQ9 hlt (show us.length<=281474976710656 by omega)];exact⟨tg2,_,rfl,hn,hown2,hsub2⟩
 rintro fr st1 _ ⟨⟨ta,xa,f5,hxa,hown1,hsub1⟩,f1,f2,f4,f6,rfl⟩;rw[lTl] at hxa;have hta:=hown1.es;simp only[go_sem,zE,zA,zL,f2,f6,hx1.len,yQj (nLi _)];intros;refine (xJm gl op n _ _ _ _ _).mono ?_;rintro _ st1 ⟨rfl,rfl⟩;cases hq:isQ op
 ·simp only[go_sem];refine LoopC.ctr sub.length (λk fr st' ds=>(∃tg' ys,fr 5=.box [.raw (.int .u8 op),.raw (.string n),.sl ta xa,.sl tg' ys]/\IsFms (yXp l (sub.take k)) ys/\own st' tg' k 4 st1/\subSt st1 st') /\
   fr 1=.iv (.sl tg xs)/\fr 2=.box [.raw (.int .u8 op),.raw (.string n),.sl t1 x1,.sl t2 x2]/\fr 4=.box [.raw (.int .u8 0),.raw (.string ⟨#[]⟩),.sl ⟨true,.nil,0⟩ [],.sl ⟨true,.nil,0⟩ []]/\fr 14=.iv (.raw (.int .i64 k))/\ds=[]) ?_ ?_ ?_
  ·simp only[go_sem,zE,f1,f2,f4,f5];exact⟨⟨_,_,rfl,rfl,own.nil _ _ _ _ _,subSt.refl _⟩,rfl⟩
  ·rintro k fr st3 _ hlt ⟨⟨tg',ys,f5,hys,hown,hsub3⟩,f1,f2,f4,f14,rfl⟩;obtain⟨a,ha⟩:=yQ3 hlt;obtain⟨y,hky,hy⟩:=hx2.get ha;have hmem:=lMg ha;obtain⟨h1,h2⟩:=yXe ha;have hcall:=IH a hmem y hy (yZu hok2 hmem) l tg xs htg hxs hls (by omega) st3;have hlen2:ys.length=k:=by rw[hys.len,yXi,List.length_take];omega
   have hnext:∀r,IsFm (yJh l a) r->IsFms (yXp l (sub.take (k+1))) (ys++[r]):=λr hr=>by
    rw[yQ5 ha,yJk];exact hys.append (IsFms.one hr)
   obtain⟨o5,n5,t5,x5,t6,x6,rfl⟩:=hy.agg;simp only[go_sem,zE,zB,zA,f1,f2,f5,f14,hx2.len,lt_i hlt,yQ1 ht2,iNn,hky,fits];intros;refine hcall.mono ?_;rintro r _ ⟨hr,rfl⟩;have hn:=hnext r hr;obtain⟨o7,n7,t7,x7,t8,x8,rfl⟩:=hr.agg;simp only[go_sem,zE,zA,zM,zL,fits,yQ2];refine yX9 hown hlen2 hsub3 rfl (by simp[fits,IV.one]) (by simp only;omega) (by omega) λtg2 st4 hown2 hsub4 _=>?_;simp only[go_sem,zE,zA,zL,f1,f2,f4,f5,f14,yQ9 hlt (show sub.length<=281474976710656 by omega)];exact⟨tg2,_,rfl,hn,hown2,hsub4⟩
  rintro fr st3 _ ⟨⟨tb,xb,f5,hxb,hown,hsub3⟩,f1,f2,f4,f14,rfl⟩;rw[lTl] at hxb;simp only[go_sem,zE,zA,zL,f2,f4,f5,f14,hx2.len,yQj (nLi _)];intros;refine yQa (hsub1.trans hsub3) ⟨?_,rfl⟩;exact⟨ta,xa,tb,xb,by simp[hq],hop,hta,hxa,hown.es,by simpa[hq] using hxb⟩
 ·obtain⟨rfl,hnm,s,hsub,hsok⟩:=wK7 hq hok;obtain⟨z,hxz,hz⟩:∃z,x2[0]?=some z/\IsFm s z:=hx2.get (by rw[hsub];rfl);have hfs:frFs sub=frF s:=by rw[hsub];simp[frFs]
  have hssz:s.size<=1000000:=by
   have:yQ7 sub=s.size:=by rw[hsub];simp[yQ7]
   omega
  have hz0:=hz;obtain⟨os,ns,tu,xu,tv,xv,rfl⟩:=hz.agg;simp only[go_sem,zE,zB,zA,f2,fits,yQ1 ht2,show x2[Int.toNat 0]?=some _ from hxz];refine (wQ3 gl s _ hz0 (by omega) _).mono ?_;rintro _ st1 ⟨ti,inside,rfl,hti,hin,rfl⟩;have hinl:=hin.len;have hfl:=zKa s;simp only[go_sem,zE];refine LoopC.ctr l.length (λk fr st' ds=>(∃tc zc tt rt,fr 8=.iv (.sl tc zc)/\IsOnes (cntS (l.take k) n (frF s)) zc/\own st' tc (cntS (l.take k) n (frF s)).length 4 st1/\subSt st1 st'/\fr 9=.iv (.sl tt (strI rt))/\okEs tt 1/\SortedOf (frF s++(cntS (l.take k) n (frF s)).map (·.1)) rt) /\
   fr 1=.iv (.sl tg xs)/\fr 2=.box [.raw (.int .u8 op),.raw (.string n),.sl t1 x1,.sl t2 x2]/\fr 4=.box [.raw (.int .u8 0),.raw (.string ⟨#[]⟩),.sl ⟨true,.nil,0⟩ [],.sl ⟨true,.nil,0⟩ []] /\
   fr 5=.box [.raw (.int .u8 op),.raw (.string n),.sl ta xa,.sl ⟨true,.nil,0⟩ []]/\fr 7=.iv (.sl ti (strI inside))/\fr 10=.iv (.raw (.int .i64 k))/\ds=[]) ?_ ?_ ?_
  ·simp only[go_sem,zE,f1,f2,f4,f5];exact⟨⟨_,_,_,_,rfl,rfl,own.nil _ _ _ _ _,subSt.refl _,rfl,hti,by simpa[cntS] using hin⟩,rfl⟩
  ·rintro k fr st2 _ hlt ⟨⟨tc,zc,tt,rt,f8,hzc,hown2,hsub2,f9,htt,hrt⟩,f1,f2,f4,f5,f7,f10,rfl⟩;obtain⟨o,ho⟩:=yQ3 hlt;obtain⟨y,hky,v3,n3,t3,x3,rfl,hy⟩:=hxs.get ho;have hct:=wV2 (m:=n) (fr:=frF s) ho;have hclen:=wXb (l.take k) n (frF s);rw[List.length_take] at hclen;by_cases hn:o.1=n
   ·rw[dEt hn,Bool.not_true,Bool.and_false] at hct;simp only[bFt,if_false,List.append_nil] at hct;simp only[go_sem,zE,f1,f2,f4,f5,f7,f8,f9,f10,hxs.len,lt_i hlt,yQ1 htg,iNn,hky,fits,dEt hn,yQ9 hlt (show l.length<=281474976710656 by omega)];intros;exact⟨tc,zc,tt,rt,rfl,by rw[hct];exact hzc,by rw[hct];exact hown2,hsub2,rfl,htt,by rw[hct];exact hrt⟩
   ·simp only[go_sem,zE,zA,f1,f2,f7,f10,hxs.len,lt_i hlt,yQ1 htg,iNn,hky,fits,dEf hn];intros;refine (xGm gl ti inside o.1 hti (by omega) _).mono ?_;rintro _ st2 ⟨rfl,rfl⟩;have hhas:=zWj hin o.1;rw[dEf hn,Bool.not_false,Bool.and_true] at hct;cases hb:memB (frF s) o.1
    ·rw[hb] at hhas hct;simp only[bFt,if_false,List.append_nil] at hct;simp only[go_sem,zE,f1,f2,f4,f5,f7,f8,f9,f10,hhas,yQ9 hlt (show l.length<=281474976710656 by omega)];exact⟨tc,zc,tt,rt,rfl,by rw[hct];exact hzc,by rw[hct];exact hown2,hsub2,rfl,htt,by rw[hct];exact hrt⟩
    ·rw[hb] at hhas hct;simp only[if_true] at hct;simp only[go_sem,zE,zB,zA,zM,zL,f1,f8,f10,fits,hhas,yQ2,yQ1 htg,iNn,hky];refine yX9 hown2 hzc.len hsub2 rfl (by simp[fits,IV.one]) (by simp only;omega) (by omega) λtg2 st3 hown3 hsub3 _=>?_;simp only[go_sem,zE,zA,f1,f9,f10,fits,yQ1 htg,iNn,hky];refine (zXl gl _ rt tt htt hrt (by simp only[lLa,List.length_map];omega) o.1 _).mono ?_;rintro _ st3 ⟨t9,r9,rfl,ht9,hr9,rfl⟩;simp only[go_sem,zE,f1,f2,f4,f5,f7,f10,yQ9 hlt (show l.length<=281474976710656 by omega)];refine⟨tg2,_,t9,r9,rfl,?_,?_,hsub3,rfl,ht9,?_⟩
     ·rw[hct];exact hzc.append (IsOnes.one ⟨v3,n3,t3,x3,rfl,hy⟩)
     ·rw[hct,lLa];exact hown3
     ·rw[hct,List.map_append,<- List.append_assoc];exact hr9
  ·rintro fr st2 _ ⟨⟨tc,zc,tt,rt,f8,hzc,hown2,hsub2,f9,htt,hrt⟩,f1,f2,f4,f5,f7,f10,rfl⟩;rw[lTl] at hzc hown2 hrt;have hclen:=wXb l n (frF s);have hcm:∀p∈cntS l n (frF s),p.2.size<=1000000:=λp hp=>hls p (wXa hp).1;have hcn:∀p∈cntS l n (frF s),p.1∈frF s:=λp hp=>(wXa hp).2;have hus:yJ7 l n (frFs sub)=if (cntS l n (frF s)).any (λp=>memB (yQk p.2) n) then (yJn (frF s++(cntS l n (frF s)).flatMap λp=>yQk p.2),cntS l n (frF s)++[(n,.mk true (yJn (frF s++(cntS l n (frF s)).flatMap λp=>yQk p.2)) [])]) else (n,cntS l n (frF s)):=by
    rw[hfs];rfl
   generalize cntS l n (frF s)=cs at *;simp only[go_sem,zE,f1,f10,hxs.len,yQj (nLi _)];intros;refine LoopC.ctr cs.length (λk fr st' ds=>(∃tt rt,fr 9=.iv (.sl tt (strI rt))/\okEs tt 1/\SortedOf (frF s++cs.map (·.1)++(cs.take k).flatMap λp=>yQk p.2) rt)/\fr 11=.iv (.raw (.bool ((cs.take k).any λp=>memB (yQk p.2) n))) /\
    fr 1=.iv (.sl tg xs)/\fr 2=.box [.raw (.int .u8 op),.raw (.string n),.sl t1 x1,.sl t2 x2]/\fr 4=.box [.raw (.int .u8 0),.raw (.string ⟨#[]⟩),.sl ⟨true,.nil,0⟩ [],.sl ⟨true,.nil,0⟩ []] /\
    fr 5=.box [.raw (.int .u8 op),.raw (.string n),.sl ta xa,.sl ⟨true,.nil,0⟩ []]/\fr 8=.iv (.sl tc zc)/\fr 12=.iv (.raw (.int .i64 k))/\st'=st2/\ds=[]) ?_ ?_ ?_
   ·simp only[go_sem,zE,f1,f2,f4,f5,f8,f9];exact⟨⟨_,_,rfl,htt,by simpa using hrt⟩,rfl,rfl⟩
   ·rintro k fr st2 _ hlt ⟨⟨tt,rt,f9,htt,hrt⟩,f11,f1,f2,f4,f5,f8,f12,rfl,rfl⟩;obtain⟨o,ho⟩:=yQ3 hlt;obtain⟨y,hky,v3,n3,t3,x3,rfl,hy⟩:=hzc.get ho;have hosz:=hcm o (lMg ho);have hbl:=xVw (c:=cs.take k) (M:=1000000) (λp hp=>hcm p (List.mem_of_mem_take hp));have hctk:(cs.take k).length<=cs.length:=by rw[List.length_take];omega
    have hnl:=yKm o.2;have hmul:(cs.take k).length*1000000+1000000<=1000000*1000000:=by omega
    simp only[go_sem,zE,zB,zA,zL,f8,f12,hzc.len,lt_i hlt,yQ1 hown2.es,iNn,hky,fits];intros;refine (zJj gl o.2 _ hy (by omega) _).mono ?_;rintro _ st2 ⟨t4,l4,rfl,ht4,hl4,rfl⟩;have hl4l:=hl4.len;simp only[go_sem,zE,zA,f2];refine (xGm gl t4 l4 n ht4 (by omega) _).mono ?_;rintro _ st2 ⟨rfl,rfl⟩;have hhas:=zWj hl4 n;have hmc:∀st,ICall prog gl 193 [.sl tt (strI rt),.sl t4 (strI l4)] st (zV0 (frF s++cs.map (·.1)++(cs.take k).flatMap (λp=>yQk p.2)++l4) st):=λst=>zG0 gl _ rt tt htt hrt l4 t4 ht4 (by
     simp only[lLa,List.length_map];omega) st
    have hnx:∀r,SortedOf (frF s++cs.map (·.1)++(cs.take k).flatMap (λp=>yQk p.2)++l4) r->SortedOf (frF s++cs.map (·.1)++(cs.take (k+1)).flatMap λp=>yQk p.2) r:=λr hr=>by
     refine hr.congr λx=>?_;rw[yQ5 ho,List.flatMap_append];simp only[List.mem_append,List.flatMap_cons,List.flatMap_nil,List.append_nil,hl4.2 x];exact or_assoc
    have hany:(cs.take (k+1)).any (λp=>memB (yQk p.2) n)=((cs.take k).any (λp=>memB (yQk p.2) n) || memB (yQk o.2) n):=by rw[yQ5 ho,List.any_append];simp
    cases hb:memB (yQk o.2) n
    ·rw[hb] at hhas hany;simp only[go_sem,zE,zA,f9,hhas];refine (hmc _).mono ?_;rintro _ st2 ⟨t9,r9,rfl,ht9,hr9,rfl⟩;simp only[go_sem,zE,f1,f2,f4,f5,f8,f11,f12,yQ9 hlt (show cs.length<=281474976710656 by omega)];exact⟨⟨t9,r9,rfl,ht9,hnx _ hr9⟩,by rw[hany,Bool.or_false]⟩
    ·rw[hb] at hhas hany;simp only[go_sem,zE,zA,f9,hhas];refine (hmc _).mono ?_;rintro _ st2 ⟨t9,r9,rfl,ht9,hr9,rfl⟩;simp only[go_sem,zE,f1,f2,f4,f5,f8,f12,yQ9 hlt (show cs.length<=281474976710656 by omega)];exact⟨⟨t9,r9,rfl,ht9,hnx _ hr9⟩,by rw[hany,Bool.or_true]⟩
   ·rintro fr st2 _ ⟨⟨tt,rt,f9,htt,hrt⟩,f11,f1,f2,f4,f5,f8,f12,rfl,rfl⟩;rw[lTl] at hrt f11;have hle:yJn rt=yJn (frF s++cs.flatMap λp=>yQk p.2):=zZv λx=>by
     rw[hrt.2 x];simp only[List.mem_append];constructor
     ·rintro ((h|h)|h)
      ·exact .inl h
      ·obtain⟨p,hp,rfl⟩:=List.mem_map.1 h;exact .inl (hcn p hp)
      ·exact .inr h
     ·rintro (h|h)
      ·exact .inl (.inl h)
      ·exact .inr h
    have hrl:=hrt.len;have hbl:=xVw (c:=cs) (M:=1000000) hcm;simp only[lLa,List.length_map] at hrl;cases hc:cs.any λp=>memB (yQk p.2) n
    ·rw[hc] at f11 hus;simp only[bFt,if_false] at hus;simp only[go_sem,zE,f8,f11,f12,hzc.len,yQj (nLi _)];intros;refine LoopC.ctr sub.length (λk fr st' ds=>(∃tg' ys,fr 5=.box [.raw (.int .u8 op),.raw (.string n),.sl ta xa,.sl tg' ys]/\IsFms (yXp cs (sub.take k)) ys/\own st' tg' k 4 st2/\subSt st2 st') /\
      fr 1=.iv (.sl tc zc)/\fr 2=.box [.raw (.int .u8 op),.raw (.string n),.sl t1 x1,.sl t2 x2]/\fr 4=.box [.raw (.int .u8 0),.raw (.string ⟨#[]⟩),.sl ⟨true,.nil,0⟩ [],.sl ⟨true,.nil,0⟩ []]/\fr 14=.iv (.raw (.int .i64 k))/\ds=[]) ?_ ?_ ?_
     ·simp only[go_sem,zE,f2,f4,f5];exact⟨⟨_,_,rfl,rfl,own.nil _ _ _ _ _,subSt.refl _⟩,rfl⟩
     ·rintro k fr st3 _ hlt ⟨⟨tg',ys,f5,hys,hown,hsub3⟩,f1,f2,f4,f14,rfl⟩;obtain⟨a,ha⟩:=yQ3 hlt;obtain⟨y,hky,hy⟩:=hx2.get ha;have hmem:=lMg ha;obtain⟨h1,h2⟩:=yXe ha;have hcall:=IH a hmem y hy (yZu hok2 hmem) cs tc zc hown2.es hzc hcm (by omega) st3;have hlen2:ys.length=k:=by rw[hys.len,yXi,List.length_take];omega
      have hnext:∀r,IsFm (yJh cs a) r->IsFms (yXp cs (sub.take (k+1))) (ys++[r]):=λr hr=>by
       rw[yQ5 ha,yJk];exact hys.append (IsFms.one hr)
      obtain⟨o5,n5,t5,x5,t6,x6,rfl⟩:=hy.agg;simp only[go_sem,zE,zB,zA,f1,f2,f5,f14,hx2.len,lt_i hlt,yQ1 ht2,iNn,hky,fits];intros;refine hcall.mono ?_;rintro r _ ⟨hr,rfl⟩;have hn:=hnext r hr;obtain⟨o7,n7,t7,x7,t8,x8,rfl⟩:=hr.agg;simp only[go_sem,zE,zA,zM,zL,fits,yQ2];refine yX9 hown hlen2 hsub3 rfl (by simp[fits,IV.one]) (by simp only;omega) (by omega) λtg2 st4 hown2 hsub4 _=>?_;simp only[go_sem,zE,zA,zL,f1,f2,f4,f5,f14,yQ9 hlt (show sub.length<=281474976710656 by omega)];exact⟨tg2,_,rfl,hn,hown2,hsub4⟩
     rintro fr st3 _ ⟨⟨tb,xb,f5,hxb,hown,hsub3⟩,f1,f2,f4,f14,rfl⟩;rw[lTl] at hxb;simp only[go_sem,zE,zA,zL,f2,f4,f5,f14,hx2.len,yQj (nLi _)];intros;refine yQa ((hsub1.trans hsub2).trans hsub3) ⟨?_,rfl⟩;exact⟨ta,xa,tb,xb,by simp[hq,hus],hop,hta,hxa,hown.es,by simpa[hq,hus] using hxb⟩
    ·rw[hc] at f11 hus;simp only[if_true] at hus;simp only[go_sem,zE,zA,f8,f9,f11,f12,hzc.len,yQj (nLi _)];intros;refine (wJx gl tt htt rt (by omega) _).mono ?_;rintro _ st2 ⟨rfl,rfl⟩;rw[hle];simp only[go_sem,zE,zA,zM,zL,f2,f5,f8,fits,yQ2];refine yX9 hown2 hzc.len hsub2 rfl (by simp[fits,IV.one]) (by simp only;omega) (by omega) λtg2 st5 hown5 hsub5 _=>?_;simp only[go_sem];generalize yJn (frF s++cs.flatMap λp=>yQk p.2)=new at *;have hones:IsOnes (cs++[(n,Tm.mk true new [])]) (zc++[.agg [.raw (.string n),.raw (.bool true),.raw (.string new),.sl ⟨true,.nil,0⟩ []]]):=hzc.append (IsOnes.one ⟨_,_,_,_,rfl,_,[],rfl,.inl rfl,rfl⟩);have hcm2:∀p∈cs++[(n,Tm.mk true new [])],p.2.size<=1000000:=λp hp=>by
      rcases List.mem_append.1 hp with hp|hp
      ·exact hcm p hp
      ·rw[List.mem_singleton] at hp;subst hp;simp[Tm.size,yQ8]
     have hll5:(cs++[(n,Tm.mk true new [])]).length=cs.length+1:=by simp
     refine LoopC.ctr sub.length (λk fr st' ds=>(∃tg' ys,fr 5=.box [.raw (.int .u8 op),.raw (.string new),.sl ta xa,.sl tg' ys]/\IsFms (yXp (cs++[(n,Tm.mk true new [])]) (sub.take k)) ys/\own st' tg' k 4 st5/\subSt st5 st') /\
      fr 1=.iv (.sl tg2 (zc++[.agg [.raw (.string n),.raw (.bool true),.raw (.string new),.sl ⟨true,.nil,0⟩ []]]))/\fr 2=.box [.raw (.int .u8 op),.raw (.string n),.sl t1 x1,.sl t2 x2]/\fr 4=.box [.raw (.int .u8 0),.raw (.string ⟨#[]⟩),.sl ⟨true,.nil,0⟩ [],.sl ⟨true,.nil,0⟩ []]/\fr 14=.iv (.raw (.int .i64 k))/\ds=[]) ?_ ?_ ?_
     ·simp only[go_sem,zE,f2,f4];exact⟨⟨_,_,rfl,rfl,own.nil _ _ _ _ _,subSt.refl _⟩,rfl⟩
     ·rintro k fr st3 _ hlt ⟨⟨tg',ys,f5,hys,hown,hsub3⟩,f1,f2,f4,f14,rfl⟩;obtain⟨a,ha⟩:=yQ3 hlt;obtain⟨y,hky,hy⟩:=hx2.get ha;have hmem:=lMg ha;obtain⟨h1,h2⟩:=yXe ha;have hcall:=IH a hmem y hy (yZu hok2 hmem) (cs++[(n,Tm.mk true new [])]) tg2 (zc++[.agg [.raw (.string n),.raw (.bool true),.raw (.string new),.sl ⟨true,.nil,0⟩ []]]) hown5.es hones hcm2 (by omega) st3;have hlen2:ys.length=k:=by rw[hys.len,yXi,List.length_take];omega
      have hnext:∀r,IsFm (yJh (cs++[(n,Tm.mk true new [])]) a) r->IsFms (yXp (cs++[(n,Tm.mk true new [])]) (sub.take (k+1))) (ys++[r]):=λr hr=>by
       rw[yQ5 ha,yJk];exact hys.append (IsFms.one hr)
      obtain⟨o5,n5,t5,x5,t6,x6,rfl⟩:=hy.agg;simp only[go_sem,zE,zB,zA,f1,f2,f5,f14,hx2.len,lt_i hlt,yQ1 ht2,iNn,hky,fits];intros;refine hcall.mono ?_;rintro r _ ⟨hr,rfl⟩;have hn:=hnext r hr;obtain⟨o7,n7,t7,x7,t8,x8,rfl⟩:=hr.agg;simp only[go_sem,zE,zA,zM,zL,fits,yQ2];refine yX9 hown hlen2 hsub3 rfl (by simp[fits,IV.one]) (by simp only;omega) (by omega) λtg2 st4 hown2 hsub4 _=>?_;simp only[go_sem,zE,zA,zL,f1,f2,f4,f5,f14,yQ9 hlt (show sub.length<=281474976710656 by omega)];exact⟨tg2,_,rfl,hn,hown2,hsub4⟩
     rintro fr st3 _ ⟨⟨tb,xb,f5,hxb,hown,hsub3⟩,f1,f2,f4,f14,rfl⟩;rw[lTl] at hxb;simp only[go_sem,zE,zA,zL,f2,f4,f5,f14,hx2.len,yQj (nLi _)];intros;refine yQa ((hsub1.trans hsub5).trans hsub3) ⟨?_,rfl⟩;exact⟨ta,xa,tb,xb,by simp[hq,hus],hop,hta,hxa,hown.es,by simpa[hq,hus] using hxb⟩
theorem xKk:∀(k:Nat)(t:Fm),SizeOf.sizeOf t<k->RPF gl t
 | 0,f,h=>by omega
 | k+1,.mk o n us sub,h=>xUu gl o n us sub (λa ha=>xKk k a (by
   have:=lSm ha;simp at h;omega))
theorem vZp (t:Fm):RPF gl t:=xKk gl _ t (Nat.lt_succ_self _)
