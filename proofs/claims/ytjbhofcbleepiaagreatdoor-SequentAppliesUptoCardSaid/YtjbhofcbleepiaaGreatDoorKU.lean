/- What is put and is not free makes no dif -/
import Derived.Test.YtjbhofcbleepiaaGreatDoorKB
import Derived.Test.YtjbhofcbleepiaaGreatDoorLH
set_option linter.all false
namespace Go.Proofs.Tryz
open Go Go.Iv
mutual
theorem xG6 {F G:ByteArray→Option Tm}:∀ t:Tm,(∀ n∈yQo t,F n=G n)→yJl F t=yJl G t
 | .mk true n l,h=>by
  have h1:=h n (by simp[yQo])
  have h2:=yY7 l fun m hm=>h m (by simp[yQo,hm])
  simp only[yJl,h1,h2]
 | .mk false n l,h=>by
  have h2:=yY7 l fun m hm=>h m (by simp[yQo,hm])
  simp only[yJl,h2]
theorem yY7 {F G:ByteArray→Option Tm}:∀ l:List Tm,(∀ n∈yQi l,F n=G n)→yZe F l=yZe G l
 | [],_=>rfl
 | a::l,h=>by
  have h1:=xG6 a fun m hm=>h m (by simp[yQi,hm])
  have h2:=yY7 l fun m hm=>h m (by simp[yQi,hm])
  simp only[yZe,h1,h2]
end
theorem wZ6 {l:Sb}{fr:List ByteArray}{n:ByteArray}(h:n∈fr):yZa (yG8 l fr) n=yZa l n:=by
 unfold yZa yG8
 rw[List.find?_filter]
 congr 2
 funext p
 by_cases hp:p.1=n
 ·simp[hp,h]
 ·simp[hp]
theorem wVm {l:Sb}{fr g:List ByteArray}{m:ByteArray}(h:∀ n∈g,n≠m→n∈fr):cntS (yG8 l fr) m g=cntS l m g:=by
 unfold cntS yG8
 rw[List.filter_filter]
 refine List.filter_congr fun p _=>?_
 cases h1:memB g p.1
 ·simp
 ·by_cases h2:p.1=m
  ·simp[h2]
  ·simp[h2,yX2.2 (h _ (yX2.1 h1) h2)]
theorem xYb {l:Sb}{fr g:List ByteArray}{m:ByteArray}(h:∀ n∈g,n≠m→n∈fr):yJ1 (yG8 l fr) m g=yJ1 l m g:=by
 unfold yJ1 zYm yU9
 rw[wVm h]
mutual
theorem xZt:∀ (f:Fm)(l:Sb)(fr:List ByteArray),(∀ n∈frF f,n∈fr)→yJd (yG8 l fr) f=yJd l f
 | .mk op m us sub,l,fr,h=>by
  have h1:yZe (yZa (yG8 l fr)) us=yZe (yZa l) us:=yY7 us fun n hn=>wZ6 (h n (by simp[frF,hn]))
  cases hq:isQ op
  ·have h2:=zYg sub l fr fun n hn=>h n (by simp[frF,hq,hn])
   simp only[yJd,hq,bFt,if_false,h1,h2]
  ·have h2:yJ1 (yG8 l fr) m (frFs sub)=yJ1 l m (frFs sub):=xYb fun n hn hne=>h n (by simp[frF,hq,hn,hne])
   simp only[yJd,hq,if_true,h1,h2]
theorem zYg:∀ (f:List Fm)(l:Sb)(fr:List ByteArray),(∀ n∈frFs f,n∈fr)→yXj (yG8 l fr) f=yXj l f
 | [],_,_,_=>rfl
 | a::f,l,fr,h=>by
  have h1:=xZt a l fr fun n hn=>h n (by simp[frFs,hn])
  have h2:=zYg f l fr fun n hn=>h n (by simp[frFs,hn])
  simp only[yXj,h1,h2]
end
theorem xGn (f:Fm)(l:Sb):yJd (yG8 l (frF f)) f=yJd l f:=xZt f l _ fun _ h=>h
mutual
theorem wKv {F:ByteArray→Option Tm}{M:Nat}(hM:1≤M)(hF:∀ n u,F n=some u→u.size≤M):∀ t:Tm,(yJl F t).size≤t.size*M
 | .mk true n l=>by
  have ih:=zQp hM hF l
  cases h:F n with
  | some u =>
   have:=hF n u h
   simp only[yJl,h,Tm.size]
   have h1:1*M≤(yQ8 l+1)*M:=Nat.mul_le_mul_right _ (by omega)
   omega
  | none =>
   simp only[yJl,h,Tm.size,Nat.add_mul]
   omega
 | .mk false n l=>by
  have ih:=zQp hM hF l
  simp only[yJl,Tm.size,Nat.add_mul]
  omega
theorem zQp {F:ByteArray→Option Tm}{M:Nat}(hM:1≤M)(hF:∀ n u,F n=some u→u.size≤M):∀ l:List Tm,yQ8 (yZe F l)≤yQ8 l*M
 | []=>by simp[yZe,yQ8]
 | a::l=>by
  have h1:=wKv hM hF a
  have h2:=zQp hM hF l
  simp only[yZe,yQ8,Nat.add_mul]
  omega
end
theorem wUg {l:Sb}{M:Nat}(h:∀ p∈l,p.2.size≤M)(n:ByteArray)(u:Tm)(hu:yZa l n=some u):u.size≤M:=by
 unfold yZa at hu
 obtain⟨p,hp,rfl⟩:=Option.map_eq_some_iff.1 hu
 exact h p (List.mem_of_find?_eq_some hp)
theorem wJo {l:Sb}{M:Nat}(hM:1≤M)(h:∀ p∈l,p.2.size≤M)(m:ByteArray)(fr:List ByteArray):∀ p∈(yJ1 l m fr).2,p.2.size≤M:=by
 have hc:∀ p∈cntS l m fr,p.2.size≤M:=fun p hp=>h p (List.mem_filter.1 hp).1
 unfold yJ1
 split
 ·intro p hp
  rcases List.mem_append.1 hp with hp | hp
  ·exact hc p hp
  ·rw[List.mem_singleton] at hp
   subst hp
   simpa[Tm.size,yQ8] using hM
 ·exact hc
mutual
theorem xWo {M:Nat}(hM:1≤M):∀ (f:Fm) (l:Sb),(∀ p∈l,p.2.size≤M)→(yJd l f).size≤f.size*M
 | .mk op m us sub,l,h=>by
  have h1:=zQp hM (wUg h) us
  have h2:=xZu hM sub (if isQ op then (yJ1 l m (frFs sub)).2 else l) (by
   split
   ·exact wJo hM h _ _
   ·exact h)
  simp only[yJd,Fm.size,Nat.add_mul]
  omega
theorem xZu {M:Nat}(hM:1≤M):∀ (f:List Fm) (l:Sb),(∀ p∈l,p.2.size≤M)→yQ7 (yXj l f)≤yQ7 f*M
 | [],_,_=>by simp[yXj,yQ7]
 | a::f,l,h=>by
  have h1:=xWo hM a l h
  have h2:=xZu hM f l h
  simp only[yXj,yQ7,Nat.add_mul]
  omega
end
theorem xGk {l:Sb}{k:Nat}{p:ByteArray×Tm}(hp:l[k]?=some p)(hg:yVv [] (l.take k)=true):yVv [] (l.take (k+1))=(yKg p.1&&p.2.ok&&!memB ((l.take k).map (·.1)) p.1):=by
 rw[yQ4 hp,yKs,hg]; simp[yVv]
theorem zKs {l:Sb}{k:Nat}(h:yVv [] (l.take (k+1))=false):yVv [] l=false:=by
 rw[← List.take_append_drop (k+1) l,yKs,h]; rfl
theorem xJg (f:Fm)(l:Sb):yZc f l=if f.right&&yVv [] l then (if decide ((yJd l f).size≤400)&&decide ((yJd l f).deep≤40) then (yJd l f,0) else (fm0,3)) else (fm0,2):=by
 unfold yZc; rw[xGn]
end Go.Proofs.Tryz
namespace Go.Proofs.Tryz
open Go Go.Iv
set_option maxRecDepth 4000
variable (gl:Nat→Option IV)
theorem wU0 (f:Fm)(x:IV)(hx:IsFm f x)(hs:f.size≤500000)(l:Sb)(tg:Tag)(xs:List IV)(htg:okEs tg 4)(hxs:IsOnes l xs)(hl:l.length≤500000)(hls:∀ p∈l,p.2.size≤1000000)(st:ISt) :
  ICall prog gl 115 [x,.sl tg xs] st (FE (yZc f l).1 (yZc f l).2 st):=by
 have hright:=fun st=>zJ2 gl f x hx (by omega) st
 have hput:=fun hok st=>vXl gl f x hx hok l tg xs htg hxs hls (by omega) st
 have hsz:=xWo (M:=1000000) (by omega) f l hls
 have hbadl:yVv [] l=false→yZc f l=(fm0,2):=fun h=>by rw[xJg,h,Bool.and_false]; rfl
 obtain⟨o0,n0,ta,xa,tb,xb,rfl⟩:=hx.agg
 refine iI func115 rfl rfl (by kernel_rfl) ?_
 simp(config:=zzC)only[go_sem,fits]
 refine (hright _).mono ?_
 rintro _ st ⟨rfl,rfl⟩
 cases hr:f.right
 ·have hE:yZc f l=(fm0,2):=by rw[xJg,hr]; rfl
  rw[hE]
  simp(config:=zzC)only[go_sem,fits]
  exact yQ0 ⟨_,rfl,xZv _ _ (.inl rfl) (.inl rfl),rfl⟩
 have hok:=(yJp hr).1
 have hf4:=(yJp hr).2.1
 simp(config:=zzC)only[go_sem,fits]
 refine LoopC.ctr l.length (fun k fr st' ds=>yVv [] (l.take k)=true∧fr 1=.iv (.sl tg xs)∧fr 2=.box [.raw (.int .u8 o0),.raw (.string n0),.sl ta xa,.sl tb xb]∧fr 4=.box [.raw (.int .u8 0),.raw (.string ⟨#[]⟩),.sl ⟨true,.nil,0⟩ [],.sl ⟨true,.nil,0⟩ []] ∧
  fr 6=.iv (.raw (.int .i64 k))∧st'=st∧ds=[]) ?_ ?_ ?_
 ·simp(config:=zzC)only[go_sem]
  exact⟨rfl,rfl⟩
 ·rintro k fr st _ hlt ⟨hg,f1,f2,f4,f6,rfl,rfl⟩
  obtain⟨p,hp⟩:=yQ3 hlt
  obtain⟨y,hky,v3,n3,t3,x3,rfl,hy⟩:=hxs.get hp
  have hps:=hls p (lMg hp)
  have hg1:=xGk hp hg
  cases hv1:yKg p.1
  ·rw[hbadl (zKs (by rw[hg1,hv1]; rfl))]
   simp(config:=zzC)only[go_sem,f1,f2,f4,f6,hxs.len,lt_i hlt,yQ2 htg,iNn,hky,fits]
   intros
   refine (yJr gl p.1 _).mono ?_
   rintro _ st ⟨rfl,rfl⟩
   simp(config:=zzC)only[go_sem,f1,f2,f4,f6,hv1,fits]
   exact yQ0 ⟨_,rfl,xZv _ _ (.inl rfl) (.inl rfl),rfl⟩
  simp(config:=zzC)only[go_sem,f1,f2,f4,f6,hxs.len,lt_i hlt,yQ2 htg,iNn,hky,fits]
  intros
  refine (yJr gl p.1 _).mono ?_
  rintro _ st ⟨rfl,rfl⟩
  simp(config:=zzC)only[go_sem,f1,f2,f4,f6,hv1,fits,yQ2 htg,iNn,hky]
  refine (zK7 gl p.2 _ hy (by omega) _).mono ?_
  rintro _ st ⟨rfl,rfl⟩
  cases hv2:p.2.ok
  ·rw[hbadl (zKs (by rw[hg1,hv1,hv2]; rfl))]
   simp(config:=zzC)only[go_sem,f1,f2,f4,f6,hv2,fits]
   exact yQ0 ⟨_,rfl,xZv _ _ (.inl rfl) (.inl rfl),rfl⟩
  simp(config:=zzC)only[go_sem,f1,f2,f4,f6,hv2,fits]
  refine LoopC.ctr k (fun j fr st' ds=>(∀ q∈l.take j,q.1≠p.1)∧fr 1=.iv (.sl tg xs)∧fr 2=.box [.raw (.int .u8 o0),.raw (.string n0),.sl ta xa,.sl tb xb]∧fr 4=.box [.raw (.int .u8 0),.raw (.string ⟨#[]⟩),.sl ⟨true,.nil,0⟩ [],.sl ⟨true,.nil,0⟩ []] ∧
   fr 6=.iv (.raw (.int .i64 k))∧fr 7=.iv (.raw (.int .i64 j))∧st'=st∧ds=[]) ?_ ?_ ?_
  ·simp(config:=zzC)only[go_sem,f1,f2,f4,f6]
   exact⟨(fun q hq=>by cases hq),rfl⟩
  ·rintro j fr st _ hjk ⟨hne,f1,f2,f4,f6,f7,rfl,rfl⟩
   obtain⟨q,hq⟩:=yQ3 (show j<l.length by omega)
   obtain⟨y4,hky4,v4,n4,t4,x4,rfl,hy4⟩:=hxs.get hq
   by_cases hqp:q.1=p.1
   ·have hmem:memB ((l.take k).map (·.1)) p.1=true:=yX2.2 (List.mem_map.2 ⟨q,lMg (show (l.take k)[j]?=some q by rw[List.getElem?_take,if_pos hjk]; exact hq),hqp⟩)
    rw[hbadl (zKs (by rw[hg1,hv1,hv2,hmem]; rfl))]
    simp(config:=zzC)only[go_sem,f1,f2,f4,f6,f7,lt_i hjk,yQ2 htg,iNn,hky,hky4,dEt hqp,fits]
    exact yQ0 ⟨_,rfl,xZv _ _ (.inl rfl) (.inl rfl),rfl⟩
   ·simp(config:=zzC)only[go_sem,f1,f2,f4,f6,f7,lt_i hjk,yQ2 htg,iNn,hky,hky4,dEf hqp,fits,yQa hjk (show k≤281474976710656 by omega)]
    intro r hr
    rw[yQ4 hq] at hr
    rcases List.mem_append.1 hr with hr | hr
    ·exact hne r hr
    ·rw[List.mem_singleton] at hr; subst hr; exact hqp
  ·rintro fr st _ ⟨hne,f1,f2,f4,f6,f7,rfl,rfl⟩
   simp(config:=zzC)only[go_sem,f1,f2,f4,f6,f7,yQm (nLi _),fits,yQa hlt (show l.length≤281474976710656 by omega)]
   have hmem:memB ((l.take k).map (·.1)) p.1=false:=zQo.2 fun h=>by
    obtain⟨q,hq,he⟩:=List.mem_map.1 h
    exact hne q hq he
   rw[hg1,hv1,hv2,hmem]
   rfl
 ·rintro fr st _ ⟨hg,f1,f2,f4,f6,rfl,rfl⟩
  rw[lTl] at hg
  have hP:yZc f l=if decide ((yJd l f).size≤400)&&decide ((yJd l f).deep≤40) then (yJd l f,0) else (fm0,3):=by
   rw[xJg,hr,hg]; rfl
  rw[hP]
  simp(config:=zzC)only[go_sem,f1,f2,f4,f6,hxs.len,yQm (nLi _),fits]
  intros
  refine (hput hok _).mono ?_
  rintro g st ⟨hgv,rfl⟩
  generalize yJd l f=gf at *
  have hgv0:=hgv
  have hnod:=fun st=>xVj gl gf g hgv (by omega) st
  have hdep:=fun st=>xVk gl gf g hgv (by omega) st
  obtain⟨o5,n5,t5,x5,t6,x6,rfl⟩:=hgv.agg
  simp(config:=zzC)only[go_sem,f1,f2,f4,f6,fits]
  refine (hnod _).mono ?_
  rintro _ st ⟨rfl,rfl⟩
  by_cases hz:gf.size≤400
  ·simp(config:=zzC)only[go_sem,f1,f2,f4,f6,fits,show decide ((400:Int)<(gf.size:Int))=false from dEf (by omega)]
   refine (hdep _).mono ?_
   rintro _ st ⟨rfl,rfl⟩
   rw[dEt hz]
   by_cases hd:gf.deep≤40
   ·rw[dEt hd]
    simp only[Bool.and_self,if_true]
    simp(config:=zzC)only[go_sem,f1,f2,f4,f6,fits,show decide ((40:Int)<(gf.deep:Int))=false from dEf (by omega)]
    exact yQ0 ⟨_,rfl,hgv0,rfl⟩
   ·rw[dEf hd]
    simp only[Bool.and_false,bFt,if_false]
    simp(config:=zzC)only[go_sem,f1,f2,f4,f6,fits,show decide ((40:Int)<(gf.deep:Int))=true from dEt (by omega)]
    exact yQ0 ⟨_,rfl,xZv _ _ (.inl rfl) (.inl rfl),rfl⟩
  ·rw[dEf hz]
   simp only[Bool.false_and,bFt,if_false]
   simp(config:=zzC)only[go_sem,f1,f2,f4,f6,fits,show decide ((400:Int)<(gf.size:Int))=true from dEt (by omega)]
   exact yQ0 ⟨_,rfl,xZv _ _ (.inl rfl) (.inl rfl),rfl⟩
theorem xVi (f:Fm)(x:IV)(hx:IsFm f x)(hs:f.size≤500000)(nm:ByteArray)(t:Tm)(y:IV)(hy:IsTm t y)(ht:t.size≤1000000)(st:ISt) :
  ICall prog gl 68 [x,.raw (.string nm),y] st (FE (yZc f [(nm,t)]).1 (yZc f [(nm,t)]).2 st):=by
 obtain⟨v,n3,t3,x3,rfl⟩:=hy.agg
 have hones:IsOnes [(nm,t)] [.agg [.raw (.string nm),.raw (.bool v),.raw (.string n3),.sl t3 x3]]:=⟨_,[],rfl,⟨v,n3,t3,x3,rfl,hy⟩,rfl⟩
 have hc:=fun tg htg st=>wU0 gl f x hx hs [(nm,t)] tg _ htg hones (by simp) (fun p hp=>by rw[List.mem_singleton] at hp; subst hp; exact ht) st
 obtain⟨o0,n0,ta,xa,tb,xb,rfl⟩:=hx.agg
 refine iI func68 rfl rfl (by kernel_rfl) ?_
 simp(config:=zzC)only[go_sem,fits,yQ1]
 refine (hc _ (by simp only[go_sem]) _).mono ?_
 rintro _ _ ⟨z,rfl,hz,rfl⟩
 obtain⟨o5,n5,t5,x5,t6,x6,rfl⟩:=hz.agg
 simp(config:=zzC)only[go_sem,fits]
 exact yQ0 ⟨_,rfl,hz,rfl⟩
end Go.Proofs.Tryz
