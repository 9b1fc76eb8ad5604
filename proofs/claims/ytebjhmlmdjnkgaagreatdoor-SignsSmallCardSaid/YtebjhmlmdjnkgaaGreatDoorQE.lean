/-  -/
import Derived.Test.YtebjhmlmdjnkgaaGreatDoorQD
set_option linter.all false
open Nat renaming reduceEqDiff → zE,reduceBEq → zB,reduceAdd → zA,reduceMul → zM,reduceSub → zS,reduceLeDiff → zL
namespace Go.Proofs.Tryz
open Go Go.Iv
set_option maxRecDepth 4000
variable (gl:Nat->Option IV)
theorem wZz (rd:IV)(m:Nat)(hrd:rd=.agg [.raw (.map (some m))])(t:Tr)(x:IV)(hx:IsTr t x)(hl:(xYz t).length<=1000000)(st:ISt) :
  ICall prog gl 77 [rd,x,.agg []] st (λr st'=>∃ts xs,r=.tup [.sl ts xs,.sl ⟨false,.none,0⟩ (List.replicate (xYz t).length (.agg []))]/\okEs ts 12/\IsTrs (xYz t) xs/\st'=st):=by
 subst hrd;obtain⟨rule,s,mn,u,nm,sub⟩:=t;obtain⟨tl,xl,tr,xr,op,fn,ta,xa,tb,xb,v,un,tu,xu,ts,xs,rfl,hru,e1,i1,e2,i2,hy,hz,e3,i3⟩:=hx.mk;have hc:((sub.length:Int)*0<=140737488355328)=True:=eq_true (by omega);refine ICall.intro (c:=cf prog gl [] [(1,[0,1,2,3,4,6,5,7])]) func77 rfl (by show _<=14;simp) (by kernel_rfl) ?_;simp only[go_sem,zE,zB,zA,zM,zS,zL,reduceCtorEq,fits,i3.len];have hl':sub.length<=1000000:=hl;refine yZg ⟨by omega,by simp,by omega⟩ (yQ0 ⟨ts,xs,rfl,e3,i3,rfl⟩)
def NdP (b c:Bool)(f:Fm)(sv r:IV):Prop:=∃o n t xs t' ys,r=.agg [.raw (.bool b),.raw (.int .i64 0),.raw (.int .u8 o),.raw (.string n),.sl t xs,.sl t' ys,.raw (.bool c),.raw (.int .i64 0),sv]/\IsFmD f (.agg [.raw (.int .u8 o),.raw (.string n),.sl t xs,.sl t' ys])
theorem wGm (rd:IV)(m:Nat)(hrd:rd=.agg [.raw (.map (some m))])(rule:Nat)(s:Sq)(mn:Fm)(u:Tm)(nm:ByteArray)(sb:List Tr)(x:IV)(hx:IsTr (.mk rule s mn u nm sb) x)(g k:Nat)(hsz:mn.size<=1099511627776)(st:ISt)(es:List (Value×IV))(hm:st m=some (.map (.int .u8) es))(hl:zW1 es) :
  ICall prog gl 78 [rd,x,.agg [],.raw (.slice (some ⟨g,0,none⟩) k k)] st (λr st'=>NdP (yV8 rule) (decide (rule=1) || decide (rule=2)) mn (.raw (.slice (some ⟨g,0,none⟩) k k)) r/\st'=st):=by
 subst hrd;obtain⟨tl,xl,tr,xr,op,fn,ta,xa,tb,xb,v,un,tu,xu,ts,xs,rfl,hru,e1,i1,e2,i2,hy,hz,e3,i3⟩:=hx.mk;have hcopy:=zQ2 gl mn _ hy hsz st;have hlk:=hl rule;have hk8:((rule:Int)=1)=(rule=1):=by simp;omega
 have hk9:((rule:Int)=2)=(rule=2):=by simp;omega
 refine ICall.intro (c:=cf prog gl [] [(1,[])] [4,5]) func78 rfl (by show _<=28;simp) (by kernel_rfl) ?_;simp only[go_sem,zE,zB,zA,zM,zS,zL,reduceCtorEq,fits];rw[yKg];refine anyS (n:=19) (Rel:=λi z=>match i with
  | 0=>z=.cptr (.raw (.map (some m)))
  | 1=>z=.raw (.map (some m))
  | 2=>z=.cptr (.raw (.int .u8 rule))
  | 3=>z=.raw (.int .u8 rule)
  | 4=>z=.raw (.bool (yV8 rule))
  | 5=>z=.cptr (.agg [.raw (.int .u8 op),.raw (.string fn),.sl ta xa,.sl tb xb])
  | 6=>z=.agg [.raw (.int .u8 op),.raw (.string fn),.sl ta xa,.sl tb xb]
  | 7=>IsFmD mn z
  | 8=>∃o n t xs t' ys,z=.agg [.raw (.bool (yV8 rule)),.raw (.int .i64 0),.raw (.int .u8 o),.raw (.string n),.sl t xs,.sl t' ys]/\IsFmD mn (.agg [.raw (.int .u8 o),.raw (.string n),.sl t xs,.sl t' ys])
  | 9=>z=.cptr (.raw (.int .u8 rule))
  | 10=>z=.raw (.int .u8 rule)
  | 11=>z=.raw (.bool (decide (rule=1)))
  | 12=>z=.raw (.bool (decide (rule=1)))
  | 13=>z=if rule=1 then .raw undef else .cptr (.raw (.int .u8 rule))
  | 14=>z=if rule=1 then .raw undef else .raw (.int .u8 rule)
  | 15=>z=if rule=1 then .raw undef else .raw (.bool (decide (rule=2)))
  | 16=>z=.raw (.bool (decide (rule=1) || decide (rule=2)))
  | 17=>z=.raw (.slice (some ⟨g,0,none⟩) k k)
  | 18=>NdP (yV8 rule) (decide (rule=1) || decide (rule=2)) mn (.raw (.slice (some ⟨g,0,none⟩) k k)) z
  | _=>True)
  (F:=λfr=>fr 3=.iv (.raw (.slice (some ⟨g,0,none⟩) k k))/\fr 4=.iv (.cptr (.agg [.raw (.map (some m))]))/\fr 5=.iv (.cptr (.agg [.raw (.int .u8 rule),.sl tl xl,.sl tr xr,.raw (.int .u8 op),.raw (.string fn),.sl ta xa,.sl tb xb,.raw (.bool v),.raw (.string un),.sl tu xu,.raw (.string nm),.sl ts xs]))/\fr 8=.box [.raw (.bool false),.raw (.int .i64 0),.raw (.int .u8 0),.raw (.string ⟨#[]⟩),.sl ⟨true,.nil,0⟩ [],.sl ⟨true,.nil,0⟩ [],.raw (.bool false),.raw (.int .i64 0),.sl ⟨true,.nil,0⟩ []]) (G:=λfr=>∃l,NdP (yV8 rule) (decide (rule=1) || decide (rule=2)) mn (.raw (.slice (some ⟨g,0,none⟩) k k)) (.agg l)/\fr 8=.box l)
  ⟨rfl,by decide,by decide,by decide,λfr d z hd ⟨h3,h4,h5,h8⟩=>⟨(zU8 hd rfl).trans h3,(zU8 hd rfl).trans h4,(zU8 hd rfl).trans h5,(zU8 hd rfl).trans h8⟩⟩ ?_ ?_ (λ_=>rfl) ⟨rfl,rfl,rfl,rfl⟩
 ·repeat' apply AllOk.cons
  ·intro ad fr K had hF hd hK hS;obtain⟨f3,f4,f5,f8⟩:=hF;simp only[go_sem,zE,zB,zA,zM,zS,zL,reduceCtorEq,yQ5,had,f3,f4,f5,f8];exact hK _ _ rfl (λh=>absurd h (by decide)) rfl
  ·intro ad fr K had hF hd hK hS;obtain⟨f3,f4,f5,f8⟩:=hF;obtain⟨_,g0,rfl⟩:=hd 0 _ rfl rfl;simp only[go_sem,zE,zB,zA,zM,zS,zL,reduceCtorEq,yQ5,had,f3,f4,f5,f8,g0];exact hK _ _ rfl (λh=>absurd h (by decide)) rfl
  ·intro ad fr K had hF hd hK hS;obtain⟨f3,f4,f5,f8⟩:=hF;simp only[go_sem,zE,zB,zA,zM,zS,zL,reduceCtorEq,yQ5,had,f3,f4,f5,f8];exact hK _ _ rfl (λh=>absurd h (by decide)) rfl
  ·intro ad fr K had hF hd hK hS;obtain⟨f3,f4,f5,f8⟩:=hF;obtain⟨_,g2,rfl⟩:=hd 2 _ rfl rfl;simp only[go_sem,zE,zB,zA,zM,zS,zL,reduceCtorEq,yQ5,had,f3,f4,f5,f8,g2];exact hK _ _ rfl (λh=>absurd h (by decide)) rfl
  ·intro ad fr K had hF hd hK hS;obtain⟨f3,f4,f5,f8⟩:=hF;obtain⟨_,g1,rfl⟩:=hd 1 _ rfl rfl;obtain⟨_,g3,rfl⟩:=hd 3 _ rfl rfl;simp only[go_sem,zE,zB,zA,zM,zS,zL,reduceCtorEq,yQ5,had,f3,f4,f5,f8,g1,g3,hm,hlk];cases hlr:yV8 rule
   ·simp only[go_sem,zE,zB,zA,zM,zS,zL,reduceCtorEq];exact hK _ _ rfl (λh=>absurd h (by decide)) (by show _=IV.raw (.bool (yV8 rule));rw[hlr];rfl)
   ·simp only[go_sem,zE,zB,zA,zM,zS,zL,reduceCtorEq];exact hK _ _ rfl (λh=>absurd h (by decide)) (by show _=IV.raw (.bool (yV8 rule));rw[hlr];rfl)
  ·intro ad fr K had hF hd hK hS;obtain⟨f3,f4,f5,f8⟩:=hF;simp only[go_sem,zE,zB,zA,zM,zS,zL,reduceCtorEq,yQ5,had,f3,f4,f5,f8];exact hK _ _ rfl (λh=>absurd h (by decide)) rfl
  ·intro ad fr K had hF hd hK hS;obtain⟨f3,f4,f5,f8⟩:=hF;obtain⟨_,g5,rfl⟩:=hd 5 _ rfl rfl;simp only[go_sem,zE,zB,zA,zM,zS,zL,reduceCtorEq,yQ5,had,f3,f4,f5,f8,g5];exact hK _ _ rfl (λh=>absurd h (by decide)) rfl
  ·intro ad fr K had hF hd hK hS;obtain⟨f3,f4,f5,f8⟩:=hF;obtain⟨_,g6,rfl⟩:=hd 6 _ rfl rfl;simp only[go_sem,zE,zB,zA,zM,zS,zL,reduceCtorEq,yQ5,had,f3,f4,f5,f8,g6];refine hcopy.mono ?_;rintro r _ ⟨hr,rfl⟩;exact hK _ _ rfl (λh=>absurd h (by decide)) hr
  ·intro ad fr K had hF hd hK hS;obtain⟨f3,f4,f5,f8⟩:=hF;obtain⟨_,g4,rfl⟩:=hd 4 _ rfl rfl;obtain⟨z7,g7,k7⟩:=hd 7 _ rfl rfl;replace k7:IsFmD mn z7:=k7;obtain⟨o2,n2,t2,x2,t3,x3,rfl⟩:=k7.1.agg;simp only[go_sem,zE,zB,zA,zM,zS,zL,reduceCtorEq,yQ5,had,f3,f4,f5,f8,g4,g7,fits];exact hK _ _ rfl (λh=>absurd h (by decide)) ⟨_,_,_,_,_,_,rfl,k7⟩
  ·intro ad fr K had hF hd hK hS;obtain⟨f3,f4,f5,f8⟩:=hF;simp only[go_sem,zE,zB,zA,zM,zS,zL,reduceCtorEq,yQ5,had,f3,f4,f5,f8];exact hK _ _ rfl (λh=>absurd h (by decide)) rfl
  ·intro ad fr K had hF hd hK hS;obtain⟨f3,f4,f5,f8⟩:=hF;obtain⟨_,g9,rfl⟩:=hd 9 _ rfl rfl;simp only[go_sem,zE,zB,zA,zM,zS,zL,reduceCtorEq,yQ5,had,f3,f4,f5,f8,g9];exact hK _ _ rfl (λh=>absurd h (by decide)) rfl
  ·intro ad fr K had hF hd hK hS;obtain⟨f3,f4,f5,f8⟩:=hF;obtain⟨_,g10,rfl⟩:=hd 10 _ rfl rfl;simp only[go_sem,zE,zB,zA,zM,zS,zL,reduceCtorEq,yQ5,had,f3,f4,f5,f8,g10,hk8];exact hK _ _ rfl (λh=>absurd h (by decide)) (by simp[hk8])
  ·intro ad fr K had hF hd hK hS;obtain⟨f3,f4,f5,f8⟩:=hF;obtain⟨_,g11,rfl⟩:=hd 11 _ rfl rfl;simp only[go_sem,zE,zB,zA,zM,zS,zL,reduceCtorEq,yQ5,had,f3,f4,f5,f8,g11];exact hK _ _ rfl (λh=>absurd h (by decide)) rfl
  ·intro ad fr K had hF hd hK hS;obtain⟨f3,f4,f5,f8⟩:=hF;obtain⟨_,g12,rfl⟩:=hd 12 _ rfl rfl;refine zWc rfl rfl g12 had (λhb=>?_) (λhb=>hK _ _ rfl (λh=>absurd h (by decide)) (if_pos (by simpa using hb)).symm);have hb':¬ rule=1:=by simpa using hb
   simp only[go_sem,zE,zB,zA,zM,zS,zL,reduceCtorEq,yQ5,had,f3,f4,f5,f8,g12];exact hK _ _ rfl (λh=>absurd h (by decide)) (if_neg hb').symm
  ·intro ad fr K had hF hd hK hS;obtain⟨f3,f4,f5,f8⟩:=hF;obtain⟨_,g12,rfl⟩:=hd 12 _ rfl rfl;obtain⟨_,g13,rfl⟩:=hd 13 _ rfl rfl;refine zWc rfl rfl g12 had (λhb=>?_) (λhb=>hK _ _ rfl (λh=>absurd h (by decide)) (if_pos (by simpa using hb)).symm);have hb':¬ rule=1:=by simpa using hb
   rw[if_neg hb'] at g13;simp only[go_sem,zE,zB,zA,zM,zS,zL,reduceCtorEq,yQ5,had,f3,f4,f5,f8,g12,g13];exact hK _ _ rfl (λh=>absurd h (by decide)) (if_neg hb').symm
  ·intro ad fr K had hF hd hK hS;obtain⟨f3,f4,f5,f8⟩:=hF;obtain⟨_,g12,rfl⟩:=hd 12 _ rfl rfl;obtain⟨_,g14,rfl⟩:=hd 14 _ rfl rfl;refine zWc rfl rfl g12 had (λhb=>?_) (λhb=>hK _ _ rfl (λh=>absurd h (by decide)) (if_pos (by simpa using hb)).symm);have hb':¬ rule=1:=by simpa using hb
   rw[if_neg hb'] at g14;simp only[go_sem,zE,zB,zA,zM,zS,zL,reduceCtorEq,yQ5,had,f3,f4,f5,f8,g12,g14,hk9];exact hK _ _ rfl (λh=>absurd h (by decide)) (by show _=(if rule=1 then IV.raw undef else _);rw[if_neg hb'])
  ·intro ad fr K had hF hd hK hS;obtain⟨f3,f4,f5,f8⟩:=hF;obtain⟨_,g12,rfl⟩:=hd 12 _ rfl rfl;obtain⟨_,g15,rfl⟩:=hd 15 _ rfl rfl;by_cases hb:rule=1
   ·rw[if_pos hb] at g15;simp only[go_sem,zE,zB,zA,zM,zS,zL,reduceCtorEq,yQ5,had,f3,f4,f5,f8,g12,g15,hb,decide_true];exact hK _ _ rfl (λh=>absurd h (by decide)) (by simp[hb])
   ·rw[if_neg hb] at g15;simp only[go_sem,zE,zB,zA,zM,zS,zL,reduceCtorEq,yQ5,had,f3,f4,f5,f8,g12,g15,hb,decide_false];exact hK _ _ rfl (λh=>absurd h (by decide)) (by simp[hb])
  ·intro ad fr K had hF hd hK hS;obtain⟨f3,f4,f5,f8⟩:=hF;simp only[go_sem,zE,zB,zA,zM,zS,zL,reduceCtorEq,yQ5,had,f3,f4,f5,f8];exact hK _ _ rfl (λh=>absurd h (by decide)) rfl
  ·intro ad fr K had hF hd hK hS;obtain⟨f3,f4,f5,f8⟩:=hF;obtain⟨z8,g8,k8⟩:=hd 8 _ rfl rfl;obtain⟨o2,n2,t2,x2,t3,x3,rfl,k8'⟩:=k8;obtain⟨_,g16,rfl⟩:=hd 16 _ rfl rfl;obtain⟨_,g17,rfl⟩:=hd 17 _ rfl rfl;simp only[go_sem,zE,zB,zA,zM,zS,zL,reduceCtorEq,yQ5,had,f3,f4,f5,f8,g8,g16,g17,fits];exact hK _ _ rfl (λh=>absurd h (by decide)) ⟨_,_,_,_,_,_,rfl,k8'⟩
  ·intro ad fr K had hF hd hK hS;obtain⟨f3,f4,f5,f8⟩:=hF;obtain⟨z18,g18,k18⟩:=hd 18 _ rfl rfl;obtain k18:=k18;obtain⟨o2,n2,t2,x2,t3,x3,rfl,k18a⟩:=k18;simp only[go_sem,zE,zB,zA,zM,zS,zL,reduceCtorEq,yQ5,had,f3,f4,f5,f8,g18,fits];exact yZg rfl (hS _ rfl rfl ⟨_,by exact⟨_,_,_,_,_,_,rfl,k18a⟩,rfl⟩ (λ_=>wWd rfl))
  ·exact trivial
 ·rintro fr ⟨l,hl,h8⟩ hall;obtain⟨o2,n2,t2,x2,t3,x3,hl1,k18a⟩:=id hl;obtain rfl:=IV.agg.inj hl1;simp only[go_sem,zE,zB,zA,zM,zS,zL,reduceCtorEq,h8];exact yQ0 ⟨hl,rfl⟩
mutual
theorem IsNd.aged:∀ {n:Nd}{x:IV},IsNd n x->IsNd n (age x)
 | .mk m c w sub,x,h=>by
  obtain⟨o,n,t,xs,t',ys,ts,zs,rfl,h1,h2,h3⟩:=h.mk;have:=h1.aged;simp only[age,ages,IsNd] at this ⊢;exact⟨_,_,_,_,_,_,_,_,rfl,this,yXh h2,IsNds.aged h3⟩
theorem IsNds.aged:∀ {l:List Nd}{xs:List IV},IsNds l xs->IsNds l (ages xs)
 | [],_,h=>by simp only[IsNds] at h;subst h;simp only[ages,IsNds]
 | a::l,_,h=>by
  simp only[IsNds] at h;obtain⟨y,ys,rfl,hy,h⟩:=h;simp only[ages,IsNds];exact⟨_,_,rfl,IsNd.aged hy,IsNds.aged h⟩
end
theorem yGs {cs new:List IV}{k n s:Nat}(hl:cs.length=n*s)(hk:k<n)(hn:new.length=s) :
  (cs.take (k*s)++new++cs.drop (k*s+s)).length=n*s/\(cs.take (k*s)++new++cs.drop (k*s+s)).take ((k+1)*s)=cs.take (k*s)++new:=by
 have h1:(k+1)*s<=n*s:=Nat.mul_le_mul_right _ hk;rw[Nat.add_mul,Nat.one_mul] at h1 ⊢;have h2:(cs.take (k*s)++new).length=k*s+s:=by rw[lLa,List.length_take,hn,Nat.min_eq_left (by omega)]
 refine⟨?_,?_⟩
 ·rw[lLa,h2,List.length_drop];omega
 ·rw[List.take_append_of_le_length (by omega),List.take_of_length_le (by omega)]
theorem zUn:∀ {l:List Nd}{xs:List IV},IsNds l xs->∀x∈xs,x.cells.length=9
 | [],_,h,x,hx=>by simp only[IsNds] at h;subst h;cases hx
 | a::l,_,h,x,hx=>by
  simp only[IsNds] at h;obtain⟨y,ys,rfl,hy,h⟩:=h;rcases List.mem_cons.1 hx with rfl|hx
  ·obtain⟨v1,w1,o1,n1,t1,y1,t2,y2,c1,w2,t3,y3,rfl⟩:=yXq hy;rfl
  ·exact zUn h x hx
theorem xUj:∀ {l:List Nd}{xs:List IV}{z:IV},IsNds l xs->z∈xs->∃n,IsNd n z
 | [],xs,z,h,hx=>by simp only[IsNds] at h;subst h;cases hx
 | a::l,xs,z,h,hx=>by
  simp only[IsNds] at h;obtain⟨y,ys,rfl,hy,h⟩:=h;rcases List.mem_cons.1 hx with rfl|hx
  ·exact⟨a,hy⟩
  ·exact xUj h hx
theorem vJu {b:Bool}{w o:Int}{n:ByteArray}{t t' tg:Tag}{xs xs' ys:List IV}{c:Bool}{w':Int}{l:List Nd}(h:dfr (.agg [.raw (.bool b),.raw (.int .i64 w),.raw (.int .u8 o),.raw (.string n),.sl t xs,.sl t' xs']))(ha:appT (ys.length+wkE tg) tg)(hd:dfrs ys)(hy:IsNds l ys) :
  dfr (.agg [.raw (.bool b),.raw (.int .i64 w),.raw (.int .u8 o),.raw (.string n),.sl t xs,.sl t' xs',.raw (.bool c),.raw (.int .i64 w'),.sl tg ys]):=by
 rw[dfr] at h ⊢;obtain⟨_,_,_,_,h5,h6,_⟩:=h.1;refine⟨⟨trivial,trivial,trivial,trivial,h5,h6,trivial,trivial,?_,trivial⟩,λx hx=>?_⟩
 ·rw[dfr];refine⟨ha,hd,λx hx=>?_⟩;obtain⟨z,hz,hxz⟩:=List.mem_flatMap.1 hx;obtain⟨n,hn⟩:=xUj hy hz;obtain⟨v3,w3,o3,n3,t3,y3,t4,y4,c5,w5,t6,y6,rfl⟩:=yXq hn;simp only[IV.cells,List.mem_cons,List.not_mem_nil,or_false] at hxz;rcases hxz with rfl|rfl|rfl|rfl|rfl|rfl|rfl|rfl|rfl<;>rfl
 ·simp only[List.mem_cons,List.not_mem_nil,or_false] at hx;rcases hx with rfl|rfl|rfl|rfl|rfl|rfl|rfl|rfl|rfl<;>rfl
theorem nd_d {b:Bool}{w o:Int}{n:ByteArray}{t t' tg:Tag}{xs xs' ys:List IV}{c:Bool}{w':Int}{l:List Nd}(h:dfr (.agg [.raw (.bool b),.raw (.int .i64 w),.raw (.int .u8 o),.raw (.string n),.sl t xs,.sl t' xs']))(ha:appT l.length tg)(hd:dfrs ys)(hy:IsNds l ys) :
  dfr (.agg [.raw (.bool b),.raw (.int .i64 w),.raw (.int .u8 o),.raw (.string n),.sl t xs,.sl t' xs',.raw (.bool c),.raw (.int .i64 w'),.sl tg ys]):=vJu h (ha.to hy.len).up hd hy
theorem zQ6:∀l m:List Tr,yV6 (l++m)=yV6 l++yV6 m
 | [],m=>rfl
 | a::l,m=>by simp only[List.cons_append,yV6,zQ6 l m]
def ndZ:List IV:=[.raw (.bool false),.raw (.int .i64 0),.raw (.int .u8 0),.raw (.string ⟨#[]⟩),.sl ⟨true,.nil,0⟩ [],.sl ⟨true,.nil,0⟩ [],.raw (.bool false),.raw (.int .i64 0),.sl ⟨true,.nil,0⟩ []]
def wV7 (t:Tr):Prop:=∀(x:IV) (_:IsTr t x) (_:t.steps<=1000000) (_:NA t) (st:ISt) (m:Nat) (es:List (Value×IV)) (_:st m=some (.map (.int .u8) es)) (_:zW1 es),
 ICall prog gl 76 [x,.agg [],.fn (.func 77) [.agg [.raw (.map (some m))]] [],.fn (.func 78) [.agg [.raw (.map (some m))]] []] st
  (λr st'=>(IsNd (zQ7 t) r/\dfr r)/\st'=st)
theorem xVq (rule:Nat)(s:Sq)(mn:Fm)(u:Tm)(nm:ByteArray)(sub:List Tr)(IH:∀a∈sub,wV7 gl a):wV7 gl (.mk rule s mn u nm sub):=by
 intro x hx hst hw st m es hm hl;obtain⟨tl,xl,tr,xr,op,fn,ta,xa,tb,xb,v,un,tu,xu,ts,xs,rfl,hru,e1,i1,e2,i2,hy,hz,e3,i3⟩:=hx.mk;refine ICall.fixA ?_;refine ICall.intro (c:=cf prog gl [23] []) func76 rfl (by show _<=48;simp) (by kernel_rfl) ?_;simp only[go_sem,zE,zB,zA,zM,zS,zL,reduceCtorEq,fits];refine (wZz gl _ m rfl _ _ hx (by show sub.length<=_;simp only[Tr.steps] at hst;have:=yZ7 sub;omega) _).mono ?_;rintro _ st ⟨ts',xs',rfl,e3',i3',rfl⟩;have hln:=i3'.len;have hls:sub.length<=1000000:=by rw[Tr.steps] at hst;have:=yZ7 sub;omega
 change xs'.length=sub.length at hln;simp only[go_sem,zE,zB,zA,zM,zS,zL,reduceCtorEq,fits];intro _;refine yZg ⟨by omega,by omega,by omega⟩ λg=>yQf λhg=>?_;have hgm:g≠m:=λh=>by rw[h,hm] at hg;cases hg
 intro _;refine LoopC.ctr sub.length (λk fr st' ds=>(∃cs zs,st'=st.put g (some (.box cs))/\cs.length=sub.length*9/\cs.take (k*9)=zs.flatMap IV.cells/\IsNds (yV6 (sub.take k)) zs/\dfrs zs) /\
  fr 2=.iv (.fn (.func 77) [.agg [.raw (.map (some m))]] [])/\fr 3=.iv (.fn (.func 78) [.agg [.raw (.map (some m))]] [])/\fr 4=.box [.raw (.int .u8 rule),.sl tl xl,.sl tr xr,.raw (.int .u8 op),.raw (.string fn),.sl ta xa,.sl tb xb,.raw (.bool v),.raw (.string un),.sl tu xu,.raw (.string nm),.sl ts xs]/\fr 5=.box []/\fr 8=.box ndZ /\
  fr 10=.iv (.sl ⟨false,.none,0⟩ (List.replicate sub.length (.agg [])))/\fr 11=.iv (.raw (.slice (some ⟨g,0,none⟩) sub.length sub.length))/\fr 24=.iv (.sl ts' xs')/\fr 25=.iv (.raw (.int .i64 sub.length))/\fr 26=.iv (.raw (.int .i64 k))/\ds=[]) ?_ ?_ ?_
 ·simp only[go_sem,zE,zB,zA,zM,zS,zL,reduceCtorEq,hln];exact⟨⟨_,[],rfl,by simp,rfl,rfl,trivial⟩,rfl,rfl,rfl⟩
 ·rintro k fr _ _ hlt ⟨⟨cs,zs,rfl,hcl,hct,hzs,hzd⟩,f2,f3,f4,f5,f8,f10,f11,f24,f25,f26,rfl⟩;obtain⟨a,ha⟩:=yQ3 hlt;obtain⟨z,hkz,hz⟩:=i3'.get ha;have ham:=lMg ha;have hsta:=yU7 ham;simp only[Tr.steps] at hst;simp only[NA] at hw;have hcall:=λst1 hm=>IH a ham z hz (by omega) (zYu hw.2.2.2 ham) st1 m es hm hl;have hrep:(List.replicate sub.length (IV.agg []))[k]?=some (.agg []):=by rw[List.getElem?_replicate,if_pos hlt]
  obtain⟨rule',tl',xl',tr',xr',op',fn',ta',xa',tb',xb',v',un',tu',xu',n',ts2,xs2,rfl⟩:=yX4 hz;simp only[go_sem,zE,zB,zA,zM,zS,zL,reduceCtorEq,f2,f3,f4,f5,f8,f10,f11,f24,f25,f26,lt_i hlt,yQ2 e3',iNn,hkz,fits,hrep];refine (hcall _ (by rw[yQ9 hgm.symm];exact hm)).mono ?_;rintro r _ ⟨⟨hr,hrd⟩,rfl⟩;have hr0:=hr;obtain⟨v1,w1,o1,n1,t1,y1,t2,y2,c1,w2,t3,y3,rfl⟩:=yXq hr;simp only[go_sem,zE,zB,zA,zM,zS,zL,reduceCtorEq,f2,f3,f4,f5,f8,f10,f11,f24,f25,f26,fits,ISt.put_same,yQh,yQa hlt (show sub.length<=281474976710656 by omega)];have hkn:k*9+9<=sub.length*9:=by omega
  obtain⟨q1,q2⟩:=yGs (new:=[IV.raw (.bool v1),.raw (.int .i64 w1),.raw (.int .u8 o1),.raw (.string n1),.sl t1 y1,.sl t2 y2,.raw (.bool c1),.raw (.int .i64 w2),.sl t3 y3]) hcl hlt rfl;rw[if_pos ⟨by omega,hlt⟩,if_pos (by omega)];refine⟨_,zs++[.agg [.raw (.bool v1),.raw (.int .i64 w1),.raw (.int .u8 o1),.raw (.string n1),.sl t1 y1,.sl t2 y2,.raw (.bool c1),.raw (.int .i64 w2),.sl t3 y3]],rfl,q1,?_,?_,yJ3 hzd ⟨hrd,trivial⟩⟩
  ·rw[q2,hct,List.flatMap_append,List.flatMap_singleton];rfl
  ·rw[yQ8 ha,zQ6];exact hzs.append ⟨_,_,rfl,hr0,rfl⟩
 ·rintro fr _ _ ⟨⟨cs,zs,rfl,hcl,hct,hzs,hzd⟩,f2,f3,f4,f5,f8,f10,f11,f24,f25,f26,rfl⟩;rw[lTl] at hzs;have hzl:zs.length=sub.length:=by rw[hzs.len,zQ5]
  simp only[go_sem,zE,zB,zA,zM,zS,zL,reduceCtorEq,f2,f3,f4,f5,f8,f10,f11,f24,f25,f26,yQk (nLi _)];refine (wGm gl _ m rfl rule s mn u nm sub _ hx g sub.length (by simp only[NA] at hw;have:=hw.2.1;omega) _ es (by rw[yQ9 hgm.symm];exact hm) hl).mono ?_;rintro _ _ ⟨⟨o1,n1,t1,y1,t2,y2,rfl,hf⟩,rfl⟩;simp only[go_sem,zE,zB,zA,zM,zS,zL,reduceCtorEq,f8,ndZ,fits,IV.one];refine yQ0 (.inr ⟨[_,_,_,_,_,_,_,_],g,_,_,cs,9,zs,_,hg,hg,rfl,rfl,hzl,by omega,Nat.le_refl _,by omega,?_,zUn hzs,⟨?_,vJu (l:=yV6 sub) ?_ ?_ hzd hzs⟩,rfl⟩)
  ·rw[<- hct]
  ·rw[zQ7,IsNd];exact⟨_,_,_,_,_,_,_,_,rfl,hf.1,.inr rfl,hzs⟩
  ·have h4:=hf.2;simp only[dfr,dfrs,and_true,true_and] at h4 ⊢;exact⟨h4.1,λc hc=>by
    simp only[List.mem_cons,List.not_mem_nil,or_false] at hc;rcases hc with rfl|rfl|rfl|rfl|rfl|rfl<;>rfl⟩
  ·exact .inr ⟨by simp[wkE],rfl,g,rfl⟩
theorem zG5:∀(k:Nat)(t:Tr),SizeOf.sizeOf t<k->wV7 gl t
 | 0,_,h=>absurd h (by omega)
 | k+1,.mk rule s mn u nm sub,h=>xVq gl rule s mn u nm sub λa ha=>zG5 k a (by have:=lSm ha;simp only[Tr.mk.sizeOf_spec] at h;omega)
theorem wYr (t:Tr):wV7 gl t:=zG5 gl _ t (Nat.lt_succ_self _)
def nd0:Nd:=.mk ⟨false,0,fm0⟩ false 0 []
theorem zJb:IsNd nd0 (.agg ndZ):=by
 simp only[nd0,IsNd,ndZ];exact⟨_,_,_,_,_,_,_,_,rfl,vQ4,.inl rfl,rfl⟩
theorem wU9:dfr (.agg ndZ):=nd_d (l:=[]) (by
 simp only[dfr,dfrs,appT,and_true,true_and,true_or,List.flatMap_nil,List.not_mem_nil,false_imp_iff,implies_true];intro c hc;simp only[List.mem_cons,List.not_mem_nil,or_false] at hc;rcases hc with rfl|rfl|rfl|rfl|rfl|rfl<;>rfl) (.inl rfl) trivial rfl
noncomputable def yK2 (t:Tr):Nd×Nat:=if (yXc 1 t).2≠0\/0<t.cuts then (nd0,231) else if yX9 t.sq=false then (nd0,2) else (zQ7 t,0)
theorem wYj (G:Gl gl)(t:Tr)(x:IV)(hx:IsTr t x)(hok:NA t)(hst:t.steps<=1000000)(st:ISt) :
  ICall prog gl 35 [x] st (λr st'=>(∃z,r=.tup [z,.raw (.int .i64 (yK2 t).2)]/\IsNd (yK2 t).1 z/\dfr z)/\st'=st):=by
 have hck:=λst=>wXb gl G 1 t x hx (wYk hok (by omega)) st;have hcu:=λst=>vWf gl t x hx (by omega) st;obtain⟨rule,s,mn,u,nm,sub⟩:=t;obtain⟨tl,xl,tr,xr,op,fn,ta,xa,tb,xb,v,un,tu,xu,ts,xs,rfl,hru,e1,i1,e2,i2,hy,hz,e3,i3⟩:=hx.mk;have hV:=λst=>zW8 gl G s (.agg [.sl tl xl,.sl tr xr]) ⟨_,_,_,_,rfl,e1,i1,e2,i2⟩ (wVc hok) st;refine iI func35 ?_;simp only[go_sem,zE,zB,zA,zM,zS,zL,reduceCtorEq,fits];refine (hck _).mono ?_;rintro _ st ⟨⟨tg,rfl,htg⟩,rfl⟩;have hne:∀n:Nat,((n:Int)=0)=(n=0):=λn=>propext (by omega);have hsq:(Tr.mk rule s mn u nm sub).sq=s:=rfl;by_cases h0:(yXc 1 (.mk rule s mn u nm sub)).2=0
 ·have hgt:((0:Int)<((Tr.mk rule s mn u nm sub).cuts:Int))=(0<(Tr.mk rule s mn u nm sub).cuts):=propext (by omega);simp only[go_sem,zE,zB,zA,zM,zS,zL,reduceCtorEq,fits,h0,decide_true,Bool.not_true,Int.natCast_zero];refine (hcu _).mono ?_;rintro _ st ⟨rfl,rfl⟩;by_cases h1:0<(Tr.mk rule s mn u nm sub).cuts
  ·simp only[go_sem,zE,zB,zA,zM,zS,zL,reduceCtorEq,fits,hgt,h1,decide_true];exact yQ0 ⟨⟨_,by rw[yK2,if_pos (.inr h1)];rfl,by rw[yK2,if_pos (.inr h1)];exact zJb,wU9⟩,rfl⟩
  ·simp only[go_sem,zE,zB,zA,zM,zS,zL,reduceCtorEq,fits,hgt,h1,decide_false];refine (hV _).mono ?_;rintro _ st ⟨rfl,rfl⟩;cases hv:yX9 s
   ·simp only[go_sem,zE,zB,zA,zM,zS,zL,reduceCtorEq,fits];have he:yK2 (.mk rule s mn u nm sub)=(nd0,2):=by rw[yK2,if_neg (by rintro (h|h)<;>contradiction),hsq,if_pos hv]
    exact yQ0 ⟨⟨_,by rw[he];rfl,by rw[he];exact zJb,wU9⟩,rfl⟩
   ·simp only[go_sem,zE,zB,zA,zM,zS,zL,reduceCtorEq,fits];refine (zJ9 gl st).mono ?_;rintro _ _ ⟨m,es,hm,rfl,hl,rfl⟩;simp only[go_sem,zE,zB,zA,zM,zS,zL,reduceCtorEq,fits];refine (wYr gl _ _ hx hst hok _ m es (ISt.put_same ..) hl).mono ?_;rintro r _ ⟨⟨hr,hrd⟩,rfl⟩;have hr0:=hr;obtain⟨v1,w1,o1,n1,t1,y1,t2,y2,c1,w2,t3,y3,rfl⟩:=yXq hr;simp only[go_sem,zE,zB,zA,zM,zS,zL,reduceCtorEq,fits];have he:yK2 (.mk rule s mn u nm sub)=(zQ7 (.mk rule s mn u nm sub),0):=by rw[yK2,if_neg (by rintro (h|h)<;>contradiction),if_neg (by rw[hsq,hv];decide)]
    exact yQb (yQz hm) ⟨⟨_,by rw[he];rfl,by rw[he];exact hr0,hrd⟩,rfl⟩
 ·simp only[go_sem,zE,zB,zA,zM,zS,zL,reduceCtorEq,fits,hne,h0,decide_false,Bool.not_false];exact yQ0 ⟨⟨_,by rw[yK2,if_pos (.inl h0)];rfl,by rw[yK2,if_pos (.inl h0)];exact zJb,wU9⟩,rfl⟩
theorem vW8 (G:Gl gl)(t:Tr)(x:IV)(hx:IsTr t x)(hok:okT t=true)(hst:t.steps<=1000000)(st:ISt) :
  ICall prog gl 35 [x] st (λr st'=>(∃z,r=.tup [z,.raw (.int .i64 (yK2 t).2)]/\IsNd (yK2 t).1 z)/\st'=st):=(wYj gl G t x hx (wWh hok) hst st).mono λ_ _ ⟨⟨z,h1,h2,_⟩,h3⟩=>⟨⟨z,h1,h2⟩,h3⟩
def ptrI (c:Nat):IV:=.raw (.pointer (some ⟨c,0,none⟩))
def subN:Nd->List Nd
 | .mk _ _ _ sub=>sub
def zY6 (n:Nd):Nat:=if (subN n).isEmpty then 1 else 0
theorem wKs (n:Nd)(z:IV)(hz:IsNd n z)(hl:(subN n).length<=1000000)(c:Nat)(v:Nat)(hv:v<=1000000000)(st:ISt)(hc:st c=some (.box [.raw (.int .i64 v)])) :
  ICall prog gl 60 [ptrI c,z,.agg []] st (λr st'=>∃ts zs,r=.tup [.sl ts zs,.sl ⟨false,.none,0⟩ (List.replicate (subN n).length (.agg []))]/\okEs ts 9/\IsNds (subN n) zs/\st'=st.put c (some (.box [.raw (.int .i64 (v+zY6 n:Nat))]))):=by
 obtain⟨m,cl,w,sub⟩:=n;obtain⟨o,n,t,xs,t',ys,ts,zs,rfl,h1,h2,h3⟩:=hz.mk;have hls:sub.length<=1000000:=hl;have hw:IntKind.i64.wrap ((v:Int)+1)=((v+1:Nat):Int):=by rw[w64]<;>omega
 refine ICall.intro (c:=cf prog gl [] [(3,[0,1,2,3,4,6,5,7])]) func60 rfl (by show _<=25;simp) (by kernel_rfl) ?_;simp only[go_sem,zE,ptrI,h3.len];intro _;have hrl:(subN (.mk m cl w sub)).length=sub.length:=rfl;by_cases h0:sub.length=0
 ·have he:zY6 (.mk m cl w sub)=1:=by rw[zY6,show subN (.mk m cl w sub)=sub from rfl,List.isEmpty_iff.2 (List.length_eq_zero_iff.1 h0)];rfl
  have hd:decide ((sub.length:Int)=0)=true:=dEt (by omega);simp only[go_sem,zE,zA,zL,reduceCtorEq,hd,hc,hw,h3.len];refine yZg ⟨by omega,by omega,by omega⟩ (yQ0 ⟨_,_,?_,h2,h3,?_⟩)
  ·rfl
  ·rw[he]
 ·have he:zY6 (.mk m cl w sub)=0:=by rw[zY6,show subN (.mk m cl w sub)=sub from rfl,if_neg (by rw[List.isEmpty_iff];exact λh=>h0 (by rw[h];rfl))]
  have hd:decide ((sub.length:Int)=0)=false:=dEf (by omega);simp only[go_sem,zE,zA,hd,h3.len];refine yZg ⟨by omega,by omega,by omega⟩ (yQ0 ⟨_,_,?_,h2,h3,?_⟩)
  ·rfl
  ·rw[he,Nat.add_zero,yWh hc]
theorem vQk (z:IV)(n:Nd)(hz:IsNd n z)(c:Nat)(y:IV)(st:ISt):ICall prog gl 61 [ptrI c,z,.agg [],y] st (λr st'=>r=.agg []/\st'=st):=by
 obtain⟨v1,w1,o1,n1,t1,y1,t2,y2,c1,w2,t3,y3,rfl⟩:=yXq hz;refine iI func61 ?_;simp only[go_sem,zE,zL];exact yQ0 ⟨rfl,rfl⟩
theorem yVm:∀l m:List Nd,yQl (l++m)=yQl l+yQl m
 | [],m=>by simp[yQl]
 | a::l,m=>by simp only[List.cons_append,yQl,yVm l m];omega
theorem zYo {l:List Nd}{k:Nat}{a:Nd}(h:l[k]?=some a):yQl (l.take (k+1))=yQl (l.take k)+a.branches:=by
 rw[yQ8 h,yVm];simp[yQl]
theorem xXf (l:List Nd)(k:Nat):yQl (l.take k)<=yQl l:=by
 conv=>rhs;rw[<- List.take_append_drop k l]
 rw[yVm];omega
theorem zZf (m:Mk)(c:Bool)(w:Int)(sub:List Nd):(Nd.mk m c w sub).branches=zY6 (.mk m c w sub)+yQl sub:=by
 cases sub<;>simp[Nd.branches,zY6,subN,yQl]
theorem zZs {st:ISt}{a b:Nat}(h:a≠b)(x y:Option IObj):(st.put a x).put b y=(st.put b y).put a x:=by
 funext c;simp only[ISt.put_apply];split<;>split<;>first|rfl|(subst_vars;exact absurd rfl h)
def wV8 (n:Nd):Prop:=∀(z:IV) (_:IsNd n z) (_:n.nodes<=1000000) (c v:Nat) (_:v+n.branches<=1000000000) (st:ISt) (_:st c=some (.box [.raw (.int .i64 v)])),
 ICall prog gl 59 [z,.agg [],.fn (.func 60) [ptrI c] [],.fn (.func 61) [ptrI c] []] st
  (λr st'=>r=.agg []/\st'=st.put c (some (.box [.raw (.int .i64 (v+n.branches:Nat))])))
theorem xVr (mm:Mk)(cl:Bool)(w:Int)(sub:List Nd)(IH:∀a∈sub,wV8 gl a):wV8 gl (.mk mm cl w sub):=by
 intro z hz hst c v hv st hc;have hz0:=hz;rw[zZf] at hv;have hlen:=yJt sub;simp only[Nd.nodes] at hst;obtain⟨v1,w1,o1,n1,t1,y1,t2,y2,c1,w2,t3,y3,rfl⟩:=yXq hz;refine ICall.intro (c:=cf prog gl [23] []) func59 rfl (by show _<=48;simp) (by kernel_rfl) ?_;simp only[go_sem,zE,zA,zL];refine (wKs gl _ _ hz0 (by show sub.length<=_;omega) c v (by omega) st hc).mono ?_;rintro _ _ ⟨ts,zs,rfl,e3,i3,rfl⟩;have hzl:=i3.len;change zs.length=sub.length at hzl;replace i3:IsNds sub zs:=i3;simp only[go_sem,zE,zA];intro _;refine yZg ⟨by omega,by omega,by omega⟩ λg=>yQf λhg=>?_;have hgc:g≠c:=λh=>by rw[h,ISt.put_same] at hg;cases hg
 have hg0:st g=none:=by rw[yQ9 hgc] at hg;exact hg
 intro _;refine LoopC.ctr sub.length (λk fr st' ds=>st'=(st.put c (some (.box [.raw (.int .i64 (v+zY6 (.mk mm cl w sub)+yQl (sub.take k):Nat))]))).put g (some (.box [])) /\
  fr 2=.iv (.fn (.func 60) [ptrI c] [])/\fr 3=.iv (.fn (.func 61) [ptrI c] [])/\fr 4=.box [.raw (.bool v1),.raw (.int .i64 w1),.raw (.int .u8 o1),.raw (.string n1),.sl t1 y1,.sl t2 y2,.raw (.bool c1),.raw (.int .i64 w2),.sl t3 y3]/\fr 5=.box []/\fr 8=.box [] /\
  fr 10=.iv (.sl ⟨false,.none,0⟩ (List.replicate sub.length (.agg [])))/\fr 11=.iv (.raw (.slice (some ⟨g,0,none⟩) sub.length sub.length))/\fr 24=.iv (.sl ts zs)/\fr 25=.iv (.raw (.int .i64 sub.length))/\fr 26=.iv (.raw (.int .i64 k))/\ds=[]) ?_ ?_ ?_
 ·simp only[go_sem,zE,hzl];exact⟨by simp only[Nat.mul_zero,List.replicate_zero,yQl,Nat.add_zero],rfl,rfl⟩
 ·rintro k fr _ _ hlt ⟨rfl,f2,f3,f4,f5,f8,f10,f11,f24,f25,f26,rfl⟩;obtain⟨a,ha⟩:=yQ3 hlt;obtain⟨z,hkz,hz⟩:=i3.get ha;have ham:=lMg ha;have hsta:=yXg ham;have hbt:=zYo ha;have hble:=xXf sub (k+1);have hcall:=λst1 hm=>IH a ham z hz (by omega) c (v+zY6 (.mk mm cl w sub)+yQl (sub.take k)) (by omega) st1 hm;have hrep:(List.replicate sub.length (IV.agg []))[k]?=some (.agg []):=by rw[List.getElem?_replicate,if_pos hlt]
  obtain⟨v3,w3,o3,n3,t4,y4,t5,y5,c5,w5,t6,y6,rfl⟩:=yXq hz;simp only[go_sem,zE,zB,zA,zL,f2,f3,f10,f11,f24,f25,f26,lt_i hlt,yQ2 e3,iNn,hkz,fits,hrep];refine (hcall _ (by rw[yQ9 hgc.symm,ISt.put_same])).mono ?_;rintro r _ ⟨rfl,rfl⟩;simp only[go_sem,zE,f2,f3,f4,f5,f8,f10,f11,f24,f25,f26,ISt.put_same,yQ9 hgc,yQa hlt (show sub.length<=281474976710656 by omega)];rw[if_pos ⟨by omega,hlt⟩,if_pos (by omega),hbt,<- Nat.add_assoc,zZs hgc,yQh,yQh];simp only[List.take_nil,List.drop_nil,List.append_nil]
 ·rintro fr _ _ ⟨rfl,f2,f3,f4,f5,f8,f10,f11,f24,f25,f26,rfl⟩;rw[lTl];simp only[go_sem,zE,zA,zL,f3,f4,f5,f11,f25,f26,yQk (nLi _)];refine (vQk gl _ _ hz0 c _ _).mono ?_;rintro r _ ⟨rfl,rfl⟩;simp only[go_sem,zE,zL,f8];refine yQb (yQz (by rw[yQ9 hgc];exact hg0)) ⟨rfl,?_⟩;rw[zZf,Nat.add_assoc]
theorem zG6:∀(k:Nat)(n:Nd),SizeOf.sizeOf n<k->wV8 gl n
 | 0,_,h=>absurd h (by omega)
 | k+1,.mk m c w sub,h=>xVr gl m c w sub λa ha=>zG6 k a (by have:=lSm ha;simp only[Nd.mk.sizeOf_spec] at h;omega)
theorem wYs (n:Nd):wV8 gl n:=zG6 gl _ n (Nat.lt_succ_self _)
theorem yGl:∀n:Nd,n.branches<=n.nodes:=by
 have key:∀(k:Nat) (n:Nd),SizeOf.sizeOf n<k->n.branches<=n.nodes:=by
  intro k
  induction k with
  | zero=>intro n h;omega
  | succ k ih =>
   rintro⟨m,c,w,sub⟩ h;have hs:∀l:List Nd,(∀a∈l,a∈sub)->yQl l<=yQg l:=by
    intro l
    induction l with
    | nil=>intro _;exact Nat.le_refl _
    | cons a l ihl =>
     intro hl;have h1:=ih a (by have:=lSm (hl a (by simp));simp only[Nd.mk.sizeOf_spec] at h;omega);have h2:=ihl λb hb=>hl b (by simp[hb]);simp only[yQl,yQg];omega
   have:=hs sub λa ha=>ha;simp only[Nd.branches,Nd.nodes];split<;>omega
 exact λn=>key _ n (Nat.lt_succ_self _)
theorem zW2 (n:Nd)(z:IV)(hz:IsNd n z)(hn:n.nodes<=1000000)(st:ISt):ICall prog gl 23 [z] st (λr st'=>r=.raw (.int .i64 n.branches)/\st'=st):=by
 have hb:=yGl n;have hz0:=hz;obtain⟨v1,w1,o1,n1,t1,y1,t2,y2,c1,w2,t3,y3,rfl⟩:=yXq hz;refine ICall.intro (c:=cf prog gl [5] []) func23 rfl (by show _<=17;simp) (by kernel_rfl) ?_;simp only[go_sem,zE,zA,zL];refine λc=>yQf λhc=>?_;refine (wYs gl n _ hz0 hn c 0 (by omega) _ (ISt.put_same ..)).mono ?_;rintro _ _ ⟨rfl,rfl⟩;simp only[go_sem,zE,ISt.put_same,yQh,Nat.zero_add];exact yQb (yQz hc) ⟨rfl,rfl⟩
theorem xGg (b:Bool)(l m:List Mk):yZ6 b (l++m)=yZ6 b l++yZ6 b m:=by simp[yZ6]
theorem vXx (l:List Mk)(t:Tag)(xs:List IV)(ht:okEs t 6)(hxs:IsMks l xs)(hl:l.length<=1000000)(b:Bool)(st:ISt) :
  ICall prog gl 69 [.sl t xs,.raw (.bool b)] st (λr st'=>∃t' ys,r=.sl t' ys/\okEs t' 4/\IsFms (yZ6 b l) ys/\st'=st):=by
 refine iI func69 ?_;simp only[go_sem,reduceCtorEq,hxs.len];intro _;refine LoopC.ctr l.length (λk fr st' ds=>(∃t' ys,fr 5=.iv (.sl t' ys)/\IsFms (yZ6 b (l.take k)) ys/\own st' t' (yZ6 b (l.take k)).length 4 st/\subSt st st')/\fr 1=.iv (.raw (.bool b))/\fr 8=.iv (.sl t xs)/\fr 9=.iv (.raw (.int .i64 l.length))/\fr 10=.iv (.raw (.int .i64 k))/\ds=[]) ?_ ?_ ?_
 ·simp only[go_sem,zE];exact⟨⟨_,_,rfl,rfl,.inl ⟨rfl,rfl⟩,subSt.refl _⟩,rfl⟩
 ·rintro k fr st1 _ hlt ⟨⟨t',ys,f5,hys,hown,hsub⟩,f1,f8,f9,f10,rfl⟩;obtain⟨a,ha⟩:=yQ3 hlt;obtain⟨y,hky,hy⟩:=hxs.get ha;have hsl:(yZ6 b (l.take k)).length<=k:=by
   have h1:=List.length_filter_le (λm:Mk=>m.is == b) (l.take k);rw[List.length_take] at h1;simp only[yZ6,List.length_map];omega
  obtain⟨o5,n5,t5,x5,t6,x6,rfl,h1⟩:=hy;have hst:=xGg b (l.take k) [a];rw[yQ8 ha,hst];cases hb:a.is == b
  ·have he:yZ6 b [a]=[]:=by simp[yZ6,hb]
   rw[he,List.append_nil];simp only[go_sem,zE,zB,zA,zL,f1,f5,f8,f9,f10,lt_i hlt,yQ2 ht,iNn,hky,fits,hb,yQa hlt (show l.length<=281474976710656 by omega)];exact⟨t',ys,rfl,hys,hown,hsub⟩
  ·have he:yZ6 b [a]=[a.f]:=by simp[yZ6,hb]
   rw[he];simp only[go_sem,zE,zB,zA,zM,zL,f1,f5,f8,f9,f10,lt_i hlt,yQ2 ht,iNn,hky,fits,hb,yQ1];refine yZw hown hys.len hsub rfl (by simp[fits,IV.one]) (by simp only;omega) (by omega) λtg3 st5 hown3 hsub5 _=>?_;simp only[go_sem,zE,f1,f8,f9,f10,yQa hlt (show l.length<=281474976710656 by omega)];exact⟨tg3,_,rfl,hys.append ⟨_,_,rfl,h1,rfl⟩,by rw[lLa];exact hown3,hsub5⟩
 ·rintro fr st1 _ ⟨⟨t',ys,f5,hys,hown,hsub⟩,f1,f8,f9,f10,rfl⟩;rw[lTl] at hys hown;simp only[go_sem,zE,f5,f9,f10,yQk (nLi _)];exact yQb hsub ⟨t',ys,rfl,hown.es,hys,rfl⟩
theorem zYh (l:List Fm)(t:Tag)(xs:List IV)(ht:okEs t 4)(hxs:IsFms l xs)(hl:yQ7 l<=1000000)(st:ISt) :
  ICall prog gl 71 [.sl t xs] st (λr st'=>∃t' ys,r=.sl t' ys/\okEs t' 4/\appT l.length t'/\IsFmsD l ys/\st'=st):=by
 have hll:=yQj l;refine iI func71 ?_;simp only[go_sem,reduceCtorEq,hxs.len];intro _;refine LoopC.ctr l.length (λk fr st' ds=>(∃t' ys,fr 3=.iv (.sl t' ys)/\IsFmsD (l.take k) ys/\appT k t'/\own st' t' k 4 st/\subSt st st')/\fr 6=.iv (.sl t xs)/\fr 7=.iv (.raw (.int .i64 l.length))/\fr 8=.iv (.raw (.int .i64 k))/\ds=[]) ?_ ?_ ?_
 ·simp only[go_sem,zE];exact⟨⟨_,_,rfl,IsFmsD.nil,.inl rfl,.inl ⟨rfl,rfl⟩,subSt.refl _⟩,rfl⟩
 ·rintro k fr st1 _ hlt ⟨⟨t',ys,f3,hys,hap,hown,hsub⟩,f6,f7,f8,rfl⟩;obtain⟨a,ha⟩:=yQ3 hlt;obtain⟨y,hky,hy⟩:=hxs.get ha;have hsa:=yXe (lMg ha);have hcopy:=λst=>zQ2 gl a y hy (by omega) st;have hyl:=hys.len;rw[List.length_take,Nat.min_eq_left (by omega)] at hyl;obtain⟨o5,n5,t5,x5,t6,x6,rfl⟩:=hy.agg;simp only[go_sem,zE,zB,zA,zL,f3,f6,f7,f8,lt_i hlt,yQ2 ht,iNn,hky,fits];refine (hcopy _).mono ?_;rintro r _ ⟨hr,rfl⟩;have hr0:=hr;obtain⟨o7,n7,t7,x7,t8,x8,rfl⟩:=hr.1.agg;simp only[go_sem,zE,zA,zM,zL,fits,yQ1];refine yZb hown hyl hsub rfl (by simp[fits,IV.one]) (by simp only;omega) (by omega) λtg3 st5 hown3 hsub5 _ hap3=>?_;simp only[go_sem,zE,f6,f7,f8,yQa hlt (show l.length<=281474976710656 by omega)];exact⟨tg3,_,rfl,by rw[yQ8 ha];exact hys.append (IsFmsD.one hr0),hap3,hown3,hsub5⟩
 ·rintro fr st1 _ ⟨⟨t',ys,f3,hys,hap,hown,hsub⟩,f6,f7,f8,rfl⟩;rw[lTl] at hys;simp only[go_sem,zE,f3,f7,f8,yQk (nLi _)];exact yQb hsub ⟨t',ys,rfl,hown.es,hap,hys,rfl⟩
theorem xVa (m:Mk)(y:IV)(hy:IsMk m y)(hs:m.f.size<=1000000)(st:ISt):ICall prog gl 95 [y] st (λr st'=>(IsMk m r/\dfr r)/\st'=st):=by
 obtain⟨o5,n5,t5,x5,t6,x6,rfl,h1⟩:=hy;have hcopy:=λst=>zQ2 gl m.f _ h1 (by omega) st;refine iI func95 ?_;simp only[go_sem,zE,zA,zL];refine (hcopy _).mono ?_;rintro r _ ⟨hr,rfl⟩;have hr0:=hr;obtain⟨o7,n7,t7,x7,t8,x8,rfl⟩:=hr.1.agg;simp only[go_sem,zE,zA,zL,fits];have hd:=hr0.2;simp only[dfr,dfrs,and_true,true_and] at hd;refine yQ0 ⟨⟨⟨_,_,_,_,_,_,rfl,hr0.1⟩,?_⟩,rfl⟩;simp only[dfr,dfrs,and_true,true_and];exact⟨hd.1,λc hc=>by
  simp only[List.mem_cons,List.not_mem_nil,or_false] at hc;rcases hc with rfl|rfl|rfl|rfl|rfl|rfl<;>rfl⟩
def SlO (s0 st:ISt)(s n:Nat)(cells:List IV)(g:Nat)(x:IV):Prop:=(n=0/\cells=[]/\∃f e,x=.sl ⟨f,.nil,e⟩ [])\/(0<n/\∃cap cs,x=.raw (.slice (some ⟨g,0,none⟩) n cap)/\st g=some (.box cs)/\n<=cap/\cap*s<=cs.length/\cs.take (n*s)=cells/\s0 g=none)
def MksO (st:ISt)(g:Nat)(L:List Mk)(x:IV):Prop:=∃cap cs zs,x=.raw (.slice (some ⟨g,0,none⟩) L.length cap)/\st g=some (.box cs)/\L.length<=cap/\cap*6<=cs.length/\cs.take (L.length*6)=zs.flatMap IV.cells/\IsMks L zs
def RowsO (s0 st:ISt):List Nat->List (List Mk)->List IV->Prop
 | [],[],xs=>xs=[]
 | g::gs,a::l,xs=>∃y ys,xs=y::ys/\MksO st g a y/\s0 g=none/\g ∉ gs/\RowsO s0 st gs l ys
 | [],_::_,_=>False
 | _::_,[],_=>False
theorem RowsO.mono {s0 st st':ISt}:∀ {gs:List Nat} {l:List (List Mk)} {xs:List IV},(∀g∈gs,st' g=st g)->RowsO s0 st gs l xs->RowsO s0 st' gs l xs
 | [],[],_,_,h=>h
 | g::gs,a::l,_,hs,⟨y,ys,rfl,⟨cap,cs,zs,h1,h2,h3⟩,h4,h5,h6⟩=>⟨y,ys,rfl,⟨cap,cs,zs,h1,by rw[hs g (by simp)];exact h2,h3⟩,h4,h5,RowsO.mono (λg hg=>hs g (by simp[hg])) h6⟩
theorem RowsO.new {s0 st:ISt}:∀ {gs:List Nat} {l:List (List Mk)} {xs:List IV},RowsO s0 st gs l xs->∀g∈gs,st g≠none/\s0 g=none
 | [],[],_,_,g,hg=>by cases hg
 | g::gs,a::l,_,⟨y,ys,rfl,⟨cap,cs,zs,h1,h2,h3⟩,h4,h5,h6⟩,g',hg'=>by
  rcases List.mem_cons.1 hg' with rfl|hg'
  ·exact⟨by rw[h2];simp,h4⟩
  ·exact RowsO.new h6 g' hg'
theorem RowsO.snoc {s0 st:ISt}{g:Nat}{a:List Mk}{y:IV}(hy:MksO st g a y)(h0:s0 g=none):∀ {gs:List Nat} {l:List (List Mk)} {xs:List IV},g ∉ gs->RowsO s0 st gs l xs->RowsO s0 st (gs++[g]) (l++[a]) (xs++[y])
 | [],[],xs,_,h=>by
  obtain rfl:xs=[]:=h;exact⟨y,[],rfl,hy,h0,by simp,rfl⟩
 | g'::gs,a'::l,_,hg,⟨z,ys,rfl,h1,h4,h5,h6⟩=>⟨z,ys++[y],rfl,h1,h4,by
   show g' ∉ gs++[g]
   simp only[List.mem_append,List.mem_singleton,not_or];exact⟨h5,λhc=>hg (by simp[hc])⟩,RowsO.snoc hy h0 (λhc=>hg (by simp[hc])) h6⟩
theorem RowsO.len {s0 st:ISt}:∀ {gs:List Nat} {l:List (List Mk)} {xs:List IV},RowsO s0 st gs l xs->xs.length=l.length
 | [],[],xs,h=>by obtain rfl:xs=[]:=h;rfl
 | g'::gs,a'::l,_,⟨z,ys,rfl,h1,h4,h5,h6⟩=>by simp[RowsO.len h6]
def LstO (s0 st:ISt)(g:Nat)(gs:List Nat)(L:List (List Mk))(x:IV):Prop:=∃xs,SlO s0 st 1 L.length xs g x/\0<L.length/\g ∉ gs/\RowsO s0 st gs L xs/\subSt s0 st
theorem zWw (a:Option Addr)(n c:Nat):IV.one (.raw (.slice a n c))=true:=rfl
theorem wZf (b:Bool)(o:Int)(x y:Fm):0<(askT b o x y).length/\∀q∈askT b o x y,0<q.length:=by
 unfold askT
 repeat' split
 all_goals simp
theorem wUk (m:Mk)(y:IV)(hy:IsMk m y)(hm:m.f.op<=7)(w:Int)(st:ISt)(b:Nat)(es:List (Value×IV))(hb:st b=some (.map .sg es))(ht:zZn es)(hk:(yZd m).1≠0) :
  ICall prog gl 93 [.raw (.map (some b)),y,.raw (.int .i64 w)] st (λr st'=>∃g gs,LstO st st' g gs (yQi m w) r):=by
 have hfind:=λst hb=>zXm gl m y hy st b es hb ht;obtain⟨is,mw,f⟩:=m;obtain⟨o',n',t1,x1,t2,x2,rfl,hf⟩:=hy;obtain⟨o,n,us,sub⟩:=f;obtain⟨_,_,_,_,he,ho,e1,i1,e2,i2⟩:=hf.mk;simp only[IV.agg.injEq,List.cons.injEq,IV.raw.injEq,Value.int.injEq,Value.string.injEq,IV.sl.injEq,true_and,and_true] at he;obtain⟨rfl,rfl,⟨rfl,rfl⟩,rfl,rfl⟩:=he;simp only[Fm.op] at hm;refine ICall.intro (c:=cf prog gl [67,72] [(10,[0,1,2,3,4,5,6,7,10,8,9])]) func93 rfl (by show _<=75;simp) (by kernel_rfl) ?_;simp only[go_sem,zE,zA,zL,reduceCtorEq];refine (hfind _ hb).mono ?_;rintro _ st ⟨rfl,rfl⟩;obtain⟨⟨k,q⟩,hr,hq,hT⟩:=yKf hk;simp only[Fm.op,Fm.subs] at hr hq;obtain⟨hask,hent,hk12,hq12⟩:=yUv gl hr hm;simp only at hk12 hq12;rw[zJe hT hk12];simp only[Fm.op,Fm.subs];have hfn:fnF ⟨is,mw,.mk o n' us sub⟩=.fn (.func (zKo is o)) [] []:=by unfold fnF;rw[if_neg hk];rfl
 have dk:decide ((k:Int)=0)=false:=dEf (by omega);obtain⟨a,ha⟩:=yQ3 (show 0<sub.length by omega);obtain⟨ya,hka,hA⟩:=i2.get ha;have hA0:=hA;obtain⟨o5,n5,t5,x5,t6,x6,rfl⟩:=hA0.agg;rw[ha,Option.getD_some];rcases hq12 with rfl|rfl;rw[if_neg (by decide)];have hB:=vKi ⟨true,.nil,0⟩ ⟨true,.nil,0⟩ (.inl rfl) (.inl rfl);generalize fm0=fB at hB ⊢;rcases hk12 with rfl|rfl;simp only[go_sem,zE,zB,zA,zL,rowF,hfn,hT,hent,fits,yQ2 e2,Int.le_refl,Int.toNat_zero,hka,show decide (((1:Nat):Int)=0)=false from rfl,show decide (((1:Nat):Int)=2)=false from rfl,show decide (((1:Nat):Int)=1)=true from rfl]
 rotate_left
 simp only[go_sem,zE,zB,zA,zL,rowF,hfn,hT,hent,fits,yQ2 e2,Int.le_refl,Int.toNat_zero,hka,show decide (((2:Nat):Int)=0)=false from rfl,show decide (((1:Nat):Int)=2)=false from rfl,show decide (((2:Nat):Int)=1)=false from rfl,show decide (((2:Nat):Int)=2)=true from rfl]
 rotate_left
 rw[if_pos rfl];obtain⟨fB,hb'⟩:=yQ3 (show 1<sub.length by omega);obtain⟨yb,hkb,hB⟩:=i2.get hb';have hB0:=hB;obtain⟨o7,n7,t7,x7,t8,x8,rfl⟩:=hB0.agg;rw[hb',Option.getD_some];rcases hk12 with rfl|rfl;simp only[go_sem,zE,zB,zA,zL,rowF,hfn,hT,hent,fits,yQ2 e2,Int.le_refl,Int.toNat_zero,hka,Int.toNat_one,hkb,show decide (((1:Nat):Int)=0)=false from rfl,show decide (((2:Nat):Int)=2)=true from rfl,show decide (((1:Nat):Int)=1)=true from rfl]
 rotate_left
 simp only[go_sem,zE,zB,zA,zL,rowF,hfn,hT,hent,fits,yQ2 e2,Int.le_refl,Int.toNat_zero,hka,Int.toNat_one,hkb,show decide (((2:Nat):Int)=0)=false from rfl,show decide (((2:Nat):Int)=1)=false from rfl,show decide (((2:Nat):Int)=2)=true from rfl]
 rotate_left
 all_goals
  refine (hask _ _ _ _ hA hB _).mono ?_;rintro _ st1 ⟨tg,xs,rfl,htg,hxs,rfl⟩;have hL1:=wZf is o a fB;generalize hL:askT is o a fB=L at hxs hL1 ⊢;have hL2:L.length<=2:=by rw[<- hL];exact zQn ..
  have hL3:∀q∈L,q.length<=2:=by rw[<- hL];exact zYr _ _ _ _
  simp only[go_sem,hxs.len];refine LoopC.ctr L.length (λk fr st' ds=>(∃g gs x xs,fr 9=.iv x/\SlO st1 st' 1 k xs g x/\(0<k->g ∉ gs)/\RowsO st1 st' gs ((L.take k).map λl=>l.map (mkH mw)) xs/\subSt st1 st')/\fr 2=.iv (.raw (.int .i64 mw))/\fr 47=.iv (.sl tg xs)/\fr 48=.iv (.raw (.int .i64 L.length))/\fr 49=.iv (.raw (.int .i64 k))/\ds=[]) ?_ ?_ ?_
  ·simp only[go_sem,zE];exact⟨⟨0,[],_,[],rfl,.inl ⟨rfl,rfl,_,_,rfl⟩,λh=>absurd h (by decide),rfl,subSt.refl _⟩,rfl⟩
  ·rintro k fr st2 _ hlt ⟨⟨g,gs,x,ys,f9,hsl,hgg,hrow,hsub⟩,f2,f47,f48,f49,rfl⟩;obtain⟨a,ha⟩:=yQ3 hlt;obtain⟨ta,za,hka,hta,hza⟩:=hxs.get ha;have ha2:=hL3 a (lMg ha);have ha1:=hL1.2 a (lMg ha);simp only[go_sem,zE,f47,f48,f49,lt_i hlt,iNn,hka,fits,hza.len,yQ2 htg];intro _;refine LoopC.ctr a.length (λj fr st' ds=>(∃g zs x2,fr 12=.iv x2/\SlO st2 st' 6 j (zs.flatMap IV.cells) g x2/\IsMks ((a.take j).map (mkH mw)) zs/\(∀c,c≠g->st' c=st2 c)/\(j=0->st'=st2))/\fr 2=.iv (.raw (.int .i64 mw))/\fr 9=.iv x/\fr 47=.iv (.sl tg xs)/\fr 48=.iv (.raw (.int .i64 L.length))/\fr 49=.iv (.raw (.int .i64 k))/\fr 53=.iv (.sl ta za)/\fr 54=.iv (.raw (.int .i64 a.length))/\fr 55=.iv (.raw (.int .i64 j))/\ds=[]) ?_ ?_ ?_
   ·simp only[go_sem,zE,f2,f9,f47,f48,f49];exact⟨⟨0,[],_,rfl,.inl ⟨rfl,rfl,_,_,rfl⟩,rfl,λ_ _=>trivial⟩,rfl⟩
   ·rintro j fr st3 _ hjt ⟨⟨gi,zs,x2,f12,hs2,hzs,hoff,hz0⟩,f2,f9,f47,f48,f49,f53,f54,f55,rfl⟩;obtain⟨h,hh⟩:=yQ3 hjt;obtain⟨y,hky,hy⟩:=hza.get hh;obtain⟨oh,nh,t5,x5,t6,x6,rfl,hfh⟩:=hy;have hzl:=hzs.len;rw[List.length_map,List.length_take,Nat.min_eq_left (by omega)] at hzl;rcases hs2 with⟨rfl,hcz,f,e,rfl⟩|⟨hj0,cap,cs,rfl,hg,hkc,hcc,htk,hgn⟩
    ·obtain rfl:=hz0 rfl;simp only[go_sem,zE,zB,zA,zM,zL,reduceCtorEq,f2,f9,f12,f47,f48,f49,f53,f54,f55,lt_i hjt,yQ2 hta,iNn,hky,fits,yQ1,yQa hjt (show a.length<=281474976710656 by omega)];refine λg cap=>yQf λ⟨hg,hc⟩=>⟨g,zs++[.agg [.raw (.bool h.1),.raw (.int .i64 mw),.raw (.int .u8 oh),.raw (.string nh),.sl t5 x5,.sl t6 x6]],_,rfl,.inr ⟨Nat.zero_lt_one,cap,_,rfl,ISt.put_same ..,hc,?_,?_,hg⟩,?_,λc hc=>yQ9 hc,λh=>absurd h (by decide)⟩
     ·simp[IV.cells];omega
     ·rw[List.flatMap_append,hcz];simp[IV.cells]
     ·rw[yQ8 hh,List.map_append];exact hzs.append (IsMks.one ⟨_,_,_,_,_,_,rfl,hfh⟩)
    ·simp only[go_sem,zE,zB,zA,zM,zL,reduceCtorEq,f2,f12,f53,f54,f55,lt_i hjt,yQ2 hta,iNn,hky,fits,yQ1];refine yKy _ _ _ (cs:=cs) hg (by simp[fits,IV.one]) ⟨by simp only[List.length_singleton];omega,by simp only[List.length_singleton];omega⟩ ⟨hkc,hcc⟩ (by simp[IV.cells]) ?_;rintro g cap' cs' hgn' hc1 hc2 htk';simp only[go_sem,zE,f2,f9,f47,f48,f49,f53,f54,f55,yQa hjt (show a.length<=281474976710656 by omega)];have hg2:st2 g=none:=by
      rcases hgn' with rfl|h
      ·exact hgn
      ·by_cases hq:g=gi
       ·rw[hq];exact hgn
       ·rw[<- hoff g hq];exact h
     refine⟨g,zs++[.agg [.raw (.bool h.1),.raw (.int .i64 mw),.raw (.int .u8 oh),.raw (.string nh),.sl t5 x5,.sl t6 x6]],_,rfl,.inr ⟨by omega,cap',cs',rfl,ISt.put_same ..,hc1,hc2,?_,hg2⟩,?_,λc hc=>?_,λh=>h.elim⟩
     ·rw[List.flatMap_append,<- htk];exact htk'
     ·rw[yQ8 hh,List.map_append];exact hzs.append (IsMks.one ⟨_,_,_,_,_,_,rfl,hfh⟩)
     ·rw[yQ9 hc,ISt.put_apply];split
      ·rename_i hq;rw[hq];exact hgn.symm
      ·rename_i hq;exact hoff c hq
   ·rintro fr st3 _ ⟨⟨gi,zs,x2,f12,hs2,hzs,hoff,hz0⟩,f2,f9,f47,f48,f49,f53,f54,f55,rfl⟩;rw[lTl] at hzs;rcases hs2 with⟨h0,_⟩|⟨hj0,cap,cs,rfl,hg,hkc,hcc,htk,hgn⟩
    ·omega
    have hal:(a.map (mkH mw)).length=a.length:=List.length_map ..;have keep:∀c,st2 c≠none->st3 c=st2 c:=λc hc=>hoff c λh=>hc (by rw[h];exact hgn);have hgi:gi ∉ gs:=λh=>(hrow.new gi h).1 hgn;have hgi1:st1 gi=none:=by
     cases hq:st1 gi with
     | none=>rfl
     | some o=>have:=hsub _ _ hq;rw[hgn] at this;cases this
    have new1:∀c,st3 c=none->st1 c=none:=λc hc=>by
     cases hq:st1 c with
     | none=>rfl
     | some o=>have:=hsub _ _ hq;rw[keep c (by rw[this];simp),this] at hc;cases hc
    have fin:∀(s':ISt) (g':Nat) (x':IV),(g'=g/\0<k\/st3 g'=none)->(∀c,c≠g'->(0<k->c≠g)->s' c=st3 c)->SlO st1 s' 1 (k+1) (ys++[.raw (.slice (some ⟨gi,0,none⟩) a.length cap)]) g' x'->(0<k->st1 g=none)->(0<k->st2 g≠none) →
      ∃g gs x xs,SV.iv x'=.iv x/\SlO st1 s' 1 (k+1) xs g x/\(0<k+1->g ∉ gs)/\RowsO st1 s' gs ((L.take (k+1)).map λl=>l.map (mkH mw)) xs/\subSt st1 s':=λs' g' x' h1 h2 h3 h4 h5=>by
     have hne:∀c,st2 c≠none->c ∉ gs\/c≠g'/\(0<k->c≠g):=λc hc=>by
      by_cases hcg:c∈gs
      ·refine .inr ⟨?_,λhk hcq=>hgg hk (hcq▸hcg)⟩;rintro rfl;rcases h1 with⟨rfl,hk⟩|h1
       ·exact hgg hk hcg
       ·rw[keep _ hc] at h1;exact hc h1
      ·exact .inl hcg
     have hs':∀c∈gs,s' c=st2 c:=λc hc=>by
      have h6:=(hrow.new c hc).1;rcases hne c h6 with h|⟨h7,h8⟩
      ·exact absurd hc h
      ·rw[h2 c h7 h8,keep c h6]
     have hgig:gi≠g':=λhq=>by
      rcases h1 with⟨rfl,hk⟩|h1
      ·exact h5 hk (by rw[<- hq];exact hgn)
      ·rw[<- hq,hg] at h1;cases h1
     have hgig0:0<k->gi≠g:=λhk hq=>h5 hk (by rw[<- hq];exact hgn);refine⟨g',gs++[gi],x',_,rfl,h3,λ_=>?_,?_,λc o hc=>?_⟩
     ·simp only[List.mem_append,List.mem_singleton,not_or];refine⟨λhm=>?_,hgig.symm⟩;rcases h1 with⟨rfl,hk⟩|h1
      ·exact hgg hk hm
      ·have h6:=(hrow.new g' hm).1;rw[keep _ h6] at h1;exact h6 h1
     ·rw[yQ8 ha,List.map_append];exact RowsO.snoc ⟨cap,cs,zs,by rw[hal],by rw[h2 gi hgig hgig0];exact hg,by rw[hal];exact hkc,hcc,by rw[hal];exact htk,hzs⟩ hgi1 hgi (hrow.mono hs')
     ·have h6:=hsub c o hc;have h7:st2 c≠none:=by rw[h6];simp
      have h8:c≠g':=by
       rintro rfl;rcases h1 with⟨rfl,hk⟩|h1
       ·rw[h4 hk] at hc;cases hc
       ·rw[keep _ h7,h6] at h1;cases h1
      rw[h2 c h8 λhk hq=>(by rw[hq,h4 hk] at hc;cases hc),keep c h7];exact h6
    rcases hsl with⟨rfl,hcz,f,e,rfl⟩|⟨hk0,cap9,cs9,rfl,hg9,hkc9,hcc9,htk9,hgn9⟩
    ·simp only[go_sem,zE,zA,zM,zL,f2,f9,f12,f47,f48,f49,f54,f55,yQk (nLi _),fits,yQ1,zWw,yQa hlt (show L.length<=281474976710656 by omega)];refine λg' cap'=>yQf λ⟨hg',hc'⟩=>?_;exact fin _ g' _ (.inr hg') (λc hc _=>yQ9 hc) (.inr ⟨Nat.succ_pos _,cap',_,rfl,ISt.put_same ..,hc',by simp[IV.cells];omega,by rw[hcz];simp[IV.cells],new1 g' hg'⟩) (λh=>absurd h (by omega)) (λh=>absurd h (by omega))
    ·simp only[go_sem,zE,zA,zM,zL,f9,f12,f54,f55,yQk (nLi _),fits,yQ1,zWw];refine yKy _ _ _ (cs:=cs9) (by rw[keep g (by rw[hg9];simp)];exact hg9) (by simp[fits,IV.one]) ⟨by simp only[List.length_singleton];omega,by simp only[List.length_singleton];omega⟩ ⟨hkc9,hcc9⟩ (by simp[IV.cells]) ?_;rintro g' cap' cs' hgn' hc1 hc2 htk';simp only[go_sem,zE,f2,f47,f48,f49,yQa hlt (show L.length<=281474976710656 by omega)];exact fin _ g' _ (hgn'.imp (λh=>⟨h,hk0⟩) id) (λc hc hc'=>by rw[yQ9 hc,yQ9 (hc' hk0)]) (.inr ⟨Nat.succ_pos _,cap',cs',rfl,ISt.put_same ..,hc1,hc2,by rw[<- htk9];exact htk',hgn'.elim (λh=>h▸hgn9) (new1 g')⟩) (λ_=>hgn9) (λ_=>by rw[hg9];simp)
  ·rintro fr st2 _ ⟨⟨g,gs,x,ys,f9,hsl,hgg,hrow,hsub⟩,f2,f47,f48,f49,rfl⟩;rw[lTl] at hrow;rcases hsl with⟨h0,_⟩|⟨hk0,cap9,cs9,rfl,hg9,hkc9,hcc9,htk9,hgn9⟩
   ·omega
   simp only[go_sem,zE,f9,f48,f49,yQk (nLi _)];refine yQ0 ⟨g,gs,ys,.inr ⟨?_,cap9,cs9,?_,hg9,?_,hcc9,?_,hgn9⟩,?_,hgg hk0,hrow,hsub⟩<;>rw[List.length_map]<;>assumption
theorem RowsO.get {s0 st:ISt}:∀ {gs:List Nat} {l:List (List Mk)} {xs:List IV} {k:Nat} {a:List Mk},RowsO s0 st gs l xs->l[k]?=some a->∃g y,xs[k]?=some y/\g∈gs/\MksO st g a y/\s0 g=none/\∀st',(∀c,c≠g->st' c=st c)->MksO st' g a y->RowsO s0 st' gs l xs
 | [],[],xs,k,a,_,hk=>by simp at hk
 | g::gs,a::l,_,0,_,⟨y,ys,rfl,h1,h4,h5,h6⟩,hk=>by
  simp only[List.getElem?_cons_zero,Option.some.injEq] at hk;subst hk;exact⟨g,y,rfl,by simp,h1,h4,λst' h h'=>⟨y,ys,rfl,h',h4,h5,RowsO.mono (λc hc=>h c λhq=>h5 (hq▸hc)) h6⟩⟩
 | g::gs,a::l,_,k+1,b,⟨y,ys,rfl,h1,h4,h5,h6⟩,hk=>by
  obtain⟨g',y',e1,e2,e3,e0,e4⟩:=RowsO.get (k:=k) h6 (by simpa using hk);have hne:g≠g':=λhq=>h5 (hq▸e2);obtain⟨cap,cs,zs,q1,q2,q3⟩:=h1;exact⟨g',y',by simpa using e1,by simp[e2],e3,e0,λst' h h'=>⟨y,ys,rfl,⟨cap,cs,zs,q1,by rw[h g hne];exact q2,q3⟩,h4,h5,e4 st' h h'⟩⟩
theorem yUf:∀ {l:List Mk}{xs:List IV},IsMks l xs->∀x∈xs,x.cells.length=6
 | [],_,rfl,x,hx=>by cases hx
 | a::l,_,⟨y,ys,rfl,hy,h⟩,x,hx=>by
  rcases List.mem_cons.1 hx with rfl|hx
  ·obtain⟨o,n,t,xs,t',ys',rfl,hf⟩:=hy;rfl
  ·exact yUf h x hx
theorem wXv {zs:List IV}{j:Nat}{z:IV}(hj:zs[j]?=some z):zs=zs.take j++z::zs.drop (j+1):=by
 obtain⟨h,rfl⟩:=lGs hj;rw[<- List.drop_eq_getElem_cons h,List.take_append_drop]
theorem zX7 {s:Nat}:∀ {zs:List IV},(∀z∈zs,z.cells.length=s)->(zs.flatMap IV.cells).length=zs.length*s
 | [],_=>by simp
 | a::zs,h=>by
  rw[List.flatMap_cons,lLa,h a (by simp),zX7 λz hz=>h z (by simp[hz]),List.length_cons,Nat.add_mul];omega
theorem wZ6 {zs cs:List IV}{n s j:Nat}{z:IV}(h:∀z∈zs,z.cells.length=s)(hc:cs.take (n*s)=zs.flatMap IV.cells)(hn:zs.length=n)(hj:zs[j]?=some z) :
  (cs.drop (j*s)).take s=z.cells/\j*s+s<=cs.length/\∀y:IV,y.cells.length=s->(cs.take (j*s)++y.cells++cs.drop (j*s+s)).take (n*s)=(zs.take j++[y]++zs.drop (j+1)).flatMap IV.cells/\(cs.take (j*s)++y.cells++cs.drop (j*s+s)).length=cs.length:=by
 have hjn:j<n:=by rw[<- hn];exact (lGs hj).1
 have h1:=zX7 (zs:=zs.take j) λz hz=>h z (List.mem_of_mem_take hz);have h2:=zX7 (zs:=zs.drop (j+1)) λz hz=>h z (List.mem_of_mem_drop hz);have hz:=h z (lMg hj);rw[List.length_take,Nat.min_eq_left (by omega)] at h1;rw[List.length_drop,hn] at h2;generalize hA:(zs.take j).flatMap IV.cells=A at h1;generalize hB:(zs.drop (j+1)).flatMap IV.cells=B at h2;have hf:zs.flatMap IV.cells=A++(z.cells++B):=by
  conv=>lhs;rw[wXv hj]
  rw[List.flatMap_append,List.flatMap_cons,hA,hB]
 have hns:n*s=j*s+s+(n-(j+1))*s:=by
  have:n=j+1+(n-(j+1)):=by omega
  conv=>lhs;rw[this]
  rw[Nat.add_mul,Nat.add_mul,Nat.one_mul]
 have hcs:cs=A++(z.cells++(B++cs.drop (n*s))):=by
  conv=>lhs;rw[<- List.take_append_drop (n*s) cs,hc,hf]
  simp only[List.append_assoc]
 generalize cs.drop (n*s)=R at hcs;subst hcs;have e1:(A++(z.cells++(B++R))).take (j*s)=A:=by rw[<- h1,List.take_left]
 have e2:(A++(z.cells++(B++R))).drop (j*s)=z.cells++(B++R):=by rw[<- h1,List.drop_left]
 have e3:(A++(z.cells++(B++R))).drop (j*s+s)=B++R:=by rw[<- List.drop_drop,e2,<- hz,List.drop_left]
 refine⟨by rw[e2,<- hz,List.take_left],by simp only[lLa];omega,λy hy=>?_⟩;rw[e1,e3];refine⟨?_,by simp only[lLa];omega⟩;rw[List.flatMap_append,List.flatMap_append,List.flatMap_singleton,hA,hB,<- List.append_assoc (A++y.cells) B R,List.take_append_of_le_length (by simp only[lLa];omega),List.take_of_length_le (by simp only[lLa];omega)]
theorem xUk:∀ {l:List Mk}{zs:List IV}{j:Nat}{b:Mk}{y:IV},IsMks l zs->l[j]?=some b->IsMk b y->IsMks l (zs.take j++[y]++zs.drop (j+1))
 | a::l,_,0,b,y,⟨x,xs,rfl,hx,h⟩,hj,hy=>by
  simp only[List.getElem?_cons_zero,Option.some.injEq] at hj;subst hj;exact⟨y,xs,rfl,hy,h⟩
 | a::l,_,j+1,b,y,⟨x,xs,rfl,hx,h⟩,hj,hy=>⟨x,_,rfl,hx,xUk (j:=j) h (by simpa using hj) hy⟩
theorem size_pos (f:Fm):1<=f.size:=by
 cases f;simp only[Fm.size];omega
theorem zGh (f:Fm)(i:Nat):((f.subs[i]?).getD fm0).size<=f.size:=by
 obtain⟨o,n,us,sub⟩:=f;cases h:sub[i]? with
 | none =>
  simp only[Fm.subs,h,Option.getD_none];exact Nat.le_trans (by decide) (size_pos _)
 | some a =>
  have:=yXe (lMg h);simp only[Fm.subs,h,Option.getD_some,Fm.size];omega
theorem wKv (b:Bool)(o:Int)(x y:Fm){k:Nat}(hx:x.size<=k)(hy:y.size<=k):∀q∈askT b o x y,∀h∈q,h.2.size<=2*k+1:=by
 have h1:(impF x y).size<=2*k+1:=by simp only[impF,Fm.size,yQ7,yQy];omega
 have h2:(impF y x).size<=2*k+1:=by simp only[impF,Fm.size,yQ7,yQy];omega
 unfold askT
 repeat' split
 all_goals (simp only[List.mem_cons,List.not_mem_nil,or_false,forall_eq_or_imp,forall_eq];(repeat' apply And.intro)<;>omega)
theorem xWj (m:Mk)(w:Int):∀q∈yQi m w,∀b∈q,b.f.size<=2*m.f.size+1:=by
 intro q hq b hb;unfold yQi at hq;split at hq
 ·cases hq
 ·obtain⟨l,hl,rfl⟩:=List.mem_map.1 hq;obtain⟨h,hh,rfl⟩:=List.mem_map.1 hb;refine wKv _ _ _ _ (k:=m.f.size) (zGh _ 0) ?_ l hl h hh;split
  ·exact zGh _ 1
  ·exact Nat.le_trans (by decide) (size_pos _)
theorem RowsO.oi {s0 st s1:ISt}:∀ {gs:List Nat} {l:List (List Mk)} {xs:List IV},RowsO s0 st gs l xs->(∀g∈gs,s1 g=st g)->(∀q∈l,q.length<=2) →
  ∃ys,ys.length=xs.length/\(∀(i:Nat) (r c:IV),xs[i]?=some r->ys[i]?=some c->OI s1 r c)/\IsMkss l (ages ys)/\∀y∈ys,y.cells=[y]
 | [],[],xs,h,_,_=>by
  obtain rfl:xs=[]:=h;exact⟨[],rfl,λi r c h=>by simp at h,rfl,λy hy=>by cases hy⟩
 | g::gs,a::l,_,⟨y,ys,rfl,hmo,h7,h8,h9⟩,hs,hq=>by
  obtain⟨cap,cs,zs,rfl,h2,h3,h4,h5,h6⟩:=hmo;obtain⟨zz,e1,e2,e3,e4⟩:=RowsO.oi h9 (λc hc=>hs c (by simp[hc])) λq hq'=>hq q (by simp[hq']);have hal:=hq a (by simp);refine⟨.sl ⟨true,.app g,6⟩ zs::zz,by simp[e1],λi r c hr hc=>?_,?_,λy hy=>?_⟩
  ·cases i with
   | zero =>
    simp only[List.getElem?_cons_zero,Option.some.injEq] at hr hc;subst hr;subst hc;rw[<- h6.len] at h3 h5 hal ⊢;refine .sl g cap ⟨true,.app g,6⟩ zs cs rfl (by omega) h3 (yUf h6) (by rw[hs g (by simp)];exact h2) h4 λi r c hr hc=>?_;have hi:i<zs.length*6:=by
     have:=(lGs hc).1
     rwa [zX7 (yUf h6)] at this
    have:(cs.take (zs.length*6))[i]?=cs[i]?:=by rw[List.getElem?_take,if_pos hi]
    rw[h5,hc,hr] at this;cases this;exact .refl _
   | succ i=>exact e2 i r c (by simpa using hr) (by simpa using hc)
  ·simp only[ages,age];exact⟨_,_,_,rfl,.inr rfl,h6.aged,e3⟩
  ·rcases List.mem_cons.1 hy with rfl|hy
   ·rfl
   ·exact e4 y hy
theorem xQ0:∀ {ys:List IV},(∀y∈ys,y.cells=[y])->ys.flatMap IV.cells=ys
 | [],_=>rfl
 | y::ys,h=>by rw[List.flatMap_cons,h y (by simp),xQ0 λz hz=>h z (by simp[hz])];rfl
theorem wUj {st S0 st2:ISt}{g cap:Nat}{gs:List Nat}{L:List (List Mk)}{xs cs:List IV}(hg:st2 g=some (.box cs))(hrow:RowsO S0 st2 gs L xs)(hq:∀q∈L,q.length<=2)(hL:L.length<=2)(hkc:L.length<=cap)(hcc:cap*1<=cs.length)(htk:cs.take (L.length*1)=xs)(hgn:S0 g=none)
  (h0:subSt st S0) (hsub:subSt S0 st2):∃x s1,LendOk st2 s1 st/\OI s1 (.raw (.slice (some ⟨g,0,none⟩) L.length cap)) x/\∃tg zs,age x=.sl tg zs/\okEs tg 1/\IsMkss L zs:=by
 obtain⟨ys,e1,e2,e3,e4⟩:=hrow.oi (s1:=λc=>if c=g\/c∈gs then st2 c else none) (λc hc=>if_pos (.inr hc)) hq;have hxl:=hrow.len;have hnone:∀c,S0 c=none->st c=none:=λc hc=>by
  cases hq:st c with
  | none=>rfl
  | some o=>have:=h0 _ _ hq;rw[hc] at this;cases this
 refine⟨.sl ⟨true,.app g,1⟩ ys,λc=>if c=g\/c∈gs then st2 c else none,⟨λc o hc=>?_,λc o hc=>hsub c o (h0 c o hc),λc cs' hc=>?_⟩,?_,⟨false,.app g,1⟩,ages ys,by simp only[age],.inr rfl,e3⟩
 ·split at hc
  ·exact hc
  ·cases hc
 ·split at hc
  ·rename_i h;rcases h with rfl|h
   ·exact hnone _ hgn
   ·exact hnone _ (hrow.new c h).2
  ·cases hc
 ·have hyl:ys.length=L.length:=by rw[e1,hxl]
  rw[<- hyl] at hkc htk ⊢;refine .sl g cap ⟨true,.app g,1⟩ ys cs rfl (by omega) hkc (λy hy=>by rw[e4 y hy];rfl) ((if_pos (.inl rfl)).trans hg) hcc λi r c hr hc=>?_;rw[xQ0 e4] at hc;have hi:=(lGs hc).1;refine e2 i r c ?_ hc;rw[<- htk,List.getElem?_take,if_pos (by omega)];exact hr
theorem vWg (m:Mk)(y:IV)(hy:IsMk m y)(hm:m.f.op<=7)(hk:(yZd m).1≠0)(hsz:m.f.size<=100000)(w:Int)(st:ISt) :
  ICall prog gl 68 [y,.raw (.int .i64 w)] st (λr st'=>∃tg xs,r=.sl tg xs/\okEs tg 1/\IsMkss (yQi m w) xs/\st'=st):=by
 refine ICall.fix ?_;have hls:=yXz m w;have hll:=yJr m w;have hLz:=xWj m w;have hlo:=λst b es hb ht=>wUk gl m y hy hm w st b es hb ht hk;obtain⟨o5,n5,t5,x5,t6,x6,rfl,h1⟩:=hy;refine ICall.intro (c:=cf prog gl [] [(1,[1,2,0,3,4])]) func68 rfl (by show _<=35;simp) (by kernel_rfl) ?_;simp only[go_sem,zE,zA,zL];refine (xYs gl _).mono ?_;rintro _ _ ⟨tb,es,htb,rfl,hok,rfl⟩;simp only[go_sem,zE,zA];refine (hlo _ _ _ (ISt.put_same ..) hok).mono ?_;rintro _ st1 ⟨g,gs,xs,hsl,h0,hgg,hrow,hsub⟩;obtain⟨S0,hS0⟩:∃S0,S0=st.put tb (some (.map .sg es)):=⟨_,rfl⟩
 rw[<- hS0] at hsl hrow hsub;rcases hsl with⟨hq,_⟩|⟨_,cap,cs,rfl,hg,hkc,hcc,htk,hgn⟩
 ·omega
 generalize hL:yQi m w=L at *;simp only[go_sem];refine LoopC.ctr L.length (λk fr st' ds=>(st' g=some (.box cs)/\RowsO S0 st' gs L xs/\subSt S0 st')/\fr 5=.iv (.raw (.slice (some ⟨g,0,none⟩) L.length cap))/\fr 14=.iv (.raw (.slice (some ⟨g,0,none⟩) L.length cap))/\fr 15=.iv (.raw (.int .i64 L.length))/\fr 16=.iv (.raw (.int .i64 k))/\ds=[]) ?_ ?_ ?_
 ·simp only[go_sem,zE];exact⟨⟨hg,hrow,hsub⟩,rfl⟩
 ·rintro k fr st2 _ hlt ⟨⟨hg2,hrow2,hsub2⟩,f5,f14,f15,f16,rfl⟩;obtain⟨a,ha⟩:=yQ3 hlt;obtain⟨gk,y,hyk,hgk,hmk,hgk0,hupd⟩:=hrow2.get ha;have hck:cs[k*1]?=some y:=by
   have:(cs.take (L.length*1))[k*1]?=cs[k*1]?:=by rw[List.getElem?_take,if_pos (by omega)]
   rw[<- this,htk,Nat.mul_one];exact hyk
  have hal:=hll a (lMg ha);have hggk:g≠gk:=λh=>hgg (h▸hgk);obtain⟨capk,csk,zsk,rfl,hrest⟩:=hmk;simp only[go_sem,zE,f14,f15,f16,lt_i hlt,hg2,fits,hck,if_pos (show 0<=(k:Int)/\k<L.length from⟨by omega,hlt⟩)];refine LoopC.ctr a.length (λj fr st' ds=>((∀c,c≠gk->st' c=st2 c)/\MksO st' gk a (.raw (.slice (some ⟨gk,0,none⟩) a.length capk)))/\fr 5=.iv (.raw (.slice (some ⟨g,0,none⟩) L.length cap))/\fr 7=.iv (.raw (.slice (some ⟨gk,0,none⟩) a.length capk))/\fr 14=.iv (.raw (.slice (some ⟨g,0,none⟩) L.length cap))/\fr 15=.iv (.raw (.int .i64 L.length))/\fr 16=.iv (.raw (.int .i64 k)) /\
   fr 20=.iv (.raw (.slice (some ⟨gk,0,none⟩) a.length capk))/\fr 21=.iv (.raw (.int .i64 a.length))/\fr 22=.iv (.raw (.int .i64 j))/\ds=[]) ?_ ?_ ?_
  ·simp only[go_sem,zE,f5,f14,f15,f16];exact⟨⟨λ_ _=>trivial,capk,csk,zsk,rfl,hrest⟩,rfl⟩
  ·rintro j fr st3 _ hjt ⟨⟨hoff,capj,csj,zsj,hcap,hgj,hkj,hcj,htj,hzj⟩,f5,f7,f14,f15,f16,f20,f21,f22,rfl⟩;simp only[IV.raw.injEq,Value.slice.injEq,true_and] at hcap;subst hcap;simp only[go_sem,zE,zB,zA,f7,f20,f21,f22,lt_i hjt,hgj,fits,if_pos (show 0<=(j:Int)/\j<a.length from⟨by omega,hjt⟩)];obtain⟨b,hbj⟩:=yQ3 hjt;obtain⟨z,hkz,hz⟩:=hzj.get hbj;obtain⟨r1,r2,r3⟩:=wZ6 (n:=a.length) (s:=6) (yUf hzj) htj hzj.len hkz;have hz0:=hz;obtain⟨o7,n7,t7,x7,t8,x8,rfl,hf⟩:=hz;have hcp:=λst=>xVa gl b _ hz0 (by have:=hLz a (lMg ha) b (lMg hbj);omega) st;simp only[IV.cells] at r1;simp only[go_sem,zA,zL,r1,if_pos r2];refine (hcp _).mono ?_;rintro r _ ⟨⟨hr,_⟩,rfl⟩;have hr0:=hr;obtain⟨o9,n9,t9,x9,t10,x10,rfl,hf'⟩:=hr;simp only[go_sem,zE,zA,f5,f7,f14,f15,f16,f20,f21,f22,hgj,yQa hjt (show a.length<=281474976710656 by omega),if_pos (show 0<=(j:Int)/\j<a.length from⟨by omega,hjt⟩),if_pos r2];obtain⟨r4,r5⟩:=r3 (.agg [.raw (.bool b.is),.raw (.int .i64 b.w),.raw (.int .u8 o9),.raw (.string n9),.sl t9 x9,.sl t10 x10]) rfl;simp only[IV.cells] at r4 r5;exact⟨λc hc=>by rw[yQ9 hc];exact hoff c hc,capk,_,_,rfl,ISt.put_same ..,hkj,by rw[r5];exact hcj,r4,xUk hzj hbj hr0⟩
  ·rintro fr st3 _ ⟨⟨hoff,hmk3⟩,f5,f7,f14,f15,f16,f20,f21,f22,rfl⟩;simp only[go_sem,zE,f5,f14,f15,f16,f21,f22,yQk (nLi _),yQa hlt (show L.length<=281474976710656 by omega)];exact⟨by rw[hoff g hggk];exact hg2,hupd _ hoff hmk3,λc o hc=>by rw[hoff c λh=>(by rw[h,hgk0] at hc;cases hc)];exact hsub2 c o hc⟩
 ·rintro fr st2 _ ⟨⟨hg2,hrow2,hsub2⟩,f5,f14,f15,f16,rfl⟩;simp only[go_sem,zE,f5,f15,f16,yQk (nLi _)];obtain⟨x,s1,q1,q2,tg,zs,q3,q4,q5⟩:=wUj hg2 hrow2 hll hls hkc hcc htk hgn (by rw[hS0];exact yQz htb) hsub2;exact yQ0 ⟨x,s1,st,q1,q2,tg,zs,q3,q4,q5,rfl⟩
theorem yGx {m:Mk}(hf:fmB 1 m.f=true)(h:(yZd m).1≠0)(w:Int):∀q∈yQi m w,∀b∈q,b.f.size<=m.f.size:=by
 rcases zVj hf h with⟨n,a,he,ha⟩|⟨o,n,a,b,ho,he,ha,hb⟩
 ·obtain⟨is,w',f⟩:=m;simp only at he;subst he;cases is
  ·show ∀q∈[[(⟨true,w',a⟩:Mk)]],_;simp only[List.mem_singleton,forall_eq,Fm.size,yQy,yQ7];omega
  ·show ∀q∈[[(⟨false,w',a⟩:Mk)]],_;simp only[List.mem_singleton,forall_eq,Fm.size,yQy,yQ7];omega
 ·obtain⟨is,w',f⟩:=m;simp only at he;subst he;have hi:(impF a b).size=(Fm.mk o n [] [a,b]).size:=by simp only[impF,Fm.size]
  have hi':(impF b a).size=(Fm.mk o n [] [a,b]).size:=by simp only[impF,Fm.size,yQ7];omega
  have h1:a.size<=(Fm.mk o n [] [a,b]).size:=by simp only[Fm.size,yQ7];omega
  have h2:b.size<=(Fm.mk o n [] [a,b]).size:=by simp only[Fm.size,yQ7];omega
  intro q hq x hx;have h6:∀q∈askT is o a b,∀h∈q,h.2.size<=(Fm.mk o n [] [a,b]).size:=by
   unfold askT
   repeat' split
   all_goals (simp only[List.mem_cons,List.not_mem_nil,or_false,forall_eq_or_imp,forall_eq];(repeat' apply And.intro)<;>omega)
  have h7:(yZd ⟨is,w',.mk o n [] [a,b]⟩).2=2:=by rcases ho with rfl|rfl|rfl|rfl<;>cases is<;>rfl
  unfold yQi at hq;rw[if_neg h,if_pos h7] at hq;obtain⟨l,hl,rfl⟩:=List.mem_map.1 hq;obtain⟨y,hy,rfl⟩:=List.mem_map.1 hx;exact h6 l hl y hy
theorem xUd {tg:Tag}{es:Nat}(h:okEs tg es){len hh l:Nat}:okEs (yVz (reTag es tg) len hh l none) es:=by
 have:=yQ2 h;unfold yVz;by_cases h1:(reTag es tg).cap=.nil
 ·rw[if_pos h1];exact .inr this
 ·rw[if_neg h1];by_cases h2:l=0/\hh=len
  ·simp only[if_pos h2];exact .inr this
  ·simp only[if_neg h2];exact .inr this
noncomputable def xQh (l:List Mk)(m:Mk)(c:Bool):List (List Mk):=if c then [] else (yQi m 0).map (yQu l)
theorem wXg (wp:IV)(l:List Mk)(t:Tag)(xs:List IV)(ht:okEs t 6)(hxs:IsMks l xs)(m:Mk)(c:Bool)(w:Int)(sub:List Nd)(z:IV)(hz:IsNd (.mk m c w sub) z)(hc:c=false->m.f.op<=7/\(yZd m).1≠0/\sub.length=(yQi m 0).length)(hs:c=true->sub=[])
  (hsz:m.f.size<=100000) (hl:l.length<=100000) (st:ISt) :
  ICall prog gl 32 [wp,z,.sl t xs] st (λr st'=>∃ts zs tq qs,r=.tup [.sl ts zs,.sl tq qs]/\okEs ts 9/\IsNds sub zs/\okEs tq 1/\IsMkss (xQh l m c) qs/\st'=st):=by
 have hls:=yXz m 0;have hll:=yJr m 0;obtain⟨o,n,t1,x1,t2,x2,ts,zs,rfl,h1,h2,h3⟩:=hz.mk;refine iI func32 ?_;cases c
 ·obtain⟨hm,hk,hlen⟩:=hc rfl;have hA:=λst=>vWg gl m _ ⟨_,_,_,_,_,_,rfl,h1⟩ hm hk hsz 0 st;simp only[go_sem,zE,zA,zL];refine (hA _).mono ?_;rintro _ st ⟨tg,qs,rfl,htg,hqs,rfl⟩;have hsl:yXu none (some (min (sub.length:Int) ((yQi m 0).length:Int))) sub.length=some (0,sub.length):=by
   rw[hlen];simp[yXu]
  have htk:List.take sub.length zs=zs:=List.take_of_length_le (by rw[h3.len];exact Nat.le_refl _);simp only[go_sem,zE,h3.len,hqs.len];intro _ _;refine yZg (yQ2 h2) ?_;rw[hsl];simp only[go_sem,htk,h3.len];intro _;refine LoopC.ctr sub.length (λk fr st' ds=>(∃t' ys ts',fr 10=.iv (.sl t' ys)/\IsMkss (((yQi m 0).map (yQu l)).take k) ys/\own st' t' k 1 st/\subSt st st'/\fr 9=.iv (.sl ts' zs)/\okEs ts' 9)/\fr 2=.iv (.sl t xs)/\fr 8=.iv (.sl tg qs)/\fr 27=.iv (.raw (.int .i64 sub.length))/\fr 28=.iv (.raw (.int .i64 k))/\ds=[]) ?_ ?_ ?_
  ·simp only[go_sem,zE];exact⟨⟨_,_,_,rfl,rfl,.inl ⟨rfl,rfl⟩,subSt.refl _,rfl,xUd h2⟩,rfl⟩
  ·rintro k fr st1 _ hlt ⟨⟨t',ys,ts',f10,hys,hown,hsub,f9,hts⟩,f2,f8,f27,f28,rfl⟩;obtain⟨q,hq⟩:=yQ3 (show k<(yQi m 0).length by omega);obtain⟨tq,zq,hkq,htq,hzq⟩:=hqs.get hq;have hq2:=hll q (lMg hq);have hyl:=hys.len;rw[List.length_take,List.length_map,Nat.min_eq_left (by omega)] at hyl;simp only[go_sem,zE,zA,f2,f8,f10,f27,f28,lt_i hlt,yQ2 htg,iNn,hkq,fits];refine (wVj gl l t xs hxs q tq zq htq hzq (by omega) _).mono ?_;rintro _ _ ⟨t3,y3,rfl,e3,i3,rfl⟩;simp only[go_sem,zE,zA,zM,zL,fits,yQ1];refine yZw hown hyl hsub rfl (by simp[fits,IV.one]) (by simp only;omega) (by omega) λtg3 st5 hown3 hsub5 _=>?_;simp only[go_sem,zE,f2,f8,f9,f27,f28,yQa hlt (show sub.length<=281474976710656 by omega)];refine⟨tg3,_,ts',rfl,?_,hown3,hsub5,rfl,hts⟩;rw[yQ8 (show ((yQi m 0).map (yQu l))[k]?=some (yQu l q) by rw[List.getElem?_map,hq];rfl)];exact hys.append (IsMkss.one e3 i3)
  ·rintro fr st1 _ ⟨⟨t',ys,ts',f10,hys,hown,hsub,f9,hts⟩,f2,f8,f27,f28,rfl⟩;rw[List.take_of_length_le (by rw[List.length_map];omega)] at hys;simp only[go_sem,zE,f9,f10,f27,f28,yQk (nLi _)];exact yQb hsub ⟨ts',zs,t',ys,rfl,hts,h3,hown.es,hys,rfl⟩
 ·simp only[go_sem,zE];exact yQ0 ⟨_,_,_,_,rfl,.inl rfl,by rw[hs rfl];rfl,.inl rfl,rfl,rfl⟩
def wrI (rb:Nat)(many:Bool):List IV:=[.raw (.map (some rb)),.raw (.bool many)]
theorem wYn (c0 rb:Nat)(many:Bool)(l:List Mk)(t:Tag)(xs:List IV)(ht:okEs t 6)(hxs:IsMks l xs)(m:Mk)(c:Bool)(w:Int)(sub:List Nd)(z:IV)(hz:IsNd (.mk m c w sub) z)(hc:c=false->m.f.op<=7/\(yZd m).1≠0)(st:ISt)(es:List (Value×IV))
  (h0:st c0=some (.box (wrI rb many))) (hb:st rb=some (.map .sg es)) (hok:wX2 es) :
  ICall prog gl 70 [ptrI c0,z,.sl t xs] st (λr st'=>r=.raw (.int .u8 (yY7 l m c))/\st'=st):=by
 obtain⟨o,n,t1,x1,t2,x2,ts,zs,rfl,h1,h2,h3⟩:=hz.mk;unfold wrI at h0;unfold ptrI;have hh:=λst=>wVz gl l t xs ht hxs ⟨!m.is,m.w,m.f⟩ _ ⟨_,_,_,_,_,_,rfl,h1⟩ st;obtain⟨is,mw,⟨o',n',us,sb⟩⟩:=m;obtain⟨_,_,_,_,he,ho,_,_,_,_⟩:=h1.mk;simp only[IV.agg.injEq,List.cons.injEq,IV.raw.injEq,Value.int.injEq,Value.string.injEq,IV.sl.injEq,true_and,and_true] at he;obtain⟨rfl,rfl,⟨rfl,rfl⟩,rfl,rfl⟩:=he;refine ICall.intro (c:=cf prog gl [14] []) func70 rfl (by show _<=33;simp) (by kernel_rfl) ?_;cases c
 ·obtain⟨hm,hk⟩:=hc rfl;have hf:yXl (.agg #[.bool is,.int .u8 (o':Int)]) es=some (.raw (.int .u8 (yJm is o'))):=by
   obtain⟨r,hr,_⟩:=yKf hk;simp only[Fm.op] at hr hm;have ho':o'=3\/o'=4\/o'=5\/o'=6\/o'=7:=by
    refine Classical.byContradiction λhq=>?_;unfold rowT at hr
    repeat (rw[if_neg (by omega)] at hr)
    cases hr
   rcases ho' with rfl|rfl|rfl|rfl|rfl<;>cases is
   ·exact hok.2.2 1 (by decide)
   ·exact hok.2.2 0 (by decide)
   ·exact hok.2.2 3 (by decide)
   ·exact hok.2.2 2 (by decide)
   ·exact hok.2.2 5 (by decide)
   ·exact hok.2.2 4 (by decide)
   ·exact hok.2.2 7 (by decide)
   ·exact hok.2.2 6 (by decide)
   ·exact hok.2.2 9 (by decide)
   ·exact hok.2.2 8 (by decide)
  simp only[go_sem,zE,zA,zL,reduceCtorEq,fits,h0,hb];refine yZg (by simp;omega) ?_;simp only[go_sem,hf,show zKi false (some (IV.raw (.int .u8 (yJm is o')))) (IV.raw (.int .u8 0))=some (IV.raw (.int .u8 (yJm is o'))) from rfl];exact yQ0 ⟨rfl,rfl⟩
 ·simp only[go_sem,zE,zA,zL];refine (hh _).mono ?_;rintro _ st ⟨rfl,rfl⟩;unfold yY7;cases hq:hasT l ⟨!is,mw,.mk o' n us sb⟩
  ·simp only[go_sem,reduceCtorEq];exact yQ0 ⟨rfl,rfl⟩
  ·simp only[go_sem,reduceCtorEq];exact yQ0 ⟨rfl,rfl⟩
def trZ:List IV:=[.raw (.int .u8 0),.sl ⟨true,.nil,0⟩ [],.sl ⟨true,.nil,0⟩ [],.raw (.int .u8 0),.raw (.string ⟨#[]⟩),.sl ⟨true,.nil,0⟩ [],.sl ⟨true,.nil,0⟩ [],.raw (.bool false),.raw (.string ⟨#[]⟩),.sl ⟨true,.nil,0⟩ [],.raw (.string ⟨#[]⟩),.sl ⟨true,.nil,0⟩ []]
def tr0:Tr:=.mk 0 ⟨[],[]⟩ fm0 tm0 bE []
theorem zGg:IsTr tr0 (.agg trZ):=by
 simp only[tr0,IsTr,trZ];exact⟨_,_,_,_,_,_,_,_,_,_,_,_,_,_,_,_,rfl,by decide,.inl rfl,rfl,.inl rfl,rfl,vQ4,⟨_,_,rfl,.inl rfl,rfl⟩,.inl rfl,rfl⟩
theorem wJ6 (l:List Mk)(m:Mk)(c:Bool):yY7 l m c<256:=by
 unfold yY7 yJm
 repeat' split
 all_goals decide
theorem wG0:dfr (.agg trZ):=by
 simp only[trZ,dfr,dfrs,appT,and_true,true_and,true_or,List.flatMap_nil,List.not_mem_nil,false_imp_iff,implies_true];intro c hc;simp only[List.mem_cons,List.not_mem_nil,or_false] at hc;rcases hc with rfl|rfl|rfl|rfl|rfl|rfl|rfl|rfl|rfl|rfl|rfl|rfl<;>rfl
def vQy (rule:Nat)(s:Sq)(f:Fm)(pre:List IV):Prop:=(∀(ts:List Tr) (tS:Tag) (xS:List IV),okEs tS 12->IsTrs ts xS->IsTr (.mk rule s f tm0 bE ts) (.agg (pre++[.sl tS xS])))/\dfrs pre/\∀c∈pre,c.one=true
theorem wWe {rule:Nat}{s:Sq}{f:Fm}{tL tR t t':Tag}{xL xR xs ys:List IV}{o:Int}{n:ByteArray}(hr:rule<256)(e1:okEs tL 4)(a1:appT s.l.length tL)(i1:IsFmsD s.l xL)(e2:okEs tR 4)(a2:appT s.r.length tR)(i2:IsFmsD s.r xR)
  (hf:IsFmD f (.agg [.raw (.int .u8 o),.raw (.string n),.sl t xs,.sl t' ys])):vQy rule s f [.raw (.int .u8 rule),.sl tL xL,.sl tR xR,.raw (.int .u8 o),.raw (.string n),.sl t xs,.sl t' ys,.raw (.bool false),.raw (.string ⟨#[]⟩),.sl ⟨true,.nil,0⟩ [],.raw (.string ⟨#[]⟩)]:=by
 have h1:=wVy a1 i1;have h2:=wVy a2 i2;have h3:dfr (.sl ⟨true,.nil,0⟩ []):=by simp[dfr,dfrs,appT]
 have h4:=hf.2;rw[dfr] at h4;refine⟨λts tS xS eS iS=>?_,?_,λc hc=>?_⟩
 ·simp only[IsTr];exact⟨_,_,_,_,_,_,_,_,_,_,_,_,_,_,_,_,rfl,hr,e1,i1.1,e2,i2.1,hf.1,⟨_,_,rfl,.inl rfl,rfl⟩,eS,iS⟩
 ·obtain⟨_,_,h5,h6,_⟩:=h4.1;exact⟨trivial,h1,h2,trivial,trivial,h5,h6,trivial,trivial,h3,trivial,trivial⟩
 ·simp only[List.mem_cons,List.not_mem_nil,or_false] at hc;rcases hc with rfl|rfl|rfl|rfl|rfl|rfl|rfl|rfl|rfl|rfl|rfl<;>rfl
theorem wYm (c0 rb:Nat)(many:Bool)(l:List Mk)(t:Tag)(xs:List IV)(ht:okEs t 6)(hxs:IsMks l xs)(m:Mk)(c:Bool)(w:Int)(sub:List Nd)(z:IV)(hz:IsNd (.mk m c w sub) z)(hc:c=false->m.f.op<=7/\(yZd m).1≠0)(hl:l.length<=100000)
  (hs1:yQ7 (yZ6 true l)<=1000000) (hs2:yQ7 (yZ6 false l)<=1000000) (hs3:m.f.size<=1000000) (g k:Nat) (st:ISt) (es:List (Value×IV))
  (h0:st c0=some (.box (wrI rb many))) (hb:st rb=some (.map .sg es)) (hok:wX2 es) :
  ICall prog gl 33 [ptrI c0,z,.sl t xs,.raw (.slice (some ⟨g,0,none⟩) k k)] st (λr st'=>∃many',many'=(many || decide (64<(yZ6 true l).length) || decide (64<(yZ6 false l).length))/\(many'=true->r=.agg trZ) /\
   (many'=false->∃tL xL tR xR o n t xs t' ys,r=.agg [.raw (.int .u8 (yY7 l m c)),.sl tL xL,.sl tR xR,.raw (.int .u8 o),.raw (.string n),.sl t xs,.sl t' ys,.raw (.bool false),.raw (.string ⟨#[]⟩),.sl ⟨true,.nil,0⟩ [],.raw (.string ⟨#[]⟩),.raw (.slice (some ⟨g,0,none⟩) k k)] /\
    vQy (yY7 l m c) (sqT l) m.f [.raw (.int .u8 (yY7 l m c)),.sl tL xL,.sl tR xR,.raw (.int .u8 o),.raw (.string n),.sl t xs,.sl t' ys,.raw (.bool false),.raw (.string ⟨#[]⟩),.sl ⟨true,.nil,0⟩ [],.raw (.string ⟨#[]⟩)])/\st'=st.put c0 (some (.box (wrI rb many')))):=by
 have hz0:=hz;have hside:=λb st=>vXx gl l t xs ht hxs (by omega) b st;obtain⟨o,n,t1,x1,t2,x2,tn,zs,rfl,h1,h2,h3⟩:=hz.mk;have hrule:=wYn gl c0 rb many l t xs ht hxs m c w sub _ hz0 hc st es h0 hb hok;have hcopy:=λst=>zQ2 gl m.f _ h1 (by omega) st;unfold wrI at h0;unfold ptrI at *;refine ICall.intro (c:=cf prog gl [] [(5,[0,1,2,4,6,9,10,11,13,3,5,7,8,12,14,15])]) func33 rfl (by show _<=48;simp) (by kernel_rfl) ?_;simp only[go_sem,zE,zA];refine (hside true _).mono ?_;rintro _ st ⟨tL,xL,rfl,eL,iL,rfl⟩;simp only[go_sem,zE,zA];refine (hside false _).mono ?_;rintro _ st ⟨tR,xR,rfl,eR,iR,rfl⟩;have e1:∀n:Nat,decide ((64:Int)<(n:Int))=decide (64<n):=λn=>decide_eq_decide.2 (by omega);cases many
 ·generalize hbL:decide (64<(yZ6 true l).length)=bL;cases bL
  ·generalize hbR:decide (64<(yZ6 false l).length)=bR;cases bR
   ·simp only[go_sem,zE,zA,zL,reduceCtorEq,h0,iL.len,iR.len,e1,hbL,hbR];intro _ _;refine hrule.mono ?_;rintro _ _ ⟨rfl,rfl⟩;simp only[go_sem,zE,zA];refine (zYh gl _ tL xL eL iL hs1 _).mono ?_;rintro _ st ⟨tL',xL',rfl,eL',aL',iL',rfl⟩;simp only[go_sem,zE,zA];refine (zYh gl _ tR xR eR iR hs2 _).mono ?_;rintro _ st ⟨tR',xR',rfl,eR',aR',iR',rfl⟩;simp only[go_sem,zE,zA,zL,fits];refine (hcopy _).mono ?_;rintro _ st ⟨hr,rfl⟩;have hr0:=hr;obtain⟨o7,n7,t7,x7,t8,x8,rfl⟩:=hr.1.agg;simp only[go_sem,zE,zA,zL,fits,IV.one];have hpre:=wWe (s:=sqT l) (wJ6 l m c) eL' aL' iL' eR' aR' iR' hr0;refine yQ0 ?_;exact⟨false,rfl,(λh=>nomatch h),(λ_=>⟨_,_,_,_,_,_,_,_,_,_,rfl,hpre⟩),(yWh h0).symm⟩
   ·simp only[go_sem,zE,zA,zL,reduceCtorEq,h0,iL.len,iR.len,e1,hbL,hbR];intro _ _;exact yQ0 ⟨true,rfl,(λ_=>rfl),(λh=>nomatch h),rfl⟩
  ·simp only[go_sem,zE,zA,zL,reduceCtorEq,h0,iL.len,e1,hbL];intro _;exact yQ0 ⟨true,rfl,(λ_=>rfl),(λh=>nomatch h),rfl⟩
 ·simp only[go_sem,zE,zA,zL,reduceCtorEq,h0];exact yQ0 ⟨true,rfl,(λ_=>rfl),(λh=>nomatch h),rfl⟩
theorem yW9 (l:List Mk):∀ {qs:List (List Mk)} {ns:List Nd} {k:Nat} {q:List Mk} {n:Nd},qs[k]?=some q->ns[k]?=some n →
  yXa l (qs.take (k+1)) (ns.take (k+1))=yXa l (qs.take k) (ns.take k)++[yJc (yQu l q) n]/\yYv l (qs.take (k+1)) (ns.take (k+1))=(yYv l (qs.take k) (ns.take k) || bigT (yQu l q) n)
 | q::qs,n::ns,0,_,_,h1,h2=>by
  simp only[List.getElem?_cons_zero,Option.some.injEq] at h1 h2;subst h1 h2;simp[yXa,yYv]
 | q::qs,n::ns,k+1,_,_,h1,h2=>by
  obtain⟨e1,e2⟩:=yW9 l (qs:=qs) (ns:=ns) (k:=k) (by simpa using h1) (by simpa using h2);simp only[List.take_succ_cons,yXa,yYv,e1,e2,List.cons_append,Bool.or_assoc,and_self]
theorem yWx {l:List Mk}{p:List Nat}:∀ {qs:List (List Mk)} {ns:List Nd} {i k:Nat} {q:List Mk} {n:Nd},(yX2 l p i qs ns).2=0->qs[k]?=some q->ns[k]?=some n->(yZi (yQu l q) (p++[i+k]) n).2=0
 | q::qs,n::ns,i,0,_,_,h,h1,h2=>by
  simp only[List.getElem?_cons_zero,Option.some.injEq] at h1 h2;subst h1 h2;rw[yX2] at h;split at h
  ·exact h
  ·rename_i h';simpa using h'
 | q::qs,n::ns,i,k+1,_,_,h,h1,h2=>by
  rw[yX2] at h;split at h
  ·rename_i h';exact absurd h h'
  ·have:=yWx (k:=k) h (by simpa using h1) (by simpa using h2)
   rwa [show i+1+k=i+(k+1) by omega] at this
theorem zQ1 {B:Nat}:∀ {l:List Fm},(∀f∈l,f.size<=B)->yQ7 l<=l.length*B
 | [],_=>Nat.zero_le _
 | a::l,h=>by
  have h1:=h a (by simp);have h2:=zQ1 (l:=l) λf hf=>h f (by simp[hf]);simp only[yQ7,List.length_cons,Nat.add_mul,Nat.one_mul];omega
theorem xJo (b:Bool)(l:List Mk):(yZ6 b l).length<=l.length:=by
 rw[yZ6,List.length_map];exact List.length_filter_le ..
theorem zGu {l:List Mk}(h:∀m∈l,m.f.size<=300)(hl:l.length<=1000)(b:Bool):yQ7 (yZ6 b l)<=1000000:=by
 have h1:=zQ1 (B:=300) (l:=yZ6 b l) λf hf=>by
  obtain⟨m,hm,_,rfl⟩:=yJ7.1 hf;exact h m hm
 have h2:=xJo b l;have:(yZ6 b l).length*300<=1000*300:=Nat.mul_le_mul_right _ (by omega);omega
theorem yU5:∀ {l:List Tr}{xs:List IV},IsTrs l xs->∀x∈xs,x.cells.length=12
 | [],xs,h,x,hx=>by simp only[IsTrs] at h;subst h;cases hx
 | a::l,xs,h,x,hx=>by
  simp only[IsTrs] at h;obtain⟨y,ys,rfl,hy,h⟩:=h;rcases List.mem_cons.1 hx with rfl|hx
  ·obtain⟨rule',tl',xl',tr1',xr',op',fn',ta',xa',tb',xb',v',un',tu',xu',n',ts2,xs2,rfl⟩:=yX4 hy;rfl
  ·exact yU5 h x hx
theorem xQv:∀ {l:List Tr}{xs:List IV}{z:IV},IsTrs l xs->z∈xs->∃t,IsTr t z
 | [],xs,z,h,hx=>by simp only[IsTrs] at h;subst h;cases hx
 | a::l,xs,z,h,hx=>by
  simp only[IsTrs] at h;obtain⟨y,ys,rfl,hy,h⟩:=h;rcases List.mem_cons.1 hx with rfl|hx
  ·exact⟨a,hy⟩
  ·exact xQv h hx
mutual
theorem zXl:∀ {t:Tr}{x:IV},IsTr t x->IsTr t (age x)
 | .mk rule s f u n sub,x,h=>by
  simp only[IsTr] at h;obtain⟨tl,xl,tr,xr,op,fn,ta,xa,tb,xb,v,un,tu,xu,ts,xs,rfl,hr,e1,i1,e2,i2,hf,hu,e3,i3⟩:=h;have hf':=hf.aged;have hu':=hu.aged;simp only[age,ages] at hf' hu' ⊢;simp only[IsTr];exact⟨_,_,_,_,_,_,_,_,_,_,_,_,_,_,_,_,rfl,hr,yXh e1,IsFms.aged i1,yXh e2,IsFms.aged i2,hf',hu',yXh e3,xJc i3⟩
theorem xJc:∀ {l:List Tr}{xs:List IV},IsTrs l xs->IsTrs l (ages xs)
 | [],xs,h=>by simp only[IsTrs] at h;subst h;rfl
 | a::l,xs,h=>by
  simp only[IsTrs] at h;obtain⟨y,ys,rfl,hy,h⟩:=h;simp only[ages,IsTrs];exact⟨_,_,rfl,zXl hy,xJc h⟩
end
def wV6 (n:Nd):Prop:=∀(z:IV) (_:IsNd n z) (l:List Mk) (p:List Nat) (_:(yZi l p n).2=0) (_:GoodT l) (_:∀m∈l,m.f.size<=300) (_:l.length+2*n.nodes<=1000) (t:Tag) (xs:List IV) (_:okEs t 6) (_:IsMks l xs)
 (st:ISt) (c0 rb:Nat) (many:Bool) (es:List (Value×IV)) (_:st c0=some (.box (wrI rb many))) (_:st rb=some (.map .sg es)) (_:wX2 es),
 ICall prog gl 30 [z,.sl t xs,.fn (.func 32) [ptrI c0] [],.fn (.func 33) [ptrI c0] []] st
  (λr st'=>∃tr many',(IsTr tr r/\dfr r)/\many'=(many || bigT l n)/\(many'=false->tr=yJc l n)/\st'=st.put c0 (some (.box (wrI rb many'))))
theorem xVp (m:Mk)(c:Bool)(w:Int)(sub:List Nd)(IH:∀a∈sub,wV6 gl a):wV6 gl (.mk m c w sub):=by
 intro z hz l p hck hgood hsz hlen t xs ht hxs st c0 rb many es h0 hb hok;have hz0:=hz;have hln:=yJt sub;simp only[Nd.nodes] at hlen;have hcr:c0≠rb:=λh=>by rw[h,hb] at h0;cases h0
 have hck0:=hck;rw[yZi] at hck;have hw0:yV0 l m c w sub.length=0:=by
  split at hck
  ·rename_i h;exact absurd hck h
  ·rename_i h;simpa using h
 rw[if_neg (by rw[hw0];decide)] at hck;obtain⟨hml,hcl,hfi,rfl,hsl⟩:=yJj hw0;obtain⟨hmf,hmw⟩:=hgood m hml;have hop:m.f.op<=7:=by
  have h4:=(yXi.1 hmf).2.2.2;obtain⟨mi,mw,⟨o,n,us,sb⟩⟩:=m;simp only[opsB,bAt,dTe] at h4;show o<=7;simpa using h4.1.1.2
 obtain⟨v1,w1,o1,n1,t1,y1,t2,y2,c1,w2,t3,y3,rfl⟩:=yXq hz;clear hz;refine ICall.fixA ?_;refine ICall.intro (c:=cf prog gl [23] []) func30 rfl (by show _<=48;simp) (by kernel_rfl) ?_;simp only[go_sem,zE,zA,zL];refine (wXg gl _ l t xs ht hxs m c 0 sub _ hz0 (λhc=>⟨hop,hfi hc,by rw[hsl,hc];rfl⟩) (λhc=>List.length_eq_zero_iff.1 (by rw[hsl,hc];rfl)) (by have:=hsz m hml;omega) (by omega) _).mono ?_;rintro _ st ⟨ts,zs,tq,qs,rfl,e3,i3,eq,iq,rfl⟩;have hzl:=i3.len;have hqn:(xQh l m c).length=sub.length:=by
  unfold xQh;rw[hsl];cases c<;>simp
 simp only[go_sem,zE,zA];intro _;refine yZg ⟨by omega,by omega,by omega⟩ λg=>yQf λhg=>?_;have hgc:g≠c0:=λh=>by rw[h,h0] at hg;cases hg
 have hgr:g≠rb:=λh=>by rw[h,hb] at hg;cases hg
 intro _;refine LoopC.ctr sub.length (λk fr st' ds=>(∃cs zt tt mk,st'=(st.put c0 (some (.box (wrI rb mk)))).put g (some (.box cs))/\cs.length=sub.length*12/\cs.take (k*12)=zt.flatMap IV.cells/\IsTrs tt zt/\dfrs zt/\zt.length=k /\
   mk=(many || yYv l ((yQi m 0).take k) (sub.take k))/\(mk=false->tt=yXa l ((yQi m 0).take k) (sub.take k))) /\
  fr 1=.iv (.sl t xs)/\fr 2=.iv (.fn (.func 32) [ptrI c0] [])/\fr 3=.iv (.fn (.func 33) [ptrI c0] [])/\fr 4=.box [.raw (.bool v1),.raw (.int .i64 w1),.raw (.int .u8 o1),.raw (.string n1),.sl t1 y1,.sl t2 y2,.raw (.bool c1),.raw (.int .i64 w2),.sl t3 y3]/\fr 8=.box trZ /\
  fr 10=.iv (.sl tq qs)/\fr 11=.iv (.raw (.slice (some ⟨g,0,none⟩) sub.length sub.length))/\fr 24=.iv (.sl ts zs)/\fr 25=.iv (.raw (.int .i64 sub.length))/\fr 26=.iv (.raw (.int .i64 k))/\ds=[]) ?_ ?_ ?_
 ·simp only[go_sem,zE,zM,hzl];exact⟨⟨_,[],[],many,by rw[yWh h0],by simp,rfl,rfl,trivial,rfl,by simp[yYv],λ_=>rfl⟩,rfl,rfl⟩
 ·rintro k fr _ _ hlt ⟨⟨cs,zt,tt,mk,rfl,hcs,hct,hzt,hzd,hztl,hmk,hmt⟩,f1,f2,f3,f4,f8,f10,f11,f24,f25,f26,rfl⟩;obtain⟨a,ha⟩:=yQ3 hlt;obtain⟨z,hkz,hz⟩:=i3.get ha;have ham:=lMg ha;have hsta:=yXg ham;have hcf:c=false:=by
   cases hq:c
   ·rfl
   ·rw[if_pos hq] at hsl;omega
  subst hcf;obtain⟨q,hq⟩:=yQ3 (show k<(yQi m 0).length by rw[if_neg (by decide)] at hsl;omega);have hbq:(xQh l m false)[k]?=some (yQu l q):=by simp[xQh,hq]
  obtain⟨tk,zk,hkq,etk,izk⟩:=iq.get hbq;have hqm:=lMg hq;have hq2:=yJr m 0 q hqm;have hal:=yZc q l;simp only[bFt,if_false] at hck;have hg':GoodT (yQu l q):=hgood.adds λx hx=>by
   obtain⟨h1,h2⟩:=(yWy hmf (hfi rfl) 0).2.2.1 q hqm x hx;exact⟨h1,h2.trans hmw⟩
  have hs':∀x∈yQu l q,x.f.size<=300:=λx hx=>(yV7.1 hx).elim (hsz x) λh=>Nat.le_trans (yGx hmf (hfi rfl) 0 q hqm x h) (hsz m hml);have hcall:=λst1 h0 hb=>IH a ham z hz (yQu l q) _ (yWx hck hq ha) hg' hs' (by omega) tk zk etk izk st1 c0 rb mk es h0 hb hok;obtain⟨v3,w3,o3,n3,t4,y4,t5,y5,c5,w5,t6,y6,rfl⟩:=yXq hz;simp only[go_sem,zE,zB,zA,zL,f2,f3,f10,f11,f24,f25,f26,lt_i hlt,yQ2 e3,yQ2 eq,iNn,hkz,hkq,fits];refine (hcall _ (by rw[yQ9 hgc.symm,ISt.put_same]) (by rw[yQ9 hgr.symm,yQ9 hcr.symm];exact hb)).mono ?_;rintro r _ ⟨tr,mk',⟨htr,htd⟩,hmk',htr',rfl⟩;have htr0:=htr;obtain⟨rule',tl',xl',tr1',xr',op',fn',ta',xa',tb',xb',v',un',tu',xu',n',ts2,xs2,rfl⟩:=yX4 htr;simp only[go_sem,zE,zA,f1,f2,f3,f4,f8,f10,f11,f24,f25,f26,ISt.put_same,yQ9 hgc,yQa hlt (show sub.length<=281474976710656 by omega)];obtain⟨q1,q2⟩:=yGs (k:=k) (n:=sub.length) (s:=12) (new:=[.raw (.int .u8 rule'),.sl tl' xl',.sl tr1' xr',.raw (.int .u8 op'),.raw (.string fn'),.sl ta' xa',.sl tb' xb',.raw (.bool v'),.raw (.string un'),.sl tu' xu',.raw (.string n'),.sl ts2 xs2]) hcs hlt rfl;obtain⟨e5,e6⟩:=yW9 l hq ha;rw[if_pos ⟨by omega,hlt⟩,if_pos (by omega),zZs hgc,yQh,yQh];refine⟨_,zt++[.agg [.raw (.int .u8 rule'),.sl tl' xl',.sl tr1' xr',.raw (.int .u8 op'),.raw (.string fn'),.sl ta' xa',.sl tb' xb',.raw (.bool v'),.raw (.string un'),.sl tu' xu',.raw (.string n'),.sl ts2 xs2]],tt++[tr],mk',rfl,q1,?_,hzt.append ⟨_,_,rfl,htr0,rfl⟩,yJ3 hzd ⟨htd,trivial⟩,by simp[hztl],?_,λh=>?_⟩
  ·rw[q2,hct,List.flatMap_append,List.flatMap_singleton];rfl
  ·rw[hmk',hmk,e6,Bool.or_assoc]
  ·rw[hmk'] at h;rw[e5,hmt (by simpa using (Bool.or_eq_false_iff.1 h).1),htr' (by rw[hmk'];exact h)]
 ·rintro fr _ _ ⟨⟨cs,zt,tt,mk,rfl,hcs,hct,hzt,hzd,hztl,hmk,hmt⟩,f1,f2,f3,f4,f8,f10,f11,f24,f25,f26,rfl⟩;simp only[go_sem,zE,zA,zL,f1,f3,f4,f11,f25,f26,yQk (nLi _)];refine (wYm gl c0 rb mk l t xs ht hxs m c 0 sub _ hz0 (λhc=>⟨hop,hfi hc⟩) (by omega) (zGu hsz (by omega) true) (zGu hsz (by omega) false) (by have:=hsz m hml;omega) g sub.length _ es (by rw[yQ9 hgc.symm,ISt.put_same]) (by rw[yQ9 hgr.symm,yQ9 hcr.symm];exact hb) hok).mono ?_;rintro r _ ⟨mk',hmk',hT,hF,rfl⟩;have hX:yYv l ((yQi m 0).take sub.length) (sub.take sub.length)=(!c&&yYv l (yQi m 0) sub)/\yXa l ((yQi m 0).take sub.length) (sub.take sub.length)=if c then [] else yXa l (yQi m 0) sub:=by
   rw[lTl];cases c
   ·simp only[bFt,if_false] at hsl;rw[List.take_of_length_le (by omega)];exact⟨rfl,rfl⟩
   ·obtain rfl:=List.length_eq_zero_iff.1 (hsl.trans rfl);exact⟨rfl,rfl⟩
  rw[hX.1] at hmk;rw[hX.2] at hmt;have hbig:mk'=(many || bigT l (.mk m c 0 sub)):=by
   rw[hmk',hmk,bigT];cases many<;>cases decide (64<(yZ6 true l).length)<;>cases decide (64<(yZ6 false l).length)<;>cases (!c&&yYv l (yQi m 0) sub)<;>rfl
  rw[zZs hgc,yQh];have hSg:(st.put c0 (some (.box (wrI rb mk')))) g=none:=by rw[yQ9 hgc];exact hg
  cases mk'
  ·obtain⟨tL,xL,tR,xR,o,n,t3,x3,t4,x4,rfl,hpre⟩:=hF rfl;have hmkf:mk=false:=(Bool.or_eq_false_iff.1 (Bool.or_eq_false_iff.1 hmk'.symm).1).1;simp only[go_sem,zE,zA,zL,f8,trZ,IV.one];refine yQ0 (.inr ⟨[_,_,_,_,_,_,_,_,_,_,_],g,_,_,cs,12,zt,_,hg,hSg,rfl,rfl,hztl,by omega,Nat.le_refl _,by omega,hct,yU5 hzt,.mk (yY7 l m c) (sqT l) m.f tm0 bE tt,false,⟨hpre.1 _ _ _ (.inr rfl) hzt,?_⟩,hbig,λ_=>?_,rfl⟩)
   ·rw[dfr];refine⟨yJ3 hpre.2.1 ⟨?_,trivial⟩,λx hx=>?_⟩
    ·rw[dfr];refine⟨.inr ⟨by simp[wkE],rfl,g,rfl⟩,hzd,λx hx=>?_⟩;obtain⟨z,hz,hxz⟩:=List.mem_flatMap.1 hx;obtain⟨tr,htr⟩:=xQv hzt hz;obtain⟨rule',tl',xl',tr1',xr',op',fn',ta',xa',tb',xb',v',un',tu',xu',n',ts2,xs2,rfl⟩:=yX4 htr;simp only[IV.cells,List.mem_cons,List.not_mem_nil,or_false] at hxz;rcases hxz with rfl|rfl|rfl|rfl|rfl|rfl|rfl|rfl|rfl|rfl|rfl|rfl<;>rfl
    ·rcases List.mem_append.1 hx with hx|hx
     ·exact hpre.2.2 x hx
     ·rw[List.mem_singleton.1 hx];rfl
   ·rw[yJc,hmt hmkf]
  ·have h:=hT rfl;subst h;have z0:=zGg;have z1:=wG0;unfold trZ at z0 z1;simp only[go_sem,zE,zA,zL,f8,trZ];exact yQb (yQz hSg) (.inl ⟨tr0,true,⟨z0,z1⟩,hbig,(λh=>nomatch h),rfl⟩)
theorem zG4:∀(k:Nat)(n:Nd),SizeOf.sizeOf n<k->wV6 gl n
 | 0,_,h=>absurd h (by omega)
 | k+1,.mk m c w sub,h=>xVp gl m c w sub λa ha=>zG4 k a (by have:=lSm ha;simp only[Nd.mk.sizeOf_spec] at h;omega)
theorem wYq (n:Nd):wV6 gl n:=zG4 gl _ n (Nat.lt_succ_self _)
theorem zV3 {l:List Mk}{k:Nat}{a:Mk}(h:l[k]?=some a)(b:Bool):yZ6 b (l.take (k+1))=if a.is=b then yZ6 b (l.take k)++[a.f] else yZ6 b (l.take k):=by
 unfold yZ6;rw[yQ8 h,List.filter_append,List.map_append];by_cases hb:a.is=b
 ·simp[hb]
 ·simp[hb]
theorem wJ7 {o:Nat}(h:o=3\/o=4\/o=5\/o=6\/o=7):IntKind.u8.wrap (IntKind.u8.wrap (2*(o:Int))-3)=(yJm true o:Int)/\IntKind.u8.wrap ((yJm true o:Int)+1)=(yJm false o:Int):=by
 rcases h with rfl|rfl|rfl|rfl|rfl<;>exact⟨rfl,rfl⟩
theorem wGl {b:Bool}{o:Nat}{r:Nat×Nat}(h:rowT b o=some r)(ho:o<=7):o=3\/o=4\/o=5\/o=6\/o=7:=by
 refine Classical.byContradiction λhc=>?_;unfold rowT at h
 repeat (rw[if_neg (by omega)] at h)
 cases h
def rtC (n:Nd):Prop:=∀(l:List Mk) (p:List Nat) (x z:IV) (st:ISt),(yZi l p n).2=0->GoodT l->RBr l x->IsNd n z->l.length+2*n.nodes<=800000 →
 ICall prog gl 50 [x,z] st (λr st'=>IsTr (yJc l n) r/\st'=st)
def yUy (r:Nat)(tl:Tag)(xl:List IV)(tr:Tag)(xr:List IV)(o:Int)(n:ByteArray)(t1:Tag)(x1:List IV)(t2:Tag)(x2:List IV)(ts:Tag)(xs:List IV):List IV :=
 [.raw (.int .u8 r),.sl tl xl,.sl tr xr,.raw (.int .u8 o),.raw (.string n),.sl t1 x1,.sl t2 x2,.raw (.bool false),.raw (.string ⟨#[]⟩),.sl ⟨true,.nil,0⟩ [],.raw (.string ⟨#[]⟩),.sl ts xs]
theorem wGi (m:Mk)(c:Bool)(w:Int)(sub:List Nd)(IH:∀a∈sub,rtC gl a):rtC gl (.mk m c w sub):=by
 intro l p x z st hck hl hx hz hb;have hx0:=hx;obtain⟨o,n,t1,x1,t2,x2,ts,zs,rfl,hf,hts,hzs⟩:=hz.mk;simp only[Nd.nodes] at hb;rw[yZi] at hck;split at hck
 ·rename_i h;exact absurd hck h
 rename_i h0;obtain⟨hm,_,hfi,rfl,hlen⟩:=yJj (Decidable.not_not.1 h0);have hop:=xUa hl hm;have hmw:=(hl m hm).2;obtain⟨t,xs,t',vs,rfl,ht,hxs⟩:=hx;have hxl:=hxs.len;unfold yJc;refine ICall.intro (c:=cf prog gl [] [(20,[0,1,2,3,4,5,6,8,9,10,11,12,7,13,14,15,16,17])]) func50 rfl (by show _<=109;simp) (by kernel_rfl) ?_;simp only[go_sem,zE,zA,zL,fits];refine LoopC.ctr l.length (λk fr st' ds=>(∃tl xl tr xr,fr 5=.box (yUy 0 tl xl tr xr o n t1 x1 t2 x2 ⟨true,.nil,0⟩ [])/\IsFms (yZ6 true (l.take k)) xl/\IsFms (yZ6 false (l.take k)) xr/\own st' tl (yZ6 true (l.take k)).length 4 st/\own st' tr (yZ6 false (l.take k)).length 4 st/\apart tl tr)/\subSt st st' /\
  fr 2=.box [.raw (.int .u8 1),.sl t xs,.sl t' vs]/\fr 3=.box [.raw (.bool m.is),.raw (.int .i64 m.w),.raw (.int .u8 o),.raw (.string n),.sl t1 x1,.sl t2 x2,.raw (.bool c),.raw (.int .i64 0),.sl ts zs]/\fr 4=.box trZ/\fr 6=.iv (.raw (.int .i64 k))/\ds=[]) ?_ ?_ ?_
 ·simp only[go_sem,zE,yUy,trZ];exact⟨⟨_,_,_,_,rfl,rfl,rfl,own.nil _ _ _ _ _,own.nil _ _ _ _ _,λg h=>by cases h⟩,subSt.refl _,rfl⟩
 ·rintro k fr st1 _ hlt ⟨⟨tl,xl,tr,xr,f5,il,ir,ol,orr,hap⟩,hsub,f2,f3,f4,f6,rfl⟩;unfold yUy at f5;obtain⟨a,ha⟩:=yQ3 hlt;obtain⟨y,hky,hy⟩:=hxs.get ha;obtain⟨o5,n5,t5,x5,t6,x6,rfl,hfa⟩:=hy;have hsl:=λb=>xJo b (l.take k);simp only[List.length_take] at hsl;have hsl1:=hsl true;have hsl2:=hsl false;have s1:=zV3 ha true;have s2:=zV3 ha false;cases hi:a.is
  ·rw[hi,if_neg (by decide)] at s1;rw[hi,if_pos rfl] at s2;rw[s1,s2];rw[hi] at hky;simp only[go_sem,zE,zB,zA,zM,zL,f2,f5,f6,hxs.len,lt_i hlt,yQ2 ht,iNn,hky,fits,yQ1];intros;refine xVd orr ol hap.symm ir.len hsub rfl (by simp[fits,IV.one]) (by simp only;omega) (by omega) λtg2 st4 hown2 hown3 hap2 hsub4=>?_;simp only[go_sem,zE,zA,zL,f2,f3,f4,f5,f6,yQa hlt (show l.length<=281474976710656 by omega)];exact⟨⟨_,_,_,_,rfl,il,ir.append ⟨_,_,rfl,hfa,rfl⟩,hown3,by rw[lLa];exact hown2,hap2.symm⟩,hsub4⟩
  ·rw[hi,if_pos rfl] at s1;rw[hi,if_neg (by decide)] at s2;rw[s1,s2];rw[hi] at hky;simp only[go_sem,zE,zB,zA,zM,zL,f2,f5,f6,hxs.len,lt_i hlt,yQ2 ht,iNn,hky,fits,yQ1];intros;refine xVd ol orr hap il.len hsub rfl (by simp[fits,IV.one]) (by simp only;omega) (by omega) λtg2 st4 hown2 hown3 hap2 hsub4=>?_;simp only[go_sem,zE,zA,zL,f2,f3,f4,f5,f6,yQa hlt (show l.length<=281474976710656 by omega)];exact⟨⟨_,_,_,_,rfl,il.append ⟨_,_,rfl,hfa,rfl⟩,ir,by rw[lLa];exact hown2,hown3,hap2⟩,hsub4⟩
 ·rintro fr st1 _ ⟨⟨tl,xl,tr,xr,f5,il,ir,ol,orr,hap⟩,hsub,f2,f3,f4,f6,rfl⟩;unfold yUy at f5;unfold trZ at f4;rw[lTl] at il ir;have fin:∀(r:Nat) (tS:Tag) (xS:List IV) (S:List Tr),r<256->okEs tS 12->IsTrs S xS->IsTr (.mk r (sqT l) m.f tm0 bE S) (.agg (yUy r tl xl tr xr o n t1 x1 t2 x2 tS xS)):=λr tS xS S h1 h2 h3=>by
   simp only[IsTr];exact⟨_,_,_,_,_,_,_,_,_,_,_,_,_,_,_,_,rfl,h1,ol.es,il,orr.es,ir,hf,⟨_,_,rfl,.inl rfl,rfl⟩,h2,h3⟩
  unfold yUy at fin;cases c
  case true =>
   have hH:=λst=>zWo gl l _ hx0 ⟨!m.is,0,m.f⟩ _ ⟨_,_,_,_,_,_,rfl,hf⟩ st;rw[if_pos rfl];have hr:yY7 l m true=if hasT l ⟨!m.is,0,m.f⟩ then 1 else 2:=by rw[<- hmw];rfl
   rw[hr];simp only[go_sem,zE,zA,zL,f2,f3,f5,f6,hxs.len,yQk (nLi _),fits];intros;refine (hH _).mono ?_;rintro _ _ ⟨rfl,rfl⟩;cases hasT l ⟨!m.is,0,m.f⟩
   ·simp only[go_sem,zE,zA,zL,reduceCtorEq,f4];exact yQb hsub ⟨fin 2 _ _ [] (by decide) (.inl rfl) rfl,rfl⟩
   ·simp only[go_sem,zE,zA,zL,f4];exact yQb hsub ⟨fin 1 _ _ [] (by decide) (.inl rfl) rfl,rfl⟩
  have hft:=hfi rfl;obtain⟨⟨kk,q⟩,hr,hq,hT⟩:=yKf hft;simp only[bFt,if_false] at hck hlen ⊢;obtain⟨_,_,hgood,_⟩:=yWy (hl m hm).1 hft 0;have hsh:=yXz m 0;have hmo:(o:Int)=(m.f.op:Int):=by
   obtain⟨_,_,⟨o',n',us',sub'⟩⟩:=m;obtain⟨_,_,_,_,he,_⟩:=hf.mk;simp only[IV.agg.injEq,List.cons.injEq,IV.raw.injEq,Value.int.injEq,true_and,and_true] at he;exact he.1
  obtain⟨k1,k2⟩:=wJ7 (wGl hr hop);rw[<- hmo] at k1;have hA:=λst=>xU1 gl m _ ⟨_,_,_,_,_,_,rfl,hf⟩ hop 0 st;have hrl:yY7 l m false=yJm m.is m.f.op:=rfl;rw[hrl];have hrk:∀b,yJm b m.f.op<256:=λb=>by
   unfold yJm
   repeat' split
   all_goals decide
  cases hi:m.is
  ·rw[hi] at f3 hA;simp only[go_sem,zE,zA,zL,f2,f3,f5,f6,hxs.len,yQk (nLi _),k1,k2];intros;refine (hA _).mono ?_;rintro _ _ ⟨tg,ls,rfl,htg,hls,rfl⟩;simp only[go_sem];refine LoopC.ctr (yQi m 0).length (λk fr st' ds=>(∃tg' ys,fr 5=.box [.raw (.int .u8 (yJm false m.f.op)),.sl tl xl,.sl tr xr,.raw (.int .u8 o),.raw (.string n),.sl t1 x1,.sl t2 x2,.raw (.bool false),.raw (.string ⟨#[]⟩),.sl ⟨true,.nil,0⟩ [],.raw (.string ⟨#[]⟩),.sl tg' ys]/\IsTrs (yXa l ((yQi m 0).take k) (sub.take k)) ys/\own st' tg' k 12 st/\subSt st st') /\
    fr 2=.box [.raw (.int .u8 1),.sl t xs,.sl t' vs]/\fr 3=.box [.raw (.bool false),.raw (.int .i64 m.w),.raw (.int .u8 o),.raw (.string n),.sl t1 x1,.sl t2 x2,.raw (.bool false),.raw (.int .i64 0),.sl ts zs]/\fr 4=.box trZ/\fr 7=.iv (.sl tg ls)/\fr 8=.iv (.raw (.int .i64 k))/\ds=[]) ?_ ?_ ?_
   ·simp only[go_sem,zE,f2,f3,f4,trZ];exact⟨⟨_,_,rfl,rfl,own.nil _ _ _ _ _,hsub⟩,rfl⟩
   ·rintro k fr st2 _ hlt ⟨⟨tg',ys,f5,hys,hown,hsub2⟩,f2,f3,f4,f7,f8,rfl⟩;obtain⟨q',hq'⟩:=yQ3 hlt;obtain⟨tq,zq,hkq,htq,hzq⟩:=hls.get hq';have hq2:=yJr m 0 q' (lMg hq');obtain⟨nk,hnk⟩:=yQ3 (l:=sub) (k:=k) (by omega);obtain⟨zk,hkk,hzk⟩:=hzs.get hnk;have h8:=yZc q' l;have h9:=yXg (lMg hnk);have hlen2:ys.length=k:=by rw[hys.len,yVx _ _ _ (by simp only[List.length_take];omega),List.length_take];omega
    have hW:=λst=>zXz gl l _ hx0 q' tq zq htq hzq (by omega) st;have hcall:=λx hx st=>IH nk (lMg hnk) (yQu l q') (p++[0+k]) x zk st (yWx hck hq' hnk) (hl.adds λy hy=>⟨(hgood q' (lMg hq') y hy).1,(hgood q' (lMg hq') y hy).2.trans hmw⟩) hx hzk (by omega);have hsn:=(yW9 l hq' hnk).1;obtain⟨_,_,_,_,_,_,_,_,_,_,_,_,rfl⟩:=yXq hzk;simp only[go_sem,zE,zB,zA,zL,f2,f3,f5,f7,f8,hls.len,lt_i hlt,yQ2 htg,yQ2 hts,iNn,hkq,hkk,fits];intros;refine (hW _).mono ?_;rintro r _ ⟨hr1,rfl⟩;have hcall2:=λst=>hcall r hr1 st;obtain⟨t5,x5,t6,x6,rfl,_⟩:=hr1;simp only[go_sem,zE,zA];refine (hcall2 _).mono ?_;rintro r _ ⟨hr2,rfl⟩;have hn2:IsTrs (yXa l ((yQi m 0).take (k+1)) (sub.take (k+1))) (ys++[r]):=by
     rw[hsn];exact hys.append ⟨_,_,rfl,hr2,rfl⟩
    obtain⟨rule',tl',xl',tr',xr',op',fn',ta',xa',tb',xb',v',un',tu',xu',n',ts',xs',rfl⟩:=yX4 hr2;simp only[go_sem,zE,zA,zM,zL,fits,yQ1];refine yZb hown hlen2 hsub2 rfl (by simp[fits,IV.one]) (by simp only;omega) (by omega) λtg2 st4 hown2 hsub4 _ hap2=>?_;simp only[go_sem,zE,zA,zL,f2,f3,f4,f5,f7,f8,yQa hlt (show (yQi m 0).length<=281474976710656 by omega)];exact⟨tg2,_,rfl,hn2,hown2,hsub4⟩
   ·rintro fr st2 _ ⟨⟨tg',ys,f5,hys,hown,hsub2⟩,f2,f3,f4,f7,f8,rfl⟩;unfold trZ at f4;rw[lTl,<- hlen,lTl] at hys;simp only[go_sem,zE,zA,zL,f4,f5,f7,f8,hls.len,yQk (nLi _)];intros;exact yQb hsub2 ⟨fin _ _ _ _ (hrk _) hown.es hys,rfl⟩
  ·rw[hi] at f3 hA;simp only[go_sem,zE,zA,zL,f2,f3,f5,f6,hxs.len,yQk (nLi _),k1];intros;refine (hA _).mono ?_;rintro _ _ ⟨tg,ls,rfl,htg,hls,rfl⟩;simp only[go_sem];refine LoopC.ctr (yQi m 0).length (λk fr st' ds=>(∃tg' ys,fr 5=.box [.raw (.int .u8 (yJm true m.f.op)),.sl tl xl,.sl tr xr,.raw (.int .u8 o),.raw (.string n),.sl t1 x1,.sl t2 x2,.raw (.bool false),.raw (.string ⟨#[]⟩),.sl ⟨true,.nil,0⟩ [],.raw (.string ⟨#[]⟩),.sl tg' ys]/\IsTrs (yXa l ((yQi m 0).take k) (sub.take k)) ys/\own st' tg' k 12 st/\subSt st st') /\
    fr 2=.box [.raw (.int .u8 1),.sl t xs,.sl t' vs]/\fr 3=.box [.raw (.bool true),.raw (.int .i64 m.w),.raw (.int .u8 o),.raw (.string n),.sl t1 x1,.sl t2 x2,.raw (.bool false),.raw (.int .i64 0),.sl ts zs]/\fr 4=.box trZ/\fr 7=.iv (.sl tg ls)/\fr 8=.iv (.raw (.int .i64 k))/\ds=[]) ?_ ?_ ?_
   ·simp only[go_sem,zE,f2,f3,f4,trZ];exact⟨⟨_,_,rfl,rfl,own.nil _ _ _ _ _,hsub⟩,rfl⟩
   ·rintro k fr st2 _ hlt ⟨⟨tg',ys,f5,hys,hown,hsub2⟩,f2,f3,f4,f7,f8,rfl⟩;obtain⟨q',hq'⟩:=yQ3 hlt;obtain⟨tq,zq,hkq,htq,hzq⟩:=hls.get hq';have hq2:=yJr m 0 q' (lMg hq');obtain⟨nk,hnk⟩:=yQ3 (l:=sub) (k:=k) (by omega);obtain⟨zk,hkk,hzk⟩:=hzs.get hnk;have h8:=yZc q' l;have h9:=yXg (lMg hnk);have hlen2:ys.length=k:=by rw[hys.len,yVx _ _ _ (by simp only[List.length_take];omega),List.length_take];omega
    have hW:=λst=>zXz gl l _ hx0 q' tq zq htq hzq (by omega) st;have hcall:=λx hx st=>IH nk (lMg hnk) (yQu l q') (p++[0+k]) x zk st (yWx hck hq' hnk) (hl.adds λy hy=>⟨(hgood q' (lMg hq') y hy).1,(hgood q' (lMg hq') y hy).2.trans hmw⟩) hx hzk (by omega);have hsn:=(yW9 l hq' hnk).1;obtain⟨_,_,_,_,_,_,_,_,_,_,_,_,rfl⟩:=yXq hzk;simp only[go_sem,zE,zB,zA,zL,f2,f3,f5,f7,f8,hls.len,lt_i hlt,yQ2 htg,yQ2 hts,iNn,hkq,hkk,fits];intros;refine (hW _).mono ?_;rintro r _ ⟨hr1,rfl⟩;have hcall2:=λst=>hcall r hr1 st;obtain⟨t5,x5,t6,x6,rfl,_⟩:=hr1;simp only[go_sem,zE,zA];refine (hcall2 _).mono ?_;rintro r _ ⟨hr2,rfl⟩;have hn2:IsTrs (yXa l ((yQi m 0).take (k+1)) (sub.take (k+1))) (ys++[r]):=by
     rw[hsn];exact hys.append ⟨_,_,rfl,hr2,rfl⟩
    obtain⟨rule',tl',xl',tr',xr',op',fn',ta',xa',tb',xb',v',un',tu',xu',n',ts',xs',rfl⟩:=yX4 hr2;simp only[go_sem,zE,zA,zM,zL,fits,yQ1];refine yZb hown hlen2 hsub2 rfl (by simp[fits,IV.one]) (by simp only;omega) (by omega) λtg2 st4 hown2 hsub4 _ hap2=>?_;simp only[go_sem,zE,zA,zL,f2,f3,f4,f5,f7,f8,yQa hlt (show (yQi m 0).length<=281474976710656 by omega)];exact⟨tg2,_,rfl,hn2,hown2,hsub4⟩
   ·rintro fr st2 _ ⟨⟨tg',ys,f5,hys,hown,hsub2⟩,f2,f3,f4,f7,f8,rfl⟩;unfold trZ at f4;rw[lTl,<- hlen,lTl] at hys;simp only[go_sem,zE,zA,zL,f4,f5,f7,f8,hls.len,yQk (nLi _)];intros;exact yQb hsub2 ⟨fin _ _ _ _ (hrk _) hown.es hys,rfl⟩
theorem wW5:∀(k:Nat)(n:Nd),SizeOf.sizeOf n<k->rtC gl n
 | 0,n,h=>by omega
 | k+1,.mk m c w sub,h=>wGi gl m c w sub λa ha=>wW5 k a (by
   have:=lSm ha;simp only[Nd.mk.sizeOf_spec] at h;omega)
mutual
def yZ3:Tr->Bool
 | .mk _ s _ _ _ sub=>decide (64<s.l.length) || decide (64<s.r.length) || yKp sub
def yKp:List Tr->Bool
 | []=>false
 | a::l=>yZ3 a || yKp l
end
theorem yU4:∀l m:List Tr,yKp (l++m)=(yKp l || yKp m)
 | [],m=>rfl
 | a::l,m=>by simp only[List.cons_append,yKp,yU4 l m,Bool.or_assoc]
theorem zKr:∀ {l:List Tr}{a:Tr},a∈l->yZ3 a=true->yKp l=true
 | b::l,a,h,ha=>by
  simp only[yKp,Bool.or_eq_true];rcases List.mem_cons.1 h with rfl|h
  ·exact .inl ha
  ·exact .inr (zKr h ha)
def rwC (t:Tr):Prop:=∀(x:IV) (_:IsTr t x) (st:ISt),ICall prog gl 52 [x] st (λr st'=>r=.raw (.bool (yZ3 t))/\st'=st)
theorem wGe (rule:Nat)(s:Sq)(f:Fm)(u:Tm)(n:ByteArray)(sub:List Tr)(IH:∀a∈sub,rwC gl a):rwC gl (.mk rule s f u n sub):=by
 intro x hx st;obtain⟨tl,xl,tr,xr,op,fn,ta,xa,tb,xb,v,un,tu,xu,ts,xs,rfl,hru,e1,i1,e2,i2,hy,hz,e3,i3⟩:=hx.mk;have d1:decide ((64:Int)<(s.l.length:Int))=decide (64<s.l.length):=by rw[decide_eq_decide];omega
 have d2:decide ((64:Int)<(s.r.length:Int))=decide (64<s.r.length):=by rw[decide_eq_decide];omega
 unfold yZ3;refine iI func52 ?_;cases b1:decide (64<s.l.length)
 case true =>
  simp only[go_sem,zE,i1.len,d1,b1];intros;exact yQ0 ⟨rfl,rfl⟩
 cases b2:decide (64<s.r.length)
 case true =>
  simp only[go_sem,zE,zA,i1.len,i2.len,d1,d2,b1,b2];intros;exact yQ0 ⟨rfl,rfl⟩
 simp only[go_sem,zE,zA,i1.len,i2.len,d1,d2,b1,b2];intros;refine LoopC.ctr sub.length (λk fr st' ds=>yKp (sub.take k)=false/\fr 1=.box [.raw (.int .u8 rule),.sl tl xl,.sl tr xr,.raw (.int .u8 op),.raw (.string fn),.sl ta xa,.sl tb xb,.raw (.bool v),.raw (.string un),.sl tu xu,.raw (.string n),.sl ts xs]/\fr 3=.iv (.raw (.int .i64 k))/\st'=st/\ds=[]) ?_ ?_ ?_
 ·simp only[go_sem,zE];exact⟨rfl,rfl⟩
 ·rintro k fr st1 _ hlt ⟨hk,f1,f3,rfl,rfl⟩;obtain⟨a,ha⟩:=yQ3 hlt;obtain⟨z,hkz,hzz⟩:=i3.get ha;have ham:=lMg ha;have hcall:=λst=>IH a ham z hzz st;have hlen:=i3.len;obtain⟨rule',tl',xl',tr',xr',op',fn',ta',xa',tb',xb',v',un',tu',xu',n',ts',xs',rfl⟩:=yX4 hzz;simp only[go_sem,zE,zB,zA,f1,f3,i3.len,lt_i hlt,yQ2 e3,iNn,hkz,fits];intros;refine (hcall _).mono ?_;rintro _ _ ⟨rfl,rfl⟩;cases hq:yZ3 a
  ·simp only[go_sem,zE,f1,f3,yQa hlt (show sub.length<=281474976710656 by omega)];rw[yQ8 ha,yU4,hk];simp[yKp,hq]
  ·simp only[go_sem];exact yQ0 ⟨by rw[zKr ham hq];rfl,rfl⟩
 ·rintro fr st1 _ ⟨hk,f1,f3,rfl,rfl⟩;rw[lTl] at hk;simp only[go_sem,zE,f1,f3,i3.len,yQk (nLi _)];intros;exact yQ0 ⟨by rw[hk];rfl,rfl⟩
theorem wW3:∀(k:Nat)(t:Tr),SizeOf.sizeOf t<k->rwC gl t
 | 0,t,h=>by omega
 | k+1,.mk r sq f u n sub,h=>wGe gl r sq f u n sub (λa ha=>wW3 k a (by
   have:=lSm ha;simp at h;omega))
mutual
theorem zYq:∀(n:Nd)(l:List Mk),bigT l n=yZ3 (yJc l n)
 | .mk m c w sub,l=>by
  have h:=xQf sub l (yQi m 0);unfold bigT yJc yZ3;cases c
  ·simp only[Bool.not_false,Bool.true_and,bFt,if_false,h];rfl
  ·simp only[Bool.not_true,Bool.false_and,if_true];rfl
theorem xQf:∀(ns:List Nd)(l:List Mk)(qs:List (List Mk)),yYv l qs ns=yKp (yXa l qs ns)
 | [],l,qs=>by cases qs<;>simp[yYv,yXa,yKp]
 | n::ns,l,[]=>by simp[yYv,yXa,yKp]
 | n::ns,l,q::qs=>by
  simp only[yYv,yXa,yKp,zYq n,xQf ns l qs]
end
noncomputable def yKo (s:Sq)(n:Nd):Tr×Nat:=if (yK3 s n).2≠0 then (tr0,230) else if bigT (yQp s) n=true then (tr0,5) else (yJc (yQp s) n,0)
theorem wX0 (G:Gl gl)(s:Sq)(x:IV)(hx:IsSq s x)(hw:wFms s.l+wFms s.r<=300)(n:Nd)(z:IV)(hz:IsNd n z)(hn:n.nodes<=100)(st:ISt) :
  ICall prog gl 11 [x,z] st (λr st'=>(∃y,r=.tup [y,.raw (.int .i64 (yKo s n).2)]/\IsTr (yKo s n).1 y/\dfr y)/\st'=st):=by
 have hck:=λst=>wXq gl G s x hx (yUr hw) n z hz (by omega) st;have hlen:s.l.length+s.r.length<=300:=by
  have h1:=yQj s.l;have h2:=yQj s.r;have h3:=yZy s.l;have h4:=yZy s.r;omega
 have hst:=λst=>wG9 gl s x hx (by omega) st;have hz0:=hz;have z0:=zGg;have z1:=wG0;unfold trZ at z0 z1;have hne:∀n:Nat,((n:Int)=0)=(n=0):=λn=>propext (by omega);obtain⟨v1,w1,o1,n1,t1,y1,t2,y2,c1,w2,t3,y3,rfl⟩:=yXq hz;obtain⟨tl,xl,tr,xr,rfl,e1,i1,e2,i2⟩:=hx;refine ICall.intro (c:=cf prog gl [21] [(5,[0,1,3,4,5,6,8,2,7,9])]) func11 rfl (by show _<=36;simp) (by kernel_rfl) ?_;simp only[go_sem,zE,zA,zL];refine (hck _).mono ?_;rintro _ st ⟨⟨tg,rfl,htg⟩,rfl⟩;by_cases h0:(yK3 s n).2=0
 ·simp only[go_sem,zE,zA,h0,decide_true,Bool.not_true,Int.natCast_zero];refine (xJh gl _).mono ?_;rintro _ _ ⟨rb,es,hrb,rfl,hok,rfl⟩;simp only[go_sem,zE,zA,zL,fits];refine λc=>yQf λhc=>?_;have hcb:c≠rb:=λh=>by rw[h,ISt.put_same] at hc;cases hc
  have hc0:st c=none:=by rw[yQ9 hcb] at hc;exact hc
  have hC:yX9 s=true/\(yZi (yQp s) [] n).2=0:=by
   unfold yK3 at h0;split at h0
   ·cases h0
   split at h0
   ·cases h0
   ·rename_i h _;exact⟨by simpa using h,h0⟩
  refine (hst _).mono ?_;rintro _ _ ⟨t',ys,rfl,htt,hys,rfl⟩;simp only[go_sem,zE,zA];refine (wYq gl n _ hz0 (yQp s) [] hC.2 (yJl hC.1) (λm hm=>?_) ?_ t' ys htt hys _ c rb false es (ISt.put_same ..) (by rw[yQ9 hcb.symm,ISt.put_same]) hok).mono ?_
  ·have h1:=yZy s.l;have h2:=yZy s.r;rcases (yKd.1 hm).2 with h|h
   ·have:=yXe h.2;omega
   ·have:=yXe h.2;omega
  ·have:=yZc (yJe s) [];have h3:(yJe s).length=s.l.length+s.r.length:=by simp[yJe]
   unfold yQp;simp only[List.length_nil] at this;omega
  rintro r _ ⟨tr,many',⟨htr,htd⟩,hm,ht,rfl⟩;have htr0:=htr;obtain⟨rule',tl',xl',tr1',xr',op',fn',ta',xa',tb',xb',v',un',tu',xu',n',ts2,xs2,rfl⟩:=yX4 htr;rw[Bool.false_or] at hm;simp only[go_sem,zE,zA,zL,ISt.put_same,yQh,wrI];have hsub:subSt st ((st.put rb (some (.map .sg es))).put c (some (.box [.raw (.map (some rb)),.raw (.bool many')]))):=(yQz hrb).trans (yQz (by rw[yQ9 hcb];exact hc0));cases hmm:many'
  ·simp only[go_sem,zE,zA,zL];have he:yKo s n=(yJc (yQp s) n,0):=by rw[yKo,if_neg (by rw[h0];decide),if_neg (by rw[<- hm,hmm];decide)]
   rw[hmm] at hsub;exact yQb hsub ⟨⟨_,by rw[he];rfl,by rw[he,<- ht hmm];exact htr0,htd⟩,rfl⟩
  ·simp only[go_sem,zE,zA,zL];have he:yKo s n=(tr0,5):=by rw[yKo,if_neg (by rw[h0];decide),if_pos (by rw[<- hm,hmm])]
   rw[hmm] at hsub;exact yQb hsub ⟨⟨_,by rw[he];rfl,by rw[he];exact z0,z1⟩,rfl⟩
 ·simp only[go_sem,zE,zA,zL,hne,h0,decide_false,Bool.not_false];have he:yKo s n=(tr0,230):=by rw[yKo,if_pos h0]
  exact yQ0 ⟨⟨_,by rw[he];rfl,by rw[he];exact z0,z1⟩,rfl⟩
mutual
def okN:Nd->Bool
 | .mk m _ _ sub=>decide (wFm m.f<=300)&&okNs sub
def okNs:List Nd->Bool
 | []=>true
 | a::l=>okN a&&okNs l
end
def xJq (t:Nd):Prop:=∀(x y:IV) (_:IsNd t x) (_:IsNd t y) (_:t.nodes<=1099511627776) (st:ISt),ICall prog gl 26 [x,y] st (λr st'=>r=.raw (.bool true)/\st'=st)
theorem xW2 (m:Mk)(c:Bool)(w:Int)(sub:List Nd)(IH:∀a∈sub,xJq gl a):xJq gl (.mk m c w sub):=by
 intro x y hx hy hst st;obtain⟨o,n,t,xs,t',ys,ts,zs,rfl,hf,e3,i3⟩:=hx.mk;obtain⟨o2,n2,t2,xs2,t2',ys2,ts2,zs2,rfl,hf2,e32,i32⟩:=hy.mk;simp only[Nd.nodes] at hst;have hlsub:=yJt sub;have h2:=λst=>yV9 gl m.f m.f _ _ hf hf2 st;have hs2:eqB m.f m.f=true:=yZ2.2 rfl;refine iI func26 ?_;have e0:∀b:Bool,(b != b)=false:=λb=>by cases b<;>rfl
 simp only[go_sem,zE,zA,zL,decide_true];refine (h2 _).mono ?_;rintro _ st ⟨rfl,rfl⟩;simp only[go_sem,zE,zA,hs2,decide_true,i3.len,i32.len];intros;refine LoopC.ctr sub.length (λk fr st' ds=>fr 2=.box [.raw (.bool m.is),.raw (.int .i64 m.w),.raw (.int .u8 o),.raw (.string n),.sl t xs,.sl t' ys,.raw (.bool c),.raw (.int .i64 w),.sl ts zs] /\
  fr 3=.box [.raw (.bool m.is),.raw (.int .i64 m.w),.raw (.int .u8 o2),.raw (.string n2),.sl t2 xs2,.sl t2' ys2,.raw (.bool c),.raw (.int .i64 w),.sl ts2 zs2]/\fr 5=.iv (.raw (.int .i64 k))/\st'=st/\ds=[]) ?_ ?_ ?_
 ·simp only[go_sem,zE];rfl
 ·rintro k fr st1 _ hlt ⟨f2,f3,f5,rfl,rfl⟩;obtain⟨a,ha⟩:=yQ3 hlt;have ham:=lMg ha;obtain⟨z,hkz,hzz⟩:=i3.get ha;obtain⟨z2,hkz2,hzz2⟩:=i32.get ha;have hcall:=λst=>IH a ham z z2 hzz hzz2 (by have:=yXg ham;omega) st;obtain⟨v3,w3,o3,n3,t4,y4,t5,y5,c5,w5,t6,y6,rfl⟩:=yXq hzz;obtain⟨v3,w3,o3,n3,t4,y4,t5,y5,c5,w5,t6,y6,rfl⟩:=yXq hzz2;simp only[go_sem,zE,zB,zA,f2,f3,f5,i3.len,lt_i hlt,yQ2 e3,yQ2 e32,iNn,hkz,hkz2,fits];intros;refine (hcall _).mono ?_;rintro _ st2 ⟨rfl,rfl⟩;simp only[go_sem,zE,f2,f3,f5,yQa hlt (show sub.length<=281474976710656 by omega)]
 ·rintro fr st1 _ ⟨f2,f3,f5,rfl,rfl⟩;simp only[go_sem,zE,f2,f5,i3.len,yQk (nLi _)];intros;exact yQ0 ⟨rfl,rfl⟩
theorem zGw:∀(k:Nat)(t:Nd),SizeOf.sizeOf t<k->xJq gl t
 | 0,t,h=>by omega
 | k+1,.mk m c w sub,h=>xW2 gl m c w sub (λa ha=>zGw k a (by
   have:=lSm ha;simp only[Nd.mk.sizeOf_spec] at h;omega))
theorem yGd (t:Nd):xJq gl t:=zGw gl _ t (Nat.lt_succ_self _)
