/-  -/
import Derived.Test.YtebjhmlmdjnkgaaGreatDoorQE
import Derived.Test.YtebjhmlmdjnkgaaGreatDoorKV
set_option linter.all false
open Nat renaming reduceEqDiff → zE,reduceBEq → zB,reduceAdd → zA,reduceMul → zM,reduceSub → zS,reduceLeDiff → zL
namespace Go.Proofs.Tryz
open Go Go.Iv
set_option maxRecDepth 4000
variable (gl:Nat->Option IV)
theorem wGu (s:Sq)(x:IV)(hx:IsSq s x)(hw:wFms s.l+wFms s.r<=300)(n:Nd)(z:IV)(hz:IsNd n z)(hn:n.nodes<=100)(st:ISt) :
  ICall prog gl 20 [x,z] st (λr st'=>(∃y,r=.tup [y,.raw (.int .i64 (yKo s n).2)]/\IsTr (yKo s n).1 y)/\st'=st):=by
 have hC:=λst=>xU0 gl s x hx (yUr hw) n z hz (by omega) st;have hlen0:s.l.length+s.r.length<=300:=by
  have h1:=yQj s.l;have h2:=yQj s.r;have h3:=yZy s.l;have h4:=yZy s.r;omega
 have hB:=λst=>xJz gl s x hx (by omega) st;have hz0:=hz;have z0:=zGg;unfold trZ at z0;obtain⟨t1,x1,t2,x2,rfl,_⟩:=hx;obtain⟨_,_,_,_,_,_,_,_,_,_,_,_,rfl⟩:=yXq hz;refine ICall.intro (c:=cf prog gl [] [(4,[0,2,4,1,3,5])]) func20 rfl (by show _<=26;simp) (by kernel_rfl) ?_;simp only[go_sem,zE,zA,zL];refine (hC _).mono ?_;rintro _ st ⟨⟨tg,rfl,htg⟩,rfl⟩;by_cases h0:(yK3 s n).2=0
 case neg =>
  have d0:decide (((yK3 s n).2:Int)=0)=false:=dEf (by omega);have he:yKo s n=(tr0,230):=by rw[yKo,if_pos h0]
  simp only[go_sem,zE,zA,zL,d0];exact yQ0 ⟨⟨_,by rw[he];rfl,by rw[he];exact z0⟩,rfl⟩
 have d0:decide (((yK3 s n).2:Int)=0)=true:=dEt (by omega);have hc:yX9 s=true/\(yZi (yQp s) [] n).2=0:=by
  unfold yK3 at h0;split at h0
  ·cases h0
  split at h0
  ·cases h0
  ·rename_i h _;exact⟨by simpa using h,h0⟩
 have hlen:(yQp s).length<=400:=by
  have h1:=yZc (yJe s) [];unfold yJe at h1;rw[lLa,List.length_map,List.length_map,List.length_nil] at h1;unfold yQp yJe;omega
 simp only[go_sem,zE,zA,zL,d0];refine (hB _).mono ?_;rintro _ st ⟨hr,rfl⟩;have hT:=λst=>wW5 gl _ n (Nat.lt_succ_self _) (yQp s) [] _ _ st hc.2 (yJl hc.1) hr hz0 (by omega);obtain⟨t5,x5,t6,x6,rfl,_⟩:=hr;simp only[go_sem,zE,zA];refine (hT _).mono ?_;rintro r st ⟨hr,rfl⟩;have hWd:=λst=>wW3 gl _ _ (Nat.lt_succ_self _) r hr st;rw[<- zYq] at hWd;have hr0:=hr;obtain⟨rule',tl',xl',tr',xr',op',fn',ta',xa',tb',xb',v',un',tu',xu',n',ts',xs',rfl⟩:=yX4 hr;simp only[go_sem,zE,zA,zL];refine (hWd _).mono ?_;rintro _ st ⟨rfl,rfl⟩;cases hb:bigT (yQp s) n
 ·have he:yKo s n=(yJc (yQp s) n,0):=by rw[yKo,if_neg (by rw[h0];decide),if_neg (by rw[hb];decide)]
  simp only[go_sem,zE,zA,zL];exact yQ0 ⟨⟨_,by rw[he];rfl,by rw[he];exact hr0⟩,rfl⟩
 ·have he:yKo s n=(tr0,5):=by rw[yKo,if_neg (by rw[h0];decide),if_pos hb]
  simp only[go_sem,zE,zA,zL];exact yQ0 ⟨⟨_,by rw[he];rfl,by rw[he];exact z0⟩,rfl⟩
def rbC (n:Nd):Prop:=∀(z:IV) (_:IsNd n z) (_:n.nodes<=1000000000) (st:ISt),ICall prog gl 24 [z] st (λr st'=>r=.raw (.int .i64 n.branches)/\st'=st)
theorem zYp (sub:List Nd):yQl sub<=yQg sub:=by
 induction sub with
 | nil=>exact Nat.le_refl _
 | cons a l ih =>
  have:=yGl a;simp only[yQl,yQg];omega
theorem wGs (m:Mk)(c:Bool)(w:Int)(sub:List Nd)(IH:∀a∈sub,rbC gl a):rbC gl (.mk m c w sub):=by
 intro z hz hb st;obtain⟨o,n,t1,x1,t2,x2,ts,zs,rfl,hf,hts,hzs⟩:=hz.mk;simp only[Nd.nodes] at hb;have hlen:=yJt sub;refine iI func24 ?_;simp only[go_sem];refine LoopC.ctr sub.length (λk fr st' ds=>fr 1=.box [.raw (.bool m.is),.raw (.int .i64 m.w),.raw (.int .u8 o),.raw (.string n),.sl t1 x1,.sl t2 x2,.raw (.bool c),.raw (.int .i64 w),.sl ts zs]/\fr 3=.iv (.raw (.int .i64 ((yQl (sub.take k):Nat):Int)))/\fr 4=.iv (.raw (.int .i64 k))/\st'=st/\ds=[]) ?_ ?_ ?_
 ·simp only[go_sem,zE];exact⟨rfl,rfl⟩
 ·rintro k fr st1 _ hlt ⟨f1,f3,f4,rfl,rfl⟩;have htk1:=yJq sub (k+1);have hbn:=zYp (sub.take (k+1));obtain⟨a,ha⟩:=yQ3 hlt;obtain⟨y,hky,hy⟩:=hzs.get ha;have hsum:yQl (sub.take (k+1))=yQl (sub.take k)+a.branches:=by rw[yQ8 ha,yVm];simp[yQl]
  have han:=yXg (lMg ha);have hcall:=λst=>IH a (lMg ha) y hy (by omega) st;have hw:IntKind.i64.wrap (((yQl (sub.take k):Nat):Int)+(a.branches:Int))=((yQl (sub.take (k+1)):Nat):Int):=by rw[w64]<;>omega
  obtain⟨_,_,_,_,_,_,_,_,_,_,_,_,rfl⟩:=yXq hy;simp only[go_sem,zE,zB,zA,f1,f3,f4,hzs.len,lt_i hlt,yQ2 hts,iNn,hky,fits];intros;refine (hcall _).mono ?_;rintro _ _ ⟨rfl,rfl⟩;simp only[go_sem,zE,f1,f4,hw,yQa hlt (show sub.length<=281474976710656 by omega)]
 ·rintro fr st1 _ ⟨f1,f3,f4,rfl,rfl⟩;rw[lTl] at f3;by_cases he:sub=[]
  ·subst he;have d:decide (((0:Nat):Int)=0)=true:=rfl;simp only[go_sem,zE,zL,f1,f4,hzs.len,List.length_nil,yQk (nLi _),d];intros;exact yQ0 ⟨rfl,rfl⟩
  ·have hp:=List.length_pos_iff.2 he;have d:decide ((sub.length:Int)=0)=false:=dEf (by omega);simp only[go_sem,zE,f1,f3,f4,hzs.len,yQk (nLi _),d];intros;exact yQ0 ⟨by unfold Nd.branches;rw[if_neg (by simpa using he)],rfl⟩
theorem wWb:∀(k:Nat)(n:Nd),SizeOf.sizeOf n<k->rbC gl n
 | 0,n,h=>by omega
 | k+1,.mk m c w sub,h=>wGs gl m c w sub λa ha=>wWb k a (by
   have:=lSm ha;simp only[Nd.mk.sizeOf_spec] at h;omega)
mutual
def NB:Nd->Prop
 | .mk m _ _ sub=>m.f.size<=1099511627776/\NBs sub
def NBs:List Nd->Prop
 | []=>True
 | a::l=>NB a/\NBs l
end
theorem xXr:∀ {l:List Nd}{a:Nd},NBs l->a∈l->NB a
 | b::l,a,h,ha=>by
  simp only[NBs] at h;rcases List.mem_cons.1 ha with rfl|ha
  ·exact h.1
  ·exact xXr h.2 ha
theorem xUh (m:Mk)(x:IV)(hx:IsMk m x)(hs:m.f.size<=1099511627776)(st:ISt):ICall prog gl 47 [x] st (λr st'=>IsMk m r/\st'=st):=by
 obtain⟨o,n,t1,x1,t2,x2,rfl,hf⟩:=hx;have hC:=λst=>yWn gl m.f _ hf hs st;refine iI func47 ?_;simp only[go_sem,zE,zA,zL];refine (hC _).mono ?_;rintro r st ⟨hr,rfl⟩;have hr0:=hr.1;obtain⟨o2,n2,t3,x3,t4,x4,rfl⟩:=IsFmD.aggs hr;simp only[go_sem,zE,zA,zL];exact yQ0 ⟨⟨_,_,_,_,_,_,rfl,hr0⟩,rfl⟩
def gnC (n:Nd):Prop:=∀(x:IV) (_:IsNd n x) (_:NB n) (_:n.nodes<=1000000) (st:ISt),ICall prog gl 17 [x] st (λr st'=>IsNd n r/\st'=st)
theorem wUx (m:Mk)(c:Bool)(w:Int)(sub:List Nd)(IH:∀a∈sub,gnC gl a):gnC gl (.mk m c w sub):=by
 intro x hx hok hst st;obtain⟨o,n,t1,x1,t2,x2,ts,zs,rfl,hf,hts,hzs⟩:=hx.mk;simp only[NB] at hok;simp only[Nd.nodes] at hst;have hlsub:=yJt sub;have hM:=λst=>xUh gl m _ ⟨_,_,_,_,_,_,rfl,hf⟩ hok.1 st;refine ICall.intro (c:=cf prog gl [] [(1,[0,1,3,4,5,6,8,2,7,9])]) func17 rfl (by show _<=32;simp) (by kernel_rfl) ?_;simp only[go_sem,zE,zA,zL];refine (hM _).mono ?_;rintro _ st ⟨⟨o2,n2,t3,x3,t4,x4,rfl,hf2⟩,rfl⟩;simp only[go_sem,zE,zA,zL,fits];refine LoopC.ctr sub.length (λk fr st' ds=>(∃tg' ys,fr 3=.box [.raw (.bool m.is),.raw (.int .i64 m.w),.raw (.int .u8 o2),.raw (.string n2),.sl t3 x3,.sl t4 x4,.raw (.bool c),.raw (.int .i64 w),.sl tg' ys]/\IsNds (sub.take k) ys/\own st' tg' k 9 st/\subSt st st') /\
  fr 1=.box [.raw (.bool m.is),.raw (.int .i64 m.w),.raw (.int .u8 o),.raw (.string n),.sl t1 x1,.sl t2 x2,.raw (.bool c),.raw (.int .i64 w),.sl ts zs] /\
  fr 2=.box [.raw (.bool false),.raw (.int .i64 0),.raw (.int .u8 0),.raw (.string ⟨#[]⟩),.sl ⟨true,.nil,0⟩ [],.sl ⟨true,.nil,0⟩ [],.raw (.bool false),.raw (.int .i64 0),.sl ⟨true,.nil,0⟩ []]/\fr 4=.iv (.raw (.int .i64 k))/\ds=[]) ?_ ?_ ?_
 ·simp only[go_sem,zE];exact⟨⟨_,_,rfl,rfl,own.nil _ _ _ _ _,subSt.refl _⟩,rfl⟩
 ·rintro k fr st1 _ hlt ⟨⟨tg',ys,f3,hys,hown,hsub⟩,f1,f2,f4,rfl⟩;obtain⟨a,ha⟩:=yQ3 hlt;have ham:=lMg ha;obtain⟨z,hkz,hzz⟩:=hzs.get ha;have hlen2:ys.length=k:=by rw[hys.len,List.length_take];omega
  have hcall:=λst=>IH a ham z hzz (xXr hok.2 ham) (by have:=yXg ham;omega) st;obtain⟨_,_,_,_,_,_,_,_,_,_,_,_,rfl⟩:=yXq hzz;simp only[go_sem,zE,zB,zA,f1,f3,f4,hzs.len,lt_i hlt,yQ2 hts,iNn,hkz,fits];intro _;refine (hcall _).mono ?_;rintro r _ ⟨hr,rfl⟩;have hn:IsNds (sub.take (k+1)) (ys++[r]):=by
   rw[yQ8 ha];exact hys.append ⟨_,_,rfl,hr,rfl⟩
  obtain⟨_,_,_,_,_,_,_,_,_,_,_,_,rfl⟩:=yXq hr;simp only[go_sem,zE,zA,zM,zL,fits,yQ1];refine yZb hown hlen2 hsub rfl (by simp[fits,IV.one]) (by simp only;omega) (by omega) λtg2 st4 hown2 hsub4 _ hap2=>?_;simp only[go_sem,zE,zA,zL,f1,f2,f3,f4,yQa hlt (show sub.length<=281474976710656 by omega)];exact⟨tg2,_,rfl,hn,hown2,hsub4⟩
 ·rintro fr st1 _ ⟨⟨tg',ys,f3,hys,hown,hsub⟩,f1,f2,f4,rfl⟩;rw[lTl] at hys;simp only[go_sem,zE,zA,zL,f1,f2,f3,f4,hzs.len,yQk (nLi _)];intro _;refine yQb (st':=st) hsub ⟨?_,rfl⟩;simp only[IsNd];exact⟨_,_,_,_,_,_,_,_,rfl,hf2,hown.es,hys⟩
theorem wY5:∀(k:Nat)(n:Nd),SizeOf.sizeOf n<k->gnC gl n
 | 0,n,h=>by omega
 | k+1,.mk m c w sub,h=>wUx gl m c w sub λa ha=>wY5 k a (by
   have:=lSm ha;simp only[Nd.mk.sizeOf_spec] at h;omega)
def tnC (n:Nd):Prop:=∀(x:IV) (_:IsNd n x) (_:NB n) (_:n.nodes<=1000000) (st:ISt),ICall prog gl 18 [x] st (λr st'=>IsNd n r/\st'=st)
theorem wG1 (m:Mk)(c:Bool)(w:Int)(sub:List Nd)(IH:∀a∈sub,tnC gl a):tnC gl (.mk m c w sub):=by
 intro x hx hok hst st;obtain⟨o,n,t1,x1,t2,x2,ts,zs,rfl,hf,hts,hzs⟩:=hx.mk;simp only[NB] at hok;simp only[Nd.nodes] at hst;have hlsub:=yJt sub;have hM:=λst=>xUh gl m _ ⟨_,_,_,_,_,_,rfl,hf⟩ hok.1 st;refine ICall.intro (c:=cf prog gl [] [(1,[0,1,3,4,5,6,8,2,7,9])]) func18 rfl (by show _<=32;simp) (by kernel_rfl) ?_;simp only[go_sem,zE,zA,zL];refine (hM _).mono ?_;rintro _ st ⟨⟨o2,n2,t3,x3,t4,x4,rfl,hf2⟩,rfl⟩;simp only[go_sem,zE,zA,zL,fits];refine LoopC.ctr sub.length (λk fr st' ds=>(∃tg' ys,fr 3=.box [.raw (.bool m.is),.raw (.int .i64 m.w),.raw (.int .u8 o2),.raw (.string n2),.sl t3 x3,.sl t4 x4,.raw (.bool c),.raw (.int .i64 w),.sl tg' ys]/\IsNds (sub.take k) ys/\own st' tg' k 9 st/\subSt st st') /\
  fr 1=.box [.raw (.bool m.is),.raw (.int .i64 m.w),.raw (.int .u8 o),.raw (.string n),.sl t1 x1,.sl t2 x2,.raw (.bool c),.raw (.int .i64 w),.sl ts zs] /\
  fr 2=.box [.raw (.bool false),.raw (.int .i64 0),.raw (.int .u8 0),.raw (.string ⟨#[]⟩),.sl ⟨true,.nil,0⟩ [],.sl ⟨true,.nil,0⟩ [],.raw (.bool false),.raw (.int .i64 0),.sl ⟨true,.nil,0⟩ []]/\fr 4=.iv (.raw (.int .i64 k))/\ds=[]) ?_ ?_ ?_
 ·simp only[go_sem,zE];exact⟨⟨_,_,rfl,rfl,own.nil _ _ _ _ _,subSt.refl _⟩,rfl⟩
 ·rintro k fr st1 _ hlt ⟨⟨tg',ys,f3,hys,hown,hsub⟩,f1,f2,f4,rfl⟩;obtain⟨a,ha⟩:=yQ3 hlt;have ham:=lMg ha;obtain⟨z,hkz,hzz⟩:=hzs.get ha;have hlen2:ys.length=k:=by rw[hys.len,List.length_take];omega
  have hcall:=λst=>IH a ham z hzz (xXr hok.2 ham) (by have:=yXg ham;omega) st;obtain⟨_,_,_,_,_,_,_,_,_,_,_,_,rfl⟩:=yXq hzz;simp only[go_sem,zE,zB,zA,f1,f3,f4,hzs.len,lt_i hlt,yQ2 hts,iNn,hkz,fits];intro _;refine (hcall _).mono ?_;rintro r _ ⟨hr,rfl⟩;have hn:IsNds (sub.take (k+1)) (ys++[r]):=by
   rw[yQ8 ha];exact hys.append ⟨_,_,rfl,hr,rfl⟩
  obtain⟨_,_,_,_,_,_,_,_,_,_,_,_,rfl⟩:=yXq hr;simp only[go_sem,zE,zA,zM,zL,fits,yQ1];refine yZb hown hlen2 hsub rfl (by simp[fits,IV.one]) (by simp only;omega) (by omega) λtg2 st4 hown2 hsub4 _ hap2=>?_;simp only[go_sem,zE,zA,zL,f1,f2,f3,f4,yQa hlt (show sub.length<=281474976710656 by omega)];exact⟨tg2,_,rfl,hn,hown2,hsub4⟩
 ·rintro fr st1 _ ⟨⟨tg',ys,f3,hys,hown,hsub⟩,f1,f2,f4,rfl⟩;rw[lTl] at hys;simp only[go_sem,zE,zA,zL,f1,f2,f3,f4,hzs.len,yQk (nLi _)];intro _;refine yQb (st':=st) hsub ⟨?_,rfl⟩;simp only[IsNd];exact⟨_,_,_,_,_,_,_,_,rfl,hf2,hown.es,hys⟩
theorem xYu:∀(k:Nat)(n:Nd),SizeOf.sizeOf n<k->tnC gl n
 | 0,n,h=>by omega
 | k+1,.mk m c w sub,h=>wG1 gl m c w sub λa ha=>xYu k a (by
   have:=lSm ha;simp only[Nd.mk.sizeOf_spec] at h;omega)
def mkT (k i:Nat):ByteArray:=⟨#[35,UInt8.ofNat k,UInt8.ofNat (k / 256),UInt8.ofNat (k / 65536),47,UInt8.ofNat i,UInt8.ofNat (i / 256),UInt8.ofNat (i / 65536)]⟩
@[go_sem] theorem yW1 (a:Option Addr)(n c:Nat):IV.one (.raw (.slice a n c))=true:=(rfl)
theorem wYx (k:Nat):IntKind.u8.wrap ((k:Nat):Int)=((UInt8.ofNat k).toNat:Int):=by
 simp[IntKind.wrap,IntKind.bits,IntKind.signed]
theorem shr8 (k:Nat):Int.fdiv (k:Int) (2 ^ min (Int.toNat 8) 64)=((k / 256:Nat):Int):=by
 rw[show (2:Int) ^ min (Int.toNat 8) 64=((256:Nat):Int) from rfl];exact (Int.ofNat_fdiv k 256).symm
theorem uZc (k:Nat):Int.fdiv (k:Int) (2 ^ min (Int.toNat 16) 64)=((k / 65536:Nat):Int):=by
 rw[show (2:Int) ^ min (Int.toNat 16) 64=((65536:Nat):Int) from rfl];exact (Int.ofNat_fdiv k 65536).symm
theorem vVh (a b c d e f g h:UInt8):yY5 [.raw (.int .u8 (a.toNat:Int)),.raw (.int .u8 (b.toNat:Int)),.raw (.int .u8 (c.toNat:Int)),.raw (.int .u8 (d.toNat:Int)),.raw (.int .u8 (e.toNat:Int)),.raw (.int .u8 (f.toNat:Int)),.raw (.int .u8 (g.toNat:Int)),.raw (.int .u8 (h.toNat:Int))]=some [a,b,c,d,e,f,g,h]:=by
 simp only[zK2,zVy,Option.map_some]
theorem wQc (a b c d e f g h:Operand):yZk 8 [(0,a),(1,b),(2,c),(3,d),(4,e),(5,f),(6,g),(7,h)]=true:=rfl
theorem zVk (k i:Nat)(st:ISt):ICall prog gl 171 [.raw (.int .i64 k),.raw (.int .i64 i)] st (λr st'=>r=.raw (.string (mkT k i))/\st'=st):=by
 have hb:=vVh 35 (UInt8.ofNat k) (UInt8.ofNat (k / 256)) (UInt8.ofNat (k / 65536)) 47 (UInt8.ofNat i) (UInt8.ofNat (i / 256)) (UInt8.ofNat (i / 65536));simp only[show (((35:UInt8).toNat:Nat):Int)=35 from rfl,show (((47:UInt8).toNat:Nat):Int)=47 from rfl] at hb;have hcv:=λn:Int=>zJw prog 3 5 wUv wUu .i64 n;refine iI func171 ?_;simp only[go_sem,zE,zM,zL,reduceCtorEq,hcv,show ((0:Int)<=8)=True from eq_true (by omega),show ((0:Int)<=16)=True from eq_true (by omega),shr8,uZc,wYx,fits,wQc,hb,Option.bind_some,List.size_toArray];exact yQ0 ⟨rfl,rfl⟩
def mkC (k j:Nat):List IV:=[.raw (.bool false),.raw (.string (mkT k j)),.sl ⟨true,.nil,0⟩ []]
def mkD (k j:Nat):List IV:=[.raw (.int .u8 (0:Nat)),.raw (.string (mkT k j)),.sl ⟨true,.nil,0⟩ [],.sl ⟨true,.nil,0⟩ []]
def mksT:Nat->List IV
 | 0=>[]
 | j+1=>mksT j++mkC 1 j
def mksF:Nat->List IV
 | 0=>[]
 | j+1=>mksF j++mkD 1 j
theorem yG7:∀j,(mksT j).length=j*3
 | 0=>rfl
 | j+1=>by simp only[mksT,lLa,yG7 j,mkC,List.length_cons,List.length_nil];omega
theorem yWl:∀j,(mksF j).length=j*4
 | 0=>rfl
 | j+1=>by simp only[mksF,lLa,yWl j,mkD,List.length_cons,List.length_nil];omega
theorem zVl (k i:Nat)(st:ISt):ICall prog gl 177 [.raw (.int .i64 k),.raw (.int .i64 i)] st (λr st'=>r=.agg (mkC k i)/\st'=st):=by
 refine iI func177 ?_;simp only[go_sem,zE,zA,reduceCtorEq];refine (zVk gl k i _).mono ?_;rintro _ st ⟨rfl,rfl⟩;simp only[go_sem,zE,zA,zL,fits];exact yQ0 ⟨rfl,rfl⟩
theorem zQ9 (k i:Nat)(st:ISt):ICall prog gl 99 [.raw (.int .i64 k),.raw (.int .i64 i)] st (λr st'=>r=.agg (mkD k i)/\st'=st):=by
 refine iI func99 ?_;simp only[go_sem,zE,zB,zA,zM,zS,zL,reduceCtorEq,fits];refine (zVk gl k i _).mono ?_;rintro _ st ⟨rfl,rfl⟩;simp only[go_sem,zE,zB,zA,zM,zS,zL,reduceCtorEq,fits];exact yQ0 ⟨rfl,rfl⟩
def LTc (_:ISt)(us:List Tm)(cs:List IV):Prop:=us=[]/\cs=[]
mutual
def LFf (T:ISt):Fm->List IV->Prop
 | .mk o n ws sub,c=>∃a cs b ds,o<=7/\c=[.raw (.int .u8 o),.raw (.string n),.raw (.slice (some ⟨a,0,none⟩) ws.length (ws.length+12)),.raw (.slice (some ⟨b,0,none⟩) sub.length (sub.length+12))] /\
   T a=some (.box (cs++mksT 12))/\LTc T ws cs/\T b=some (.box (ds++mksF 12))/\LFc T sub ds
def LFc (T:ISt):List Fm->List IV->Prop
 | [],cs=>cs=[]
 | t::l,cs=>∃c d,cs=c++d/\LFf T t c/\LFc T l d
end
theorem LTc.mono {T T':ISt}(_:subSt T T'){l:List Tm}{c:List IV}(h:LTc T l c):LTc T' l c:=h
mutual
theorem LFf.mono {T T':ISt}(h:subSt T T'):∀ {t:Fm} {c:List IV},LFf T t c->LFf T' t c
 | .mk o n ws sub,c,hc=>by
  simp only[LFf] at hc ⊢;obtain⟨a,cs,b,ds,h0,h1,h2,h3,h4,h5⟩:=hc;exact⟨a,cs,b,ds,h0,h1,h _ _ h2,LTc.mono h h3,h _ _ h4,LFc.mono h h5⟩
theorem LFc.mono {T T':ISt}(h:subSt T T'):∀ {l:List Fm} {c:List IV},LFc T l c->LFc T' l c
 | [],c,hc=>hc
 | t::l,c,hc=>by
  simp only[LFc] at hc ⊢;obtain⟨a,b,h1,h2,h3⟩:=hc;exact⟨a,b,h1,LFf.mono h h2,LFc.mono h h3⟩
end
theorem LFf.len {T:ISt}{t:Fm}{c:List IV}(h:LFf T t c):c.length=4:=by
 cases t;simp only[LFf] at h;obtain⟨_,_,_,_,_,rfl,_⟩:=h;rfl
theorem LTc.len {T:ISt}{l:List Tm}{c:List IV}(h:LTc T l c):c.length=l.length*3:=by
 obtain⟨rfl,rfl⟩:=h;rfl
theorem LFc.len {T:ISt}:∀ {l:List Fm} {c:List IV},LFc T l c->c.length=l.length*4
 | [],c,h=>by simp only[LFc] at h;subst h;rfl
 | t::l,c,h=>by
  simp only[LFc] at h;obtain⟨a,b,rfl,h2,h3⟩:=h;rw[lLa,h2.len,LFc.len h3,List.length_cons];omega
theorem LFc.snoc {T:ISt}{t:Fm}{c:List IV}(h:LFf T t c):∀ {l:List Fm} {cs:List IV},LFc T l cs->LFc T (l++[t]) (cs++c)
 | [],cs,k=>by
  simp only[LFc] at k;subst k;exact⟨c,[],by simp,h,rfl⟩
 | a::l,cs,k=>by
  simp only[LFc] at k;obtain⟨x,y,rfl,h2,h3⟩:=k;exact⟨x,y++c,by simp,h2,LFc.snoc h h3⟩
def nw (st st':ISt):ISt:=λb=>match st b with|none=>st' b|some _=>none
theorem yGw {st st':ISt}{b:Nat}{o:IObj}(h:nw st st' b=some o):st b=none/\st' b=some o:=by
 unfold nw at h;split at h
 ·exact⟨‹_›,h⟩
 ·cases h
theorem zUj {st st':ISt}{b:Nat}{o:IObj}(h:st b=none)(h':st' b=some o):nw st st' b=some o:=by
 unfold nw;rw[h];exact h'
theorem nw_l {st s1 s2:ISt}(h:subSt s1 s2):subSt (nw st s1) (nw st s2):=λb o hb=>by
 obtain⟨h1,h2⟩:=yGw hb;exact zUj h1 (h _ _ h2)
theorem nw_r {st s1 s2:ISt}(h:subSt st s1):subSt (nw s1 s2) (nw st s2):=λb o hb=>by
 obtain⟨h1,h2⟩:=yGw hb;exact zUj (yXx h h1) h2
theorem vJj {st s1 s2:ISt}{g:Nat}{o:Option IObj}(h:subSt s1 s2):subSt ((nw st s1).put g none) ((nw st (s2.put g o)).put g none):=λb x hb=>by
 rw[ISt.put_apply] at hb ⊢;split at hb
 ·cases hb
 ·rename_i hbg;rw[if_neg hbg];obtain⟨h1,h2⟩:=yGw hb;exact zUj h1 (by rw[yQ9 hbg];exact h _ _ h2)
theorem vJk {st s1 s2:ISt}{g:Nat}{o:Option IObj}{x:IObj}(h:subSt st s1)(hg:s1 g=some x):subSt (nw s1 s2) ((nw st (s2.put g o)).put g none):=λb y hb=>by
 obtain⟨h1,h2⟩:=yGw hb;have hbg:b≠g:=by rintro rfl;rw[hg] at h1;cases h1
 rw[yQ9 hbg];exact zUj (yXx h h1) (by rw[yQ9 hbg];exact h2)
theorem xXh {e:TypeId×Bool×Nat×Nat}{b n cap:Nat}{y:IV}{cs cs':List IV}{R:Rt}{st:ISt}{ds:List Dfd}(hb:st b=some (.box cs))(hf:fits e.2.1 e.2.2.1 y=true)(h1:(n+1)*e.2.2.2<=140737488355328/\n+1<=140737488355328)(hc:n+1<=cap)(h2:cap*e.2.2.1<=cs.length)
  (hs:yX8 cs (n*e.2.2.1) y.cells=cs') (h:∀st',st'=st.put b (some (.box cs'))->R (.val (.raw (.slice (some ⟨b,0,none⟩) (n+1) cap))) st' ds):appO e b 0 n cap [y] R st ds:=by
 subst hs;have h:=h _ rfl;refine⟨⟨rfl,by simp[hf]⟩,h1,yQ4.2 ⟨_,hb,⟨by omega,h2⟩,λ_=>by simpa using h,λhd=>?_⟩⟩;exact absurd (dEt hc) (by simpa using hd)
theorem zXv {cs rest c:List IV}{k:Nat}(h:cs.length=k):yX8 (cs++rest) k c=cs++c++rest.drop c.length:=by
 unfold yX8;rw[List.take_left' h,<- h,List.drop_append,List.drop_eq_nil_of_le (by omega),List.nil_append];simp
theorem yV3 {k n:Nat}(h:k<=n):yXu none (some ((k:Nat):Int)) n=some (0,k):=by
 simp only[yXu,Option.getD_none,Option.getD_some];rw[if_pos ⟨Int.le_refl _,by omega,by omega⟩];simp
theorem yUq {st:ISt}{g:Nat}{cs:List IV}(h:flatSt st)(hc:∀c∈cs,yYr c):flatSt (st.put g (some (.box cs))):=h.put λx hx=>by cases hx;exact hc
theorem zYb {st:ISt}{g:Nat}{cs:List IV}(h:flatSt st)(hg:st g=some (.box cs)):∀c∈cs,yYr c:=h g _ hg
theorem LFf.flat {T:ISt}{t:Fm}{c:List IV}(h:LFf T t c):∀x∈c,yYr x:=by
 cases t;simp only[LFf] at h;obtain⟨_,_,_,_,_,rfl,_⟩:=h;intro x hx;simp only[List.mem_cons,List.not_mem_nil,or_false] at hx;rcases hx with rfl|rfl|rfl|rfl<;>trivial
theorem wJs (k j:Nat):∀x∈mkC k j,yYr x:=by
 intro x hx;simp only[mkC,List.mem_cons,List.not_mem_nil,or_false] at hx;rcases hx with rfl|rfl|rfl<;>first|trivial|rfl
theorem wJr (k j:Nat):∀x∈mkD k j,yYr x:=by
 intro x hx;simp only[mkD,List.mem_cons,List.not_mem_nil,or_false] at hx;rcases hx with rfl|rfl|rfl|rfl<;>first|trivial|rfl
theorem zYa {cs c rest:List IV}{m:Nat}(h:∀x∈cs++rest,yYr x)(hc:∀x∈c,yYr x):∀x∈cs++c++rest.drop m,yYr x:=by
 intro x hx;rcases List.mem_append.1 hx with hx|hx
 ·rcases List.mem_append.1 hx with hx|hx
  ·exact h x (List.mem_append.2 (.inl hx))
  ·exact hc x hx
 ·exact h x (List.mem_append.2 (.inr (List.mem_of_mem_drop hx)))
def LTP (us:List Tm):Prop:=∀(tg:Tag) (xs:List IV) (_:okEs tg 3) (_:IsTms us xs) (_:yQy us<=1099511627776) (st:ISt) (_:flatSt st),
 ICall prog gl 170 [.sl tg xs] st (λr st'=>∃a cs,r=.raw (.slice (some ⟨a,0,none⟩) us.length (us.length+12))/\nw st st' a=some (.box (cs++mksT 12))/\LTc (nw st st') us cs/\subSt st st'/\flatSt st')
theorem LFf.all {T:ISt}{t:Fm}{c:List IV}(h:LFf T t c):c.all IV.one=true:=by
 cases t;simp only[LFf] at h;obtain⟨_,_,_,_,_,rfl,_⟩:=h;rfl
theorem xXs (us:List Tm):LTP gl us:=by
 intro tg xs htg hxs hsz st hf;have h0:=hxs.z.1;have hlsz:us.length<=yQy us:=by rw[h0];exact Nat.zero_le _
 have hwn:IntKind.i64.wrap ((us.length:Int)+12)=((us.length+12:Nat):Int):=by rw[w64]<;>omega
 refine ICall.intro (c:=cf prog gl [10] []) func170 rfl (by show _<=39;simp) (by kernel_rfl) ?_;simp only[go_sem,zE,zB,zA,zM,zS,zL,reduceCtorEq,hxs.len];intro _;simp only[go_sem,zE,zB,zA,zM,zS,zL,reduceCtorEq,hxs.len,hwn];refine yZg ⟨by omega,by omega,by omega⟩ λg=>yQf λhg=>?_;refine LoopC.ctr us.length (λk fr st' ds=>(∃cs rest,fr 3=.iv (.raw (.slice (some ⟨g,0,none⟩) k (us.length+12)))/\st' g=some (.box (cs++rest))/\rest.length=(us.length+12-k)*3/\LTc ((nw st st').put g none) (us.take k) cs/\subSt st st'/\flatSt st') /\
  fr 0=.iv (.sl tg xs)/\fr 4=.iv (.raw (.int .i64 k))/\ds=[]) ?_ ?_ ?_
 ·have hflat:∀c∈List.replicate ((us.length+12)*3) IV.junk,yYr c:=λc hc=>by
   obtain rfl:=List.eq_of_mem_replicate hc;trivial
  have hb:st.put g (some (.box (List.replicate ((us.length+12)*3) .junk))) g=some (.box ([]++List.replicate ((us.length+12)*3) .junk)):=ISt.put_same ..;have hsub:=yQz (o:=some (.box (List.replicate ((us.length+12)*3) .junk))) hg;have hfl:=yUq (g:=g) hf hflat;generalize st.put g (some (.box (List.replicate ((us.length+12)*3) .junk)))=st0 at hb hsub hfl;simp only[go_sem,zE,zB,zA,zM,zS,zL,reduceCtorEq];exact⟨⟨[],_,hb,List.length_replicate ..,by first|rfl|exact⟨rfl,rfl⟩,hsub,hfl⟩,rfl⟩
 ·rintro k fr st1 _ hlt;rw[h0] at hlt;exact absurd hlt (Nat.not_lt_zero _)
 ·rintro fr st1 _ ⟨⟨cs,rest,f3,hgb,hrl,hcs,hsub,hfl⟩,f0,f4,rfl⟩;rw[lTl] at hcs;have hcl:cs.length=us.length*3:=hcs.len;simp only[go_sem,zE,zB,zA,zM,zS,zL,reduceCtorEq,f0,f3,f4,hxs.len,yQk (nLi _)];intro _;refine LoopC.ctr 12 (λi fr st' ds=>(∃rest,fr 3=.iv (.raw (.slice (some ⟨g,0,none⟩) (us.length+i) (us.length+12)))/\st' g=some (.box (cs++mksT i++rest))/\rest.length=(12-i)*3/\(∀b,b≠g->st' b=st1 b)/\flatSt st') /\
   fr 0=.iv (.sl tg xs)/\fr 6=.iv (.raw (.int .i64 i))/\ds=[]) ?_ ?_ ?_
  ·have hgb0:st1 g=some (.box (cs++mksT 0++rest)):=by simpa[mksT] using hgb
   have hrl0:rest.length=(12-0)*3:=by omega
   simp only[go_sem,zE,zB,zA,zM,zS,zL,reduceCtorEq,f0,f3];exact⟨⟨rest,hgb0,hrl0,λ_ _=>trivial,hfl⟩,rfl⟩
  ·rintro i fr st2 _ hlt ⟨⟨rest,f3,hgb,hrl,hoth,hfl2⟩,f0,f6,rfl⟩;have hmk:=zVl gl 1 i st2;have hml:(cs++mksT i).length=(us.length+i)*3:=by rw[lLa,hcl,yG7];omega
   simp only[go_sem,zE,zB,zA,zM,zS,zL,reduceCtorEq,f0,f3,f6,show decide (((i:Nat):Int)<12)=true from dEt (by omega)];refine hmk.mono ?_;rintro _ st2 ⟨rfl,rfl⟩;have hfit:fits true 3 (.agg (mkC 1 i))=true:=rfl;simp only[go_sem,zE,zB,zA,zM,zS,zL,reduceCtorEq,f0,f3,f6,hfit,yQ1];refine xXh hgb hfit ⟨by simp only;omega,by omega⟩ (by omega) (by rw[lLa,hml];simp only;omega) (zXv (by exact hml)) λst3 hst3=>?_;have hb3:st3 g=some (.box (cs++mksT (i+1)++rest.drop (mkC 1 i).length)):=by rw[hst3,ISt.put_same,mksT];simp only[IV.cells,List.append_assoc]
   have hr3:(rest.drop (mkC 1 i).length).length=(12-(i+1))*3:=by rw[List.length_drop,hrl];simp only[mkC,List.length_cons,List.length_nil];omega
   have ho3:∀b,b≠g->st3 b=st1 b:=λb hb=>by rw[hst3,yQ9 hb];exact hoth b hb
   have hfl3:flatSt st3:=by rw[hst3];exact yUq hfl2 (zYa (zYb hfl2 hgb) (wJs 1 i))
   simp only[go_sem,zE,zB,zA,zM,zS,zL,reduceCtorEq,f0,f3,f6,show IntKind.i64.wrap (((i:Nat):Int)+1)=((i+1:Nat):Int) by rw[w64]<;>omega,Nat.add_assoc];exact⟨_,hb3,hr3,ho3,hfl3⟩
  ·rintro fr st2 _ ⟨⟨rest,f3,hgb,hrl,hoth,hfl2⟩,f0,f6,rfl⟩;obtain rfl:rest=[]:=List.eq_nil_of_length_eq_zero (by omega);rw[List.append_nil] at hgb;simp only[go_sem,zE,zB,zA,zM,zS,zL,reduceCtorEq,f0,f3,f6,hxs.len,show decide (((12:Nat):Int)<12)=false from rfl];intro _;simp only[go_sem,zE,zB,zA,zM,zS,zL,reduceCtorEq,f0,f3,f6,Nat.le_refl,yV3 (show us.length<=us.length+12 by omega),ite_self,Nat.zero_mul];have hst:subSt ((nw st st1).put g none) (nw st st2):=λb o hb=>by
    rw[ISt.put_apply] at hb;split at hb
    ·cases hb
    ·rename_i hbg;obtain⟨h1,h2⟩:=yGw hb;exact zUj h1 (by rw[hoth b hbg];exact h2)
   refine yQ0 ⟨g,cs,rfl,zUj hg hgb,hcs.mono hst,λb o hb=>?_,hfl2⟩;have hbg:b≠g:=by rintro rfl;rw[hg] at hb;cases hb
   rw[hoth b hbg];exact hsub _ _ hb
def LFP (a:Fm):Prop:=∀(x:IV) (_:IsFm a x) (_:a.size<=1099511627776) (st:ISt) (_:flatSt st),ICall prog gl 98 [x] st (λr st'=>∃c,r=.agg c/\LFf (nw st st') a c/\subSt st st'/\flatSt st')
theorem yGm (us:List Fm)(IH:∀a∈us,LFP gl a)(tg:Tag)(xs:List IV)(htg:okEs tg 4)(hxs:IsFms us xs)(hsz:yQ7 us<=1099511627776)(st:ISt)(hf:flatSt st) :
  ICall prog gl 48 [.sl tg xs] st (λr st'=>∃a cs,r=.raw (.slice (some ⟨a,0,none⟩) us.length (us.length+12))/\nw st st' a=some (.box (cs++mksF 12))/\LFc (nw st st') us cs/\subSt st st'/\flatSt st'):=by
 have hlsz:=yQj us;have hwn:IntKind.i64.wrap ((us.length:Int)+12)=((us.length+12:Nat):Int):=by rw[w64]<;>omega
 refine ICall.intro (c:=cf prog gl [10] []) func48 rfl (by show _<=39;simp) (by kernel_rfl) ?_;simp only[go_sem,zE,zB,zA,zM,zS,zL,reduceCtorEq,hxs.len];intro _;simp only[go_sem,zE,zB,zA,zM,zS,zL,reduceCtorEq,hxs.len,hwn];refine yZg ⟨by omega,by omega,by omega⟩ λg=>yQf λhg=>?_;refine LoopC.ctr us.length (λk fr st' ds=>(∃cs rest,fr 3=.iv (.raw (.slice (some ⟨g,0,none⟩) k (us.length+12)))/\st' g=some (.box (cs++rest))/\rest.length=(us.length+12-k)*4/\LFc ((nw st st').put g none) (us.take k) cs/\subSt st st'/\flatSt st') /\
  fr 0=.iv (.sl tg xs)/\fr 4=.iv (.raw (.int .i64 k))/\ds=[]) ?_ ?_ ?_
 ·have hflat:∀c∈List.replicate ((us.length+12)*4) IV.junk,yYr c:=λc hc=>by
   obtain rfl:=List.eq_of_mem_replicate hc;trivial
  have hb:st.put g (some (.box (List.replicate ((us.length+12)*4) .junk))) g=some (.box ([]++List.replicate ((us.length+12)*4) .junk)):=ISt.put_same ..;have hsub:=yQz (o:=some (.box (List.replicate ((us.length+12)*4) .junk))) hg;have hfl:=yUq (g:=g) hf hflat;generalize st.put g (some (.box (List.replicate ((us.length+12)*4) .junk)))=st0 at hb hsub hfl;simp only[go_sem,zE,zB,zA,zM,zS,zL,reduceCtorEq];exact⟨⟨[],_,hb,List.length_replicate ..,by first|rfl|exact⟨rfl,rfl⟩,hsub,hfl⟩,rfl⟩
 ·rintro k fr st1 _ hlt ⟨⟨cs,rest,f3,hgb,hrl,hcs,hsub,hfl⟩,f0,f4,rfl⟩;obtain⟨a,ha⟩:=yQ3 hlt;obtain⟨x,hkx,hx⟩:=hxs.get ha;obtain⟨h1,h2⟩:=yZ5 ha;have hcl:cs.length=k*4:=by rw[hcs.len,List.length_take];congr 1;omega
  have hcall:=IH a (lMg ha) x hx (by omega) st1 hfl;obtain⟨v5,n5,t5,x5,t6,x6,rfl⟩:=hx.agg;simp only[go_sem,zE,zB,zA,zM,zS,zL,reduceCtorEq,f0,f3,f4,hxs.len,lt_i hlt,yQ2 htg,iNn,hkx,fits];intro _;refine hcall.mono ?_;rintro _ st2 ⟨c,rfl,hc,hsub2,hfl2⟩;have hc3:=hc.len;have hfit:fits true 4 (.agg c)=true:=by rw[wKe,hc3,hc.all];rfl
  have htk:c.take 4=c:=List.take_of_length_le (by omega);simp only[go_sem,zE,zB,zA,zM,zS,zL,reduceCtorEq,f0,f3,f4,htk,hc3,hc.all,fits,yQ1];refine xXh (hsub2 _ _ hgb) hfit ⟨by simp only;omega,by omega⟩ (by omega) (by simp only[lLa];omega) (zXv (by exact hcl)) λst3 hst3=>?_;have hb3:st3 g=some (.box (cs++c++rest.drop c.length)):=by rw[hst3];exact ISt.put_same ..
  have hc4:LFc ((nw st st3).put g none) (us.take (k+1)) (cs++c):=by
   rw[yQ8 ha,hst3];exact LFc.snoc (hc.mono (vJk hsub hgb)) (hcs.mono (vJj hsub2))
  have hsub3:subSt st st3:=λb o hb=>by
   have hbg:b≠g:=by rintro rfl;rw[hg] at hb;cases hb
   rw[hst3,yQ9 hbg];exact hsub2 _ _ (hsub _ _ hb)
  have hfl3:flatSt st3:=by rw[hst3];exact yUq hfl2 (zYa (zYb hfl2 (hsub2 _ _ hgb)) hc.flat)
  simp only[go_sem,zE,zB,zA,zM,zS,zL,reduceCtorEq,f0,f3,f4,fits,yQa hlt (show us.length<=281474976710656 by omega)]
  first
   | exact⟨cs++c,rest.drop c.length,rfl,hb3,by rw[List.length_drop,hrl,hc3];omega,hc4,hsub3,hfl3⟩
   | exact⟨cs++c,rest.drop c.length,hb3,by rw[List.length_drop,hrl,hc3];omega,hc4,hsub3,hfl3⟩
 ·rintro fr st1 _ ⟨⟨cs,rest,f3,hgb,hrl,hcs,hsub,hfl⟩,f0,f4,rfl⟩;rw[lTl] at hcs;have hcl:cs.length=us.length*4:=hcs.len;simp only[go_sem,zE,zB,zA,zM,zS,zL,reduceCtorEq,f0,f3,f4,hxs.len,yQk (nLi _)];intro _;refine LoopC.ctr 12 (λi fr st' ds=>(∃rest,fr 3=.iv (.raw (.slice (some ⟨g,0,none⟩) (us.length+i) (us.length+12)))/\st' g=some (.box (cs++mksF i++rest))/\rest.length=(12-i)*4/\(∀b,b≠g->st' b=st1 b)/\flatSt st') /\
   fr 0=.iv (.sl tg xs)/\fr 6=.iv (.raw (.int .i64 i))/\ds=[]) ?_ ?_ ?_
  ·have hgb0:st1 g=some (.box (cs++mksF 0++rest)):=by simpa[mksF] using hgb
   have hrl0:rest.length=(12-0)*4:=by omega
   simp only[go_sem,zE,zB,zA,zM,zS,zL,reduceCtorEq,f0,f3];exact⟨⟨rest,hgb0,hrl0,λ_ _=>trivial,hfl⟩,rfl⟩
  ·rintro i fr st2 _ hlt ⟨⟨rest,f3,hgb,hrl,hoth,hfl2⟩,f0,f6,rfl⟩;have hmk:=zQ9 gl 1 i st2;have hml:(cs++mksF i).length=(us.length+i)*4:=by rw[lLa,hcl,yWl];omega
   simp only[go_sem,zE,zB,zA,zM,zS,zL,reduceCtorEq,f0,f3,f6,show decide (((i:Nat):Int)<12)=true from dEt (by omega)];refine hmk.mono ?_;rintro _ st2 ⟨rfl,rfl⟩;have hfit:fits true 4 (.agg (mkD 1 i))=true:=rfl;simp only[go_sem,zE,zB,zA,zM,zS,zL,reduceCtorEq,f0,f3,f6,hfit,yQ1];refine xXh hgb hfit ⟨by simp only;omega,by omega⟩ (by omega) (by rw[lLa,hml];simp only;omega) (zXv (by exact hml)) λst3 hst3=>?_;have hb3:st3 g=some (.box (cs++mksF (i+1)++rest.drop (mkD 1 i).length)):=by rw[hst3,ISt.put_same,mksF];simp only[IV.cells,List.append_assoc]
   have hr3:(rest.drop (mkD 1 i).length).length=(12-(i+1))*4:=by rw[List.length_drop,hrl];simp only[mkD,List.length_cons,List.length_nil];omega
   have ho3:∀b,b≠g->st3 b=st1 b:=λb hb=>by rw[hst3,yQ9 hb];exact hoth b hb
   have hfl3:flatSt st3:=by rw[hst3];exact yUq hfl2 (zYa (zYb hfl2 hgb) (wJr 1 i))
   simp only[go_sem,zE,zB,zA,zM,zS,zL,reduceCtorEq,f0,f3,f6,show IntKind.i64.wrap (((i:Nat):Int)+1)=((i+1:Nat):Int) by rw[w64]<;>omega,Nat.add_assoc];exact⟨_,hb3,hr3,ho3,hfl3⟩
  ·rintro fr st2 _ ⟨⟨rest,f3,hgb,hrl,hoth,hfl2⟩,f0,f6,rfl⟩;obtain rfl:rest=[]:=List.eq_nil_of_length_eq_zero (by omega);rw[List.append_nil] at hgb;simp only[go_sem,zE,zB,zA,zM,zS,zL,reduceCtorEq,f0,f3,f6,hxs.len,show decide (((12:Nat):Int)<12)=false from rfl];intro _;simp only[go_sem,zE,zB,zA,zM,zS,zL,reduceCtorEq,f0,f3,f6,Nat.le_refl,yV3 (show us.length<=us.length+12 by omega),ite_self,Nat.zero_mul];have hst:subSt ((nw st st1).put g none) (nw st st2):=λb o hb=>by
    rw[ISt.put_apply] at hb;split at hb
    ·cases hb
    ·rename_i hbg;obtain⟨h1,h2⟩:=yGw hb;exact zUj h1 (by rw[hoth b hbg];exact h2)
   refine yQ0 ⟨g,cs,rfl,zUj hg hgb,hcs.mono hst,λb o hb=>?_,hfl2⟩;have hbg:b≠g:=by rintro rfl;rw[hg] at hb;cases hb
   rw[hoth b hbg];exact hsub _ _ hb
theorem zYv (op:Nat)(n:ByteArray)(us:List Tm)(sub:List Fm)(IH:∀a∈sub,LFP gl a):LFP gl (.mk op n us sub):=by
 intro x hx hs st hf;obtain⟨t1,x1,t2,x2,rfl,ho,e1,i1,e2,i2⟩:=hx.mk;simp only[Fm.size] at hs;have h1:=xXs gl us t1 x1 e1 i1 (by omega) st hf;have h2:=λst hf=>yGm gl sub IH t2 x2 e2 i2 (by omega) st hf;refine iI func98 ?_;simp only[go_sem,zE,zA];refine h1.mono ?_;rintro _ st1 ⟨a,cs,rfl,a1,a2,a3,a4⟩;simp only[go_sem,zE,zA,zL];refine (h2 _ a4).mono ?_;rintro _ st2 ⟨b,ds,rfl,b1,b2,b3,b4⟩;simp only[go_sem,zE,zA,zL];exact yQb (λ_ _ h=>h) ⟨_,rfl,⟨a,cs,b,ds,ho,rfl,nw_l b3 _ _ a1,a2.mono (nw_l b3),nw_r a3 _ _ b1,b2.mono (nw_r a3)⟩,λ_ _ h=>b3 _ _ (a3 _ _ h),b4⟩
theorem zZg:∀(k:Nat)(a:Fm),SizeOf.sizeOf a<k->LFP gl a
 | 0,f,h=>by omega
 | k+1,.mk o n us sub,h=>zYv gl o n us sub (λa ha=>zZg k a (by
   have:=lSm ha;simp at h;omega))
theorem xYc (a:Fm):LFP gl a:=zZg gl _ a (Nat.lt_succ_self _)
theorem zK7 (us:List Fm)(tg:Tag)(xs:List IV)(htg:okEs tg 4)(hxs:IsFms us xs)(hsz:yQ7 us<=1099511627776)(st:ISt)(hf:flatSt st) :
  ICall prog gl 48 [.sl tg xs] st (λr st'=>∃a cs,r=.raw (.slice (some ⟨a,0,none⟩) us.length (us.length+12))/\nw st st' a=some (.box (cs++mksF 12))/\LFc (nw st st') us cs/\subSt st st'/\flatSt st') :=
 yGm gl us (λa _=>xYc gl a) tg xs htg hxs hsz st hf
def LSq (T:ISt)(s:Sq)(x:IV):Prop:=∃a cs b ds,x=.agg [.raw (.slice (some ⟨a,0,none⟩) s.l.length (s.l.length+12)),.raw (.slice (some ⟨b,0,none⟩) s.r.length (s.r.length+12))]/\T a=some (.box (cs++mksF 12))/\LFc T s.l cs/\T b=some (.box (ds++mksF 12))/\LFc T s.r ds
theorem LSq.mono {T T':ISt}{s:Sq}{x:IV}(h:subSt T T')(k:LSq T s x):LSq T' s x:=by
 obtain⟨a,cs,b,ds,h1,h2,h3,h4,h5⟩:=k;exact⟨a,cs,b,ds,h1,h _ _ h2,h3.mono h,h _ _ h4,h5.mono h⟩
theorem wX5 (s:Sq)(x:IV)(hx:IsSq s x)(hl:yQ7 s.l<=1099511627776)(hr:yQ7 s.r<=1099511627776)(st:ISt)(hf:flatSt st) :
  ICall prog gl 19 [x] st (λr st'=>LSq (nw st st') s r/\subSt st st'/\flatSt st'):=by
 obtain⟨t1,x1,t2,x2,rfl,e1,i1,e2,i2⟩:=hx;have h1:=zK7 gl s.l t1 x1 e1 i1 hl st hf;have h2:=λst hf=>zK7 gl s.r t2 x2 e2 i2 hr st hf;refine iI func19 ?_;simp only[go_sem,zE,zA];refine h1.mono ?_;rintro _ st1 ⟨a,cs,rfl,a1,a2,a3,a4⟩;simp only[go_sem,zE,zA,zL];refine (h2 _ a4).mono ?_;rintro _ st2 ⟨b,ds,rfl,b1,b2,b3,b4⟩;simp only[go_sem,zE,zA,zL];exact yQb (λ_ _ h=>h) ⟨⟨a,cs,b,ds,rfl,nw_l b3 _ _ a1,a2.mono (nw_l b3),nw_r a3 _ _ b1,b2.mono (nw_r a3)⟩,λ_ _ h=>b3 _ _ (a3 _ _ h),b4⟩
def OIc (T:ISt)(cs ds:List IV):Prop:=cs.length=ds.length/\∀(i:Nat) (r c:IV),cs[i]?=some r->ds[i]?=some c->OI T r c
theorem OIc.nil (T:ISt):OIc T [] []:=⟨rfl,λi r c h=>by simp at h⟩
theorem OIc.cons {T:ISt}{r c:IV}{cs ds:List IV}(h:OI T r c)(k:OIc T cs ds):OIc T (r::cs) (c::ds) :=
 ⟨by simp[k.1],λi a b ha hb=>by
  cases i with
  | zero=>cases ha;cases hb;exact h
  | succ i=>exact k.2 i a b (by simpa using ha) (by simpa using hb)⟩
theorem OIc.append {T:ISt}{cs ds:List IV}:∀ {us bs:List IV},OIc T us bs->OIc T cs ds->OIc T (us++cs) (bs++ds)
 | [],[],_,k=>k
 | [],_::_,h,_=>by cases h.1
 | _::_,[],h,_=>by cases h.1
 | a::us,b::bs,h,k=>OIc.cons (h.2 0 a b rfl rfl) (OIc.append ⟨by have:=h.1;simpa using this,λi r c hr hc=>h.2 (i+1) r c (by simpa using hr) (by simpa using hc)⟩ k)
theorem OIc.front {T:ISt}{cs ds rest:List IV}(h:OIc T cs ds)(i:Nat)(r c:IV)(hr:(cs++rest)[i]?=some r)(hc:ds[i]?=some c):OI T r c:=by
 have hi:=(lGs hc).1;rw[List.getElem?_append_left (by rw[h.1];exact hi)] at hr;exact h.2 i r c hr hc
theorem OIc.agg {T:ISt}{cs ds:List IV}(h:OIc T cs ds):OI T (.agg cs) (.agg ds):=.agg _ _ h.1 h.2
theorem xYv {l:List Tm}{xs:List IV}(h:IsTms l xs):∀x∈xs,x.cells.length=3:=by
 obtain⟨rfl,rfl⟩:=h.z;intro x hx;cases hx
theorem _root_.Go.Iv.IsSq.aged {s:Sq}{x:IV}(h:IsSq s x):IsSq s (age x):=by
 obtain⟨t1,x1,t2,x2,rfl,e1,i1,e2,i2⟩:=h;exact⟨_,_,_,_,by simp only[age,ages],yXh e1,i1.aged,yXh e2,i2.aged⟩
theorem LTc.oi {T:ISt}{l:List Tm}{c:List IV}(h:LTc T l c):∃xs,IsTms l xs/\OIc T c (xs.flatMap IV.cells):=by
 obtain⟨rfl,rfl⟩:=h;exact⟨[],rfl,.nil _⟩
mutual
theorem LFf.oi {T:ISt}:∀ {t:Fm} {c:List IV},LFf T t c->t.size<=1099511627776->∃x,IsFm t x/\OIc T c x.cells
 | .mk o n ws sub,c,h,hs=>by
  simp only[LFf] at h;obtain⟨a,cs,b,ds,ho,rfl,hb,hc,hd,he⟩:=h;simp only[Fm.size] at hs;obtain⟨xs,hxs,hox⟩:=LTc.oi hc;obtain⟨ys,hys,hoy⟩:=LFc.oi he (by omega);have hl:=hxs.len;have hm:=hys.len;have hsz:ws.length=0:=by rw[hc.1];rfl
  have hsz2:=yQj sub;refine⟨.agg [.raw (.int .u8 o),.raw (.string n),.sl ⟨true,.app a,3⟩ xs,.sl ⟨true,.app b,4⟩ ys],⟨_,_,_,_,rfl,ho,.inr rfl,hxs,.inr rfl,hys⟩,.cons (.refl _) (.cons (.refl _) (.cons ?_ (.cons ?_ (.nil _))))⟩
  ·rw[<- hl];exact .sl a _ _ xs _ rfl (by omega) (by omega) (xYv hxs) hb (by rw[lLa,LTc.len hc,yG7];simp only;omega) (hox.front (rest:=mksT 12))
  ·rw[<- hm];exact .sl b _ _ ys _ rfl (by omega) (by omega) (λy hy=>wKf (yWs hys y hy)) hd (by rw[lLa,he.len,yWl];simp only;omega) (hoy.front (rest:=mksF 12))
theorem LFc.oi {T:ISt}:∀ {l:List Fm} {c:List IV},LFc T l c->yQ7 l<=1099511627776->∃xs,IsFms l xs/\OIc T c (xs.flatMap IV.cells)
 | [],c,h,_=>by
  simp only[LFc] at h;subst h;exact⟨[],rfl,.nil _⟩
 | t::l,c,h,hs=>by
  simp only[LFc] at h;obtain⟨a,b,rfl,h2,h3⟩:=h;simp only[yQ7] at hs;obtain⟨x,hx,hxo⟩:=LFf.oi h2 (by omega);obtain⟨xs,hxs,hxso⟩:=LFc.oi h3 (by omega);exact⟨x::xs,⟨x,xs,rfl,hx,hxs⟩,by rw[List.flatMap_cons];exact OIc.append hxo hxso⟩
end
theorem LFf.agg {T:ISt}{t:Fm}{c:List IV}(h:LFf T t c)(hs:t.size<=1099511627776):∃x,IsFm t x/\OI T (.agg c) x:=by
 obtain⟨x,hx,ho⟩:=h.oi hs;obtain⟨_,_,_,_,_,_,rfl⟩:=hx.agg;exact⟨_,hx,ho.agg⟩
theorem LFc.sl {T:ISt}{l:List Fm}{c:List IV}{a:Nat}(h:LFc T l c)(hb:T a=some (.box (c++mksF 12)))(hs:yQ7 l<=1099511627776):∃xs,IsFms l xs/\OI T (.raw (.slice (some ⟨a,0,none⟩) l.length (l.length+12))) (.sl ⟨true,.app a,4⟩ xs):=by
 obtain⟨ys,hys,hoy⟩:=h.oi hs;have hm:=hys.len;have hsz2:=yQj l;refine⟨ys,hys,?_⟩;rw[<- hm];exact .sl a _ _ ys _ rfl (by omega) (by omega) (λy hy=>wKf (yWs hys y hy)) hb (by rw[lLa,h.len,yWl];simp only;omega) (hoy.front (rest:=mksF 12))
theorem LSq.oi {T:ISt}{s:Sq}{x:IV}(h:LSq T s x)(hl:yQ7 s.l<=1099511627776)(hr:yQ7 s.r<=1099511627776):∃y,IsSq s y/\OI T x y:=by
 obtain⟨a,cs,b,ds,rfl,h2,h3,h4,h5⟩:=h;obtain⟨xs,hxs,ho⟩:=h3.sl h2 hl;obtain⟨ys,hys,ho'⟩:=h5.sl h4 hr;exact⟨.agg [.sl ⟨true,.app a,4⟩ xs,.sl ⟨true,.app b,4⟩ ys],⟨_,_,_,_,rfl,.inr rfl,hxs,.inr rfl,hys⟩,(OIc.cons ho (.cons ho' (.nil _))).agg⟩
def tmPF:FuncId->List IV->Option IV
 | g,[.raw (.int .i64 k),.raw (.int .i64 i)]=>if g=177/\0<=k/\0<=i then some (.agg (mkC k.toNat i.toNat)) else none
 | _,_=>none
def fmPF:FuncId->List IV->Option IV
 | g,[.raw (.int .i64 k),.raw (.int .i64 i)]=>if g=99/\0<=k/\0<=i then some (.agg (mkD k.toNat i.toNat)) else none
 | _,_=>none
theorem wG2:∀g us v,tmPF g us=some v->entI prog g=true/\∀st,ICall prog gl g us st (λr st'=>r=v/\st'=st):=by
 intro g us v h;unfold tmPF at h;split at h
 ·rename_i k i;split at h
  ·rename_i hc;obtain⟨rfl,hk,hi⟩:=hc;cases h;refine⟨by simp only[go_sem],λst=>?_⟩;have:=zVl gl k.toNat i.toNat st
   rwa [Int.toNat_of_nonneg hk,Int.toNat_of_nonneg hi] at this
  ·cases h
 ·cases h
theorem vQ0:∀g us v,fmPF g us=some v->entI prog g=true/\∀st,ICall prog gl g us st (λr st'=>r=v/\st'=st):=by
 intro g us v h;unfold fmPF at h;split at h
 ·rename_i k i;split at h
  ·rename_i hc;obtain⟨rfl,hk,hi⟩:=hc;cases h;refine⟨by simp only[go_sem],λst=>?_⟩;have:=zQ9 gl k.toNat i.toNat st
   rwa [Int.toNat_of_nonneg hk,Int.toNat_of_nonneg hi] at this
  ·cases h
 ·cases h
theorem vXp (j:Nat):tmPF 177 [.raw (.int .i64 1),.raw (.int .i64 (j:Int))]=some (.agg (mkC 1 j)):=by simp[tmPF]
theorem vKh (j:Nat):fmPF 99 [.raw (.int .i64 1),.raw (.int .i64 (j:Int))]=some (.agg (mkD 1 j)):=by simp[fmPF]
theorem LFc.get {T:ISt}:∀ {l:List Fm} {cs rest:List IV} {k:Nat} {t:Fm},LFc T l cs->l[k]?=some t->∃c,LFf T t c/\k*4+4<=(cs++rest).length/\((cs++rest).drop (k*4)).take 4=c
 | [],_,_,k,_,_,h=>by simp at h
 | a::l,cs,rest,0,t,h,hk=>by
  simp only[LFc] at h;obtain⟨c,d,rfl,h2,h3⟩:=h;cases hk;refine⟨c,h2,by simp only[lLa,h2.len];omega,?_⟩;rw[Nat.zero_mul,List.drop_zero,List.append_assoc,List.take_left' h2.len]
 | a::l,cs,rest,k+1,t,h,hk=>by
  simp only[LFc] at h;obtain⟨c,d,rfl,h2,h3⟩:=h;obtain⟨e,he1,he2,he3⟩:=LFc.get (rest:=rest) h3 (by simpa using hk);have hc:=h2.len;refine⟨e,he1,by simp only[lLa] at he2 ⊢;omega,?_⟩;rw[List.append_assoc,show (k+1)*4=c.length+k*4 by omega,<- List.drop_drop,List.drop_left];exact he3
theorem xKk:∀ {m j:Nat},j<m->((mksT m).drop (j*3)).take 3=mkC 1 j
 | m+1,j,h=>by
  simp only[mksT];by_cases hj:j=m
  ·subst hj;rw[List.drop_left' (yG7 j)];rfl
  ·have:=xKk (show j<m by omega);have hl:=yG7 m;rw[List.drop_append_of_le_length (by omega),List.take_append_of_le_length (by rw[List.length_drop];omega)];exact this
theorem xKl:∀ {m j:Nat},j<m->((mksF m).drop (j*4)).take 4=mkD 1 j
 | m+1,j,h=>by
  simp only[mksF];by_cases hj:j=m
  ·subst hj;rw[List.drop_left' (yWl j)];rfl
  ·have:=xKl (show j<m by omega);have hl:=yWl m;rw[List.drop_append_of_le_length (by omega),List.take_append_of_le_length (by rw[List.length_drop];omega)];exact this
theorem wUf (k j:Nat):IsTm (.mk false (mkT k j) []) (.agg (mkC k j)):=⟨_,_,rfl,.inl rfl,rfl⟩
theorem wUg (k j:Nat):IsFm (.mk 0 (mkT k j) [] []) (.agg (mkD k j)):=⟨_,_,_,_,rfl,by omega,.inl rfl,rfl,.inl rfl,rfl⟩
theorem wUm {st:ISt}(h:flatSt st):∀b o,st b=some o->(∃cs,o=.box cs)\/wQu o:=λb o hb=>.inr (h b o hb)
theorem wWy {st:ISt}{x x0 y:IV}(ho:OI st x x0):Lents st [x,y] [age x0,y]:=⟨_,_,rfl,.inr ⟨x0,ho,rfl⟩,_,_,rfl,.inl rfl,rfl⟩
theorem yUi {f:FuncId}{x x0 y:IV}{b:Bool}{st T:ISt}(hf:flatSt st)(hT:subSt T st)(ho:OI T x x0)(h:∀st,ICall prog gl f [age x0,y] st (λr st'=>r=.raw (.bool b)/\st'=st)) :
  ICall prog gl f [x,y] st (λr st'=>r=.raw (.bool b)/\st'=st) :=
 (ICall.lent (K:=λr=>r=.raw (.bool b)) (wUm hf) (wWy (ho.mono λ_ _ h=>hT _ _ h)) ((h (yKk st)).mono λr st' k=>⟨k.2,by rw[k.1];trivial,k.1⟩)).mono λr st' k=>⟨k.2,k.1⟩
def KTP (us:List Tm):Prop:=∀(tg:Tag) (xs:List IV) (_:okEs tg 3) (_:IsTms us xs) (_:yQy us<=1099511627776) (a:Nat) (cs:List IV) (st:ISt) (_:flatSt st) (_:st a=some (.box (cs++mksT 12))) (_:LTc st us cs),
 ICall prog gl 178 [.raw (.slice (some ⟨a,0,none⟩) us.length (us.length+12)),.sl tg xs] st (λr st'=>r=.raw (.bool true)/\st'=st)
def KFP (us:List Fm):Prop:=∀(tg:Tag) (xs:List IV) (_:okEs tg 4) (_:IsFms us xs) (_:yQ7 us<=1099511627776) (a:Nat) (cs:List IV) (st:ISt) (_:flatSt st) (_:st a=some (.box (cs++mksF 12))) (_:LFc st us cs),
 ICall prog gl 64 [.raw (.slice (some ⟨a,0,none⟩) us.length (us.length+12)),.sl tg xs] st (λr st'=>r=.raw (.bool true)/\st'=st)
theorem wWt (k j:Nat):IsTm (.mk false (mkT k j) []) (.agg (mkC k j)):=wUf k j
theorem wWs (k j:Nat):IsFm (.mk 0 (mkT k j) [] []) (.agg (mkD k j)):=wUg k j
theorem xXt (us:List Tm):KTP gl us:=by
 intro tg xs htg hxs hsz a cs st hf hb hc;have h0:=hxs.z.1;have hlsz:us.length<=yQy us:=by rw[h0];exact Nat.zero_le _
 have hbl:(cs++mksT 12).length=(us.length+12)*3:=by rw[lLa,LTc.len hc,yG7];omega
 have hwn:IntKind.i64.wrap ((us.length:Int)+12)=((us.length+12:Nat):Int):=by rw[w64]<;>omega
 refine ICall.intro (c:=cfp prog gl [31,48,1000177] [] tmPF (wG2 gl)) func178 rfl (by show _<=58;simp) (by kernel_rfl) ?_;simp only[go_sem,zE,zB,zA,zM,zS,zL,reduceCtorEq,hxs.len,decide_true];intro _;simp only[go_sem,zE,zB,zA,zM,zS,zL,reduceCtorEq,hxs.len,hwn,Nat.le_add_right,Nat.le_refl,yV3 (Nat.le_refl (us.length+12)),ite_self,Nat.zero_mul];intro _;refine LoopC.ctr (us.length+12) (λk fr st' ds=>fr 0=.iv (.raw (.slice (some ⟨a,0,none⟩) us.length (us.length+12)))/\fr 1=.iv (.sl tg xs)/\fr 5=.iv (.raw (.slice (some ⟨a,0,none⟩) (us.length+12) (us.length+12)))/\fr 6=.iv (.raw (.int .i64 k))/\st'=st/\ds=[]) ?_ ?_ ?_
 ·simp only[go_sem,zE,zB,zA,zM,zS,zL,reduceCtorEq]
  first|rfl|exact⟨rfl,rfl⟩
 ·rintro k fr st _ hlt ⟨f0,f1,f5,f6,rfl,rfl⟩;by_cases hk:k<us.length
  ·rw[h0] at hk;exact absurd hk (Nat.not_lt_zero _)
  ·obtain⟨j,hj⟩:∃j,k=us.length+j:=⟨k-us.length,by omega⟩
   have hnlt:decide (((k:Nat):Int)<us.length)=false:=dEf (by omega);have hgeq:decide (((us.length:Nat):Int)<=(k:Nat))=true:=dEt (by omega);have hw:IntKind.i64.wrap (((k:Nat):Int)-us.length)=((j:Nat):Int):=by rw[w64]<;>omega
   have hr1:k*3+3<=(cs++mksT 12).length:=by rw[hbl];omega
   have hr2:((cs++mksT 12).drop (k*3)).take 3=mkC 1 j:=by
    have hcl:cs.length=us.length*3:=LTc.len hc;rw[show k*3=cs.length+j*3 by omega,<- List.drop_drop,List.drop_left];exact xKk (by omega)
   have hsame:=zJi gl _ _ _ _ (wWt 1 j) (wWt 1 j) st;rw[yZ2.2 rfl] at hsame;have hall:(mkC 1 j).all IV.one=true:=rfl;have hml:(mkC 1 j).length=3:=rfl;simp only[go_sem,zE,zB,zA,zM,zS,zL,reduceCtorEq,f0,f1,f5,f6,lt_i hlt,hnlt,hgeq,hxs.len,iNn,hb,hr1,hr2,fits,hlt,hw,hall,hml,vXp];intros;refine hsame.mono ?_;rintro _ st ⟨rfl,rfl⟩;simp only[go_sem,zE,zB,zA,zM,zS,zL,reduceCtorEq,f0,f1,f5,f6,hxs.len,yQa hlt (show us.length+12<=281474976710656 by omega)]
 ·rintro fr st _ ⟨f0,f1,f5,f6,rfl,rfl⟩;simp only[go_sem,zE,zB,zA,zM,zS,zL,reduceCtorEq,f0,f1,f5,f6,yQk (nLi _),fits];exact yQ0 ⟨rfl,rfl⟩
def KFf (t:Fm):Prop:=∀(x:IV) (_:IsFm t x) (_:t.size<=1099511627776) (c:List IV) (st:ISt) (_:flatSt st) (_:LFf st t c),
 ICall prog gl 111 [.agg c,x] st (λr st'=>r=.raw (.bool true)/\st'=st)
theorem yGn (us:List Fm)(IH:∀a∈us,KFf gl a):KFP gl us:=by
 intro tg xs htg hxs hsz a cs st hf hb hc;have hlsz:=yQj us;have hbl:(cs++mksF 12).length=(us.length+12)*4:=by rw[lLa,LFc.len hc,yWl];omega
 have hwn:IntKind.i64.wrap ((us.length:Int)+12)=((us.length+12:Nat):Int):=by rw[w64]<;>omega
 refine ICall.intro (c:=cfp prog gl [31,48,1000099] [] fmPF (vQ0 gl)) func64 rfl (by show _<=58;simp) (by kernel_rfl) ?_;simp only[go_sem,zE,zB,zA,zM,zS,zL,reduceCtorEq,hxs.len,decide_true];intro _;simp only[go_sem,zE,zB,zA,zM,zS,zL,reduceCtorEq,hxs.len,hwn,Nat.le_add_right,Nat.le_refl,yV3 (Nat.le_refl (us.length+12)),ite_self,Nat.zero_mul];intro _;refine LoopC.ctr (us.length+12) (λk fr st' ds=>fr 0=.iv (.raw (.slice (some ⟨a,0,none⟩) us.length (us.length+12)))/\fr 1=.iv (.sl tg xs)/\fr 5=.iv (.raw (.slice (some ⟨a,0,none⟩) (us.length+12) (us.length+12)))/\fr 6=.iv (.raw (.int .i64 k))/\st'=st/\ds=[]) ?_ ?_ ?_
 ·simp only[go_sem,zE,zB,zA,zM,zS,zL,reduceCtorEq]
  first|rfl|exact⟨rfl,rfl⟩
 ·rintro k fr st _ hlt ⟨f0,f1,f5,f6,rfl,rfl⟩;by_cases hk:k<us.length
  ·obtain⟨t,ht⟩:=yQ3 hk;obtain⟨y,hky,hy⟩:=hxs.get ht;obtain⟨c,hct,hr1,hr2⟩:=hc.get (rest:=mksF 12) ht;obtain⟨h1,h2⟩:=yZ5 ht;have hcall:=IH t (lMg ht) y hy (by omega) c st hf hct;have hgeq:decide (((us.length:Nat):Int)<=(k:Nat))=false:=dEf (by omega);obtain⟨v5,n5,t5,x5,t6,x6,rfl⟩:=hy.agg;simp only[go_sem,zE,zB,zA,zM,zS,zL,reduceCtorEq,f0,f1,f5,f6,lt_i hlt,lt_i hk,hk,hxs.len,yQ2 htg,iNn,hky,hb,hr1,hr2,hgeq,fits,hlt];refine hcall.mono ?_;rintro _ st ⟨rfl,rfl⟩;simp only[go_sem,zE,zB,zA,zM,zS,zL,reduceCtorEq,f0,f1,f5,f6,hxs.len,hgeq,yQa hlt (show us.length+12<=281474976710656 by omega)]
  ·obtain⟨j,hj⟩:∃j,k=us.length+j:=⟨k-us.length,by omega⟩
   have hnlt:decide (((k:Nat):Int)<us.length)=false:=dEf (by omega);have hgeq:decide (((us.length:Nat):Int)<=(k:Nat))=true:=dEt (by omega);have hw:IntKind.i64.wrap (((k:Nat):Int)-us.length)=((j:Nat):Int):=by rw[w64]<;>omega
   have hr1:k*4+4<=(cs++mksF 12).length:=by rw[hbl];omega
   have hr2:((cs++mksF 12).drop (k*4)).take 4=mkD 1 j:=by
    have hcl:cs.length=us.length*4:=LFc.len hc;rw[show k*4=cs.length+j*4 by omega,<- List.drop_drop,List.drop_left];exact xKl (by omega)
   have hsame:=yV9 gl _ _ _ _ (wWs 1 j) (wWs 1 j) st;rw[yZ2.2 rfl] at hsame;have hall:(mkD 1 j).all IV.one=true:=rfl;have hml:(mkD 1 j).length=4:=rfl;simp only[go_sem,zE,zB,zA,zM,zS,zL,reduceCtorEq,f0,f1,f5,f6,lt_i hlt,hnlt,hgeq,hxs.len,iNn,hb,hr1,hr2,fits,hlt,hw,hall,hml,vKh];intros;refine hsame.mono ?_;rintro _ st ⟨rfl,rfl⟩;simp only[go_sem,zE,zB,zA,zM,zS,zL,reduceCtorEq,f0,f1,f5,f6,hxs.len,yQa hlt (show us.length+12<=281474976710656 by omega)]
 ·rintro fr st _ ⟨f0,f1,f5,f6,rfl,rfl⟩;simp only[go_sem,zE,zB,zA,zM,zS,zL,reduceCtorEq,f0,f1,f5,f6,yQk (nLi _),fits];exact yQ0 ⟨rfl,rfl⟩
theorem zYw (op:Nat)(n:ByteArray)(us:List Tm)(sub:List Fm)(IH:∀a∈sub,KFf gl a):KFf gl (.mk op n us sub):=by
 intro x hx hs c st hf hc;obtain⟨y,hy,ho⟩:=hc.agg hs;have h1:=yUi gl hf (subSt.refl _) ho (λst=>yV9 gl _ _ _ _ hy.aged hx st);rw[yZ2.2 rfl] at h1;simp only[LFf] at hc;obtain⟨a,cs,b,ds,_,rfl,hb,hc,hd,he⟩:=hc;obtain⟨tx,cx,ty,cy,rfl,_,htx,hcx,hty,hcy⟩:=hx.mk;simp only[Fm.size] at hs;have h2:=xXt gl us tx cx htx hcx (by omega) a cs st hf hb hc;have h3:=yGn gl sub IH ty cy hty hcy (by omega) b ds st hf hd he;refine iI func111 ?_;simp only[go_sem,zE,zA,zL];refine h1.mono ?_;rintro _ st ⟨rfl,rfl⟩;simp only[go_sem,zE,zA];refine h2.mono ?_;rintro _ st ⟨rfl,rfl⟩;simp only[go_sem,zE,zA];refine h3.mono ?_;rintro _ st ⟨rfl,rfl⟩;simp only[go_sem,zE];exact yQ0 ⟨rfl,rfl⟩
theorem zZh:∀(k:Nat)(a:Fm),SizeOf.sizeOf a<k->KFf gl a
 | 0,f,h=>by omega
 | k+1,.mk o n us sub,h=>zYw gl o n us sub (λa ha=>zZh k a (by
   have:=lSm ha;simp at h;omega))
theorem xYd (a:Fm):KFf gl a:=zZh gl _ a (Nat.lt_succ_self _)
theorem zK8 (us:List Fm):KFP gl us:=yGn gl us (λa _=>xYd gl a)
theorem wX6 (s:Sq)(x y:IV)(hx:IsSq s x)(hl:yQ7 s.l<=1099511627776)(hr:yQ7 s.r<=1099511627776)(st:ISt)(hf:flatSt st)(hc:LSq st s y) :
  ICall prog gl 27 [y,x] st (λr st'=>r=.raw (.bool true)/\st'=st):=by
 obtain⟨z,hz,ho⟩:=hc.oi hl hr;have h1:=yUi gl hf (subSt.refl _) ho (λst=>zVo gl _ _ _ _ (IsSq.aged hz) hx st);rw[yZ2.2 rfl] at h1;obtain⟨a,cs,b,ds,rfl,hb,hc,hd,he⟩:=hc;obtain⟨t1,x1,t2,x2,rfl,e1,i1,e2,i2⟩:=hx;have h2:=zK8 gl s.l t1 x1 e1 i1 hl a cs st hf hb hc;have h3:=zK8 gl s.r t2 x2 e2 i2 hr b ds st hf hd he;refine iI func27 ?_;simp only[go_sem,zE,zA,zL];refine h1.mono ?_;rintro _ st ⟨rfl,rfl⟩;simp only[go_sem,zE,zA];refine h2.mono ?_;rintro _ st ⟨rfl,rfl⟩;simp only[go_sem,zE,zA];refine h3.mono ?_;rintro _ st ⟨rfl,rfl⟩;simp only[go_sem,zE];exact yQ0 ⟨rfl,rfl⟩
def Z0 (x:IV):Prop:=(∃f e,x=.sl ⟨f,.nil,e⟩ [])\/x=.raw (.slice none 0 0)
def hdK:Nat->IV->Prop
 | 4,v=>∃o,v=.raw (.int .u8 o)
 | 2,v=>∃q:Option Addr×Nat×Nat,v=.raw (.slice q.1 q.2.1 q.2.2)
 | _,_=>False
def h1K:Nat->List IV->Prop
 | 4,cs=>∃n,cs[1]?=some (.raw (.string n))
 | _,_=>True
theorem h1K.congr {s:Nat}{cs cs':List IV}(h:h1K s cs)(he:cs'[1]?=cs[1]?):h1K s cs':=by
 unfold h1K at h ⊢;split
 ·rw[he];exact h
 ·trivial
def nx:Nat->Nat->Option Nat
 | 4,2=>some 3
 | 4,3=>some 4
 | 2,0=>some 4
 | 2,1=>some 4
 | _,_=>none
theorem vJi {s j s':Nat}(h:nx s j=some s'):j<s:=by
 unfold nx at h;split at h<;>first|omega|cases h
theorem hdK.one {s s':Nat}{v:IV}(h:hdK s v)(h':hdK s' v):s=s':=by
 unfold hdK at h h';split at h<;>split at h'<;>first|rfl|exact h.elim|exact h'.elim|(obtain⟨_,rfl⟩:=h;obtain⟨_,h'⟩:=h';cases h')
theorem nx4 {j s':Nat}(h:nx 4 j=some s'):j=2/\s'=3\/j=3/\s'=4:=by
 match j,h with
 | 2,h=>cases h;exact .inl ⟨rfl,rfl⟩
 | 3,h=>cases h;exact .inr ⟨rfl,rfl⟩
def OK (D:Nat->Prop):Nat->Nat->ISt->IV->Prop
 | 0,_,_,x=>Z0 x
 | d+1,s,st,x=>Z0 x\/∃g n c cs v,x=.raw (.slice (some ⟨g,0,none⟩) n c)/\D g/\n<=140737488355328/\n<=c/\st g=some (.box cs)/\c*s<=cs.length/\cs[0]?=some v/\hdK s v/\h1K s cs /\
   ∀i,i<n->(∀j,j<s->∃y,cs[i*s+j]?=some y/\y.one=true/\y.def_)/\∀j y s',cs[i*s+j]?=some y->nx s j=some s'->OK D d s' st y
theorem OK.zero {D:Nat->Prop}{d s:Nat}{st:ISt}{x:IV}(h:Z0 x):OK D d s st x:=by cases d<;>first|exact h|exact .inl h
theorem Z0.raw {g n c:Nat}(h:Z0 (.raw (.slice (some ⟨g,0,none⟩) n c))):False:=by
 rcases h with⟨_,_,h⟩|h<;>cases h
theorem OK.raw {D:Nat->Prop}{d s g n c:Nat}{st:ISt}(h:OK D d s st (.raw (.slice (some ⟨g,0,none⟩) n c))):∃e cs v,d=e+1/\D g/\n<=140737488355328/\n<=c/\st g=some (.box cs)/\c*s<=cs.length/\cs[0]?=some v/\hdK s v/\h1K s cs /\
   ∀i,i<n->(∀j,j<s->∃y,cs[i*s+j]?=some y/\y.one=true/\y.def_)/\∀j y s',cs[i*s+j]?=some y->nx s j=some s'->OK D e s' st y:=by
 cases d with
 | zero=>exact (Z0.raw h).elim
 | succ e =>
  rcases h with h|⟨g',n',c',cs,v,he,h⟩
  ·exact (Z0.raw h).elim
  ·cases he;exact⟨e,cs,v,rfl,h⟩
theorem OK.up {D:Nat->Prop}:∀ {d s:Nat} {st:ISt} {x:IV},OK D d s st x->OK D (d+1) s st x
 | 0,_,_,_,h=>.inl h
 | d+1,s,st,x,h=>by
  rcases h with h|⟨g,n,c,cs,v,h1,h2,h3,h4,h5,h6,h7,h8,hq,h9⟩
  ·exact .inl h
  ·exact .inr ⟨g,n,c,cs,v,h1,h2,h3,h4,h5,h6,h7,h8,hq,λi hi=>⟨(h9 i hi).1,λj y s' hy hn=>((h9 i hi).2 j y s' hy hn).up⟩⟩
theorem OK.le {D:Nat->Prop}{d e s:Nat}{st:ISt}{x:IV}(h:OK D d s st x)(hde:d<=e):OK D e s st x:=by
 induction hde with
 | refl=>exact h
 | step _ ih=>exact ih.up
theorem OK.mono {D:Nat->Prop}:∀ {d s:Nat} {st st':ISt} {x:IV},subSt st st'->OK D d s st x->OK D d s st' x
 | 0,_,_,_,_,_,h=>h
 | d+1,s,st,st',x,hs,h=>by
  rcases h with h|⟨g,n,c,cs,v,h1,h2,h3,h4,h5,h6,h7,h8,hq,h9⟩
  ·exact .inl h
  ·exact .inr ⟨g,n,c,cs,v,h1,h2,h3,h4,hs _ _ h5,h6,h7,h8,hq,λi hi=>⟨(h9 i hi).1,λj y s' hy hn=>((h9 i hi).2 j y s' hy hn).mono hs⟩⟩
def E0 (x:IV):Prop:=x=.raw (.slice none 0 0)\/∃g c,x=.raw (.slice (some ⟨g,0,none⟩) 0 c)
def vK4 (cs:List IV):Prop:=(∃o,cs[0]?=some (.raw (.int .u8 o)))/\∃q:Option Addr×Nat×Nat,cs[1]?=some (.raw (.slice q.1 q.2.1 q.2.2))
def rawO (x:IV):Prop:=∃v,x=.raw v/\x.one=true
def OT (D:Nat->Prop):Nat->ISt->IV->Prop
 | 0,_,x=>E0 x
 | d+1,st,x=>E0 x\/∃g n c cs,x=.raw (.slice (some ⟨g,0,none⟩) n c)/\n<=140737488355328/\n<=c/\st g=some (.box cs)/\vK4 cs/\n*12<=cs.length /\
   ∀i,i<n->∃r l l' o m a b v u t n' ts,(cs.drop (i*12)).take 12=[r,l,l',o,m,a,b,v,u,t,n',ts]/\(∀y∈[r,l,l',o,m,a,b,v,u,t,n',ts],rawO y)/\OK D d 4 st l/\OK D d 4 st l'/\OK D d 3 st a/\OK D d 4 st b/\OT D d st ts
theorem OT.mono {D:Nat->Prop}:∀ {d:Nat} {st st':ISt} {x:IV},subSt st st'->OT D d st x->OT D d st' x
 | 0,_,_,_,_,h=>h
 | d+1,st,st',x,hs,h=>by
  rcases h with h|⟨g,n,c,cs,h1,h2,h3,h4,h5,h6,h7⟩
  ·exact .inl h
  ·refine .inr ⟨g,n,c,cs,h1,h2,h3,hs _ _ h4,h5,h6,λi hi=>?_⟩;obtain⟨r,l,l',o,m,a,b,v,u,t,n',ts,q1,q2,q3,q4,q5,q6,q7⟩:=h7 i hi;exact⟨r,l,l',o,m,a,b,v,u,t,n',ts,q1,q2,q3.mono hs,q4.mono hs,q5.mono hs,q6.mono hs,q7.mono hs⟩
theorem OT.up {D:Nat->Prop}:∀ {d:Nat} {st:ISt} {x:IV},OT D d st x->OT D (d+1) st x
 | 0,_,_,h=>.inl h
 | d+1,st,x,h=>by
  rcases h with h|⟨g,n,c,cs,h1,h2,h3,h4,h5,h6,h7⟩
  ·exact .inl h
  ·refine .inr ⟨g,n,c,cs,h1,h2,h3,h4,h5,h6,λi hi=>?_⟩;obtain⟨r,l,l',o,m,a,b,v,u,t,n',ts,q1,q2,q3,q4,q5,q6,q7⟩:=h7 i hi;exact⟨r,l,l',o,m,a,b,v,u,t,n',ts,q1,q2,q3.up,q4.up,q5.up,q6.up,q7.up⟩
theorem OT.le {D:Nat->Prop}{d e:Nat}{st:ISt}{x:IV}(h:OT D d st x)(hde:d<=e):OT D e st x:=by
 induction hde with
 | refl=>exact h
 | step _ ih=>exact ih.up
structure Ow (D:Nat->Prop)(st st':ISt):Prop where
 dom:∀b,¬ D b->st' b=st b
 keep:∀d s x,OK D d s st x->OK D d s st' x
 keepT:∀d x,OT D d st x->OT D d st' x
theorem Ow.refl (D:Nat->Prop)(st:ISt):Ow D st st:=⟨λ_ _=>rfl,λ_ _ _ h=>h,λ_ _ h=>h⟩
theorem Ow.trans {D:Nat->Prop}{a b c:ISt}(h:Ow D a b)(k:Ow D b c):Ow D a c:=⟨λg hg=>(k.dom g hg).trans (h.dom g hg),λd s x hx=>k.keep d s x (h.keep d s x hx),λd x hx=>k.keepT d x (h.keepT d x hx)⟩
structure Wr (s:Nat)(w:List IV):Prop where
 len:w.length=s
 hd:∃v,w[0]?=some v/\hdK s v
 one:∀y∈w,y.one=true/\y.def_
 z:∀j y s',w[j]?=some y->nx s j=some s'->Z0 y
 h1:h1K s w
theorem Wr.pos {s:Nat}{w:List IV}(h:Wr s w):0<s/\(s=4\/∀cs,h1K s cs):=by
 obtain⟨v,_,hv⟩:=h.hd;unfold hdK at hv;split at hv
 ·exact⟨by omega,.inl rfl⟩
 ·exact⟨by omega,.inr λ_=>trivial⟩
 ·exact hv.elim
theorem OK.put {D:Nat->Prop}{st:ISt}{g s0 i:Nat}{cs w:List IV}{v:IV}(hg:st g=some (.box cs))(h0:cs[0]?=some v)(hv:hdK s0 v)(hle:i*s0+s0<=cs.length)(hw:Wr s0 w) :
  ∀(d s:Nat) (x:IV),OK D d s st x->OK D d s (st.put g (some (.box (yX8 cs (i*s0) w)))) x
 | 0,_,_,h=>h
 | d+1,s,x,h=>by
  rcases h with h|⟨g',n,c,cs',u,h1,h2,h3,h4,h5,h6,h7,h8,hq1,h9⟩
  ·exact .inl h
  have hl:i*s0+w.length<=cs.length:=by rw[hw.len];exact hle
  by_cases hgg:g'=g
  ·subst hgg;rw[hg] at h5;cases h5;rw[h0] at h7;cases h7;obtain rfl:=hv.one h8;have hget:∀k,(yX8 cs (i*s0) w)[k]?=if i*s0<=k/\k<i*s0+s0 then w[k-i*s0]? else cs[k]?:=λk=>by rw[xGi hl,hw.len]
   have hs0:0<s0:=by
    rcases Nat.eq_zero_or_pos s0 with rfl|h
    ·exact hv.elim
    ·exact h
   have hq:∃v',(yX8 cs (i*s0) w)[0]?=some v'/\hdK s0 v':=by
    rw[hget];split
    ·rename_i hk;obtain⟨v',h1,h2⟩:=hw.hd;rw[show 0-i*s0=0 by omega];exact⟨v',h1,h2⟩
    ·exact⟨v,h0,hv⟩
   obtain⟨v',e1,e2⟩:=hq;have hq2:h1K s0 (yX8 cs (i*s0) w):=by
    rcases hw.pos.2 with h4|h
    ·rcases Nat.eq_zero_or_pos i with rfl|hi
     ·refine hw.h1.congr ?_;rw[hget,if_pos ⟨by omega,by omega⟩,show 1-0*s0=1 by omega]
     ·refine hq1.congr ?_;have:=Nat.mul_le_mul_right s0 (show 1<=i from hi);rw[hget,if_neg (by omega)]
    ·exact h _
   refine .inr ⟨g',n,c,_,v',h1,h2,h3,h4,ISt.put_same ..,by rw[xGh hl];exact h6,e1,e2,hq2,λk hk=>?_⟩;obtain⟨a1,a2⟩:=h9 k hk;by_cases hki:k=i
   ·subst hki;refine⟨λj hj=>?_,λj y s' hy hn=>?_⟩
    ·rw[hget,if_pos ⟨by omega,by omega⟩,show k*s0+j-k*s0=j by omega];obtain⟨y,hy⟩:=yQ3 (l:=w) (k:=j) (by rw[hw.len];exact hj);exact⟨y,hy,hw.one y (lMg hy)⟩
    ·have hj:=vJi hn;rw[hget,if_pos ⟨by omega,by omega⟩,show k*s0+j-k*s0=j by omega] at hy;exact .zero (hw.z j y s' hy hn)
   ·have hout:∀j,j<s0->¬(i*s0<=k*s0+j/\k*s0+j<i*s0+s0):=λj hj hc=>by
     rcases Nat.lt_or_gt_of_ne hki with h|h
     ·have:=Nat.mul_le_mul_right s0 (show k+1<=i from h);rw[Nat.add_mul] at this;omega
     ·have:=Nat.mul_le_mul_right s0 (show i+1<=k from h);rw[Nat.add_mul] at this;omega
    refine⟨λj hj=>?_,λj y s' hy hn=>OK.put hg h0 hv hle hw d s' y (a2 j y s' ?_ hn)⟩
    ·rw[hget,if_neg (hout j hj)];exact a1 j hj
    ·rw[hget,if_neg (hout j (vJi hn))] at hy;exact hy
  ·exact .inr ⟨g',n,c,cs',u,h1,h2,h3,h4,by rw[yQ9 hgg];exact h5,h6,h7,h8,hq1,λk hk=>by
    obtain⟨a1,a2⟩:=h9 k hk;exact⟨a1,λj y s' hy hn=>OK.put hg h0 hv hle hw d s' y (a2 j y s' hy hn)⟩⟩
theorem OT.put {D:Nat->Prop}{st:ISt}{g s0 i:Nat}{cs w:List IV}{v:IV}(hg:st g=some (.box cs))(h0:cs[0]?=some v)(hv:hdK s0 v)(hk:h1K s0 cs)(hle:i*s0+s0<=cs.length)(hw:Wr s0 w) :
  ∀(d:Nat) (x:IV),OT D d st x->OT D d (st.put g (some (.box (yX8 cs (i*s0) w)))) x
 | 0,_,h=>h
 | d+1,x,h=>by
  rcases h with h|⟨g',n,c,cs',h1,h2,h3,h4,h5,h6,h7⟩
  ·exact .inl h
  ·have hgg:g'≠g:=by
    rintro rfl;rw[hg] at h4;cases h4;obtain⟨⟨o,e0⟩,q,e1⟩:=h5;rw[h0] at e0;cases e0;unfold hdK at hv;split at hv
    ·obtain⟨_,h⟩:=hk;rw[h] at e1;cases e1
    ·obtain⟨_,h⟩:=hv;cases h
    ·exact hv
   refine .inr ⟨g',n,c,cs',h1,h2,h3,by rw[yQ9 hgg];exact h4,h5,h6,λk hk'=>?_⟩;obtain⟨r,l,l',o,m,a,b,v',u,t,n',ts,q1,q2,q3,q4,q5,q6,q7⟩:=h7 k hk';exact⟨r,l,l',o,m,a,b,v',u,t,n',ts,q1,q2,OK.put hg h0 hv hle hw _ _ _ q3,OK.put hg h0 hv hle hw _ _ _ q4,OK.put hg h0 hv hle hw _ _ _ q5,OK.put hg h0 hv hle hw _ _ _ q6,OT.put hg h0 hv hk hle hw d ts q7⟩
theorem Ow.put {D:Nat->Prop}{st:ISt}{g s0 i:Nat}{cs w:List IV}{v:IV}(hD:D g)(hg:st g=some (.box cs))(h0:cs[0]?=some v)(hv:hdK s0 v)(hk:h1K s0 cs)(hle:i*s0+s0<=cs.length)(hw:Wr s0 w):Ow D st (st.put g (some (.box (yX8 cs (i*s0) w)))) :=
 ⟨λb hb=>yQ9 (by rintro rfl;exact hb hD),OK.put hg h0 hv hle hw,OT.put hg h0 hv hk hle hw⟩
theorem wr4 (k j:Nat):Wr 4 (mkD k j):=⟨rfl,⟨_,rfl,_,rfl⟩,λy hy=>by
  simp only[mkD,List.mem_cons,List.not_mem_nil,or_false] at hy;rcases hy with rfl|rfl|rfl|rfl<;>exact⟨rfl,λh=>by cases h⟩,λj y s' hy hn=>by
  rcases nx4 hn with⟨rfl,rfl⟩|⟨rfl,rfl⟩<;>(cases hy;exact .inl ⟨_,_,rfl⟩),⟨_,rfl⟩⟩
theorem zZ6 (D:Nat->Prop)(f:Bool)(e:Nat)(st:ISt):ICall prog gl 110 [.sl ⟨f,.nil,e⟩ []] st (λ_ st'=>Ow D st st'):=by
 refine iI func110 ?_;simp only[go_sem];refine LoopC.ctr 0 (λk fr st' ds=>fr 0=.iv (.sl ⟨f,.nil,e⟩ [])/\fr 2=.iv (.raw (.int .i64 0))/\st'=st/\ds=[]) ?_ ?_ ?_
 ·simp only[go_sem,reduceCtorEq]
 ·intro k _ _ _ h;omega
 ·rintro fr st _ ⟨f0,f2,rfl,rfl⟩;simp only[go_sem,zE,zL,reduceCtorEq,f0,f2,show decide ((0:Int)<((0:Nat):Int))=false from rfl,show IntKind.i64.wrap (((0:Nat):Int)+12)=12 from rfl,show min (0:Int) 12=((0:Nat):Int) from rfl,yV3 (Nat.le_refl 0)];intros;refine LoopC.ctr 0 (λk fr st' ds=>(∃t,fr 3=.iv (.sl t []))/\fr 4=.iv (.raw (.int .i64 0))/\st'=st/\ds=[]) ?_ ?_ ?_
  ·simp only[go_sem,zE];exact⟨_,rfl⟩
  ·intro k _ _ _ h;omega
  ·rintro fr st _ ⟨⟨t,f3⟩,f4,rfl,rfl⟩;simp only[go_sem,zE,zL,f3,f4,show decide ((0:Int)<((0:Nat):Int))=false from rfl];intros;exact yQ0 (Ow.refl _ _)
theorem zZ8 (D:Nat->Prop)(f:Bool)(e:Nat)(st:ISt):ICall prog gl 109 [.sl ⟨f,.nil,e⟩ []] st (λ_ st'=>Ow D st st'):=by
 refine iI func109 ?_;simp only[go_sem];refine LoopC.ctr 0 (λk fr st' ds=>fr 0=.iv (.sl ⟨f,.nil,e⟩ [])/\fr 2=.iv (.raw (.int .i64 0))/\st'=st/\ds=[]) ?_ ?_ ?_
 ·simp only[go_sem,reduceCtorEq]
 ·intro k _ _ _ h;omega
 ·rintro fr st _ ⟨f0,f2,rfl,rfl⟩;simp only[go_sem,zE,zL,reduceCtorEq,f0,f2,show decide ((0:Int)<((0:Nat):Int))=false from rfl,show IntKind.i64.wrap (((0:Nat):Int)+12)=12 from rfl,show min (0:Int) 12=((0:Nat):Int) from rfl,yV3 (Nat.le_refl 0)];intros;refine LoopC.ctr 0 (λk fr st' ds=>(∃t,fr 3=.iv (.sl t []))/\fr 4=.iv (.raw (.int .i64 0))/\st'=st/\ds=[]) ?_ ?_ ?_
  ·simp only[go_sem,zE];exact⟨_,rfl⟩
  ·intro k _ _ _ h;omega
  ·rintro fr st _ ⟨⟨t,f3⟩,f4,rfl,rfl⟩;simp only[go_sem,zE,zL,f3,f4,show decide ((0:Int)<((0:Nat):Int))=false from rfl];intros;exact yQ0 (Ow.refl _ _)
theorem zUt {D:Nat->Prop}{x:IV}(h:Z0 x)(st:ISt):ICall prog gl 110 [x] st (λ_ st'=>Ow D st st'):=by
 rcases h with⟨f,e,rfl⟩|rfl
 ·exact zZ6 gl D f e st
 ·exact ICall.nil1 (zZ6 gl D _ _ st)
theorem zZ7 {D:Nat->Prop}{x:IV}(h:Z0 x)(st:ISt):ICall prog gl 109 [x] st (λ_ st'=>Ow D st st'):=by
 rcases h with⟨f,e,rfl⟩|rfl
 ·exact zZ8 gl D f e st
 ·exact ICall.nil1 (zZ8 gl D _ _ st)
theorem OK.t3 {D:Nat->Prop}:∀ {d:Nat} {st:ISt} {x:IV},OK D d 3 st x->Z0 x
 | 0,_,_,h=>h
 | _+1,_,_,h=>by
  rcases h with h|⟨_,_,_,_,_,_,_,_,_,_,_,_,h,_⟩
  ·exact h
  ·exact h.elim
theorem yKe {D:Nat->Prop}{a b y z:IV}{st:ISt}{d:Nat}(ha:a.one=true)(hb:b.one=true)(hy1:y.one=true)(hy:y.def_)(hz1:z.one=true)(hz:z.def_)(h:OK D d 3 st y)(hzo:OK D d 4 st z)
  (IH:∀st,OK D d 4 st z->ICall prog gl 109 [z] st (λ_ st'=>Ow D st st')) :
  ICall prog gl 63 [.agg [a,b,y,z]] st (λ_ st'=>Ow D st st'):=by
 have h1:=zUt gl (D:=D) h.t3 st;refine iI func63 ?_;simp only[go_sem,zE,zB,zA,zM,zS,zL,reduceCtorEq,fits,ha,hb,hy1,hz1,zX2 hy];refine h1.mono ?_;rintro _ st2 hov;simp only[go_sem,zE,zB,zA,zM,zS,zL,reduceCtorEq,fits,zX2 hz];refine (IH _ (hov.keep _ _ _ hzo)).mono ?_;rintro _ st3 hov2;simp only[go_sem,zE,zB,zA,zM,zS,zL,reduceCtorEq,fits];exact yQ0 (hov.trans hov2)
theorem yJ0 (D:Nat->Prop):∀(d:Nat) (x:IV) (st:ISt),OK D d 4 st x->ICall prog gl 109 [x] st (λ_ st'=>Ow D st st')
 | 0,x,st,h=>zZ7 gl h st
 | d+1,x,st,h=>by
  have part:∀ {st1:ISt} {cells cs1:List IV} {k:Nat},cells.length=4->(∀j,j<4->∃y,cells[j]?=some y/\cs1[k*4+j]?=some y/\y.one=true/\y.def_)->(∀j y s',cs1[k*4+j]?=some y->nx 4 j=some s'->OK D d s' st1 y) →
    ICall prog gl 63 [.agg cells] st1 (λ_ st'=>Ow D st1 st'):=by
   intro st1 cells cs1 k hl hc h2
   match cells,hl with
   | [a,b,y,z],_ =>
    obtain⟨_,e0,_,a0,_⟩:=hc 0 (by omega);obtain⟨_,e1,_,a1,_⟩:=hc 1 (by omega);obtain⟨_,e2,q2,a2,d2⟩:=hc 2 (by omega);obtain⟨_,e3,q3,a3,d3⟩:=hc 3 (by omega);cases e0;cases e1;cases e2;cases e3;exact yKe gl a0 a1 a2 d2 a3 d3 (h2 2 _ 3 q2 rfl) (h2 3 _ 4 q3 rfl) (λst=>yJ0 D d z st)
  rcases h with h|⟨g,n,c,cs,v,rfl,hD,hn,hnc,hg,hlen,h0,hv,hk1,hi⟩
  ·exact zZ7 gl h st
  have hw:OK D (d+1) 4 st (.raw (.slice (some ⟨g,0,none⟩) n c)):=.inr ⟨g,n,c,cs,v,rfl,hD,hn,hnc,hg,hlen,h0,hv,hk1,hi⟩;clear hg hlen h0 hv hk1 hi;have hwn:IntKind.i64.wrap ((n:Int)+12)=((n+12:Nat):Int):=by rw[w64]<;>omega
  have hmin:min (c:Int) ((n+12:Nat):Int)=((min c (n+12):Nat):Int):=by omega
  generalize hm:min c (n+12)=m at hmin;have hmc:m<=c:=by omega
  have hmb:m<=281474976710000:=by omega
  refine iI func109 ?_;simp only[go_sem];refine LoopC.ctr n (λk fr st' ds=>fr 0=.iv (.raw (.slice (some ⟨g,0,none⟩) n c))/\fr 2=.iv (.raw (.int .i64 k))/\Ow D st st'/\ds=[]) ?_ ?_ ?_
  ·simp only[go_sem,reduceCtorEq];exact⟨rfl,Ow.refl _ _⟩
  ·rintro k fr st1 _ hlt ⟨f0,f2,hov,rfl⟩;obtain⟨e,cs1,v,he,_,_,_,hg1,hl1,_,_,_,hi1⟩:=(hov.keep _ _ _ hw).raw;obtain rfl:d=e:=by omega
   obtain⟨hone,h2⟩:=hi1 k hlt;have hle:k*4+4<=cs1.length:=by
    have:=Nat.mul_le_mul_right 4 (show k+1<=c by omega);omega
   obtain⟨cells,hcl,hcells⟩:∃l,l=(cs1.drop (k*4)).take 4/\∀j,j<4->∃y,l[j]?=some y/\cs1[k*4+j]?=some y/\y.one=true/\y.def_:=⟨_,rfl,λj hj=>by
    obtain⟨y,hy,h⟩:=hone j hj;exact⟨y,by rw[List.getElem?_take,if_pos hj,List.getElem?_drop];exact hy,hy,h⟩⟩
   have hc4:cells.length=4:=by rw[hcl,List.length_take,List.length_drop];omega
   have hcall:=part hc4 hcells h2;simp only[go_sem,zE,zA,reduceCtorEq,f0,f2,lt_i hlt,iNn,hlt,hg1,hle,hcl.symm];refine hcall.mono ?_;rintro _ st2 hov2;simp only[go_sem,zE,reduceCtorEq,f0,f2,yQa hlt (show n<=281474976710656 by omega)];exact hov.trans hov2
  ·rintro fr st1 _ ⟨f0,f2,hov,rfl⟩;simp only[go_sem,zE,reduceCtorEq,f0,f2,yQk (nLi _),hwn,hmin,hnc,yV3 hmc,ite_self,Nat.zero_mul];refine LoopC.ctr m (λk fr st' ds=>fr 3=.iv (.raw (.slice (some ⟨g,0,none⟩) m c))/\fr 4=.iv (.raw (.int .i64 k))/\Ow D st st'/\ds=[]) ?_ ?_ ?_
   ·simp only[go_sem,zE];exact⟨rfl,hov⟩
   ·rintro k fr st2 _ hlt ⟨f3,f4,hov2,rfl⟩;obtain⟨e,cs1,v,he,_,_,_,hg1,hl1,h0,hv,hk1,hi1⟩:=(hov2.keep _ _ _ hw).raw;have hle:k*4+4<=cs1.length:=by
     have:=Nat.mul_le_mul_right 4 (show k+1<=c by omega);omega
    have hmk:=zQ9 gl 2 k st2;have hput:=Ow.put hD hg1 h0 hv hk1 hle (wr4 2 k);simp only[go_sem,zE,zA,f3,f4,lt_i hlt];refine hmk.mono ?_;rintro _ st2 ⟨rfl,rfl⟩;generalize hst3:st2.put g (some (.box (yX8 cs1 (k*4) (mkD 2 k))))=st3 at hput;have hov3:=hov2.trans hput;have hall:(mkD 2 k).all IV.one=true:=rfl;have hml:(mkD 2 k).length=4:=rfl;unfold yX8 at hst3;rw[hml] at hst3;simp only[go_sem,zE,f3,f4,iNn,hlt,hg1,hle,hall,hml,hst3,yQa hlt (show m<=281474976710656 by omega)];exact hov3
   ·rintro fr st2 _ ⟨f3,f4,hov2,rfl⟩;simp only[go_sem,zE,f3,f4,yQk (nLi _)];intros;exact yQ0 hov2
theorem zVp {D:Nat->Prop}{d:Nat}{y z:IV}{st:ISt}(hy1:y.one=true)(hy:y.def_)(hz1:z.one=true)(hz:z.def_)(h:OK D d 4 st y)(h':OK D d 4 st z) :
  ICall prog gl 62 [.agg [y,z]] st (λ_ st'=>Ow D st st'):=by
 have h1:=yJ0 gl D d y st h;have h2:=λst=>yJ0 gl D d z st;refine iI func62 ?_;simp only[go_sem,zE,zA,hy1,hz1,zX2 hy];refine h1.mono ?_;rintro _ st2 hov;simp only[go_sem,zE,zA,zX2 hz];refine (h2 _ (hov.keep _ _ _ h')).mono ?_;rintro _ st3 hov2;simp only[go_sem];exact yQ0 (hov.trans hov2)
theorem zWx {N:ISt}{D:Nat->Prop}(us:List Tm)(y:IV)(t:Tag)(xs:List IV)(hy:∃v,y=.raw v)(ho:OI N y (.sl t xs))(hes:okEs t 3)(hxs:IsTms us xs)(hd:dfr (.sl t xs)):∃d,OK D d 3 N y:=by
 obtain⟨v,rfl⟩:=hy;obtain⟨rfl,rfl⟩:=hxs.z;simp only[dfr] at hd;cases ho with
 | nil _ h=>exact⟨0,.inr rfl⟩
 | sl g cap _ _ cs hcap hlen hcl hs hst hroom h =>
  rcases hd.1 with hn|hp
  ·rw[hcap] at hn;cases hn
  ·have:=hp.1;rw[wkE,zZw hes hcap,if_pos (by decide)] at this;cases this
theorem yUb {N:ISt}(hraw:zQ4 N):∀(k:Nat) (us:List Fm),SizeOf.sizeOf us<k->∀(y:IV) (t:Tag) (xs:List IV),(∃v,y=.raw v)->OI N y (.sl t xs)->okEs t 4->IsFms us xs->dfr (.sl t xs)->∃d,OK (λb=>N b≠none) d 4 N y
 | 0,_,h=>by omega
 | k+1,us,hk=>by
  rintro y t xs ⟨v,rfl⟩ ho hes hxs hd;simp only[dfr] at hd;cases ho with
  | nil _ h=>exact⟨0,.inr rfl⟩
  | sl g cap _ _ cs hcap hlen hcl hs hst hroom h =>
   have h3:=zZw hes hcap;rw[h3] at hroom;have hs3:∀x∈xs,x.cells.length=4:=λx hx=>by rw[hs x hx,h3]
   have hpos:0<xs.length:=by
    rcases hd.1 with hn|hp
    ·rw[hcap] at hn;cases hn
    ·have:=hp.1
     rwa [wkE,h3,if_pos (by decide)] at this
   have hcc:=Nat.mul_le_mul_right 4 hcl;have part:∀i,i<xs.length->∃r0 r1 r2 r3 o n us' sub' t' xs' t'' xs'',cs[4*i]?=some r0/\cs[4*i+1]?=some r1/\cs[4*i+2]?=some r2/\cs[4*i+3]?=some r3/\Fm.mk o n us' sub'∈us/\r0=.raw (.int .u8 o)/\r1=.raw (.string n) /\
     (OI N r2 (.sl t' xs')/\okEs t' 3/\IsTms us' xs'/\dfr (.sl t' xs'))/\OI N r3 (.sl t'' xs'')/\okEs t'' 4/\IsFms sub' xs''/\dfr (.sl t'' xs''):=λi hi=>by
    obtain⟨x,hx⟩:=yQ3 hi;obtain⟨⟨o,n,us',sub'⟩,ha,hax⟩:=hxs.mem hx;have hdx:=yJy hd.2.1 (lMg hx);obtain⟨t',xs',t'',xs'',rfl,_,ht',hxs',ht'',hxs''⟩:=hax.mk;obtain⟨r0,hr0⟩:=yQ3 (show 4*i<cs.length by omega);obtain⟨r1,hr1⟩:=yQ3 (show 4*i+1<cs.length by omega);obtain⟨r2,hr2⟩:=yQ3 (show 4*i+2<cs.length by omega);obtain⟨r3,hr3⟩:=yQ3 (show 4*i+3<cs.length by omega);have e0:=yKu hs3 hx (show 0<4 by omega);have e1:=yKu hs3 hx (show 1<4 by omega);have e2:=yKu hs3 hx (show 2<4 by omega);have e3:=yKu hs3 hx (show 3<4 by omega);simp only[dfr] at hdx;exact⟨r0,r1,r2,r3,o,n,us',sub',t',xs',t'',xs'',hr0,hr1,hr2,hr3,lMg ha,(h _ _ _ hr0 e0).raw_eq,(h _ _ _ hr1 e1).raw_eq,⟨h _ _ _ hr2 e2,ht',hxs',yJy hdx.1 (by simp)⟩,h _ _ _ hr3 e3,ht'',hxs'',yJy hdx.1 (by simp)⟩
   have each:∀i,i<xs.length->∃d,(∀y,cs[i*4+2]?=some y->OK (λb=>N b≠none) d 3 N y)/\∀y,cs[i*4+3]?=some y->OK (λb=>N b≠none) d 4 N y:=λi hi=>by
    obtain⟨r0,r1,r2,r3,o,n,us',sub',t',xs',t'',xs'',_,_,k2,k3,km,_,_,⟨a1,a2,a3,a4⟩,b1,b2,b3,b4⟩:=part i hi;obtain⟨w,hw⟩:=yGv (hraw _ _ hst r2 (lMg k2)) a1;obtain⟨w',hw'⟩:=yGv (hraw _ _ hst r3 (lMg k3)) b1;obtain⟨d,hd⟩:=zWx us' _ _ _ ⟨w,hw⟩ a1 a2 a3 a4;obtain⟨e,he⟩:=yUb hraw k sub' (by have:=lSm km;simp at this;omega) _ _ _ ⟨w',hw'⟩ b1 b2 b3 b4;refine⟨d+e,λy hy=>?_,λy hy=>?_⟩
    ·rw[Nat.mul_comm,k2] at hy;cases hy;exact hd.le (by omega)
    ·rw[Nat.mul_comm,k3] at hy;cases hy;exact he.le (by omega)
   obtain⟨d,hd'⟩:=yUu (P:=λd i=>(∀y,cs[i*4+2]?=some y->OK (λb=>N b≠none) d 3 N y)/\∀y,cs[i*4+3]?=some y->OK (λb=>N b≠none) d 4 N y) (λd i h=>⟨λy hy=>(h.1 y hy).up,λy hy=>(h.2 y hy).up⟩) _ each;obtain⟨r0,_,_,_,o,nm,_,_,_,_,_,_,k0,kn,_,_,_,q0,qn,_⟩:=part 0 hpos;refine⟨d+1,.inr ⟨g,xs.length,cap,cs,.raw (.int .u8 o),rfl,(by show N g≠none;rw[hst];exact λh=>by cases h),hlen,hcl,hst,hroom,by rw[<- q0];exact k0,⟨o,rfl⟩,⟨nm,by rw[<- qn];exact kn⟩,λi hi=>⟨λj hj=>?_,λj y s' hy hn=>by
    rcases nx4 hn with⟨rfl,rfl⟩|⟨rfl,rfl⟩
    ·exact (hd' i hi).1 y hy
    ·exact (hd' i hi).2 y hy⟩⟩⟩
   obtain⟨r0,r1,r2,r3,o,n,us',sub',t',xs',t'',xs'',k0,k1,k2,k3,_,q0,q1,⟨a1,_⟩,b1,_⟩:=part i hi;obtain⟨w,hw⟩:=yGv (hraw _ _ hst r2 (lMg k2)) a1;obtain⟨w',hw'⟩:=yGv (hraw _ _ hst r3 (lMg k3)) b1;rw[Nat.mul_comm]
   match j,hj with
   | 0,_=>exact⟨r0,k0,by rw[q0];exact⟨rfl,λh=>by cases h⟩⟩
   | 1,_=>exact⟨r1,k1,by rw[q1];exact⟨rfl,λh=>by cases h⟩⟩
   | 2,_ =>
    refine⟨r2,k2,?_⟩;subst hw;refine⟨?_,λh=>by cases h⟩;cases a1<;>rfl
   | 3,_ =>
    refine⟨r3,k3,?_⟩;subst hw';refine⟨?_,λh=>by cases h⟩;cases b1<;>rfl
mutual
def TB:Tr->Prop
 | .mk _ s m u _ sub=>yQ7 s.l<=1099511627776/\yQ7 s.r<=1099511627776/\m.size<=1099511627776/\u.size<=1099511627776/\TBs sub
def TBs:List Tr->Prop
 | []=>True
 | a::l=>TB a/\TBs l
end
theorem xXo:∀ {l:List Tr}{a:Tr},TBs l->a∈l->TB a
 | b::l,a,h,ha=>by
  simp only[TBs] at h;rcases List.mem_cons.1 ha with rfl|ha
  ·exact h.1
  ·exact xXo h.2 ha
def ttC (t:Tr):Prop:=∀(x:IV) (_:IsTr t x) (_:TB t) (_:t.steps<=1000000) (st:ISt),ICall prog gl 22 [x] st (λr st'=>IsTr t r/\st'=st)
theorem wYz (rule:Nat)(s:Sq)(f:Fm)(u:Tm)(n:ByteArray)(sub:List Tr)(IH:∀a∈sub,ttC gl a):ttC gl (.mk rule s f u n sub):=by
 intro x hx hok hst st;obtain⟨tl,xl,tr,xr,op,fn,ta,xa,tb,xb,v,un,tu,xu,ts,xs,rfl,hru,e1,i1,e2,i2,hy,hz,e3,i3⟩:=hx.mk;simp only[Tr.steps] at hst;simp only[TB] at hok;have hlsub:=yZ7 sub;have h1:=λst=>zVq gl s (.agg [.sl tl xl,.sl tr xr]) ⟨tl,xl,tr,xr,rfl,e1,i1,e2,i2⟩ hok.1 hok.2.1 st;have h2:=λst=>yWn gl f _ hy hok.2.2.1 st;have h3:=λst=>zJj gl u _ hz hok.2.2.2.1 st;refine ICall.intro (c:=cf prog gl [] [(1,[0,1,2,3,5,6,8,9,11,12,14,4,7,10,13,15])]) func22 rfl (by show _<=38;simp) (by kernel_rfl) ?_;simp only[go_sem,zE,zB,zA,zM,zS,zL,reduceCtorEq,fits];refine (h1 _).mono ?_;rintro _ st ⟨⟨c1,y1,c2,y2,rfl,g1,_,k1,g2,_,k2⟩,rfl⟩;simp only[go_sem,zE,zB,zA,zM,zS,zL,reduceCtorEq,fits];refine (h2 _).mono ?_;rintro r2 st ⟨hr2,rfl⟩;obtain⟨o2,n2,ta2,xa2,tb2,xb2,rfl⟩:=IsFmD.aggs hr2;simp only[go_sem,zE,zB,zA,zM,zS,zL,reduceCtorEq,fits];refine (h3 _).mono ?_;rintro r3 st ⟨hr3,rfl⟩;obtain⟨v3,n3,t3,x3,rfl⟩:=hr3.agg;simp only[go_sem,zE,zB,zA,zM,zS,zL,reduceCtorEq,fits];refine LoopC.ctr sub.length (λk fr st' ds=>(∃tg' ys,fr 3=.box [.raw (.int .u8 rule),.sl c1 y1,.sl c2 y2,.raw (.int .u8 o2),.raw (.string n2),.sl ta2 xa2,.sl tb2 xb2,.raw (.bool v3),.raw (.string n3),.sl t3 x3,.raw (.string n),.sl tg' ys]/\IsTrs (sub.take k) ys/\own st' tg' k 12 st/\subSt st st') /\
  fr 1=.box [.raw (.int .u8 rule),.sl tl xl,.sl tr xr,.raw (.int .u8 op),.raw (.string fn),.sl ta xa,.sl tb xb,.raw (.bool v),.raw (.string un),.sl tu xu,.raw (.string n),.sl ts xs] /\
  fr 2=.box trZ/\fr 4=.iv (.raw (.int .i64 k))/\ds=[]) ?_ ?_ ?_
 ·simp only[go_sem,zE,zB,zA,zM,zS,zL,reduceCtorEq,trZ];exact⟨⟨_,_,rfl,rfl,own.nil _ _ _ _ _,subSt.refl _⟩,rfl⟩
 ·rintro k fr st1 _ hlt ⟨⟨tg',ys,f3,hys,hown,hsub⟩,f1,f2,f4,rfl⟩;obtain⟨a,ha⟩:=yQ3 hlt;have ham:=lMg ha;obtain⟨z,hkz,hzz⟩:=i3.get ha;have hlen2:ys.length=k:=by rw[hys.len,List.length_take];omega
  have hcall:=λst=>IH a ham z hzz (xXo hok.2.2.2.2 ham) (by have:=yZ4 ham;omega) st;obtain⟨rule',tl',xl',tr',xr',op',fn',ta',xa',tb',xb',v',un',tu',xu',n',ts',xs',rfl⟩:=yX4 hzz;simp only[go_sem,zE,zB,zA,zM,zS,zL,reduceCtorEq,f1,f3,f4,i3.len,lt_i hlt,yQ2 e3,iNn,hkz,fits];intro _;refine (hcall _).mono ?_;rintro r _ ⟨hr,rfl⟩;have hn:IsTrs (sub.take (k+1)) (ys++[r]):=by
   rw[yQ8 ha];exact hys.append ⟨_,_,rfl,hr,rfl⟩
  obtain⟨rule',tl',xl',tr',xr',op',fn',ta',xa',tb',xb',v',un',tu',xu',n',ts',xs',rfl⟩:=yX4 hr;simp only[go_sem,zE,zB,zA,zM,zS,zL,reduceCtorEq,f1,f3,f4,fits,yQ1];refine yZb hown hlen2 hsub rfl (by simp[fits,IV.one]) (by simp only;omega) (by omega) λtg2 st4 hown2 hsub4 _ hap2=>?_;simp only[go_sem,zE,zB,zA,zM,zS,zL,reduceCtorEq,f1,f2,f3,f4,fits,yQa hlt (show sub.length<=281474976710656 by omega)];exact⟨tg2,_,rfl,hn,hown2,hsub4⟩
 ·rintro fr st1 _ ⟨⟨tg',ys,f3,hys,hown,hsub⟩,f1,f2,f4,rfl⟩;rw[lTl] at hys;unfold trZ at f2;simp only[go_sem,zE,zB,zA,zM,zS,zL,reduceCtorEq,f1,f2,f3,f4,i3.len,yQk (nLi _),fits];intro _;refine yQb (st':=st) hsub ⟨?_,rfl⟩;simp only[IsTr];exact⟨_,_,_,_,_,_,_,_,_,_,_,_,_,_,_,_,rfl,hru,g1,k1.1,g2,k2.1,hr2.1,hr3.1,hown.es,hys⟩
theorem xJb:∀(k:Nat)(t:Tr),SizeOf.sizeOf t<k->ttC gl t
 | 0,t,h=>by omega
 | k+1,.mk r sq f u n sub,h=>wYz gl r sq f u n sub (λa ha=>xJb k a (by
   have:=lSm ha;simp at h;omega))
def tgC (t:Tr):Prop:=∀(x:IV) (_:IsTr t x) (_:TB t) (_:t.steps<=1000000) (st:ISt),ICall prog gl 34 [x] st (λr st'=>IsTr t r/\st'=st)
theorem wG3 (rule:Nat)(s:Sq)(f:Fm)(u:Tm)(n:ByteArray)(sub:List Tr)(IH:∀a∈sub,tgC gl a):tgC gl (.mk rule s f u n sub):=by
 intro x hx hok hst st;obtain⟨tl,xl,tr,xr,op,fn,ta,xa,tb,xb,v,un,tu,xu,ts,xs,rfl,hru,e1,i1,e2,i2,hy,hz,e3,i3⟩:=hx.mk;simp only[Tr.steps] at hst;simp only[TB] at hok;have hlsub:=yZ7 sub;have h1:=λst=>zVq gl s (.agg [.sl tl xl,.sl tr xr]) ⟨tl,xl,tr,xr,rfl,e1,i1,e2,i2⟩ hok.1 hok.2.1 st;have h2:=λst=>yWn gl f _ hy hok.2.2.1 st;have h3:=λst=>zJj gl u _ hz hok.2.2.2.1 st;refine ICall.intro (c:=cf prog gl [] [(1,[0,1,2,3,5,6,8,9,11,12,14,4,7,10,13,15])]) func34 rfl (by show _<=38;simp) (by kernel_rfl) ?_;simp only[go_sem,zE,zB,zA,zM,zS,zL,reduceCtorEq,fits];refine (h1 _).mono ?_;rintro _ st ⟨⟨c1,y1,c2,y2,rfl,g1,_,k1,g2,_,k2⟩,rfl⟩;simp only[go_sem,zE,zB,zA,zM,zS,zL,reduceCtorEq,fits];refine (h2 _).mono ?_;rintro r2 st ⟨hr2,rfl⟩;obtain⟨o2,n2,ta2,xa2,tb2,xb2,rfl⟩:=IsFmD.aggs hr2;simp only[go_sem,zE,zB,zA,zM,zS,zL,reduceCtorEq,fits];refine (h3 _).mono ?_;rintro r3 st ⟨hr3,rfl⟩;obtain⟨v3,n3,t3,x3,rfl⟩:=hr3.agg;simp only[go_sem,zE,zB,zA,zM,zS,zL,reduceCtorEq,fits];refine LoopC.ctr sub.length (λk fr st' ds=>(∃tg' ys,fr 3=.box [.raw (.int .u8 rule),.sl c1 y1,.sl c2 y2,.raw (.int .u8 o2),.raw (.string n2),.sl ta2 xa2,.sl tb2 xb2,.raw (.bool v3),.raw (.string n3),.sl t3 x3,.raw (.string n),.sl tg' ys]/\IsTrs (sub.take k) ys/\own st' tg' k 12 st/\subSt st st') /\
  fr 1=.box [.raw (.int .u8 rule),.sl tl xl,.sl tr xr,.raw (.int .u8 op),.raw (.string fn),.sl ta xa,.sl tb xb,.raw (.bool v),.raw (.string un),.sl tu xu,.raw (.string n),.sl ts xs] /\
  fr 2=.box trZ/\fr 4=.iv (.raw (.int .i64 k))/\ds=[]) ?_ ?_ ?_
 ·simp only[go_sem,zE,zB,zA,zM,zS,zL,reduceCtorEq,trZ];exact⟨⟨_,_,rfl,rfl,own.nil _ _ _ _ _,subSt.refl _⟩,rfl⟩
 ·rintro k fr st1 _ hlt ⟨⟨tg',ys,f3,hys,hown,hsub⟩,f1,f2,f4,rfl⟩;obtain⟨a,ha⟩:=yQ3 hlt;have ham:=lMg ha;obtain⟨z,hkz,hzz⟩:=i3.get ha;have hlen2:ys.length=k:=by rw[hys.len,List.length_take];omega
  have hcall:=λst=>IH a ham z hzz (xXo hok.2.2.2.2 ham) (by have:=yZ4 ham;omega) st;obtain⟨rule',tl',xl',tr',xr',op',fn',ta',xa',tb',xb',v',un',tu',xu',n',ts',xs',rfl⟩:=yX4 hzz;simp only[go_sem,zE,zB,zA,zM,zS,zL,reduceCtorEq,f1,f3,f4,i3.len,lt_i hlt,yQ2 e3,iNn,hkz,fits];intro _;refine (hcall _).mono ?_;rintro r _ ⟨hr,rfl⟩;have hn:IsTrs (sub.take (k+1)) (ys++[r]):=by
   rw[yQ8 ha];exact hys.append ⟨_,_,rfl,hr,rfl⟩
  obtain⟨rule',tl',xl',tr',xr',op',fn',ta',xa',tb',xb',v',un',tu',xu',n',ts',xs',rfl⟩:=yX4 hr;simp only[go_sem,zE,zB,zA,zM,zS,zL,reduceCtorEq,f1,f3,f4,fits,yQ1];refine yZb hown hlen2 hsub rfl (by simp[fits,IV.one]) (by simp only;omega) (by omega) λtg2 st4 hown2 hsub4 _ hap2=>?_;simp only[go_sem,zE,zB,zA,zM,zS,zL,reduceCtorEq,f1,f2,f3,f4,fits,yQa hlt (show sub.length<=281474976710656 by omega)];exact⟨tg2,_,rfl,hn,hown2,hsub4⟩
 ·rintro fr st1 _ ⟨⟨tg',ys,f3,hys,hown,hsub⟩,f1,f2,f4,rfl⟩;rw[lTl] at hys;unfold trZ at f2;simp only[go_sem,zE,zB,zA,zM,zS,zL,reduceCtorEq,f1,f2,f3,f4,i3.len,yQk (nLi _),fits];intro _;refine yQb (st':=st) hsub ⟨?_,rfl⟩;simp only[IsTr];exact⟨_,_,_,_,_,_,_,_,_,_,_,_,_,_,_,_,rfl,hru,g1,k1.1,g2,k2.1,hr2.1,hr3.1,hown.es,hys⟩
theorem wVu:∀(k:Nat)(t:Tr),SizeOf.sizeOf t<k->tgC gl t
 | 0,t,h=>by omega
 | k+1,.mk r sq f u n sub,h=>wG3 gl r sq f u n sub (λa ha=>wVu k a (by
   have:=lSm ha;simp at h;omega))
theorem yKj (v:Value):(IV.raw v).def_:=λh=>by cases h
theorem wWg (D:Nat->Prop):∀(d:Nat) (r l l' o m a b v u t n' ts:IV) (st:ISt),(∀y∈[r,l,l',o,m,a,b,v,u,t,n',ts],rawO y)->OK D d 4 st l->OK D d 4 st l'->OK D d 3 st a->OK D d 4 st b->OT D d st ts →
  ICall prog gl 25 [.agg [r,l,l',o,m,a,b,v,u,t,n',ts]] st (λ_ st'=>Ow D st st'):=by
 intro d
 induction d with
 | zero =>
  intro r l l' o m a b v u t n' ts st hr hl hl' ha hb ht;simp only[List.forall_mem_cons] at hr;obtain⟨⟨w0,rfl,r0⟩,⟨w1,rfl,r1⟩,⟨w2,rfl,r2⟩,⟨w3,rfl,r3⟩,⟨w4,rfl,r4⟩,⟨w5,rfl,r5⟩,⟨w6,rfl,r6⟩,⟨w7,rfl,r7⟩,⟨w8,rfl,r8⟩,⟨w9,rfl,r9⟩,⟨w10,rfl,r10⟩,⟨w11,rfl,r11⟩,_⟩:=hr;have h1:=zVp gl r1 (yKj _) r2 (yKj _) hl hl';have h2:=λst (k:Ow D _ st)=>yKe gl r3 r4 r5 (yKj _) r6 (yKj _) (k.keep _ _ _ ha) (k.keep _ _ _ hb) (λst h=>yJ0 gl D _ _ st h);rcases ht with he|⟨q,c,he⟩
  ·cases he;refine ICall.nilA (pre:=[.raw w0,.raw w1,.raw w2,.raw w3,.raw w4,.raw w5,.raw w6,.raw w7,.raw w8,.raw w9,.raw w10]) ?_;simp only[List.cons_append,List.nil_append];refine iI func25 ?_;simp only[go_sem,zE,zA,zL,r0,r1,r2,r3,r4,r5,r6,r7,r8,r9,r10];refine h1.mono ?_;rintro _ st1 hov1;simp only[go_sem,zE,zA,zL];refine (h2 _ hov1).mono ?_;rintro _ st2 hov2;have hov:=hov1.trans hov2;simp only[go_sem];refine LoopC.ctr 0 (λk fr st' ds=>fr 1=.box [.raw w0,.raw w1,.raw w2,.raw w3,.raw w4,.raw w5,.raw w6,.raw w7,.raw w8,.raw w9,.raw w10,.sl ⟨true,.nil,0⟩ []]/\fr 2=.iv (.raw (.int .i64 0))/\Ow D st st'/\ds=[]) ?_ ?_ ?_
   ·simp only[go_sem,zE];exact hov
   ·intro k fr st1 _ hlt;omega
   ·rintro fr st1 _ ⟨f1,f2,hov3,rfl⟩;simp only[go_sem,zE,zL,f1,f2,List.length_nil,show decide ((0:Int)<((0:Nat):Int))=false from rfl];intros;exact yQ0 hov3
  ·cases he;refine iI func25 ?_;simp only[go_sem,zE,zA,zL,r0,r1,r2,r3,r4,r5,r6,r7,r8,r9,r10,r11];refine h1.mono ?_;rintro _ st1 hov1;simp only[go_sem,zE,zA,zL];refine (h2 _ hov1).mono ?_;rintro _ st2 hov2;have hov:=hov1.trans hov2;simp only[go_sem];refine LoopC.ctr 0 (λk fr st' ds=>fr 1=.box [.raw w0,.raw w1,.raw w2,.raw w3,.raw w4,.raw w5,.raw w6,.raw w7,.raw w8,.raw w9,.raw w10,.raw (.slice (some ⟨q,0,none⟩) 0 c)]/\fr 2=.iv (.raw (.int .i64 0))/\Ow D st st'/\ds=[]) ?_ ?_ ?_
   ·simp only[go_sem,zE];exact hov
   ·intro k fr st1 _ hlt;omega
   ·rintro fr st1 _ ⟨f1,f2,hov3,rfl⟩;simp only[go_sem,zE,f1,f2,show decide ((0:Int)<((0:Nat):Int))=false from rfl];intros;exact yQ0 hov3
 | succ d IH =>
  intro r l l' o m a b v u t n' ts st hr hl hl' ha hb ht;simp only[List.forall_mem_cons] at hr;obtain⟨⟨w0,rfl,r0⟩,⟨w1,rfl,r1⟩,⟨w2,rfl,r2⟩,⟨w3,rfl,r3⟩,⟨w4,rfl,r4⟩,⟨w5,rfl,r5⟩,⟨w6,rfl,r6⟩,⟨w7,rfl,r7⟩,⟨w8,rfl,r8⟩,⟨w9,rfl,r9⟩,⟨w10,rfl,r10⟩,⟨w11,rfl,r11⟩,_⟩:=hr;have h1:=zVp gl r1 (yKj _) r2 (yKj _) hl hl';have h2:=λst (k:Ow D _ st)=>yKe gl r3 r4 r5 (yKj _) r6 (yKj _) (k.keep _ _ _ ha) (k.keep _ _ _ hb) (λst h=>yJ0 gl D _ _ st h);rcases ht with ht|⟨g,n,c,cs,he,hn,hnc,hg,htb,hlen,hel⟩
  ·rcases ht with he|⟨q,c,he⟩
   ·cases he;refine ICall.nilA (pre:=[.raw w0,.raw w1,.raw w2,.raw w3,.raw w4,.raw w5,.raw w6,.raw w7,.raw w8,.raw w9,.raw w10]) ?_;simp only[List.cons_append,List.nil_append];refine iI func25 ?_;simp only[go_sem,zE,zA,zL,r0,r1,r2,r3,r4,r5,r6,r7,r8,r9,r10];refine h1.mono ?_;rintro _ st1 hov1;simp only[go_sem,zE,zA,zL];refine (h2 _ hov1).mono ?_;rintro _ st2 hov2;have hov:=hov1.trans hov2;simp only[go_sem];refine LoopC.ctr 0 (λk fr st' ds=>fr 1=.box [.raw w0,.raw w1,.raw w2,.raw w3,.raw w4,.raw w5,.raw w6,.raw w7,.raw w8,.raw w9,.raw w10,.sl ⟨true,.nil,0⟩ []]/\fr 2=.iv (.raw (.int .i64 0))/\Ow D st st'/\ds=[]) ?_ ?_ ?_
    ·simp only[go_sem,zE];exact hov
    ·intro k fr st1 _ hlt;omega
    ·rintro fr st1 _ ⟨f1,f2,hov3,rfl⟩;simp only[go_sem,zE,zL,f1,f2,List.length_nil,show decide ((0:Int)<((0:Nat):Int))=false from rfl];intros;exact yQ0 hov3
   ·cases he;refine iI func25 ?_;simp only[go_sem,zE,zA,zL,r0,r1,r2,r3,r4,r5,r6,r7,r8,r9,r10,r11];refine h1.mono ?_;rintro _ st1 hov1;simp only[go_sem,zE,zA,zL];refine (h2 _ hov1).mono ?_;rintro _ st2 hov2;have hov:=hov1.trans hov2;simp only[go_sem];refine LoopC.ctr 0 (λk fr st' ds=>fr 1=.box [.raw w0,.raw w1,.raw w2,.raw w3,.raw w4,.raw w5,.raw w6,.raw w7,.raw w8,.raw w9,.raw w10,.raw (.slice (some ⟨q,0,none⟩) 0 c)]/\fr 2=.iv (.raw (.int .i64 0))/\Ow D st st'/\ds=[]) ?_ ?_ ?_
    ·simp only[go_sem,zE];exact hov
    ·intro k fr st1 _ hlt;omega
    ·rintro fr st1 _ ⟨f1,f2,hov3,rfl⟩;simp only[go_sem,zE,f1,f2,show decide ((0:Int)<((0:Nat):Int))=false from rfl];intros;exact yQ0 hov3
  cases he;have hw:OT D (d+1) st (.raw (.slice (some ⟨g,0,none⟩) n c)):=.inr ⟨g,n,c,cs,rfl,hn,hnc,hg,htb,hlen,hel⟩;clear hg htb hlen hel;refine iI func25 ?_;simp only[go_sem,zE,zA,zL,r0,r1,r2,r3,r4,r5,r6,r7,r8,r9,r10,r11];refine h1.mono ?_;rintro _ st1 hov1;simp only[go_sem,zE,zA,zL];refine (h2 _ hov1).mono ?_;rintro _ st2 hov2;have hov:=hov1.trans hov2;simp only[go_sem];refine LoopC.ctr n (λk fr st' ds=>fr 1=.box [.raw w0,.raw w1,.raw w2,.raw w3,.raw w4,.raw w5,.raw w6,.raw w7,.raw w8,.raw w9,.raw w10,.raw (.slice (some ⟨g,0,none⟩) n c)]/\fr 2=.iv (.raw (.int .i64 k))/\Ow D st st'/\ds=[]) ?_ ?_ ?_
  ·simp only[go_sem,zE];exact⟨rfl,hov⟩
  ·rintro k fr st3 _ hlt ⟨f1,f2,hov3,rfl⟩;rcases hov3.keepT _ _ hw with (he|⟨_,_,he⟩)|⟨g',n1,c1,cs1,he,_,_,hg1,_,hl1,hel⟩
   ·cases he
   ·cases he;omega
   cases he;obtain⟨q0,q1,q2,q3,q4,q5,q6,q7,q8,q9,q10,q11,hq,hqr,k1,k2,k3,k4,k5⟩:=hel k hlt;have hle:k*12+12<=cs1.length:=by
    have:=Nat.mul_le_mul_right 12 (show k+1<=n by omega);omega
   have hcall:=IH q0 q1 q2 q3 q4 q5 q6 q7 q8 q9 q10 q11 st3 hqr k1 k2 k3 k4 k5;simp only[go_sem,zE,zB,zA,f1,f2,lt_i hlt,iNn,hlt,hg1,hle,hq,fits];intros;refine hcall.mono ?_;rintro _ st4 hov4;simp only[go_sem,zE,f1,f2,yQa hlt (show n<=281474976710656 by omega)];exact hov3.trans hov4
  ·rintro fr st3 _ ⟨f1,f2,hov3,rfl⟩;simp only[go_sem,zE,f1,f2,yQk (nLi _)];intros;exact yQ0 hov3
theorem wVx {N:ISt}{y:IV}{t:Tag}{xs:List IV}(h:OI N y (.sl t xs))(hy:∃v,y=.raw v):∃a n c,y=.raw (.slice a n c)/\n=xs.length:=by
 cases h with
 | refl=>obtain⟨v,h⟩:=hy;cases h
 | nil=>exact⟨_,_,_,rfl,rfl⟩
 | sl=>exact⟨_,_,_,rfl,rfl⟩
def TrO (D:Nat->Prop)(d:Nat)(N:ISt)(ys:List IV):Prop:=∃r l l' o m a b v u t n' ts,ys=[r,l,l',o,m,a,b,v,u,t,n',ts]/\(∀y∈[r,l,l',o,m,a,b,v,u,t,n',ts],rawO y)/\OK D d 4 N l/\OK D d 4 N l'/\OK D d 3 N a/\OK D d 4 N b/\OT D d N ts
theorem TrO.le {D:Nat->Prop}{d e:Nat}{N:ISt}{ys:List IV}(h:TrO D d N ys)(hde:d<=e):TrO D e N ys:=by
 obtain⟨r,l,l',o,m,a,b,v,u,t,n',ts,q1,q2,q3,q4,q5,q6,q7⟩:=h;exact⟨r,l,l',o,m,a,b,v,u,t,n',ts,q1,q2,q3.le hde,q4.le hde,q5.le hde,q6.le hde,q7.le hde⟩
def OTs (N:ISt)(us:List Tr):Prop:=∀(y:IV) (t:Tag) (xs:List IV),(∃v,y=.raw v)->OI N y (.sl t xs)->okEs t 12->IsTrs us xs->dfr (.sl t xs)->∃d,OT (λb=>N b≠none) d N y
theorem slO {N:ISt}{y:IV}{t:Tag}{xs:List IV}(h:OI N y (.sl t xs))(hy:∃v,y=.raw v):rawO y:=by
 obtain⟨a,n,c,rfl,_⟩:=wVx h hy;exact⟨_,rfl,yW1 a n c⟩
theorem wVr {N:ISt}(hraw:zQ4 N){rule:Nat}{s:Sq}{f:Fm}{u:Tm}{nm:ByteArray}{sub:List Tr}{x:IV}(hx:IsTr (.mk rule s f u nm sub) x)(hd:dfr x){ys:List IV}(hl:ys.length=12)(hc:∀(j:Nat)(r c:IV),ys[j]?=some r->x.cells[j]?=some c->OI N r c)
  (hs:∀(r:IV) (t:Tag) (xs:List IV),r∈ys->OI N r (.sl t xs)->∃v,r=.raw v) (IH:OTs N sub):∃d,TrO (λb=>N b≠none) d N ys:=by
 obtain⟨tl,xl,tr,xr,op,fn,ta,xa,tb,xb,v,un,tu,xu,ts,xs,rfl,hru,e1,i1,e2,i2,hy,hz,e3,i3⟩:=hx.mk;obtain⟨_,_,_,_,hye⟩:∃(ta':Tag) (xa':List IV) (tb':Tag) (xb':List IV),okEs ta 3/\okEs tb 4/\(∃us',IsTms us' xa)/\∃sub',IsFms sub' xb:=by
  obtain⟨o',n',us',sub'⟩:=f;obtain⟨_,_,_,_,he,_,h1,h2,h3,h4⟩:=hy.mk;cases he;exact⟨ta,xa,tb,xb,h1,h3,⟨_,h2⟩,_,h4⟩
 obtain⟨ea,eb,⟨us',ia⟩,sub',ib⟩:=hye;rw[dfr] at hd;obtain⟨_,d1,d2,_,_,d5,d6,_,_,_,_,d11,_⟩:=hd.1
 match ys,hl with
 | [q0,q1,q2,q3,q4,q5,q6,q7,q8,q9,q10,q11],_ =>
  have o0:=yXb (hc 0 _ _ rfl rfl);have o1:=hc 1 _ _ rfl rfl;have o2:=hc 2 _ _ rfl rfl;have o3:=yXb (hc 3 _ _ rfl rfl);have o4:=yXb (hc 4 _ _ rfl rfl);have o5:=hc 5 _ _ rfl rfl;have o6:=hc 6 _ _ rfl rfl;have o7:=yXb (hc 7 _ _ rfl rfl);have o8:=yXb (hc 8 _ _ rfl rfl);have o9:=hc 9 _ _ rfl rfl;have o10:=yXb (hc 10 _ _ rfl rfl);have o11:=hc 11 _ _ rfl rfl;have w1:=hs q1 _ _ (by simp) o1;have w2:=hs q2 _ _ (by simp) o2;have w5:=hs q5 _ _ (by simp) o5;have w6:=hs q6 _ _ (by simp) o6;have w9:=hs q9 _ _ (by simp) o9;have w11:=hs q11 _ _ (by simp) o11;obtain⟨a1,k1⟩:=yUb hraw _ s.l (Nat.lt_succ_self _) _ _ _ w1 o1 e1 i1 d1;obtain⟨a2,k2⟩:=yUb hraw _ s.r (Nat.lt_succ_self _) _ _ _ w2 o2 e2 i2 d2;obtain⟨a3,k3⟩:=zWx us' _ _ _ w5 o5 ea ia d5;obtain⟨a4,k4⟩:=yUb hraw _ sub' (Nat.lt_succ_self _) _ _ _ w6 o6 eb ib d6;obtain⟨a5,k5⟩:=IH _ _ _ w11 o11 e3 i3 d11;refine⟨a1+a2+a3+a4+a5,q0,q1,q2,q3,q4,q5,q6,q7,q8,q9,q10,q11,rfl,?_,k1.le (by omega),k2.le (by omega),k3.le (by omega),k4.le (by omega),k5.le (by omega)⟩;simp only[List.forall_mem_cons];exact⟨⟨_,o0,by rw[o0];rfl⟩,slO o1 w1,slO o2 w2,⟨_,o3,by rw[o3];rfl⟩,⟨_,o4,by rw[o4];rfl⟩,slO o5 w5,slO o6 w6,⟨_,o7,by rw[o7];rfl⟩,⟨_,o8,by rw[o8];rfl⟩,slO o9 w9,⟨_,o10,by rw[o10];rfl⟩,slO o11 w11,by simp⟩
theorem xK8 {N:ISt}(hraw:zQ4 N):∀(k:Nat) (us:List Tr),SizeOf.sizeOf us<k->OTs N us
 | 0,_,h=>by omega
 | k+1,us,hk=>by
  rintro y t xs ⟨v,rfl⟩ ho hes hxs hd;have hxlen:=hxs.len;cases ho with
  | nil _ h=>exact⟨0,.inl rfl⟩
  | sl g cap _ _ cs hcap hlen hcl hs hst hroom h =>
   have h3:=zZw hes hcap;rw[h3] at hroom;have hs12:∀x∈xs,x.cells.length=12:=λx hx=>by rw[hs x hx,h3]
   by_cases hpos:xs.length=0
   ·exact⟨0,.inr ⟨g,cap,by rw[hpos]⟩⟩
   rw[dfr] at hd;have hcc:=Nat.mul_le_mul_right 12 hcl;have hel:∀i,i<xs.length->∃d,TrO (λb=>N b≠none) d N ((cs.drop (i*12)).take 12):=λi hi=>by
    obtain⟨⟨rule,s,f,u,nm,sub⟩,ha⟩:=yQ3 (l:=us) (k:=i) (by omega);obtain⟨z,hkz,hz⟩:=hxs.get ha;have hzl:=hs12 z (lMg hkz);have hle:i*12+12<=cs.length:=by
     have:=Nat.mul_le_mul_right 12 (show i+1<=xs.length by omega);omega
    refine wVr hraw hz (yJy hd.2.1 (lMg hkz)) (by rw[List.length_take,List.length_drop];omega) (λj r c h1 h2=>?_) (λr t' xs' hr ho=>yGv (hraw _ _ hst r (List.mem_of_mem_drop (List.mem_of_mem_take hr))) ho) (xK8 hraw k sub (by have:=lSm (lMg ha);simp at this;omega));have hj:j<12:=by have:=(lGs h2).1;omega
    rw[List.getElem?_take,if_pos hj,List.getElem?_drop] at h1;exact h _ r c h1 (by rw[Nat.mul_comm i 12,yKu hs12 hkz hj];exact h2)
   obtain⟨d,hd'⟩:=yUu (P:=λd i=>TrO (λb=>N b≠none) d N ((cs.drop (i*12)).take 12)) (λd i h=>h.le (Nat.le_succ d)) _ hel;have hbt:vK4 cs:=by
    obtain⟨⟨rule,s,f,u,nm,sub⟩,ha⟩:=yQ3 (l:=us) (k:=0) (by omega);obtain⟨z,hkz,hz⟩:=hxs.get ha;obtain⟨tl,xl,tr,xr,op,fn,ta,xa,tb,xb,v,un,tu,xu,ts',xs',rfl,_⟩:=hz.mk;obtain⟨r0,hr0⟩:=yQ3 (l:=cs) (k:=0) (by omega);obtain⟨r1,hr1⟩:=yQ3 (l:=cs) (k:=1) (by omega);have o0:=yXb (h _ _ _ hr0 (yKu hs12 hkz (show 0<12 by omega)));have o1:=h _ _ _ hr1 (yKu hs12 hkz (show 1<12 by omega));obtain⟨a,n,c,rfl,_⟩:=wVx o1 (yGv (hraw _ _ hst r1 (lMg hr1)) o1);exact⟨⟨_,by rw[<- o0];exact hr0⟩,(a,n,c),hr1⟩
   refine⟨d+1,.inr ⟨g,xs.length,cap,cs,rfl,hlen,hcl,hst,hbt,by omega,λi hi=>?_⟩⟩;obtain⟨r,l,l',o,m,a,b,v,u,t',n',ts,q⟩:=hd' i hi;exact⟨r,l,l',o,m,a,b,v,u,t',n',ts,q⟩
theorem xK4 {N:ISt}(hraw:zQ4 N){t:Tr}{y x:IV}(hx:IsTr t x)(hd:dfr x)(ho:OI N y x)(hy:rawY y):∃ys d,y=.agg ys/\TrO (λb=>N b≠none) d N ys:=by
 obtain⟨rule,s,f,u,nm,sub⟩:=t;have hx0:=hx;obtain⟨rule',tl',xl',tr',xr',op',fn',ta',xa',tb',xb',v',un',tu',xu',n',ts',xs',rfl⟩:=yX4 hx;cases ho with
 | refl=>simp only[rawY,zKg] at hy;exact hy.2.1.elim
 | agg rs _ hl h =>
  simp only[rawY] at hy;obtain⟨d,hd⟩:=wVr hraw hx0 hd hl (λj r c h1 h2=>h j r c h1 h2) (λr t xs hr ho=>by
   have hyr:=yYh hy hr;cases ho with
   | refl=>simp only[rawY] at hyr
   | nil=>exact⟨_,rfl⟩
   | sl=>exact⟨_,rfl⟩) (xK8 hraw _ sub (Nat.lt_succ_self _))
  exact⟨rs,d,rfl,hd⟩
end Go.Proofs.Tryz
namespace Go.Proofs.Tryz
open Go Go.Iv
mutual
theorem IsTr.aged:∀ {t:Tr}{x:IV},IsTr t x->IsTr t (age x)
 | .mk rule s f u n sub,x,h=>by
  simp only[IsTr] at h;obtain⟨tl,xl,tr,xr,op,fn,ta,xa,tb,xb,v,un,tu,xu,ts,xs,rfl,hr,e1,i1,e2,i2,hf,hu,e3,i3⟩:=h;have hf':=hf.aged;have hu':=hu.aged;simp only[age,ages] at hf' hu' ⊢;simp only[IsTr];exact⟨_,_,_,_,_,_,_,_,_,_,_,_,_,_,_,_,rfl,hr,yXh e1,IsFms.aged i1,yXh e2,IsFms.aged i2,hf',hu',yXh e3,IsTrs.aged i3⟩
theorem IsTrs.aged:∀ {l:List Tr}{xs:List IV},IsTrs l xs->IsTrs l (ages xs)
 | [],xs,h=>by simp only[IsTrs] at h;subst h;rfl
 | a::l,xs,h=>by
  simp only[IsTrs] at h;obtain⟨y,ys,rfl,hy,h⟩:=h;simp only[ages,IsTrs];exact⟨_,_,rfl,IsTr.aged hy,IsTrs.aged h⟩
end
end Go.Proofs.Tryz
namespace Go.Proofs.Tryz
open Go Go.Iv
set_option maxRecDepth 4000
variable (gl:Nat->Option IV)
def wJ2 (t:Tr):Prop:=∀(x y:IV) (_:IsTr t x) (_:IsTr t y) (_:t.steps<=1099511627776) (st:ISt),ICall prog gl 21 [x,y] st (λr st'=>r=.raw (.bool true)/\st'=st)
theorem xGk (rule:Nat)(s:Sq)(f:Fm)(u:Tm)(n:ByteArray)(sub:List Tr)(IH:∀a∈sub,wJ2 gl a):wJ2 gl (.mk rule s f u n sub):=by
 intro x y hx hy hst st;obtain⟨tl,xl,tr,xr,op,fn,ta,xa,tb,xb,v,un,tu,xu,ts,xs,rfl,hru,e1,i1,e2,i2,hyf,hz,e3,i3⟩:=hx.mk;obtain⟨tl2,xl2,tr2,xr2,op2,fn2,ta2,xa2,tb2,xb2,v2,un2,tu2,xu2,ts2,xs2,rfl,hru2,e12,i12,e22,i22,hyf2,hz2,e32,i32⟩:=hy.mk;simp only[Tr.steps] at hst;have hlsub:=yZ7 sub;have h1:=λst=>zVo gl s s (.agg [.sl tl xl,.sl tr xr]) (.agg [.sl tl2 xl2,.sl tr2 xr2]) ⟨_,_,_,_,rfl,e1,i1,e2,i2⟩ ⟨_,_,_,_,rfl,e12,i12,e22,i22⟩ st;have h2:=λst=>yV9 gl f f _ _ hyf hyf2 st;have h3:=λst=>zJi gl u u _ _ hz hz2 st;have hs1:eqB s s=true:=yZ2.2 rfl;have hs2:eqB f f=true:=yZ2.2 rfl;have hs3:eqB u u=true:=yZ2.2 rfl;refine iI func21 ?_;simp only[go_sem,zE,zA,zL,decide_true];refine (h1 _).mono ?_;rintro _ st ⟨rfl,rfl⟩;simp only[go_sem,zE,zA,zL,hs1];refine (h2 _).mono ?_;rintro _ st ⟨rfl,rfl⟩;simp only[go_sem,zE,zA,zL,hs2];refine (h3 _).mono ?_;rintro _ st ⟨rfl,rfl⟩;simp only[go_sem,zE,zA,hs3,decide_true,i3.len,i32.len];intros;refine LoopC.ctr sub.length (λk fr st' ds=>fr 2=.box [.raw (.int .u8 rule),.sl tl xl,.sl tr xr,.raw (.int .u8 op),.raw (.string fn),.sl ta xa,.sl tb xb,.raw (.bool v),.raw (.string un),.sl tu xu,.raw (.string n),.sl ts xs] /\
  fr 3=.box [.raw (.int .u8 rule),.sl tl2 xl2,.sl tr2 xr2,.raw (.int .u8 op2),.raw (.string fn2),.sl ta2 xa2,.sl tb2 xb2,.raw (.bool v2),.raw (.string un2),.sl tu2 xu2,.raw (.string n),.sl ts2 xs2]/\fr 5=.iv (.raw (.int .i64 k))/\st'=st/\ds=[]) ?_ ?_ ?_
 ·simp only[go_sem,zE];rfl
 ·rintro k fr st1 _ hlt ⟨f2,f3,f5,rfl,rfl⟩;obtain⟨a,ha⟩:=yQ3 hlt;have ham:=lMg ha;obtain⟨z,hkz,hzz⟩:=i3.get ha;obtain⟨z2,hkz2,hzz2⟩:=i32.get ha;have hcall:=λst=>IH a ham z z2 hzz hzz2 (by have:=yZ4 ham;omega) st;obtain⟨rule',tl',xl',tr',xr',op',fn',ta',xa',tb',xb',v',un',tu',xu',n',ts',xs',rfl⟩:=yX4 hzz;obtain⟨rule',tl',xl',tr',xr',op',fn',ta',xa',tb',xb',v',un',tu',xu',n',ts',xs',rfl⟩:=yX4 hzz2;simp only[go_sem,zE,zB,zA,f2,f3,f5,i3.len,lt_i hlt,yQ2 e3,yQ2 e32,iNn,hkz,hkz2,fits];intros;refine (hcall _).mono ?_;rintro _ st2 ⟨rfl,rfl⟩;simp only[go_sem,zE,f2,f3,f5,yQa hlt (show sub.length<=281474976710656 by omega)]
 ·rintro fr st1 _ ⟨f2,f3,f5,rfl,rfl⟩;simp only[go_sem,zE,f2,f5,i3.len,yQk (nLi _)];intros;exact yQ0 ⟨rfl,rfl⟩
theorem xJp:∀(k:Nat)(t:Tr),SizeOf.sizeOf t<k->wJ2 gl t
 | 0,t,h=>by omega
 | k+1,.mk r sq f u n sub,h=>xGk gl r sq f u n sub (λa ha=>xJp k a (by
   have:=lSm ha;simp at h;omega))
theorem yKz (t:Tr):wJ2 gl t:=xJp gl _ t (Nat.lt_succ_self _)
end Go.Proofs.Tryz
namespace Go.Proofs.Tryz
open Go Go.Iv
mutual
def smT:Tr->Bool
 | .mk _ s m u _ sub=>decide (yQ7 s.l+yQ7 s.r<=1000)&&decide (m.size<=1000)&&decide (u.size<=1000)&&smTs sub
def smTs:List Tr->Bool
 | []=>true
 | a::l=>smT a&&smTs l
end
theorem zQx {rule:Nat}{s:Sq}{m:Fm}{u:Tm}{n:ByteArray}{sub:List Tr}(h:smT (.mk rule s m u n sub)=true):yQ7 s.l+yQ7 s.r<=1000/\m.size<=1000/\u.size<=1000/\smTs sub=true:=by
 simp only[smT,bAt,dTe] at h;exact⟨h.1.1.1,h.1.1.2,h.1.2,h.2⟩
theorem yG2:∀ {l:List Tr}{a:Tr},smTs l=true->a∈l->smT a=true
 | b::l,a,h,ha=>by
  simp only[smTs,bAt] at h;rcases List.mem_cons.1 ha with rfl|ha
  ·exact h.1
  ·exact yG2 h.2 ha
mutual
theorem zGo:∀ {t:Tr},smT t=true->NA t
 | .mk _ s m u _ sub,h=>by
  obtain⟨h1,h2,h3,h4⟩:=zQx h;simp only[NA];exact⟨⟨λf hf=>by have:=yWc hf;omega,λf hf=>by have:=yWc hf;omega⟩,by omega,by omega,xJj h4⟩
theorem xJj:∀ {l:List Tr},smTs l=true->NAs l
 | [],_=>trivial
 | a::l,h=>by
  simp only[smTs,bAt] at h;exact⟨zGo h.1,xJj h.2⟩
end
theorem xGa {t:Tr}(h:smT t=true):t.sq.l.length+t.sq.r.length<=1000:=by
 obtain⟨_,s,_,_,_,_⟩:=t;have:=(zQx h).1;have:=yQj s.l;have:=yQj s.r;show s.l.length+s.r.length<=1000;omega
end Go.Proofs.Tryz
namespace Go.Proofs.Tryz
open Go Go.Iv
set_option maxRecDepth 4000
variable (gl:Nat->Option IV)
noncomputable def hasL (l:List Fm)(f:Fm):Bool:=l.any λg=>decide (yVc f g=0)
theorem yUo {l:List Fm}{f:Fm}:hasL l f=true↔f∈l:=by
 simp only[hasL,List.any_eq_true,dTe,zYj];constructor
 ·rintro⟨x,h,rfl⟩;exact h
 ·exact λh=>⟨f,h,rfl⟩
theorem zU6 (l:List Fm)(t:Tag)(xs:List IV)(ht:okEs t 4)(hxs:IsFms l xs)(f:Fm)(y:IV)(hy:IsFm f y)(st:ISt):ICall prog gl 127 [.sl t xs,y] st (λr st'=>r=.raw (.bool (hasL l f))/\st'=st):=by
 have hy0:=hy;obtain⟨o7,n7,t7,x7,t8,x8,rfl⟩:=hy.agg;refine iI func127 ?_;simp only[go_sem,reduceCtorEq,hxs.len];intro _;refine LoopC.ctr l.length (λk fr st' ds=>hasL (l.take k) f=false/\fr 3=.box [.raw (.int .u8 o7),.raw (.string n7),.sl t7 x7,.sl t8 x8]/\fr 7=.iv (.sl t xs)/\fr 8=.iv (.raw (.int .i64 l.length))/\fr 9=.iv (.raw (.int .i64 k))/\st'=st/\ds=[]) ?_ ?_ ?_
 ·simp only[go_sem,zE];exact⟨rfl,rfl⟩
 ·rintro k fr st1 _ hlt ⟨hn,f3,f7,f8,f9,rfl,rfl⟩;obtain⟨a,ha⟩:=yQ3 hlt;obtain⟨z,hkz,hz⟩:=hxs.get ha;have hs:=λst=>xZb gl f a _ _ hy0 hz st;obtain⟨o5,n5,t5,x5,t6,x6,rfl⟩:=hz.agg;simp only[go_sem,zE,zB,zA,zL,f3,f7,f8,f9,lt_i hlt,yQ2 ht,iNn,hkz,fits];refine (hs _).mono ?_;rintro _ _ ⟨rfl,rfl⟩;cases hc:decide (yVc f a=0)
  ·simp only[go_sem,zE,f3,f7,f8,f9,yQa hlt (show l.length<=281474976710656 by have:=hxs.len;omega)];unfold hasL at hn ⊢;rw[yQ8 ha,List.any_append,hn];simp[hc]
  ·simp only[go_sem];exact yQ0 ⟨by rw[show hasL l f=true from List.any_eq_true.2 ⟨_,lMg ha,hc⟩],rfl⟩
 ·rintro fr st1 _ ⟨hn,f3,f7,f8,f9,rfl,rfl⟩;rw[lTl] at hn;simp only[go_sem,f8,f9,yQk (nLi _)];exact yQ0 ⟨by rw[hn],rfl⟩
noncomputable def yXn (a b:List Fm):Bool:=a.any λf=>hasL b f
theorem xUm (l:List Fm)(t:Tag)(xs:List IV)(ht:okEs t 4)(hxs:IsFms l xs)(b:List Fm)(t2:Tag)(ys:List IV)(ht2:okEs t2 4)(hys:IsFms b ys)(st:ISt):ICall prog gl 128 [.sl t xs,.sl t2 ys] st (λr st'=>r=.raw (.bool (yXn l b))/\st'=st):=by
 refine iI func128 ?_;simp only[go_sem,reduceCtorEq,hxs.len];intro _;refine LoopC.ctr l.length (λk fr st' ds=>yXn (l.take k) b=false/\fr 1=.iv (.sl t2 ys)/\fr 7=.iv (.sl t xs)/\fr 8=.iv (.raw (.int .i64 l.length))/\fr 9=.iv (.raw (.int .i64 k))/\st'=st/\ds=[]) ?_ ?_ ?_
 ·simp only[go_sem,zE];exact⟨rfl,rfl⟩
 ·rintro k fr st1 _ hlt ⟨hn,f1,f7,f8,f9,rfl,rfl⟩;obtain⟨a,ha⟩:=yQ3 hlt;obtain⟨z,hkz,hz⟩:=hxs.get ha;have hs:=λst=>zU6 gl b t2 ys ht2 hys a _ hz st;obtain⟨o5,n5,t5,x5,t6,x6,rfl⟩:=hz.agg;simp only[go_sem,zE,zB,zA,zL,f1,f7,f8,f9,lt_i hlt,yQ2 ht,iNn,hkz,fits];refine (hs _).mono ?_;rintro _ _ ⟨rfl,rfl⟩;cases hc:hasL b a
  ·simp only[go_sem,zE,f1,f7,f8,f9,yQa hlt (show l.length<=281474976710656 by have:=hxs.len;omega)];unfold yXn at hn ⊢;rw[yQ8 ha,List.any_append,hn];simp[hc]
  ·simp only[go_sem];exact yQ0 ⟨by rw[show yXn l b=true from List.any_eq_true.2 ⟨_,lMg ha,hc⟩],rfl⟩
 ·rintro fr st1 _ ⟨hn,f1,f7,f8,f9,rfl,rfl⟩;rw[lTl] at hn;simp only[go_sem,f8,f9,yQk (nLi _)];exact yQ0 ⟨by rw[hn],rfl⟩
noncomputable def yYi (need r:List Fm)(f:Fm):List Fm:=if hasL need f&&!hasL r f then r++[f] else r
noncomputable def yZn (l need:List Fm):List Fm:=l.foldl (yYi need) []
theorem zWs {need:List Fm}:∀ {l r:List Fm} {f:Fm},f∈l.foldl (yYi need) r->f∈r\/f∈l
 | [],r,f,h=>.inl h
 | a::l,r,f,h=>by
  rcases zWs (l:=l) (r:=yYi need r a) h with h|h
  ·unfold yYi at h;split at h
   ·rcases List.mem_append.1 h with h|h
    ·exact .inl h
    ·exact .inr (by simp at h;simp[h])
   ·exact .inl h
  ·exact .inr (by simp[h])
theorem yW0 {need:List Fm}:∀ {l r:List Fm},yQ7 (l.foldl (yYi need) r)<=yQ7 r+yQ7 l/\(l.foldl (yYi need) r).length<=r.length+l.length
 | [],r=>by simp[yQ7]
 | a::l,r=>by
  obtain⟨h,h'⟩:=yW0 (need:=need) (l:=l) (r:=yYi need r a);have h2:yQ7 (yYi need r a)<=yQ7 r+a.size/\(yYi need r a).length<=r.length+1:=by
   unfold yYi;split
   ·rw[yZs];simp[yQ7]
   ·omega
  simp only[yQ7,List.foldl_cons,List.length_cons];omega
theorem xK2 (l:List Fm)(t:Tag)(xs:List IV)(ht:okEs t 4)(hxs:IsFms l xs)(b:List Fm)(t2:Tag)(ys:List IV)(ht2:okEs t2 4)(hys:IsFms b ys)(hl:yQ7 l<=1000000)(st:ISt) :
  ICall prog gl 129 [.sl t xs,.sl t2 ys] st (λr st'=>(∃t' zs,r=.sl t' zs/\okEs t' 4/\appT (yZn l b).length t'/\IsFmsD (yZn l b) zs)/\st'=st):=by
 have hll:=yQj l;refine iI func129 ?_;simp only[go_sem,zE,zB,zA,zM,zS,zL,reduceCtorEq,hxs.len];intro _;refine LoopC.ctr l.length (λk fr st' ds=>(∃t' zs,fr 5=.iv (.sl t' zs)/\IsFms (yZn (l.take k) b) zs/\own st' t' (yZn (l.take k) b).length 4 st/\subSt st st')/\fr 1=.iv (.sl t2 ys)/\fr 8=.iv (.sl t xs)/\fr 9=.iv (.raw (.int .i64 l.length))/\fr 10=.iv (.raw (.int .i64 k))/\ds=[]) ?_ ?_ ?_
 ·simp only[go_sem,zE,zB,zA,zM,zS,zL,reduceCtorEq];exact⟨⟨_,_,rfl,rfl,.inl ⟨rfl,rfl⟩,subSt.refl _⟩,rfl⟩
 ·rintro k fr st1 _ hlt ⟨⟨t',zs,f5,hzs,hown,hsub⟩,f1,f8,f9,f10,rfl⟩;obtain⟨a,ha⟩:=yQ3 hlt;obtain⟨y,hky,hy⟩:=hxs.get ha;have h1:=λst=>zU6 gl b t2 ys ht2 hys a y hy st;have h2:=λst=>zU6 gl _ t' zs hown.es hzs a y hy st;have hpl:=(yW0 (need:=b) (l:=l.take k) (r:=[])).2;rw[List.length_take,List.length_nil] at hpl;have hpl':(yZn (l.take k) b).length<=k:=by unfold yZn;omega
  have hst:yZn (l.take (k+1)) b=yYi b (yZn (l.take k) b) a:=by rw[yZn,yQ8 ha,List.foldl_append];rfl
  have hy0:=hy;obtain⟨o5,n5,t5,x5,t6,x6,rfl⟩:=hy.agg;rw[hst];unfold yYi;simp only[go_sem,zE,zB,zA,zM,zS,zL,reduceCtorEq,f1,f5,f8,f9,f10,lt_i hlt,yQ2 ht,iNn,hky,fits];refine (h1 _).mono ?_;rintro _ st1 ⟨rfl,rfl⟩;cases hb1:hasL b a
  ·simp only[go_sem,zE,zB,zA,zM,zS,zL,reduceCtorEq,f1,f5,f8,f9,f10,fits,yQa hlt (show l.length<=281474976710656 by omega)];exact⟨t',zs,rfl,hzs,hown,hsub⟩
  ·simp only[go_sem,zE,zB,zA,zM,zS,zL,reduceCtorEq,f1,f5,f8,f9,f10,fits];refine (h2 _).mono ?_;rintro _ st1 ⟨rfl,rfl⟩;cases hb2:hasL (yZn (l.take k) b) a
   ·simp only[go_sem,zE,zB,zA,zM,zS,zL,reduceCtorEq,f1,f5,f8,f9,f10,fits,yQ1];refine yZw hown hzs.len hsub rfl (by simp[fits,IV.one]) (by simp only;omega) (by omega) λtg3 st5 hown3 hsub5 _=>?_;simp only[go_sem,zE,zB,zA,zM,zS,zL,reduceCtorEq,f1,f8,f9,f10,yQa hlt (show l.length<=281474976710656 by omega)];exact⟨tg3,_,rfl,hzs.append ⟨_,_,rfl,hy0,rfl⟩,by rw[lLa];exact hown3,hsub5⟩
   ·simp only[go_sem,zE,zB,zA,zM,zS,zL,reduceCtorEq,f1,f5,f8,f9,f10,fits,yQa hlt (show l.length<=281474976710656 by omega)];exact⟨t',zs,rfl,hzs,hown,hsub⟩
 ·rintro fr st1 _ ⟨⟨t',zs,f5,hzs,hown,hsub⟩,f1,f8,f9,f10,rfl⟩;rw[lTl] at hzs hown;have hps:=(yW0 (need:=b) (l:=l) (r:=[])).1;simp only[yQ7] at hps;simp only[go_sem,zE,zB,zA,zM,zS,zL,reduceCtorEq,f5,f9,f10,yQk (nLi _)];refine (zYh gl _ t' zs hown.es hzs (by unfold yZn;omega) _).mono ?_;rintro _ st1 ⟨t3,ys3,rfl,e3,a3,i3,rfl⟩;simp only[go_sem,zE,zB,zA,zM,zS,zL,reduceCtorEq];exact yQb hsub ⟨⟨t3,ys3,rfl,e3,a3,i3⟩,rfl⟩
