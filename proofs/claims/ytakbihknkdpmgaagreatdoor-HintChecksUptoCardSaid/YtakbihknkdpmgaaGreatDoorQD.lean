/- A box of the frame's that becomes fixed -/
import Derived.Test.YtakbihknkdpmgaaGreatDoorQC
set_option linter.all false
open Nat renaming reduceEqDiff → zE,reduceBEq → zB,reduceAdd → zA,reduceMul → zM,reduceLeDiff → zL
namespace Go.Iv
open Go
def vcF (c:Cf)(t:Nat):Nat->Code->Kc->Fr->ISt->List Dfd->Prop
 | 0,A,Q,fr,st,ds=>∃b y,fr t=.iv (.raw (.pointer (some ⟨b,0,none⟩)))/\st b=some (.box y.cells)/\vcC c A Q (fr.put t (.iv (.cptr (age y)))) (st.put b none) ds
 | n+1,.seq a b,Q,fr,st,ds=>vcC c a (seqK (vcF c t n b Q) Q) fr st ds
 | _,_,_,_,_,_=>False
@[go_sem ↓] def V_ {c:Cf}{t n:Nat}{a b:Code}{Q:Kc}{fr:Fr}{st:ISt}{ds:List Dfd}:vcF c t (n+1) (.seq a b) Q fr st ds=vcC c a (seqK (vcF c t n b Q) Q) fr st ds:=(rfl)
def Inv.frzAt {C:Cx}{X0 X:WS}{N:Nat}{fr:Fr}{ds:List Dfd}{a:Act}(h:Inv C X0 N X fr ds a){t b:Nat}{y:IV}(ht:t<N)(G:fr t=.iv (.raw (.pointer (some ⟨b,0,none⟩))))(O:X.st b=some (.box y.cells)) :
  ∃X',X'.w=X.w/\X'.st=X.st.put b none/\Inv C X0 N X' (fr.put t (.iv (.cptr (age y)))) ds a:=by
 have k:=Oc O;refine⟨X.lendS (ISt.put (λ_=>none) b (some (.box y.cells))) (X.st.put b none),rfl,rfl,?_⟩;have h1:=h.ext' (h.good.lendS_ext k) (h.good.lendS k);have hv:=h.fr.slot t;rw[G] at hv;have E:OI (ISt.put (λ_=>none) b (some (.box y.cells))) (.raw (.pointer (some ⟨b,0,none⟩))) (.cptr y):=.ptr b y y.cells (b_ ..) rfl λi r c D hc=>by
  rw[D] at hc;cases hc;exact .refl _
 have h2:=h1.put ht (E.v h.good k hv);have A:a.tmps.setIfInBounds t (tm a.tmps t)=a.tmps:=by
  refine Array.ext (by simp) λi h1 h2=>?_;rw[Array.getElem_setIfInBounds];split
  ·rename_i J;subst J;unfold tm;rw[la,mu h2];rfl
  ·rfl
 rw[A] at h2;simpa only[age] using h2
def FQ {N:Nat}{c:Cf}{t:Nat}(ht:t<N){B:Nat}{X0:WS}{ro:Option Nat}{m:Nat}(E:c.rd=false->ro=none){Q:Kc}:∀(n:Nat) (A:Code) (X:WS) (fr:Fr) (ds:List Dfd) (a:Act),codeOk c N A=true →
  Inv (c.cx B) X0 N X fr ds a->vcF c t n A Q fr X.st ds->A.wpIn (eF ro) m c.P (PQ (c.cx B) X0 N Q) a X.w
 | 0,A,X,fr,ds,a,hd,J,h=>by
  obtain⟨b,y,h1,h2,U⟩:=h;obtain⟨X',e1,e2,D⟩:=J.frzAt ht h1 h2;rw[<- e2] at U;have:=tJ A c B X0 ro m E Q X' _ ds a hd D U;rw[e1] at this;exact this
 | n+1,.seq x y,X,fr,ds,a,hd,J,h=>by
  simp only[codeOk,bAt] at hd;refine wpIn_seq (fN (tJ x c B X0 ro m E _ X fr ds a hd.1 J h) ?_);rintro e a' w' ⟨X',fr',G,rfl,D,O⟩;cases e with
  | normal=>exact FQ ht E n y X' fr' G a' hd.2 D O
  | _=>exact⟨X',fr',G,rfl,D,O⟩
 | n+1,.skip,_,_,_,_,_,_,h=>h.elim
 | n+1,.region ..,_,_,_,_,_,_,h=>h.elim
 | n+1,.cond ..,_,_,_,_,_,_,h=>h.elim
 | n+1,.block ..,_,_,_,_,_,_,h=>h.elim
 | n+1,.loop ..,_,_,_,_,_,_,h=>h.elim
 | n+1,.exit ..,_,_,_,_,_,_,h=>h.elim
 | n+1,.label ..,_,_,_,_,_,_,h=>h.elim
 | n+1,.goto ..,_,_,_,_,_,_,h=>h.elim
 | n+1,.ret,_,_,_,_,_,_,h=>h.elim
 | n+1,.scope ..,_,_,_,_,_,_,h=>h.elim
 | n+1,.rangeFunc ..,_,_,_,_,_,_,h=>h.elim
 | n+1,.refuse ..,_,_,_,_,_,_,h=>h.elim
def j_ {c:Cf}{t n:Nat}{f:FuncId}{fn:Func}{A:Code}{args:List IV}{st:ISt}{K:IV->ISt->Prop}(O:c.P.funcs[f]?=some fn)(U:fn.body=some A)
  (hN:args.length<=fn.ntmps) (ht:t<fn.ntmps) (hd:codeOk c fn.ntmps A=true) (h:vcF c t n A (bodyK c.P c.gl fn.results.toList K) (frOf args) st []):ICall c.P c.gl f args st K:=by
 intro B X rs J hst hv;subst hst;refine (callsIn_wide (n:=0)).1 (callsIn_of_wp_marks O U trivial ?_);have hs:=FQ (N:=fn.ntmps) ht (c:=c) (B:=B) (X0:=X) (ro:=none) (m:=0) (λ_=>rfl) n A X (frOf args) [] _ hd (Inv.start J hv hN) h;refine fN hs ?_;rintro e a' w' ⟨X',fr',D,rfl,G,E⟩;cases e with
 | normal=>exact pD D X' a' G E
 | ret=>exact pD D X' a' G E
 | _=>exact E.elim
end Go.Iv
namespace Go.Proofs.Tryz
open Go Go.Iv
set_option maxRecDepth 4000
variable (gl:Nat->Option IV)
def FR {c:Cf}{ops:Array Oper}{Q:Fr->ISt->List Dfd->Prop}{A:Array Bool}{ad:Ad}{fr:Fr}{st:ISt}{ds:List Dfd}(h:Q fr st ds):anyV c ops Q 0 A ad fr st ds:=λ_=>h
def se {c:Cf}{ops:Array Oper}{Q:Fr->ISt->List Dfd->Prop}{n:Nat}{A:Array Bool}{ad:Ad}{fr:Fr}{st:ISt}{ds:List Dfd}(i:Nat)(h:Region.ready .any ops A=[i])
  (hs:iM c ops.toList (opAt ops i) (anyV c ops Q n (A.setIfInBounds i true)) ad fr st ds):anyV c ops Q (n+1) A ad fr st ds:=by
 refine⟨λh0=>(by rw[h] at h0;cases h0),λj D=>?_⟩;rw[h,dZ] at D;subst D;exact hs
def Od {c:Cf}{ops:Array Oper}{Q:Fr->ISt->List Dfd->Prop}{n:Nat}{A:Array Bool}{ad:Ad}{fr:Fr}{st:ISt}{ds:List Dfd}(i k:Nat)(h:Region.ready .any ops A=[i,k])
  (hs:iM c ops.toList (opAt ops i) (anyV c ops Q n (A.setIfInBounds i true)) ad fr st ds) (D:iM c ops.toList (opAt ops k) (anyV c ops Q n (A.setIfInBounds k true)) ad fr st ds):anyV c ops Q (n+1) A ad fr st ds:=by
 refine⟨λh0=>(by rw[h] at h0;cases h0),λj E=>?_⟩;rw[h,dN,dZ] at E;rcases E with rfl|rfl
 ·exact hs
 ·exact D
def oM (c:Cf)(ops:List Oper)(dst:Option Nat)(op:Op)(D:TypeId)(pos:String)(A:Array Edge)(K:Kt)(ad:Ad)(fr:Fr)(st:ISt)(ds:List Dfd):iM c ops ⟨dst,op,D,pos,A,none⟩ K ad fr st ds=vcOp c dst op K ad fr st ds:=rfl
def uZ (fr:Fr)(d:Nat)(x y:SV):(fr.put d x).put d y=fr.put d y:=by
 funext s;simp only[Fr.put_apply];split<;>rfl
def zx {esc:List Nat}{ord:List (Nat×List Nat)}{frz:List Nat}{d A:Nat}{p:String}{Q:Fr->ISt->List Dfd->Prop}{fr:Fr}{st:ISt}(hd:d ∉ esc)(D:d≠A)(E:A ∉ esc)
  (h:∀b:Bool,Q ((fr.put d (.box [b])).put A b) st []) :
  lE (cf prog gl esc ord frz) #[⟨some d,.alloc 4,0,p,#[],none⟩,⟨none,.store 4 (.tmp d) (.const (.bool true)),0,p,#[⟨0,.data⟩,⟨2,.gcOnly .appendInPlace⟩],none⟩,
   ⟨none,.store 4 (.tmp d) (.const (.bool false)),0,p,#[⟨0,.data⟩,⟨1,.textOnly .appendInPlace⟩],none⟩,⟨some A,.load 4 (.tmp d),4,p,#[⟨0,.data⟩,⟨0,.phase⟩,⟨1,.phase⟩,⟨2,.phase⟩],none⟩] (some []) Q fr st []:=by
 rw[BY];refine se 0 (by kernel_rfl) ?_;simp only[go_sem,zA,hd,oM];refine Od 1 2 (by kernel_rfl) ?_ ?_
 ·simp only[go_sem,zL,oM];refine se 2 (by kernel_rfl) ?_;simp only[go_sem,zL,oM];refine se 3 (by kernel_rfl) ?_;simp only[go_sem,oM];refine FR ?_;rw[uZ,uZ];exact h false
 ·simp only[go_sem,zL,oM];refine se 1 (by kernel_rfl) ?_;simp only[go_sem,zL,oM];refine se 3 (by kernel_rfl) ?_;simp only[go_sem,oM];refine FR ?_;rw[uZ,uZ];exact h true
def gG:Fm->List Fm
 | .mk 7 n us [a,b]=>[.mk 7 n us [a,b],imF a b,imF b a]
 | f=>[f]
mutual
def cloF:Fm->List Fm
 | .mk o n us sub=>gG (.mk o n us sub)++eZ sub
def eZ:List Fm->List Fm
 | []=>[]
 | a::l=>cloF a++eZ l
end
def ka (ca m:Nat)(x:IV):IObj:=.box [.raw (.int .u8 (ca:Int)),x,.raw (.map (some m))]
def Fo (ca m A:Nat)(B0:ISt)(l:List Fm)(st:ISt):Prop:=(l=[]/\st=B0.put A (some (ka ca m ()))) \/
 ∃g cap cs zs,l≠[]/\B0 g=none/\g≠A/\l.length<=cap/\cap*4<=cs.length/\cs.take (l.length*4)=zs.flatMap IV.cells/\IsFms l zs/\st=(B0.put A (some (ka ca m (.raw (.slice (some ⟨g,0,none⟩) l.length cap))))).put g (some (.box cs))
abbrev ptr (b:Nat):IV:=.raw (.pointer (some ⟨b,0,none⟩))
abbrev colFn (b12 b6:Nat):IV:=.fn (.func 159) [] [.cptr (ptr b12),ptr b6]
def ColC (f:Fm):Prop:=∀(ca m D A:Nat) (x:IV) (_:IsFm f x) (B0 st:ISt) (l:List Fm),B0 D=some (.box [colFn A D])->D≠A->(l++cloF f).length<=1000000->Fo ca m A B0 l st →
 ICall prog gl 159 [x,.cptr (ptr A),ptr D] st (λ_ st'=>Fo ca m A B0 (l++cloF f) st')
def u0:allI ot [Value.int IntKind.u8 0,Value.string noN,Value.slice none 0 0,Value.slice none 0 0]=some [.raw (.int .u8 0),.raw (.string noN),.sl ⟨true,.nil,0⟩ [],.sl ⟨true,.nil,0⟩ []]:=rfl
def FT (f:Fm):1<=(gG f).length:=by
 unfold gG;split<;>simp
def FU {o:Nat}{n:ByteArray}{us:List Tm}{sub:List Fm}(h:¬ (o=7/\sub.length=2)):gG (.mk o n us sub)=[.mk o n us sub]:=by
 unfold gG;split
 ·rename_i A;cases A;exact absurd ⟨rfl,rfl⟩ h
 ·rfl
def zy {B0:ISt}{b g:Nat}{a z c:Option IObj}(h:g≠b):((B0.put b a).put g c).put b z=(B0.put b z).put g c:=by
 funext d;simp only[ISt.put_apply];by_cases h1:d=b
 ·subst h1;rw[cV rfl,a_ λe=>h e.symm,cV rfl]
 ·rw[a_ h1,a_ h1,a_ h1]
def qj {B0:ISt}{b g E:Nat}{a z c G:Option IObj}(J:B0 g=none)(h1:g≠b)(h2:E≠b):((((B0.put b a).put g c).put g none).put E G).put b z=(B0.put b z).put E G:=by
 funext d;simp only[ISt.put_apply];by_cases D:d=b
 ·subst D;rw[cV rfl,a_ λe=>h2 e.symm,cV rfl]
 ·rw[a_ D,a_ D,a_ D];by_cases A:d=g
  ·rw[cV A,A,J]
  ·rw[a_ A,a_ A]
def u7 {l:List Fm}{zs:List IV}(h:IsFms l zs):(zs.flatMap IV.cells).length=l.length*4:=by
 rw[<- h.len];refine gD zs λz A=>?_;obtain⟨a,D,_⟩:=qd h z A;cases a;obtain⟨_,_,_,_,rfl,_⟩:=D.mk;rfl
def zz {cs' Z z new:List IV}{n:Nat}(A:Z.length=n*4)(D:new.length=4)(hl:(n+1)*4<=cs'.length)(h:cs'.take ((n+1)*4)=Z++z):(cs'.take (n*4)++new++cs'.drop (n*4+4)).take ((n+1)*4)=Z++new:=by
 have h1:cs'.take (n*4)=Z:=by
  have:=dX (List.take (n*4)) h;rw[List.take_take,Nat.min_eq_left (by omega),List.take_left' A] at this;exact this
 rw[h1,List.take_left'];rw[lLa,A,D];omega
def qk {B0:ISt}{b g A:Nat}{a':IObj}{c:Option IObj}(G:B0 g=none)(E:g≠b)(D:A=g\/((B0.put b (some a')).put g c) A=none):A≠b/\B0 A=none:=by
 rcases D with rfl|h
 ·exact⟨E,G⟩
 ·by_cases h1:A=g
  ·subst h1;exact⟨E,G⟩
  ·rw[dw h1] at h;by_cases h2:A=b
   ·subst h2;rw[b_] at h;cases h
   ·exact⟨h2,by rwa [dw h2] at h⟩
def Fo.first {ca m A g cap:Nat}{B0:ISt}{cs:List IV}{f:Fm}{x:IV}(D:IsFm f x)(J:B0 g=none)(G:g≠A)(hc:1<=cap)(E:cap*4<=cs.length)(ht:cs.take 4=x.cells) :
  Fo ca m A B0 [f] ((B0.put A (some (ka ca m (.raw (.slice (some ⟨g,0,none⟩) 1 cap))))).put g (some (.box cs))) :=
 .inr ⟨g,cap,cs,[x],by simp,J,G,hc,E,by simpa using ht,.one D,rfl⟩
def Fo.snoc {ca m A g cap:Nat}{B0:ISt}{cs:List IV}{l:List Fm}{zs:List IV}(D:IsFms l zs){f:Fm}{x:IV}(E:IsFm f x)(O:B0 g=none)(J:g≠A)(hc:l.length+1<=cap)(G:cap*4<=cs.length)
  (ht:cs.take ((l.length+1)*4)=zs.flatMap IV.cells++x.cells) :
  Fo ca m A B0 (l++[f]) ((B0.put A (some (ka ca m (.raw (.slice (some ⟨g,0,none⟩) (l.length+1) cap))))).put g (some (.box cs))) :=
 .inr ⟨g,cap,cs,zs++[x],by simp,O,J,by simpa using hc,G,by simpa using ht,D.append (.one E),by simp⟩
def Oe {c:Cf}{A:Code}{K:Fr->ISt->List Dfd->Prop}{Q:Kc}{fr:Fr}{st:ISt}{ds:List Dfd}(J:Fr->ISt->List Dfd->Prop)(h:vcC c A (seqK J Q) fr st ds)(D:∀fr st ds,J fr st ds->K fr st ds):vcC c A (seqK K Q) fr st ds :=
 re A (λe fr st ds=>by cases e<;>first|exact D _ _ _|exact id) h
def zD {b:Bool}{c:Cf}{A B:Code}{K:Fr->ISt->List Dfd->Prop}{Q:Kc}{fr:Fr}{st:ISt}{ds:List Dfd}(J:Fr->ISt->List Dfd->Prop)(E:∀fr st ds,J fr st ds->K fr st ds)
  (h1:b=true->vcC c A (seqK J Q) fr st ds) (h2:b=false->vcC c B (seqK J Q) fr st ds):jb b (vcC c A (seqK K Q) fr st ds) (vcC c B (seqK K Q) fr st ds) .mk .mk:=by
 have D:∀e fr st ds,seqK J Q e fr st ds->seqK K Q e fr st ds:=λe fr st ds=>by
  cases e<;>first|exact E _ _ _|exact id
 exact jZ (λh=>re A D (h1 h)) (λh=>re B D (h2 h))
def u9 {sub:List Fm}{k:Nat}{g:Fm}(h:sub[k]?=some g):eZ (sub.take (k+1))=eZ (sub.take k)++cloF g:=by
 have app:∀a b:List Fm,eZ (a++b)=eZ a++eZ b:=λa b=>by
  induction a with
  | nil=>rfl
  | cons c a A=>simp only[ed,eZ,A,en]
 rw[dE h,app];simp[eZ]
def Of {l:List Fm}{o:Nat}{n:ByteArray}{us:List Tm}{sub:List Fm}{k:Nat}{g:Fm}(h:(l++cloF (.mk o n us sub)).length<=1000000)(D:sub[k]?=some g):(l++gG (.mk o n us sub)++eZ (sub.take k)++cloF g).length<=1000000:=by
 have mono:∀(a:List Fm) (k:Nat),(eZ (a.take k)).length<=(eZ a).length:=λa=>by
  induction a with
  | nil=>intro k;simp
  | cons c a A =>
   intro k;cases k with
   | zero=>simp[eZ]
   | succ k=>simp only[ko,eZ,lLa];have:=A k;omega
 have h1:=mono sub (k+1);rw[u9 D] at h1;simp only[cloF,lLa] at h h1 ⊢;omega
def Fo.self {ca m A E:Nat}{B0 st:ISt}{l:List Fm}{o:IObj}(h:Fo ca m A B0 l st)(D:B0 E=some o)(G:E≠A):st E=some o:=by
 rcases h with⟨_,rfl⟩|⟨g,cap,cs,zs,_,J,_,_,_,_,_,rfl⟩
 ·rw[dw G,D]
 ·rw[dw (by rintro rfl;rw[J] at D;cases D),dw G,D]
def u_ {a b:Fm}{x y:IV}(D:IsFm a x)(A:IsFm b y):IsFm (imF a b) (.agg [.raw (.int .u8 6),noN,(),.sl ⟨true,.full,4⟩ [x,y]]) :=
 ⟨_,_,_,_,rfl,by decide,.inl rfl,rfl,.inr rfl,⟨x,_,rfl,D,y,_,rfl,A,rfl⟩⟩
def Og (o:Nat)(n:ByteArray)(us:List Tm)(sub:List Fm)(IH:∀a∈sub,ColC gl a):ColC gl (.mk o n us sub):=by
 intro ca m b6 ab x hx B0 st l h6 n6 aq hF;obtain⟨t1,x1,t2,x2,rfl,ho,e1,i1,e2,i2⟩:=hx.mk;have aE:l.length+(gG (.mk o n us sub)).length<=1000000:=by rw[lLa] at aq;simp only[cloF,lLa] at aq;omega
 have aC:=FT (.mk o n us sub);refine ICall.intro (c:=cf prog gl [13,17,25,28,53,60,68,74,82,89,97,103] [(1,[]),(7,[]),(11,[])]) func159 rfl (by show _<=117;simp) (by kernel_rfl) ?_;simp only[go_sem,zE];refine zx gl (by decide) (by decide) (by decide) λc1=>?_;simp only[go_sem];refine zD (λfr st ds=>Fo ca m ab B0 (l++[.mk o n us sub]) st/\ds=[]/\fr 1=.iv (.cptr (ptr ab))/\fr 2=.iv (ptr b6)/\fr 3=.box [.raw (.int .u8 (o:Int)),.raw (.string n),.sl t1 x1,.sl t2 x2]) ?_ (λh=>?_) (λh=>?_)
 ·rintro fr s1 _ ⟨av,rfl,f1,f2,f3⟩;rw[J0];refine Oe (λfr st ds=>Fo ca m ab B0 (l++gG (.mk o n us sub)) st/\ds=[]/\fr 1=.iv (.cptr (ptr ab))/\fr 2=.iv (ptr b6)/\fr 3=.box [.raw (.int .u8 (o:Int)),.raw (.string n),.sl t1 x1,.sl t2 x2]) ?_ ?_
  ·by_cases h7:o=7
   ·subst h7;by_cases h2:x2.length=2
    ·rw[i2.len] at h2;obtain⟨a,b,rfl⟩:∃a b,sub=[a,b]:=by
      match sub,h2 with
      | [a,b],_=>exact⟨a,b,rfl⟩
     obtain⟨xa,_,rfl,ia,xb,_,rfl,ib,rfl⟩:=i2;cases a with
     | mk oa na ua sa =>
     cases b with
     | mk ob nb ub sb =>
     obtain⟨aO,aK,aN,aJ,rfl,ha⟩:=ia.mk;obtain⟨aM,aI,aL,aH,rfl,hb⟩:=ib.mk;simp only[go_sem,zE,zA,zL,f3,show decide (((7:Nat):Int)=7)=true from rfl];refine jZ (λ_=>?_) λh=>absurd h (by decide);simp only[go_sem,zE,zB,zA,zL,f3,fits,dz e2,show ((0:Int)<=0)=True from eQ (by decide),show ((0:Int)<=1)=True from eQ (by decide),show Int.toNat 0=0 from rfl,show Int.toNat 1=1 from rfl,IV.one];rw[show l++gG (.mk 7 n us [.mk oa na ua sa,.mk ob nb ub sb])=l++[.mk 7 n us [.mk oa na ua sa,.mk ob nb ub sb]]++[imF (.mk oa na ua sa) (.mk ob nb ub sb)]++[imF (.mk ob nb ub sb) (.mk oa na ua sa)] by simp[gG]];have hL:(l++[Fm.mk 7 n us [.mk oa na ua sa,.mk ob nb ub sb]]).length+2<=1000000:=by simp[gG] at aE ⊢;omega
     have aD:l++[Fm.mk 7 n us [.mk oa na ua sa,.mk ob nb ub sb]]≠[]:=by simp
     generalize l++[Fm.mk 7 n us [.mk oa na ua sa,.mk ob nb ub sb]]=L at av hL aD ⊢;refine zx gl (by decide) (by decide) (by decide) λc2=>?_;simp only[go_sem];refine zD (λfr st ds=>Fo ca m ab B0 (L++[imF (.mk oa na ua sa) (.mk ob nb ub sb)]) st/\ds=[]/\fr 1=.iv (.cptr (ptr ab))/\fr 2=.iv (ptr b6) /\
      fr 3=.box [.raw (.int .u8 ((7:Nat):Int)),.raw (.string n),.sl t1 x1,.sl t2 [.agg [.raw (.int .u8 (oa:Int)),.raw (.string na),.sl aO aK,.sl aN aJ],.agg [.raw (.int .u8 (ob:Int)),.raw (.string nb),.sl aM aI,.sl aL aH]]] /\
      fr 4=.box [.raw (.int .u8 (oa:Int)),.raw (.string na),.sl aO aK,.sl aN aJ]/\fr 5=.box [.raw (.int .u8 (ob:Int)),.raw (.string nb),.sl aM aI,.sl aL aH]) ?_ (λh=>?_) (λh=>?_)
     ·rintro fr s2 _ ⟨az,rfl,f1,f2,f3,f4,f5⟩;have a6:(L++[imF (.mk oa na ua sa) (.mk ob nb ub sb)]).length+1<=1000000:=by rw[lLa];exact hL
      have aA:L++[imF (.mk oa na ua sa) (.mk ob nb ub sb)]≠[]:=by simp
      generalize L++[imF (.mk oa na ua sa) (.mk ob nb ub sb)]=L2 at az a6 aA ⊢;simp only[go_sem,zE];refine zx gl (by decide) (by decide) (by decide) λc3=>?_;obtain⟨g,cap,cs,zs,ay,O,A,J,E,ac,hzs,rfl⟩:=az.resolve_left λh=>aA h.1;cases c3
      ·simp only[go_sem,zE,zA,zM,zL,f1,f4,f5,fits,ka,dw A.symm,dW,pQ];refine kU _ _ _ (b_ ..) rfl ⟨by show (L2.length+1)*72<=_;omega,by show L2.length+1<=_;omega⟩ ⟨J,E⟩ rfl ?_;intro g' G cs' aa k1 k2 k3;obtain⟨D,U⟩:=qk O A aa;simp only[go_sem,zE,zA,zL,f1,f2,f3,dw D.symm,dw A.symm,IV.one];rw[qj O A D];exact .snoc hzs (u_ ib ia) U D k1 k2 (k3.trans (dX (·++_) ac))
      ·simp only[go_sem,zE,zA,zM,zL,f1,f4,f5,fits,ka,dw A.symm,dW,pQ,u0];refine kU _ _ _ (b_ ..) rfl ⟨by show (L2.length+1)*72<=_;omega,by show L2.length+1<=_;omega⟩ ⟨J,E⟩ rfl ?_;intro g' G cs' aa k1 k2 k3;obtain⟨D,U⟩:=qk O A aa;simp only[go_sem,zE,zA,zL,f1,f2,f3,dw D.symm,dw D,dw A.symm,IV.one];have aQ:G*4<=cs'.length:=k2;have aS:L2.length+1<=G:=k1;rw[cV ⟨iNn _,ew _⟩,cV (by omega),qj O A D,eN];exact .snoc hzs (u_ ib ia) U D k1 (by simp only[lLa,dQ,iT,dV,dU];omega) (zz (by rw[u7 hzs]) rfl (by omega) (k3.trans (dX (·++_) ac)))
     ·obtain⟨g,cap,cs,zs,ay,O,A,J,E,ac,hzs,rfl⟩:=av.resolve_left λh=>aD h.1;simp only[go_sem,zE,zA,zM,zL,f1,fits,ka,dw A.symm,dW,pQ,u0];refine kU _ _ _ (b_ ..) rfl ⟨by show (L.length+1)*72<=_;omega,by show L.length+1<=_;omega⟩ ⟨J,E⟩ rfl ?_;intro g' G cs' aa k1 k2 k3;obtain⟨D,U⟩:=qk O A aa;simp only[go_sem,zE,zA,zL,f1,f2,f3,dw D.symm,dw D,dw A.symm,IV.one];have aQ:G*4<=cs'.length:=k2;have aS:L.length+1<=G:=k1;rw[cV ⟨iNn _,ew _⟩,cV (by omega),qj O A D,eN];exact .snoc hzs (u_ ia ib) U D k1 (by simp only[lLa,dQ,iT,dV,dU];omega) (zz (by rw[u7 hzs]) rfl (by omega) (k3.trans (dX (·++_) ac)))
     ·obtain⟨g,cap,cs,zs,ay,O,A,J,E,ac,hzs,rfl⟩:=av.resolve_left λh=>aD h.1;simp only[go_sem,zE,zA,zM,zL,f1,fits,ka,dw A.symm,dW,pQ];refine kU _ _ _ (b_ ..) rfl ⟨by show (L.length+1)*72<=_;omega,by show L.length+1<=_;omega⟩ ⟨J,E⟩ rfl ?_;intro g' G cs' aa k1 k2 k3;obtain⟨D,U⟩:=qk O A aa;simp only[go_sem,zE,zA,zL,f1,f2,f3,dw D.symm,dw A.symm,IV.one];rw[qj O A D];exact .snoc hzs (u_ ia ib) U D k1 k2 (k3.trans (dX (·++_) ac))
    ·have ba:¬ ((x2.length:Nat):Int)=2:=by omega
     simp only[go_sem,zE,f1,f2,f3,ba,decide_false,show decide (((7:Nat):Int)=7)=true from rfl];intro _;rw[FU λh=>h2 (by rw[i2.len,h.2])];exact av
   ·have a8:¬ (o:Int)=7:=by omega
    simp only[go_sem,zE,zA,f1,f2,f3,a8,decide_false];rw[FU λh=>h7 h.1];exact av
  ·rintro fr s2 _ ⟨az,rfl,f1,f2,f3⟩;simp only[go_sem,zE,f3];intro _;have aC:=i2.len;refine dj x2.length (λk fr st' ds=>Fo ca m ab B0 (l++gG (.mk o n us sub)++eZ (sub.take k)) st'/\fr 1=.iv (.cptr (ptr ab))/\fr 2=.iv (ptr b6)/\fr 107=.iv (.sl t2 x2)/\fr 108=.iv (.raw (.int .i64 x2.length))/\fr 109=.iv (.raw (.int .i64 (k:Int)))/\ds=[]) ?_ ?_ ?_
   ·simp only[go_sem,zE];simpa[eZ] using ⟨az,f1,f2⟩
   ·rintro k fr aB _ aW ⟨au,f1,f2,f107,f108,f109,rfl⟩;rw[aC] at aW;obtain⟨g,O⟩:=dB aW;obtain⟨z,hz,aX⟩:=i2.get O;have IHg:=IH g (lMg O) ca m b6 ab z aX B0 aB _ h6 n6 (Of aq O) au;cases g with
    | mk og ng ug sg =>
    obtain⟨bj,bh,bi,bg,rfl,bm⟩:=aX.mk;simp only[go_sem,zE,zB,zA,zL,f2,f107,f108,f109,lt_i (show k<x2.length by omega),dz e2,iNn,hz,fits,IV.one];rw[au.self h6 n6];simp only[go_sem];refine IHg.mono ?_;rintro _ aB a7;simp only[go_sem,zE,f1,f2,f107,f108,f109,dC (show k<x2.length by omega) (by omega)];rw[u9 O,<- en];exact a7
   ·rintro fr aB _ ⟨au,f1,f2,f107,f108,f109,rfl⟩;rw[aC,lTl] at au;simp only[go_sem,f108,f109,dF (nLi _)];refine c_ ?_;rw[cloF,<- en];exact au
 ·rcases hF with⟨rfl,rfl⟩|⟨g,cap,cs,zs,ay,O,A,J,E,ac,hzs,rfl⟩
  ·simp only[go_sem,zE,zA,zM,zL,fits,ka,dW,u0];intro g cap aF;obtain⟨O,aG⟩:=aF;have gb:g≠ab:=by rintro rfl;rw[b_] at O;cases O
   rw[dw gb] at O;simp only[go_sem,zA,zL,dw gb.symm,dw gb,IV.one,show ((0:Int)<=((0:Nat):Int)/\(0:Nat)<1)=True from eQ (by decide),eC,List.flatMap_nil,IV.cells,eo,ed,eY];rw[zy gb,eN];exact .first hx O gb aG (by simp;omega) rfl
  ·simp only[go_sem,zE,zA,zM,zL,fits,ka,dw A.symm,dW,u0];refine kU _ _ _ (b_ ..) rfl ⟨by show (l.length+1)*72<=_;omega,by show l.length+1<=_;omega⟩ ⟨J,E⟩ rfl ?_;intro g' G cs' aa k1 k2 k3;obtain⟨D,U⟩:=qk O A aa;simp only[go_sem,zE,zA,zL,dw D.symm,dw D,dw A.symm,IV.one];have aQ:G*4<=cs'.length:=k2;have aS:l.length+1<=G:=k1;rw[cV ⟨iNn _,ew _⟩,cV (by omega),qj O A D,eN];exact .snoc hzs hx U D k1 (by simp only[lLa,dQ,iT,dV,dU];omega) (zz (by rw[u7 hzs]) rfl (by omega) (k3.trans (dX (·++_) ac)))
 ·rcases hF with⟨rfl,rfl⟩|⟨g,cap,cs,zs,ay,O,A,J,E,ac,hzs,rfl⟩
  ·simp only[go_sem,zE,zA,zM,zL,fits,ka,dW];intro g cap aF;obtain⟨O,aG⟩:=aF;have gb:g≠ab:=by rintro rfl;rw[b_] at O;cases O
   rw[dw gb] at O;simp only[go_sem,zA,zL,dw gb.symm,IV.one];rw[zy gb];exact .first hx O gb aG (by simp[IV.cells];omega) rfl
  ·simp only[go_sem,zE,zA,zM,zL,fits,ka,dw A.symm,dW];refine kU _ _ _ (b_ ..) rfl ⟨by show (l.length+1)*72<=_;omega,by show l.length+1<=_;omega⟩ ⟨J,E⟩ rfl ?_;intro g' G cs' aa k1 k2 k3;obtain⟨D,U⟩:=qk O A aa;simp only[go_sem,zE,zA,zL,dw D.symm,dw A.symm,IV.one];rw[qj O A D];exact .snoc hzs hx U D k1 k2 (k3.trans (dX (·++_) ac))
mutual
def FV:∀f:Fm,ColC gl f
 | .mk o n us sub=>Og gl o n us sub (FW sub)
def FW:∀l:List Fm,∀a∈l,ColC gl a
 | [],_,h=>by cases h
 | b::l,a,h=>by
  rcases dN.1 h with h1|h
  ·rw[h1];exact FV b
  ·exact FW l a h
end
def Oh (T:Gt gl)(ca m:Nat)(tw:Tag)(xw:List IV)(ln:Ln)(x:IV)(hx:IsLn ln x)(e:Ex)(y:IV)(hy:IsEx e y)(hl:ln.1.length<=300000/\ln.2.length<=300000/\e.1.1.length<=300000/\e.1.2.length<=300000/\e.2.1<=300000/\e.2.2<=300000)(st:ISt) :
  ICall prog gl 158 [spI ca tw xw m,x,y] st (λr st'=>(∃a b c d,r=.tup [.agg [.sl a b,.sl c d],(!tooN (calJ ca) ln e:Bool)]/\(tooN (calJ ca) ln e=false->IsLn (j9 (calJ ca) ln e) (.agg [.sl a b,.sl c d])))/\st'=st):=by
 obtain⟨t1,t2,rfl,e1,e2⟩:=hx;obtain⟨t3,t4,rfl,e3,e4⟩:=hy;obtain⟨l1,l2,l3,l4,l5,l6⟩:=hl;have E:decide ((ca:Int)=2)=calJ ca:=eX.2 (by omega);have G:IntKind.i64.wrap ((ln.1.length:Int)+(e.2.1:Int))=((ln.1.length+e.2.1:Nat):Int):=by rw[w64 (by omega) (by omega)];omega
 have d1:decide ((64:Int)<((ln.1.length+e.2.1:Nat):Int))=decide (64<ln.1.length+e.2.1):=eX.2 (by omega);have d0:decide ((0:Int)<(e.2.2:Int))=decide (0<e.2.2):=eX.2 (by omega);have nl:(dM [])=[]:=rfl;have hj:=λ(R:List Nat) (tR:Tag) (D:okEs tR 1) (ah:R.length<=300000) st=>FI gl T R e.1.2 tR t4 D e4 (by omega) st;have J:=λst=>FI gl T ln.1 e.1.1 t1 t3 e1 e3 (by omega) st;refine ICall.intro (c:=cf prog gl [] [(5,[0,1,2,3,4,6,7,8,9,10,5,11,12,13,14])]) func158 rfl (by show _<=49;simp) (by kernel_rfl) ?_;generalize calJ ca=jj at E ⊢;cases jj
 ·have D:rgtN (false) ln e=ln.2:=by unfold rgtN;rw[a_ (by simp)]
  have A:IntKind.i64.wrap (((ln.2).length:Int)+(e.2.2:Int))=(((ln.2).length+e.2.2:Nat):Int):=by rw[w64 (by first|omega|(simp only[dU];omega)) (by first|omega|(simp only[dU];omega))];first|omega|(simp only[dU];omega)
  have d2:decide ((64:Int)<(((ln.2).length+e.2.2:Nat):Int))=decide (64<(ln.2).length+e.2.2):=eX.2 (by omega);by_cases h1:64<ln.1.length+e.2.1
  ·have ht:tooN (false) ln e=true:=by unfold tooN;rw[dEt h1];rfl
   simp only[go_sem,zE,zA,zL,reduceCtorEq,E,fits,fI,G,d1,dEt h1];intros;exact c_ ⟨⟨_,_,_,_,by rw[ht];rfl,λh=>by rw[ht] at h;cases h⟩,rfl⟩
  ·by_cases h2:64<(ln.2).length+e.2.2
   ·have ht:tooN (false) ln e=true:=by unfold tooN;rw[D,dEt h2,Bool.or_true]
    try simp only[dU] at A d2
    simp only[go_sem,zE,zA,zL,reduceCtorEq,E,fits,fI,G,d1,dEf h1,A,dEt h2,d2];intros;exact c_ ⟨⟨_,_,_,_,by rw[ht];rfl,λh=>by rw[ht] at h;cases h⟩,rfl⟩
   ·have ht:tooN (false) ln e=false:=by unfold tooN;rw[D,dEf h1,dEf h2];rfl
    try simp only[dU] at A d2
    simp only[go_sem,zE,zA,reduceCtorEq,E,fits,fI,G,d1,dEf h1,A,dEf h2,d2];intros;refine (J _).mono ?_;rintro _ st ⟨⟨t5,rfl,U⟩,rfl⟩;simp only[go_sem,zE,zA];refine (hj (ln.2) t2 (by first|exact e2|exact .inl rfl) (by first|omega|(simp only[dU];omega)) _).mono ?_;rintro _ st ⟨⟨t6,rfl,O⟩,rfl⟩;simp only[go_sem,zE,zA,zL,fits];exact c_ ⟨⟨_,_,_,_,by rw[ht];rfl,λ_=>⟨t5,t6,(by unfold j9;rw[D];try rfl),U,O⟩⟩,rfl⟩
 ·by_cases h0:0<e.2.2
  ·have D:rgtN (true) ln e=([]:List Nat):=by unfold rgtN;rw[cV ⟨rfl,h0⟩]
   have A:IntKind.i64.wrap (((([]:List Nat)).length:Int)+(e.2.2:Int))=(((([]:List Nat)).length+e.2.2:Nat):Int):=by rw[w64 (by first|omega|(simp only[dU];omega)) (by first|omega|(simp only[dU];omega))];first|omega|(simp only[dU];omega)
   have d2:decide ((64:Int)<(((([]:List Nat)).length+e.2.2:Nat):Int))=decide (64<(([]:List Nat)).length+e.2.2):=eX.2 (by omega);by_cases h1:64<ln.1.length+e.2.1
   ·have ht:tooN (true) ln e=true:=by unfold tooN;rw[dEt h1];rfl
    simp only[go_sem,zE,zA,zL,reduceCtorEq,E,d0,dEt h0,fits,fI,G,d1,dEt h1];intros;exact c_ ⟨⟨_,_,_,_,by rw[ht];rfl,λh=>by rw[ht] at h;cases h⟩,rfl⟩
   ·by_cases h2:64<(([]:List Nat)).length+e.2.2
    ·have ht:tooN (true) ln e=true:=by unfold tooN;rw[D,dEt h2,Bool.or_true]
     try simp only[dU] at A d2
     simp only[go_sem,zE,zA,zL,reduceCtorEq,E,d0,dEt h0,fits,fI,G,d1,dEf h1,A,dEt (show (64:Int)<(e.2.2:Int) by simp at h2;omega)];intros;exact c_ ⟨⟨_,_,_,_,by rw[ht];rfl,λh=>by rw[ht] at h;cases h⟩,rfl⟩
    ·have ht:tooN (true) ln e=false:=by unfold tooN;rw[D,dEf h1,dEf h2];rfl
     try simp only[dU] at A d2
     simp only[go_sem,zE,zA,zL,reduceCtorEq,E,d0,dEt h0,fits,fI,G,d1,dEf h1,A,dEf (show ¬ (64:Int)<(e.2.2:Int) by simp at h2;omega)];intros;refine (J _).mono ?_;rintro _ st ⟨⟨t5,rfl,U⟩,rfl⟩;simp only[go_sem,zE,zA];refine (hj (([]:List Nat)) ⟨true,.nil,0⟩ (by first|exact e2|exact .inl rfl) (by first|omega|(simp only[dU];omega)) _).mono ?_;rintro _ st ⟨⟨t6,rfl,O⟩,rfl⟩;simp only[go_sem,zE,zA,zL,fits];exact c_ ⟨⟨_,_,_,_,by rw[ht];rfl,λ_=>⟨t5,t6,(by unfold j9;rw[D];try rfl),U,O⟩⟩,rfl⟩
  ·have D:rgtN (true) ln e=ln.2:=by unfold rgtN;rw[a_ λh=>h0 h.2]
   have A:IntKind.i64.wrap (((ln.2).length:Int)+(e.2.2:Int))=(((ln.2).length+e.2.2:Nat):Int):=by rw[w64 (by first|omega|(simp only[dU];omega)) (by first|omega|(simp only[dU];omega))];first|omega|(simp only[dU];omega)
   have d2:decide ((64:Int)<(((ln.2).length+e.2.2:Nat):Int))=decide (64<(ln.2).length+e.2.2):=eX.2 (by omega);by_cases h1:64<ln.1.length+e.2.1
   ·have ht:tooN (true) ln e=true:=by unfold tooN;rw[dEt h1];rfl
    simp only[go_sem,zE,zA,zL,reduceCtorEq,E,d0,dEf h0,fits,fI,G,d1,dEt h1];intros;exact c_ ⟨⟨_,_,_,_,by rw[ht];rfl,λh=>by rw[ht] at h;cases h⟩,rfl⟩
   ·by_cases h2:64<(ln.2).length+e.2.2
    ·have ht:tooN (true) ln e=true:=by unfold tooN;rw[D,dEt h2,Bool.or_true]
     try simp only[dU] at A d2
     simp only[go_sem,zE,zA,zL,reduceCtorEq,E,d0,dEf h0,fits,fI,G,d1,dEf h1,A,dEt h2,d2];intros;exact c_ ⟨⟨_,_,_,_,by rw[ht];rfl,λh=>by rw[ht] at h;cases h⟩,rfl⟩
    ·have ht:tooN (true) ln e=false:=by unfold tooN;rw[D,dEf h1,dEf h2];rfl
     try simp only[dU] at A d2
     simp only[go_sem,zE,zA,reduceCtorEq,E,d0,dEf h0,fits,fI,G,d1,dEf h1,A,dEf h2,d2];intros;refine (J _).mono ?_;rintro _ st ⟨⟨t5,rfl,U⟩,rfl⟩;simp only[go_sem,zE,zA];refine (hj (ln.2) t2 (by first|exact e2|exact .inl rfl) (by first|omega|(simp only[dU];omega)) _).mono ?_;rintro _ st ⟨⟨t6,rfl,O⟩,rfl⟩;simp only[go_sem,zE,zA,zL,fits];exact c_ ⟨⟨_,_,_,_,by rw[ht];rfl,λ_=>⟨t5,t6,(by unfold j9;rw[D];try rfl),U,O⟩⟩,rfl⟩
def plcs (ln:Ln):List (Nat×Bool):=(ln.1.map λi=>(i,false))++ln.2.map λi=>(i,true)
abbrev plcI (p:Nat×Bool):IV:=.agg [.raw (.int .i64 (p.1:Int)),.raw (.bool p.2)]
def plX (ln:Ln):Nat->List IV->Prop:=λk a=>∃p,(plcs ln)[k]?=some p/\a=[plcI p]
def sh (ln:Ln):(plcs ln).length=ln.1.length+ln.2.length:=by simp[plcs]
def FX (ln:Ln)(x:IV)(A:IsLn ln x)(st:ISt):ICall prog gl 156 [x] st (λr st'=>r=.fn (.func 212) [] [.cptr x]/\st'=st):=by
 obtain⟨t1,t2,rfl,E,D⟩:=A;refine ICall.intro (c:=cf prog gl [] [] [1]) func156 rfl (by show _<=4;simp) (by kernel_rfl) ?_;simp only[go_sem,zE];exact c_ ⟨rfl,rfl⟩
def FY (ln:Ln)(x:IV)(hx:IsLn ln x)(hl:ln.1.length<=1000000/\ln.2.length<=1000000)(I:Nat->ISt->Prop):IterC prog gl 212 [] [.cptr x] (plX ln) (plcs ln).length I:=by
 obtain⟨t1,t2,rfl,e1,e2⟩:=hx;rintro y I' S' st ⟨f,O,ca,rfl,ab,E⟩ _ U h0;change ICall prog gl _ [.fn f O ca,_] st _;refine iI func212 ?_;simp only[go_sem,fits,fI];intros;refine dj ln.1.length (λk fr st' ds=>I' k st'/\fr 0=.iv (.fn f O ca)/\fr 1=.iv (.cptr (.agg [.sl t1 (dM ln.1),.sl t2 (dM ln.2)]))/\fr 8=.iv (.sl t1 (dM ln.1))/\fr 9=.iv (.raw (.int .i64 ln.1.length))/\fr 10=(k:Int)/\ds=[]) ?_ ?_ ?_
 ·simp only[go_sem,zE,reduceCtorEq];exact⟨h0,rfl⟩
 ·rintro k fr st _ A ⟨G,f0,f1,f8,f9,f10,rfl⟩;obtain⟨n,J⟩:=dB A;have D:=U k [plcI (n,false)] st ⟨(n,false),by unfold plcs;rw[fw (by simpa using A),eI,J];rfl,rfl⟩ G;simp only[go_sem,zE,zA,zL,reduceCtorEq,f0,f8,f9,f10,lt_i A,dz e1,iNn,kL J,fits];refine lF E (D.mono ?_);rintro _ st (⟨rfl,h⟩|⟨rfl,h⟩)
  ·simp only[go_sem,zE,reduceCtorEq,f0,f1,f8,f9,f10,dC A (by omega)];exact h
  ·simp only[go_sem];exact c_ (.inr h)
 ·rintro fr st _ ⟨G,f0,f1,f8,f9,f10,rfl⟩;simp only[go_sem,zE,f1,f9,f10,dF (nLi _),fI];intro _;refine dj ln.2.length (λk fr st' ds=>I' (ln.1.length+k) st'/\fr 0=.iv (.fn f O ca)/\fr 21=.iv (.sl t2 (dM ln.2))/\fr 22=.iv (.raw (.int .i64 ln.2.length))/\fr 23=(k:Int)/\ds=[]) ?_ ?_ ?_
  ·simp only[go_sem,zE,reduceCtorEq];exact⟨G,f0,rfl⟩
  ·rintro k fr st _ A ⟨G,f0,f21,f22,f23,rfl⟩;obtain⟨n,J⟩:=dB A;have D:=U (ln.1.length+k) [plcI (n,true)] st ⟨(n,true),by unfold plcs;rw[fD (by simp),dY,Nat.add_sub_cancel_left,eI,J];rfl,rfl⟩ G;simp only[go_sem,zE,zA,zL,reduceCtorEq,f0,f21,f22,f23,lt_i A,dz e2,iNn,kL J,fits];refine lF E (D.mono ?_);rintro _ st (⟨rfl,h⟩|⟨rfl,h⟩)
   ·simp only[go_sem,zE,reduceCtorEq,f0,f21,f22,f23,dC A (by omega)];exact h
   ·simp only[go_sem];exact c_ (.inr h)
  ·rintro fr st _ ⟨G,f0,f21,f22,f23,rfl⟩;simp only[go_sem,f22,f23,dF (nLi _)];refine c_ (.inl ?_);rw[sh];exact G
def FZ (m:Nat)(w x:IV)(c:List IV)(D:w=.cptr (.agg c))(ln:Ln)(A:IsLn ln x)(st:ISt):ICall prog gl 120 [w,x] st (λr st'=>r=.fn (.func 155) [] [.cptr x,.cptr w]/\st'=st):=by
 obtain⟨t1,t2,rfl,G,E⟩:=A;subst D;refine ICall.intro (c:=cf prog gl [] [] [2,3]) func120 rfl (by show _<=6;simp) (by kernel_rfl) ?_;simp only[go_sem,zE];exact c_ ⟨rfl,rfl⟩
def nanC (a:Int)(st:ISt):ICall prog gl 219 [a] st (λr st'=>r=false/\st'=st):=by
 refine iI func219 ?_;simp only[go_sem,zE,reduceCtorEq,dA];exact c_ ⟨rfl,rfl⟩
def nanS (a:Int)(st:ISt):ICall prog gl 167 [a] st (λr st'=>r=false/\st'=st):=by
 refine iI func167 ?_;simp only[go_sem,zE,reduceCtorEq,dA];exact c_ ⟨rfl,rfl⟩
def Oi (a b:Int)(st:ISt):ICall prog gl 166 [a,b] st (λr st'=>r=(decide (a<b):Bool)/\st'=st):=by
 refine iI func166 ?_;simp only[go_sem,zA,reduceCtorEq];refine (nanC gl _ _).q ?_;simp only[go_sem,zE,reduceCtorEq];exact c_ ⟨rfl,rfl⟩
def Oj (l:List Nat)(tg:Tag)(aa:okEs tg 1)(hl:Inc l)(ab:l.length<=1099511627776)(n:Nat)(st:ISt) :
  ICall prog gl 125 [.sl tg (dM l),(n:Int)] st
   (λr st'=>(∃(i:Nat),r=.tup [(i:Int),(decide (n∈l):Bool)])/\st'=st):=by
 have J:∀ {i k a b:Nat},l[i]?=some a->l[k]?=some b->i<k->a<b:=λD E aj=>by
  obtain⟨h1,h2⟩:=lGs D;obtain⟨h3,h4⟩:=lGs E;have:=List.pairwise_iff_getElem.1 hl _ _ h1 h3 aj
  rwa [h2,h4] at this
 have c1:=λn:Int=>l7 prog 3 243 l_ tO .i64 n;have c2:=λn:Int=>l7 prog 243 3 tO l_ .u64 n;refine iI func125 ?_;simp only[go_sem,zE,reduceCtorEq,fI];intro _;refine LoopC.dec l.length (λm fr st' ds=>(∃lo A,m=A-lo/\lo<=A/\A<=l.length/\(∀k a,k<lo->l[k]?=some a->a<n)/\(∀k a,A<=k->l[k]?=some a->¬ a<n)/\fr 7=(lo:Int)/\fr 8=(A:Int))/\fr 0=.iv (.sl tg (dM l))/\fr 1=(n:Int) /\
  fr 6=.iv (.raw (.int .i64 l.length))/\st'=st/\ds=[]) ?_ ?_
 ·simp only[go_sem,zE,reduceCtorEq];refine⟨0,l.length,by omega,by omega,by omega,λk a U=>absurd U (by omega),λk a U D=>?_,rfl,rfl⟩;have:=(lGs D).1;omega
 ·rintro m fr ak _ ⟨⟨lo,A,hm,ai,ac,h1,h2,f7,f8⟩,f0,f1,f6,rfl,rfl⟩;by_cases ah:lo<A
  ·obtain⟨ag,af⟩:=FD ai ac ab;obtain⟨a,D⟩:=dB (l:=l) (k:=(lo+A) / 2) (by omega);simp only[go_sem,zE,zA,reduceCtorEq,f0,f1,f7,f8,lt_i ah,c1,c2,show ((0:Int)<=1)=True from eQ (by omega),FC,ag,af,dz aa,iNn,kL D,fits];refine (Oi gl _ _ _).q ?_;by_cases hc:a<n
   ·simp only[go_sem,zE,reduceCtorEq,f0,f1,f6,f8,dEt (show (a:Int)<n by omega),dC (show (lo+A) / 2<l.length by omega) (by omega)];refine⟨A-((lo+A) / 2+1),by omega,(lo+A) / 2+1,A,rfl,by omega,ac,λk b U E=>?_,h2,rfl,rfl⟩;rcases fQ k ((lo+A) / 2) with h|h
    ·exact Nat.lt_trans (J E D h) hc
    ·obtain rfl:k=(lo+A) / 2:=by omega
     rw[D] at E;cases E;exact hc
   ·simp only[go_sem,zE,reduceCtorEq,f0,f1,f6,f7,dEf (show ¬ (a:Int)<n by omega)];refine⟨(lo+A) / 2-lo,by omega,lo,(lo+A) / 2,rfl,by omega,by omega,h1,λk b U E=>?_,rfl,rfl⟩;rcases fQ ((lo+A) / 2) k with h|h
    ·have:=J D E h;omega
    ·obtain rfl:k=(lo+A) / 2:=by omega
     rw[D] at E;cases E;exact hc
  ·obtain rfl:lo=A:=by omega
   have G:n∈l↔l[lo]?=some n:=⟨λh=>by
    obtain⟨k,U⟩:=List.mem_iff_getElem?.1 h;rcases Nat.lt_trichotomy k lo with h|h|h
    ·exact absurd (h1 k n h U) (nLi _)
    ·rwa [<- h]
    ·obtain⟨b,E⟩:=dB (l:=l) (k:=lo) (by have:=(lGs U).1;omega);exact absurd (J E U h) (h2 lo b (dJ _) E),lMg⟩
   by_cases O:lo<l.length
   ·obtain⟨a,D⟩:=dB O;by_cases hc:a=n
    ·subst hc;have hd:decide (a∈l)=true:=dEt (G.2 D);rw[hd];simp only[go_sem,zE,reduceCtorEq,f0,f1,f6,f7,f8,dF (nLi _),lt_i O,dz aa,iNn,kL D,fits,dA];exact c_ ⟨⟨lo,rfl⟩,rfl⟩
    ·have hd:decide (n∈l)=false:=dEf λh=>by
      rw[G,D] at h;cases h;exact hc rfl
     rw[hd];simp only[go_sem,zE,zA,reduceCtorEq,f0,f1,f6,f7,f8,dF (nLi _),lt_i O,dz aa,iNn,kL D,fits,dEf (show ¬ (a:Int)=n by omega)];refine (nanS gl _ _).q ?_;simp only[go_sem,zE];exact c_ ⟨⟨lo,rfl⟩,rfl⟩
   ·have hd:decide (n∈l)=false:=dEf λh=>by
     rw[G] at h;exact O (lGs h).1
    rw[hd];simp only[go_sem,zE,f6,f7,f8,dF (nLi _),dF O];exact c_ ⟨⟨lo,rfl⟩,rfl⟩
def axW (W:List Fm)(ln:Ln):Option (Nat×Fm):=match ln.1.find? (λi=>decide (i∈ln.2)) with
 | some i=>some (1,(W[i]?).getD fm0)
 | none=>if (ln.1.any λi=>lR ((W[i]?).getD fm0))=true then some (2,.mk 2 noN [] []) else none
def zF {W:List Fm}{ln:Ln}(h:Ix W ln.1):(axW W ln).isSome=true↔clN W ln:=by
 unfold axW clN;cases G:ln.1.find? (λi=>decide (i∈ln.2)) with
 | some i=>simp;exact .inl ⟨i,List.mem_of_find?_eq_some G,by simpa using List.find?_some G⟩
 | none =>
  have J:¬ ∃i∈ln.1,i∈ln.2:=λ⟨i,h1,h2⟩=>by
   have:=jz.1 G i h1;simp[h2] at this
  simp only[J,false_or];constructor
  ·intro h2;split at h2
   ·rename_i O;obtain⟨i,D,E⟩:=gw.1 O;obtain⟨f,A⟩:=h.get D;exact⟨i,D,f,A,by rw[A] at E;exact E⟩
   ·cases h2
  ·rintro⟨i,D,f,A,E⟩;rw[cV (gw.2 ⟨i,D,by rw[A];exact E⟩)];rfl
def Ol {p:Nat->Bool}{l:List Nat}{k a:Nat}(h:(l.take k).find? p=none)(A:l[k]?=some a):(p a=true->l.find? p=some a)/\(p a=false->(l.take (k+1)).find? p=none):=by
 refine⟨λhp=>?_,λhp=>?_⟩
 ·obtain⟨h1,h2⟩:=lGs A;rw[<- el k l,iS,h,fa h1,h2];simp[hp]
 ·rw[dE A,iS,h];simp[hp]
def F1 (f:Fm):lR f=decide (f.op=2):=by cases f;rfl
def zG (ca m:Nat)(W:List Fm)(hS:SpOk ca W)(tw:Tag)(xw:List IV)(ae:okEs tw 4)(ai:IsFms W xw)(ln:Ln)(E:LnOk W ln)(x:IV)(hx:IsLn ln x)(st:ISt) :
  ICall prog gl 97 [spI ca tw xw m,x] st (λr st'=>(∃z,r=.tup [.raw (.int .u8 (((axW W ln).getD (0,fm0)).1:Int)),z,.raw (.bool (axW W ln).isSome)]/\IsFm ((axW W ln).getD (0,fm0)).2 z)/\st'=st):=by
 obtain⟨t1,t2,rfl,e1,e2⟩:=hx;have aD:=nV E.1.1 E.1.2;have aC:=nV E.2.1 E.2.2;have aE:=hS.len;have am:=λn st=>Oj gl ln.2 t2 e2 E.2.1 (by omega) n st;refine iI func97 ?_;simp only[go_sem,zE,fI];intro _;refine dj ln.1.length (λk fr st' ds=>(ln.1.take k).find? (λi=>decide (i∈ln.2))=none/\fr 0=(spI ca tw xw m)/\fr 3=.box [.sl t1 (dM ln.1),.sl t2 (dM ln.2)]/\(∃c,fr 5=.box c/\c.length=4) /\
  fr 14=.iv (.sl t1 (dM ln.1))/\fr 15=ln.1.length/\fr 16=(k:Int)/\st'=st/\ds=[]) ?_ ?_ ?_
 ·simp only[go_sem,zE,reduceCtorEq];exact⟨rfl,⟨_,rfl,rfl⟩,rfl⟩
 ·rintro k fr af _ D ⟨G,f0,f3,⟨c5,f5,A⟩,f14,f15,f16,rfl,rfl⟩;obtain⟨a,ha⟩:=dB D;obtain⟨g,hg⟩:=E.1.get (lMg ha);have ak:=(lGs hg).1;obtain⟨q1,q2⟩:=Ol G ha;simp only[go_sem,zE,zA,f3,f14,f15,f16,lt_i D,dz e1,iNn,kL ha,fits];refine (am a _).mono ?_;rintro _ st ⟨⟨i,rfl⟩,rfl⟩;by_cases aa:a∈ln.2
  ·have J:axW W ln=some (1,g):=by unfold axW;rw[q1 (dEt aa)];simp[hg]
   obtain⟨y,U,hy⟩:=ai.get hg;have al:=λst=>mT gl g y hy (by have:=hS.size (lMg hg);omega) st;obtain⟨y1,y2,y3,y4,y5,y6,rfl⟩:=hy.agg;simp only[go_sem,zE,zB,zA,reduceCtorEq,f0,dEt aa,fits,U,dz ae,iNn];refine (al _).mono ?_;rintro z _ ⟨hz,rfl⟩;have ag:=hz.1;obtain⟨z1,z2,z3,z4,z5,z6,rfl⟩:=ag.agg;simp only[go_sem,zE,zA,zL,f5,A];rw[J];refine c_ ⟨⟨_,rfl,?_⟩,rfl⟩;exact ag
  ·simp only[go_sem,zE,reduceCtorEq,f0,f3,f5,f14,f15,f16,dEf aa,dC D (by omega)];exact⟨q2 (dEf aa),_,rfl,A⟩
 ·rintro fr af _ ⟨G,f0,f3,⟨c5,f5,A⟩,f14,f15,f16,rfl,rfl⟩;rw[lTl] at G;simp only[go_sem,zE,f3,f15,f16,dF (nLi _),fI];intro _;refine dj ln.1.length (λk fr st' ds=>((ln.1.take k).any λi=>lR ((W[i]?).getD fm0))=false/\fr 0=(spI ca tw xw m)/\(∃c,fr 5=.box c/\c.length=4) /\
   fr 38=.iv (.sl t1 (dM ln.1))/\fr 39=ln.1.length/\fr 40=(k:Int)/\st'=af/\ds=[]) ?_ ?_ ?_
  ·simp only[go_sem,zE,reduceCtorEq];exact⟨rfl,f0,⟨_,f5,A⟩,rfl⟩
  ·rintro k fr st _ D ⟨O,f0,⟨c5,f5,A⟩,f38,f39,f40,rfl,rfl⟩;obtain⟨a,ha⟩:=dB D;obtain⟨g,hg⟩:=E.1.get (lMg ha);have ak:=(lGs hg).1;obtain⟨y,U,hy⟩:=ai.get hg;obtain⟨y1,y2,y3,y4,y5,y6,rfl⟩:=hy.agg;obtain rfl:y1=g.op:=FP hy;have aj:(ln.1.take (k+1)).any (λi=>lR ((W[i]?).getD fm0))=decide (g.op=2):=by
    rw[dE ha,List.any_append,O,List.any_cons,List.any_nil,hg,<- F1 g];simp
   by_cases h2:g.op=2
   ·have J:axW W ln=some (2,.mk 2 noN [] []):=by
     unfold axW;rw[G];simp only;rw[cV (gw.2 ⟨a,lMg ha,by rw[hg];simp[F1,h2]⟩)]
    simp only[go_sem,zE,zA,zL,reduceCtorEq,f0,f5,f38,f39,f40,lt_i D,dz e1,iNn,kL ha,fits,U,dz ae,dEt (show (g.op:Int)=2 by omega),A];rw[J];refine c_ ⟨⟨_,rfl,?_⟩,rfl⟩;simp only[IsFm,eh];exact⟨_,_,_,_,rfl,by omega,.inl rfl,by simp only[IsTms],.inl rfl,by simp only[IsFms]⟩
   ·simp only[go_sem,zE,reduceCtorEq,f0,f5,f38,f39,f40,lt_i D,dz e1,iNn,kL ha,fits,U,dz ae,dEf (show ¬ (g.op:Int)=2 by omega),dC D (by omega)];exact⟨by rw[aj];exact dEf h2,_,rfl,A⟩
  ·rintro fr st _ ⟨O,f0,⟨c5,f5,A⟩,f38,f39,f40,rfl,rfl⟩;rw[lTl] at O;have J:axW W ln=none:=by
    unfold axW;rw[G];simp only;rw[a_ (by rw[O];simp)]
   simp only[go_sem,zE,zA,zL,f5,f39,f40,dF (nLi _),A];rw[J];refine c_ ⟨⟨_,rfl,?_⟩,rfl⟩;simp only[IsFm,fM,fm0];exact⟨_,_,_,_,rfl,by omega,.inl rfl,by simp only[IsTms],.inl rfl,by simp only[IsFms]⟩
def b3 (p:Nat×Bool):List UInt8:=[UInt8.ofNat (p.1 / 65536),UInt8.ofNat (p.1 / 256),UInt8.ofNat p.1]
def keyL (ln:Ln):List UInt8:=(plcs ln).flatMap b3++[UInt8.ofNat ln.1.length]
def keyB (ln:Ln):ByteArray:=⟨(keyL ln).toArray⟩
def byI (l:List UInt8):List IV:=l.map λu=>.raw (.int .u8 (u.toNat:Int))
def F4:∀l:List UInt8,kQ (byI l)=some l
 | []=>rfl
 | u::l=>by
  show kQ (.raw (.int .u8 (u.toNat:Int))::byI l)=_;rw[Ib,F4 l];rfl
def kw (k:Nat):IntKind.u8.wrap ((k:Nat):Int)=((UInt8.ofNat k).toNat:Int):=by
 simp[IntKind.wrap,IntKind.bits,IntKind.signed]
def ks8 (k:Nat):Int.fdiv (k:Int) (2 ^ min (Int.toNat 8) 64)=((k / 256:Nat):Int):=by
 rw[show (2:Int) ^ min (Int.toNat 8) 64=((256:Nat):Int) from rfl];exact (Int.ofNat_fdiv k 256).symm
def ks16 (k:Nat):Int.fdiv (k:Int) (2 ^ min (Int.toNat 16) 64)=((k / 65536:Nat):Int):=by
 rw[show (2:Int) ^ min (Int.toNat 16) 64=((65536:Nat):Int) from rfl];exact (Int.ofNat_fdiv k 65536).symm
def Om (a b c:Operand):kB 3 [(0,a),(1,b),(2,c)]=true:=rfl
def On (ln:Ln)(x:IV)(O:IsLn ln x)(hl:ln.1.length<=1000000/\ln.2.length<=1000000)(st:ISt) :
  ICall prog gl 123 [x] st (λr st'=>r=(keyB ln:ByteArray)/\st'=st):=by
 have U:=λst=>FX gl ln x O st;have hp1:=λI=>FY gl ln x O ⟨by omega,by omega⟩ I;obtain⟨t1,t2,rfl,e1,e2⟩:=O;have G:=λn:Int=>l7 prog 3 5 l_ B_ .i64 n;refine ICall.intro (c:=cf prog gl [3] []) func123 rfl (by show _<=30;simp) (by kernel_rfl) ?_;simp only[go_sem,zE];refine λb=>d_ λhb=>?_;refine (U _).q ?_;simp only[go_sem,reduceCtorEq];refine RangeC.intro (plX ln) (plcs ln).length (λk st'=>∃t,st' b=some (.box [.sl t (byI (((plcs ln).take k).flatMap b3))])/\own st' t (3*k) 1 st/\subSt st st') (λ_ _=>False) (by simp only[go_sem]) ?_ ⟨_,b_ _ _ _,own.nil _ _ _ _ _,ff hb⟩ ?_ (hp1 _) ?_ (λ_ _ _ h=>h.elim)
 ·rintro k a ⟨p,_,rfl⟩;rfl
 ·rintro k _ E ⟨⟨i,r⟩,hp,rfl⟩ ⟨t,h1,h2,h3⟩;simp only[go_sem,zE,zA,zM,zL,fits,h1,G,show ((0:Int)<=8)=True from eQ (by omega),show ((0:Int)<=16)=True from eQ (by omega),ks8,ks16,kw,Om];have an:k<ln.1.length+ln.2.length:=by rw[<- sh];exact (lGs hp).1
  have A:(byI (((plcs ln).take k).flatMap b3)).length=3*k:=by
   rw[byI,dY];have:∀l:List (Nat×Bool),(l.flatMap b3).length=3*l.length:=λl=>by
    induction l with
    | nil=>rfl
    | cons a l J=>rw[eC,lLa,J,dV];show 3+_=_;omega
   rw[this,dQ,sh];omega
  refine uz (m:=3) h2 A rfl h3 rfl (by simp[fits,IV.one]) (by simp only;omega) (by omega) λt' D h4 h5 h6=>?_;have h7:D b=some (.box [.sl t (byI (((plcs ln).take k).flatMap b3))]):=h6 b _ h1 λn h=>by cases h
  simp only[go_sem,zE,zL,h7];refine⟨t',?_,?_,eA h5 hb⟩
  ·rw[dE hp,jA];simp only[byI,eJ];rfl
  ·rw[show 3*(k+1)=3*k+3 by omega];exact h4.mono λg hg _=>by
    rw[dw λh=>by rw[h,h7] at hg;cases hg];exact hg
 ·rintro E rr ⟨t,h1,h2,h3⟩;rw[lTl] at h1;simp only[go_sem,zE,zA,zM,zL,h1,fits,fI,G,kw,dW];intro _;have A:(byI ((plcs ln).flatMap b3)).length=3*(plcs ln).length:=by
   rw[byI,dY];have:∀l:List (Nat×Bool),(l.flatMap b3).length=3*l.length:=λl=>by
    induction l with
    | nil=>rfl
    | cons a l J=>rw[eC,lLa,J,dV];show 3+_=_;omega
   exact this _
  have am:=sh ln;refine uz (m:=1) h2 A rfl h3 rfl (by simp[fits,IV.one]) (by simp only;omega) (by omega) λt' D h4 h5 h6=>?_;have ac:kQ (byI ((plcs ln).flatMap b3)++[.raw (.int .u8 ((UInt8.ofNat ln.1.length).toNat:Int))])=some (keyL ln):=by
   have:=F4 (keyL ln)
   rwa [keyL,byI,eJ] at this
  have aa:¬ keyL ln=[]:=by unfold keyL;simp
  have al:(keyL ln).toArray.size<=281474976710656:=by
   unfold keyL;rw[kn,lLa];rw[byI,dY] at A;rw[A];simp only[dV,dU];omega
  simp only[go_sem,ac,aa,Option.bind_some];exact ez h5 ⟨rfl,rfl⟩
def Oo {a b:Ln}(ha:(∀i∈a.1,i<16777216)/\∀i∈a.2,i<16777216)(hb:(∀i∈b.1,i<16777216)/\∀i∈b.2,i<16777216)(hl:a.1.length<256/\b.1.length<256)(h:keyB a=keyB b):a=b:=by
 have h1:keyL a=keyL b:=by
  have:=dX (λx:ByteArray=>x.data.toList) h;simpa[keyB] using this
 unfold keyL at h1;have h2:=List.append_inj_left' h1 rfl;have h3:=List.append_inj_right' h1 rfl;have A:∀n,n<16777216->(UInt8.ofNat (n / 65536)).toNat*65536+(UInt8.ofNat (n / 256)).toNat*256+(UInt8.ofNat n).toNat=n:=λn hn=>by
  simp only[i_];omega
 have key:∀(l m:List (Nat×Bool)),(∀p∈l,p.1<16777216)->(∀p∈m,p.1<16777216)->l.flatMap b3=m.flatMap b3->l.map (·.1)=m.map (·.1):=λl=>by
  induction l with
  | nil =>
   intro m _ _ h;cases m with
   | nil=>rfl
   | cons p m=>simp[b3] at h
  | cons p l ih =>
   intro m hl E h;cases m with
   | nil=>simp[b3] at h
   | cons q m =>
    rw[eC,eC] at h;simp only[b3,ed,eY,List.cons.injEq] at h;obtain⟨e1,e2,e3,h⟩:=h;have U:=A p.1 (hl p (.head _));have n2:=A q.1 (E q (.head _));rw[e1,e2,e3,n2] at U;rw[ec,ec,ih m (λx G=>hl x (.tail _ G)) (λx G=>E x (.tail _ G)) h,U]
 have D:∀c:Ln,(∀i∈c.1,i<16777216)/\(∀i∈c.2,i<16777216)->∀p∈plcs c,p.1<16777216:=λc hc p hp=>by
  rcases dR.1 hp with hp|hp
  ·obtain⟨i,J,rfl⟩:=dH.1 hp;exact hc.1 i J
  ·obtain⟨i,J,rfl⟩:=dH.1 hp;exact hc.2 i J
 have O:=key (plcs a) (plcs b) (D a ha) (D b hb) h2;have E:∀c:Ln,(plcs c).map (·.1)=c.1++c.2:=λc=>by simp[plcs,Function.comp_def]
 rw[E,E] at O;have h5:a.1.length=b.1.length:=by
  have:=dX UInt8.toNat (List.cons.inj h3).1;simp only[i_] at this;omega
 exact Prod.ext (List.append_inj_left O h5) (List.append_inj_right O h5)
end Go.Proofs.Tryz
namespace Go.Iv
open Go
def ICallV.sub {P:Program}{gl:Nat->Option IV}{f:IV}{args:List IV}{st A:ISt}{K:IV->ISt->Prop}(h:ICallV P gl f args A K)(hs:subSt A st):ICallV P gl f args st K:=by
 intro B X fv rs J hst O hv;obtain⟨E,D⟩:=J.sub (st:=A) (by rw[hst];exact hs);refine (h B { X with st:=A } fv rs E rfl (D.v O) ⟨hv.1,λi r c G hc=>D.v (hv.2 i r c G hc)⟩).mono λv w' U=>?_;obtain⟨X',x,h1,h2,h3,h4,h5⟩:=U;exact⟨X',x,h1,h2,D.trans h3,h4,h5⟩
def YieldL.none {P:Program}{gl:Nat->Option IV}{y:IV}{A:Nat->List IV->Prop}{I:Nat->ISt->Prop}{S:ISt->Prop}(h:YieldL P gl y (pA A) I S){k:Nat}{a:List IV}{stu:ISt}(D:A k a)(G:I k stu) :
  ICallV P gl y a stu λr st'=>(r=true/\I (k+1) st')\/(r=false/\S st') :=
 (h k a (λ_=>Option.none) stu ⟨D,rfl⟩ (λ_ J=>absurd rfl J) G).mono λr st' E=>E.imp (λ⟨h1,s1,h2,_,O⟩=>⟨h1,O▸h2⟩) id
end Go.Iv
namespace Go.Proofs.Tryz
open Go Go.Iv
set_option maxRecDepth 4000
variable (gl:Nat->Option IV)
abbrev Mv:=Nat×Nat×List Ln
def mvN (j:Bool)(ln:Ln)(i:Nat)(t:Tn):Option Mv:=if t.2.any (tooN j ln)=true then none else some (t.1,i,t.2.map (j9 j ln))
noncomputable def iR (W:List Fm)(j:Bool)(ln:Ln)(p:Nat×Bool):List (Option Mv):=match W[p.1]? with
 | some f=>(gd W j f p.2).map (mvN j ln p.1)
 | none=>[]
noncomputable def mvsN (W:List Fm)(j:Bool)(ln:Ln):List (Option Mv):=(plcs ln).flatMap (iR W j ln)
def cutO {α:Type}:List (Option α)->List (Option α)
 | []=>[]
 | none::_=>[none]
 | some a::l=>some a::cutO l
def va {α:Type}:∀ {l m:List (Option α)},(∀o∈l,o≠none)->cutO (l++m)=l++cutO m
 | [],m,_=>rfl
 | none::l,m,h=>absurd rfl (h none (.head _))
 | some a::l,m,h=>by simp only[ed,cutO,va λo A=>h o (.tail _ A)]
def Oq {α:Type}{l:List (Option α)}(h:∀o∈l,o≠none):cutO l=l:=by
 have:=va (m:=[]) h;simpa[cutO] using this
def Ot {α:Type}{l m:List (Option α)}{o:Option α}(h:∀o∈l,o≠none):(cutO (l++o::m))[l.length]?=some o:=by
 rw[va h,fD (dJ _),fS];cases o<;>rfl
def Ou {α:Type}{l m:List (Option α)}(h:∀o∈l,o≠none):(cutO (l++none::m)).length=l.length+1:=by
 rw[va h,lLa];rfl
def IsMv (v:Mv)(x:IV):Prop:=∃t ys,x=.agg [.raw (.int .u8 (v.1:Int)),(v.2.1:Int),.sl t ys]/\okEs t 2/\AllR IsLn v.2.2 ys
def mvA:Option Mv->List IV->Prop
 | some v,a=>∃x,a=[x,.raw (.int .i64 0)]/\IsMv v x
 | none,a=>a=[.agg [.raw (.int .u8 0),(0:Int),()],.raw (.int .i64 5)]
noncomputable def mvX (W:List Fm)(j:Bool)(ln:Ln):Nat->List IV->Prop:=λk a=>∃o,(cutO (mvsN W j ln))[k]?=some o/\mvA o a
def SpSt (ca m:Nat)(W:List Fm)(st:ISt):Prop:=∃es,st m=some (.map .pl es)/\CacheOk ca W es
def SpUp (ca m:Nat)(W:List Fm):Nat->List (Value×IV)->List (Value×IV)->Prop:=λD es A=>D=m/\(CacheOk ca W es->CacheOk ca W A)
def ql (W:List Fm)(l:List Fm):(lS W l).length<=l.length:=by
 have:=r_ (l.map (noW W))
 rwa [dY] at this
def F5 (G:Gl gl)(T:Gt gl)(ca m:Nat)(W:List Fm)(hS:SpOk ca W)(bs:W.length<=200000)(tw:Tag)(xw:List IV)(aZ:okEs tw 4)(aV:IsFms W xw)(ln:Ln)(A:LnOk W ln)(x:IV)(hx:IsLn ln x) :
  IterU prog gl 155 [] [.cptr x,.cptr (spI ca tw xw m)] (pA (mvX W (calJ ca) ln)) (cutO (mvsN W (calJ ca) ln)).length (λ_=>SpSt ca m W) (SpUp ca m W):=by
 have bn:=nV A.1.1 A.1.2;have bm:=nV A.2.1 A.2.2;have a7:=λst=>FX gl ln x hx st;have hp1:=λI=>FY gl ln x hx ⟨by omega,by omega⟩ I;obtain⟨t1,t2,rfl,e1,e2⟩:=hx;rintro y I' S' st ⟨f,fi,aE,rfl,bo,ao⟩ hI aX hy h0;have a1:∀ {k stu},I' k stu->SpSt ca m W stu:=λ{k stu} h=>by
  obtain⟨s0,h1,es,h2,h3⟩:=hI k stu h;exact⟨es,h1 _ _ h2,h3⟩
 change ICall prog gl _ [.fn f fi aE,_,_] st _;refine ICall.intro (c:=cf prog gl [] [] [3]) func155 rfl (by show _<=59;simp) (by kernel_rfl) ?_;simp only[go_sem,zE,zA,fits];refine (a7 _).q ?_;simp only[go_sem,reduceCtorEq]
 let pre:Nat->List (Option Mv):=λk=>((plcs ln).take k).flatMap (iR W (calJ ca) ln)
 refine RangeC.intro (plX ln) (plcs ln).length (λk st'=>I' (pre k).length st'/\∀o∈pre k,o≠none) (λe st'=>e=.ret/\(S' st'\/I' (cutO (mvsN W (calJ ca) ln)).length st')) (by simp only[go_sem]) ?_ ⟨h0,λo J=>by cases J⟩ ?_ (hp1 _) ?_ ?_
 ·rintro k a ⟨p,_,rfl⟩;rfl
 ·rintro k _ af ⟨⟨i,r⟩,hp,rfl⟩ ⟨al,aj⟩;obtain⟨es,hm,bc⟩:=a1 al;have ba:i<W.length:=by
   have:=lMg hp;unfold plcs at this;rcases dR.1 this with h|h
   ·obtain⟨i',aD,he⟩:=dH.1 h;cases he;exact A.1.2 _ aD
   ·obtain⟨i',aD,he⟩:=dH.1 h;cases he;exact A.2.2 _ aD
  obtain⟨g,hg⟩:=dB ba;have ax:=Oa gl G T ca m W hS tw xw aZ aV i r g hg es bc af hm;simp only[go_sem,zE,zA,zL,fits];refine ax.mono ?_;rintro _ _ ⟨⟨t,ys,rfl,ht,hys⟩,be,aK,rfl⟩;have aI:=aX (pre k).length af m .pl es be al hm ⟨rfl,λ_=>aK⟩;have aL:iR W (calJ ca) ln (i,r)=(gd W (calJ ca) g r).map (mvN (calJ ca) ln i):=by unfold iR;rw[hg]
  have ai:∀q tt,(gd W (calJ ca) g r)[q]?=some tt->∃rest,mvsN W (calJ ca) ln=(pre k++((gd W (calJ ca) g r).take q).map (mvN (calJ ca) ln i))++mvN (calJ ca) ln i tt::rest:=λq tt hq=>by
   refine⟨((gd W (calJ ca) g r).drop (q+1)).map (mvN (calJ ca) ln i)++((plcs ln).drop (k+1)).flatMap (iR W (calJ ca) ln),?_⟩;have h1:plcs ln=(plcs ln).take k++(i,r)::(plcs ln).drop (k+1):=by
    obtain⟨h2,h3⟩:=lGs hp
    conv=>lhs;rw[<- el k (plcs ln),fa h2,h3]
   have h4:gd W (calJ ca) g r=(gd W (calJ ca) g r).take q++tt::(gd W (calJ ca) g r).drop (q+1):=by
    obtain⟨h2,h3⟩:=lGs hq
    conv=>lhs;rw[<- el q (gd W (calJ ca) g r),fa h2,h3]
   unfold mvsN
   conv=>lhs;rw[h1]
   rw[jA,eC,aL]
   conv=>lhs;rw[h4]
   simp only[eJ,ec,en,ed,pre]
  have bg:(gd W (calJ ca) g r).length<=1000:=by
   have:=uX (ca:=ca) (hS.pf (lMg hg)) r;unfold gd;rw[dY,<- dY (f:=(·.1)),this];unfold jk
   repeat' split
   all_goals simp
  simp only[go_sem];intro _;rw[hys.1];refine dj (gd W (calJ ca) g r).length (λq fr st' ds=>I' ((pre k).length+q) st'/\(∀o∈((gd W (calJ ca) g r).take q).map (mvN (calJ ca) ln i),o≠none)/\fr 1=.iv (.cptr (.agg [.sl t1 (dM ln.1),.sl t2 (dM ln.2)]))/\fr 2=.iv (.cptr (spI ca tw xw m))/\fr 3=.iv (.cptr (.fn f fi aE)) /\
   fr 4=.box [(i:Int),r]/\fr 17=.iv (.sl t ys)/\fr 18=.iv (.raw (.int .i64 (gd W (calJ ca) g r).length))/\fr 19=(q:Int)/\ds=[]) ?_ ?_ ?_
  ·simp only[go_sem,zE];exact⟨aI,λ_ h=>h.elim,rfl⟩
  ·rintro q fr av _ aC ⟨ak,ac,f1,f2,f3,f4,f17,f18,f19,rfl⟩;obtain⟨tt,ah⟩:=dB aC;obtain⟨rest,aa⟩:=ai q tt ah;obtain⟨z,aS,t3,zs,rfl,e3,hzs⟩:=hys.2 q tt ah;obtain⟨t0,aG,rfl⟩:=dH.1 (lMg ah);have aq:∀o∈pre k++((gd W (calJ ca) g r).take q).map (mvN (calJ ca) ln i),o≠none:=λo J=>(dR.1 J).elim (aj o) (ac o);have aN:(pre k++((gd W (calJ ca) g r).take q).map (mvN (calJ ca) ln i)).length=(pre k).length+q:=by rw[lLa,dY,dQ];omega
   have J:=Ot (l:=pre k++((gd W (calJ ca) g r).take q).map (mvN (calJ ca) ln i)) (m:=rest) (o:=mvN (calJ ca) ln i (t0.1,t0.2.map (exW W))) aq;rw[<- aa,aN] at J;have hp2:=zw aG;have aA:=FN aG;simp only[go_sem,zE,zB,zA,zL,f4,f17,f18,f19,lt_i aC,dz ht,iNn,aS,fits];intro _;rw[hzs.1];refine dj (t0.2.map (exW W)).length (λv fr st' ds=>(∃t4 us,fr 7=.box [.raw (.int .u8 (t0.1:Int)),(i:Int),.sl t4 us]/\AllR IsLn (((t0.2.map (exW W)).take v).map (j9 (calJ ca) ln)) us/\own st' t4 v 2 av/\subSt av st')/\((t0.2.map (exW W)).take v).any (tooN (calJ ca) ln)=false /\
    fr 1=.iv (.cptr (.agg [.sl t1 (dM ln.1),.sl t2 (dM ln.2)]))/\fr 2=.iv (.cptr (spI ca tw xw m))/\fr 3=.iv (.cptr (.fn f fi aE)) /\
    fr 4=.box [(i:Int),r]/\fr 17=.iv (.sl t ys)/\fr 18=.iv (.raw (.int .i64 (gd W (calJ ca) g r).length))/\fr 19=(q:Int)/\fr 29=.iv (.sl t3 zs)/\fr 30=.iv (.raw (.int .i64 (t0.2.map (exW W)).length))/\fr 31=(v:Int)/\ds=[]) ?_ ?_ ?_
   ·simp only[go_sem,zE];exact⟨⟨_,_,rfl,AllR.nil,own.nil _ _ _ _ _,subSt.refl _⟩,rfl,f1,f2,f3,f4,f17,f18,f19,rfl⟩
   ·rintro v fr aF _ hv ⟨⟨t4,us,f7,O,ab,D⟩,E,f1,f2,f3,f4,f17,f18,f19,f29,f30,f31,rfl⟩;obtain⟨e,he⟩:=dB hv;obtain⟨ze,aT,aJ⟩:=hzs.2 v e he;obtain⟨p0,a8,rfl⟩:=dH.1 (lMg he);have br:=ql W p0.1;have bq:=ql W p0.2;have bp:=aA p0 a8;have az:=λst=>Oh gl T ca m tw xw ln _ ⟨t1,t2,rfl,e1,e2⟩ (exW W p0) ze aJ ⟨by omega,by omega,by show (lS W p0.1).length<=_;omega,by show (lS W p0.2).length<=_;omega,by show p0.1.length<=_;omega,by show p0.2.length<=_;omega⟩ st;obtain⟨t5,t6,rfl,e5,e6⟩:=aJ;simp only[go_sem,zE,zB,zA,zL,f1,f2,f29,f30,f31,lt_i hv,dz e3,iNn,aT,fits];refine (az _).mono ?_;rintro _ aF ⟨⟨b1,b2,b3,b4,rfl,aU⟩,rfl⟩;cases U:tooN (calJ ca) ln (exW W p0) with
    | true =>
     have ae:mvN (calJ ca) ln i (t0.1,t0.2.map (exW W))=none:=by
      unfold mvN;rw[cV (gw.2 ⟨_,lMg he,U⟩)]
     rw[ae] at J;have an:=Ou (m:=rest) aq;rw[<- ae,<- aa,aN] at an;have aw:=hy.none (k:=(pre k).length+q) (a:=[.agg [.raw (.int .u8 0),(0:Int),()],(5:Int)]) ⟨none,J,rfl⟩ ak;simp only[go_sem,zE,zA,zL,f3,fits];refine lF ao ((aw.sub D).mono ?_);rintro _ st4 (⟨rfl,h⟩|⟨rfl,h⟩)
     ·simp only[go_sem];exact .inr (an▸h)
     ·simp only[go_sem];exact .inl h
    | false =>
     have A:=aU U;simp only[go_sem,zE,zA,zM,zL,f7,fits,dW];have aY:us.length=v:=by rw[O.1,dY,dQ];omega
     refine gQ ab aY D rfl (by simp[fits,IV.one]) (by simp only;rw[dY] at hv;omega) (by rw[dY] at hv;omega) λaQ st4 aB ay _=>?_;simp only[go_sem,zE,zA,zL,f1,f2,f3,f4,f7,f17,f18,f19,f29,f30,f31,dC hv (by rw[dY];omega)];refine⟨⟨aQ,_,rfl,?_,aB,ay⟩,?_⟩
     ·rw[dE he,eJ];exact O.snoc A
     ·rw[dE he,List.any_append,E];simp[U]
   ·rintro fr aF _ ⟨⟨t4,us,f7,O,ab,D⟩,E,f1,f2,f3,f4,f17,f18,f19,f29,f30,f31,rfl⟩;rw[lTl] at O E;have ae:mvN (calJ ca) ln i (t0.1,t0.2.map (exW W))=some (t0.1,i,(t0.2.map (exW W)).map (j9 (calJ ca) ln)):=by
     unfold mvN;rw[a_ (by rw[E];simp)]
    have aw:=hy.none (k:=(pre k).length+q) (a:=[.agg [.raw (.int .u8 (t0.1:Int)),(i:Int),.sl t4 us],(0:Int)]) ⟨_,J,by rw[ae];exact⟨_,rfl,t4,us,rfl,ab.es,O⟩⟩ ak;simp only[go_sem,zE,zA,zL,f3,f7,f30,f31,dF (nLi _),fits];refine lF ao ((aw.sub D).mono ?_);rintro _ st4 (⟨rfl,h⟩|⟨rfl,h⟩)
    ·simp only[go_sem,zE,f1,f2,f3,f4,f17,f18,f19,dC aC (by omega)];refine⟨h,λo aH=>?_⟩;rw[dE ah,eJ] at aH;rcases dR.1 aH with h1|h1
     ·exact ac o h1
     ·rw[dZ.1 h1];show mvN (calJ ca) ln i (t0.1,t0.2.map (exW W))≠none;rw[ae];simp
    ·simp only[go_sem];exact .inl h
  ·rintro fr av _ ⟨ak,ac,f1,f2,f3,f4,f17,f18,f19,rfl⟩;rw[lTl] at ac;have a6:pre (k+1)=pre k++(gd W (calJ ca) g r).map (mvN (calJ ca) ln i):=by
    simp only[pre];rw[dE hp,jA,eC,List.flatMap_nil,eo,aL]
   simp only[go_sem,f18,f19,dF (nLi _)];rw[a6];refine⟨by rw[lLa,dY];exact ak,λo J=>(dR.1 J).elim (aj o) (ac o)⟩
 ·rintro af rr ⟨al,aj⟩;have aM:cutO (mvsN W (calJ ca) ln)=mvsN W (calJ ca) ln:=Oq λo J=>aj o (by simp only[pre];rw[lTl];exact J);have aA:(pre (plcs ln).length).length=(mvsN W (calJ ca) ln).length:=by simp only[pre];rw[lTl];rfl
  simp only[go_sem];refine c_ (.inl ?_);rw[aM,<- aA];exact al
 ·rintro e af rr ⟨rfl,h⟩;simp only[go_sem];exact c_ h.symm
end Go.Proofs.Tryz
namespace Go.Proofs.Tryz
open Go Go.Iv
abbrev Lk:=Nat×Nat×List Nat
abbrev Us:=Nat×Nat
def lkAt (links:List (List Lk))(u:Us):List Nat:=(((links[u.1]?).getD [])[u.2]?).elim [] λk=>k.2.2
def htG (cl:Nat->Prop)(links:List (List Lk)):Nat->Nat->Prop
 | 0,_=>False
 | k+1,i=>cl i\/∃lk∈(links[i]?).getD [],∀p∈lk.2.2,htG cl links k p
def qm {cl:Nat->Prop}{links:List (List Lk)}:∀ {k m i:Nat},htG cl links k i->k<=m->htG cl links m i
 | 0,_,_,h,_=>h.elim
 | k+1,0,_,_,A=>absurd A (by omega)
 | k+1,m+1,i,h,A=>h.imp id λ⟨lk,h1,h2⟩=>⟨lk,h1,λp hp=>qm (h2 p hp) (by omega)⟩
def LstG (cl:Nat->Prop)(links:List (List Lk))(i h:Nat):Prop:=(0<h->htG cl links h i)/\∀k,htG cl links k i->0<h/\h<=k
def decW (ws:List (List Nat))(u:Us):List (List Nat):=ws.modify u.1 λl=>l.modify u.2 λx=>(x+255)%256
def atW (ws:List (List Nat))(u:Us):Option Nat:=((ws[u.1]?).getD [])[u.2]?
def qn (ws:List (List Nat))(u v:Us):atW (decW ws u) v=if u=v then (atW ws v).map λx=>(x+255)%256 else atW ws v:=by
 unfold atW decW;rw[List.getElem?_modify];obtain⟨a,b⟩:=u;obtain⟨c,d⟩:=v;simp only[Prod.mk.injEq];by_cases h1:a=c
 ·subst h1;cases A:ws[a]? with
  | none=>simp
  | some l =>
   simp only[dD,eh,true_and];by_cases h2:b=d
   ·subst h2;simp
   ·simp[h2]
 ·simp[h1]
abbrev Ss:=List Nat×List (List Nat)×List Nat
def gq (H:Nat)(S:Ss)(u:Us):Ss :=
 if atW (decW S.2.1 u) u=some 0/\S.1[u.1]?=some 0 then (S.1.set u.1 H,decW S.2.1 u,S.2.2++[u.1]) else (S.1,decW S.2.1 u,S.2.2)
def usAt (us:List (List Us))(p:Nat):List Us:=(us[p]?).getD []
inductive Sett (us:List (List Us)):Nat->List Nat->List (List Nat)->List Nat->List Nat->Prop
 | done (H:Nat) (hs:List Nat) (ws:List (List Nat)):Sett us H hs ws [] hs
 | more {H:Nat} {hs r now:List Nat} {ws:List (List Nat)} (hn:now≠[])
   (h:Sett us (H+1) ((now.flatMap (usAt us)).foldl (gq H) (hs,ws,[])).1 ((now.flatMap (usAt us)).foldl (gq H) (hs,ws,[])).2.1 ((now.flatMap (usAt us)).foldl (gq H) (hs,ws,[])).2.2 r):Sett us H hs ws now r
section
variable (H:Nat)(h0:List Nat)(rem:Us->Nat)
structure Part (U1:List Us)(S:Ss):Prop where
 len:S.1.length=h0.length
 ws:∀u x,atW S.2.1 u=some x->x+U1.count u=rem u
 new:∀i,S.1[i]?=some H↔h0[i]?=some 0/\∃k,(i,k)∈U1/\atW S.2.1 (i,k)=some 0
 old:∀i x,x≠H->(S.1[i]?=some x↔h0[i]?=some x/\¬ (x=0/\∃k,(i,k)∈U1/\atW S.2.1 (i,k)=some 0))
 nx:∀i,i∈S.2.2↔S.1[i]?=some H
 nd:S.2.2.Nodup
variable {H h0 rem}
def Part.step {U1:List Us}{S:Ss}{u:Us}(D:Part H h0 rem U1 S)(hH:0<H)(az:∀i:Nat,h0[i]?≠some H)(ag:∀v,rem v<=2)(hc:(U1++[u]).count u<=rem u)(hu:∃x,atW S.2.1 u=some x):Part H h0 rem (U1++[u]) (gq H S u):=by
 obtain⟨x,hx⟩:=hu;have au:=D.ws u x hx;have aA:(U1++[u]).count u=U1.count u+1:=by simp
 have aw:0<x:=by omega
 have av:=ag u;have hd:atW (decW S.2.1 u) u=some (x-1):=by
  rw[qn,cV rfl,hx,eK];congr 1;omega
 have ab:∀v,u≠v->atW (decW S.2.1 u) v=atW S.2.1 v:=λv h=>by rw[qn,a_ h]
 -- an aj no ah
 have hz:∀i,(∃k,(i,k)∈U1++[u]/\atW (decW S.2.1 u) (i,k)=some 0)↔(∃k,(i,k)∈U1/\atW S.2.1 (i,k)=some 0)\/(i=u.1/\x=1):=by
  intro i;constructor
  ·rintro⟨k,h1,h2⟩;by_cases O:u=(i,k)
   ·subst O;rw[hd] at h2;exact .inr ⟨rfl,by simp at h2;omega⟩
   ·rw[ab _ O] at h2;rcases dR.1 h1 with h1|h1
    ·exact .inl ⟨k,h1,h2⟩
    ·exact absurd (dZ.1 h1).symm O
  ·rintro (⟨k,h1,h2⟩|⟨rfl,rfl⟩)
   ·refine⟨k,iX _ h1,?_⟩;by_cases O:u=(i,k)
    ·subst O;rw[hx] at h2;simp at h2;omega
    ·rw[ab _ O];exact h2
   ·exact⟨u.2,jD _ (dZ.2 rfl),hd⟩
 have ae:∀v y,atW (decW S.2.1 u) v=some y->y+(U1++[u]).count v=rem v:=λv y U=>by
  by_cases O:u=v
  ·subst O;rw[hd] at U;simp at U;omega
  ·rw[ab _ O] at U;have:=D.ws v y U;rw[jy,show[u].count v=0 by simp[O]];exact this
 have ac:(0:Nat)≠H:=by omega
 unfold gq;by_cases A:atW (decW S.2.1 u) u=some 0/\S.1[u.1]?=some 0
 ·rw[cV A];have aa:x=1:=by rw[hd] at A;simp at A;omega
  obtain⟨af,ay⟩:=(D.old u.1 0 ac).1 A.2;have am:u.1<S.1.length:=(lGs A.2).1;have J:∀i,(S.1.set u.1 H)[i]?=if u.1=i then some H else S.1[i]?:=λi=>by
   rw[gx];simp only[am,dD]
  refine⟨by simp[D.len],ae,λi=>?_,λi y U=>?_,λi=>?_,?_⟩
  ·simp only[J,hz];by_cases G:u.1=i
   ·subst G;simp[af,aa]
   ·rw[a_ G,D.new i];constructor
    ·rintro⟨a,b⟩;exact⟨a,.inl b⟩
    ·rintro⟨a,b|⟨b,_⟩⟩
     ·exact⟨a,b⟩
     ·exact absurd b.symm G
  ·simp only[J,hz];by_cases G:u.1=i
   ·subst G;rw[cV rfl];constructor
    ·intro h;exact absurd (eE h).symm U
    ·rintro⟨a,b⟩;rw[af] at a;exact absurd ⟨(eE a).symm,.inr ⟨rfl,aa⟩⟩ b
   ·rw[a_ G,D.old i y U];constructor
    ·rintro⟨a,b⟩;refine⟨a,λ⟨c,d⟩=>b ⟨c,?_⟩⟩;rcases d with d|⟨d,_⟩
     ·exact d
     ·exact absurd d.symm G
    ·rintro⟨a,b⟩;exact⟨a,λ⟨c,d⟩=>b ⟨c,.inl d⟩⟩
  ·simp only[J];rw[dR,dZ,D.nx i];by_cases G:u.1=i
   ·subst G;simp
   ·rw[a_ G];exact⟨λh=>h.elim id λh=>absurd h.symm G,.inl⟩
  ·refine lr.2 ⟨D.nd,hY.2 ⟨by simp,jF⟩,λa ha b hb=>?_⟩;rintro rfl;rw[dZ] at hb;rw[D.nx,hb,A.2] at ha;exact ac (eE ha)
 ·rw[a_ A];have E:∀i,h0[i]?=some 0->i=u.1->x=1->∃k,(i,k)∈U1/\atW S.2.1 (i,k)=some 0:=by
   intro i h0 G aa;subst G;refine jv λal=>A ⟨by rw[hd,aa],?_⟩;exact (D.old u.1 0 ac).2 ⟨h0,λh=>al h.2⟩
  refine⟨D.len,ae,λi=>?_,λi y U=>?_,D.nx,D.nd⟩
  ·simp only[hz];rw[D.new i];constructor
   ·rintro⟨a,b⟩;exact⟨a,.inl b⟩
   ·rintro⟨a,b|⟨b,c⟩⟩
    ·exact⟨a,b⟩
    ·exact⟨a,E i a b c⟩
  ·simp only[hz];rw[D.old i y U];constructor
   ·rintro⟨a,b⟩;refine⟨a,λ⟨c,d⟩=>b ⟨c,?_⟩⟩;rcases d with d|⟨d,e⟩
    ·exact d
    ·exact E i (c▸a) d e
   ·rintro⟨a,b⟩;exact⟨a,λ⟨c,d⟩=>b ⟨c,.inl d⟩⟩
def Part.all (J:0<H)(D:∀i:Nat,h0[i]?≠some H)(A:∀v,rem v<=2):∀(U2 U1:List Us) (S:Ss),Part H h0 rem U1 S->(∀v,(U1++U2).count v<=rem v)->(∀u∈U2,∃x,atW S.2.1 u=some x)->Part H h0 rem (U1++U2) (U2.foldl (gq H) S)
 | [],U1,S,E,_,_=>by simpa using E
 | u::U2,U1,S,E,hc,G=>by
  have h1:=E.step (u:=u) J D A (by have:=hc u;rw[jy,List.count_cons_self] at this;rw[jy];simp;omega) (G u (.head _));have U:∀v,(atW (gq H S u).2.1 v).isSome=(atW S.2.1 v).isSome:=λv=>by
   have:(gq H S u).2.1=decW S.2.1 u:=by unfold gq;split<;>rfl
   rw[this,qn];split<;>simp
  have:=Part.all J D A U2 (U1++[u]) _ h1 (λ(v:Us)=>by simpa[en] using hc v) λv hv=>by
   obtain⟨x,O⟩:=G v (.tail _ hv);exact iw.1 ((U v).trans (by rw[O];rfl))
  simpa[en] using this
end
section
variable (cl:Nat->Prop)(links:List (List Lk))(us:List (List Us))
open Classical in
noncomputable def wt (k:Nat)(u:Us):Nat:=((lkAt links u).filter λp=>decide (¬ htG cl links k p)).length
structure Rnd (H:Nat)(hs:List Nat)(ws:List (List Nat))(now:List Nat):Prop where
 len:hs.length=links.length
 ww:∀u x,atW ws u=some x->x=wt cl links (H-2) u
 wd:∀u,lkAt links u≠[]->∃x,atW ws u=some x
 ht:∀i x,hs[i]?=some x->(0<x->htG cl links x i/\x<=H-1)/\∀k,k<=H-1->htG cl links k i->0<x/\x<=k
 nw:∀i,i∈now↔hs[i]?=some (H-1)
 nd:now.Nodup
variable {cl links us}
def F6 {u:Us}(D:∀p,(usAt us p).count u=(lkAt links u).count p):∀ {A:List Nat},A.Nodup->(A.flatMap (usAt us)).count u=((lkAt links u).filter λp=>decide (p∈A)).length
 | [],_=>by simp[List.filter_eq_nil_iff.2]
 | a::A,h=>by
  have h1:=hY.1 h;rw[eC,jy,D,F6 D h1.2];generalize lkAt links u=l
  induction l with
  | nil=>rfl
  | cons b l E =>
   simp only[kg,List.count_cons,dN];by_cases G:b=a
   ·subst G;simp[h1.1];simp at E;omega
   ·by_cases J:b∈A
    ·simp[G,J];simp at E;omega
    ·simp[G,J];simp at E;omega
open Classical in
def F7 {α:Type}{p q r:α->Bool}(h1:∀x,p x=true↔q x=true\/r x=true)(h2:∀x,¬ (q x=true/\r x=true)):∀l:List α,(l.filter p).length=(l.filter q).length+(l.filter r).length
 | []=>rfl
 | a::l=>by
  have A:=F7 h1 h2 l;have J:=h1 a;have G:=h2 a;simp only[kg];cases hp:p a<;>cases E:q a<;>cases D:r a<;>simp_all<;>omega
def F8 {i:Nat}{lk:Lk}(h:lk∈(links[i]?).getD []):∃k,lkAt links (i,k)=lk.2.2:=by
 obtain⟨k,A⟩:=List.mem_iff_getElem?.1 h;exact⟨k,by simp only[lkAt,A];rfl⟩
def Ov {i k:Nat}(h:lkAt links (i,k)≠[]):∃lk∈(links[i]?).getD [],lk.2.2=lkAt links (i,k):=by
 unfold lkAt at h ⊢;cases A:((links[i]?).getD [])[k]? with
 | none=>simp[A] at h
 | some lk=>exact⟨lk,lMg A,by simp[]⟩
def xK7 {k:Nat}{u:Us}:wt cl links k u=0↔∀p∈lkAt links u,htG cl links k p:=by
 unfold wt;rw[ll,List.filter_eq_nil_iff];simp
def Ow (k:Nat){u:Us}(h:(lkAt links u).length<=2):wt cl links k u<=2:=dT (iU _ _) h
open Classical in
def Rnd.next {H:Nat}{hs:List Nat}{ws:List (List Nat)}{A:List Nat}(J:Rnd cl links H hs ws A)(hH:2<=H)(ay:∀p u,(usAt us p).count u=(lkAt links u).count p)(h2:∀u,(lkAt links u).length<=2)(aC:∀u,∀p∈lkAt links u,p<links.length) :
  Rnd cl links (H+1) ((A.flatMap (usAt us)).foldl (gq H) (hs,ws,[])).1 ((A.flatMap (usAt us)).foldl (gq H) (hs,ws,[])).2.1 ((A.flatMap (usAt us)).foldl (gq H) (hs,ws,[])).2.2:=by
 have aD:∀i,i∈A->htG cl links (H-1) i/\¬ htG cl links (H-2) i:=λi hi=>by
  have h:=J.ht i _ ((J.nw i).1 hi);exact⟨(h.1 (by omega)).1,λh'=>by have:=(h.2 (H-2) (by omega) h').2;omega⟩
 have ao:∀i,i<links.length->htG cl links (H-1) i->¬ htG cl links (H-2) i->i∈A:=λi hi h1 E=>by
  obtain⟨x,G⟩:=dB (l:=hs) (J.len▸hi);have h:=J.ht i x G;obtain⟨h4,h5⟩:=h.2 (H-1) (dJ _) h1;have h6:¬ x<=H-2:=λh6=>E (qm (h.1 h4).1 h6);exact (J.nw i).2 (by rw[G];congr 1;omega)
 have aj:∀i:Nat,hs[i]?≠some H:=λi hi=>by
  have:=((J.ht i H hi).1 (by omega)).2;omega
 have D:∀u,wt cl links (H-2) u=wt cl links (H-1) u+(A.flatMap (usAt us)).count u:=λu=>by
  rw[F6 (λp=>ay p u) J.nd];unfold wt;have e:(lkAt links u).filter (λp=>decide (p∈A))=(lkAt links u).filter λp=>decide (htG cl links (H-1) p/\¬ htG cl links (H-2) p):=by
   refine List.filter_congr λp hp=>?_;rw[eX];exact⟨aD p,λh=>ao p (aC u p hp) h.1 h.2⟩
  rw[e];refine F7 (λp=>?_) (λp=>?_) _
  ·simp only[dTe];constructor
   ·intro h;by_cases h1:htG cl links (H-1) p
    ·exact .inr ⟨h1,h⟩
    ·exact .inl h1
   ·rintro (h|h)
    ·exact λh'=>h (qm h' (by omega))
    ·exact h.2
  ·simp only[dTe];exact λh=>h.1 h.2.1
 have aE:Part H hs (wt cl links (H-2)) [] (hs,ws,[]):=by
  refine⟨rfl,λu x G=>by rw[J.ww u x G];rfl,λi=>?_,λi x G=>?_,λi=>?_,jF⟩
  ·simp[aj i]
  ·simp
  ·simp[aj i]
 have U:∀u∈A.flatMap (usAt us),lkAt links u≠[]:=λu hu h0=>by
  have:=lg.2 hu;have E:=D u;unfold wt at E;rw[h0] at E;simp at E;omega
 have hP:=Part.all (by omega) aj (λv=>Ow _ (h2 v)) (A.flatMap (usAt us)) [] _ aE (λv=>by rw[eY];have:=D v;omega) λu hu=>J.wd u (U u hu);rw[eY] at hP;have O:∀(l:List Us) (S:Ss) v,(atW (l.foldl (gq H) S).2.1 v).isSome=(atW S.2.1 v).isSome:=λl=>by
  induction l with
  | nil=>intro S v;rfl
  | cons u l ih =>
   intro S v;rw[jB,ih];have:(gq H S u).2.1=decW S.2.1 u:=by unfold gq;split<;>rfl
   rw[this,qn];split<;>simp
 -- aL ax aI aH for am
 have ah:∀i k,(i,k)∈A.flatMap (usAt us)->atW ((A.flatMap (usAt us)).foldl (gq H) (hs,ws,[])).2.1 (i,k)=some 0->htG cl links H i:=λi k hu hz=>by
  have E:=hP.ws _ _ hz;have h4:=D (i,k);have h5:=xK7.1 (show wt cl links (H-1) (i,k)=0 by omega);obtain⟨lk,ac,he⟩:=Ov (U _ hu);obtain⟨n,hn⟩:∃n,H=n+1:=⟨H-1,by omega⟩
  rw[hn] at h5 ⊢;exact .inr ⟨lk,ac,λp hp=>h5 p (he▸hp)⟩
 have ak:∀i,htG cl links H i->¬ htG cl links (H-1) i->∃k,(i,k)∈A.flatMap (usAt us)/\atW ((A.flatMap (usAt us)).foldl (gq H) (hs,ws,[])).2.1 (i,k)=some 0:=λi E h4=>by
  obtain⟨n,hn⟩:∃n,H=n+2:=⟨H-2,by omega⟩
  have av:H-1=n+1:=by omega
  have aF:H-2=n:=by omega
  rw[av] at h4;rw[hn] at E;rcases E with E|⟨lk,ac,E⟩
  ·exact absurd (.inl E) h4
  ·obtain⟨k,hk⟩:=F8 ac;have h5:wt cl links (H-1) (i,k)=0:=xK7.2 λp hp=>by rw[hk] at hp;rw[av];exact E p hp
   have h6:wt cl links (H-2) (i,k)≠0:=λh6=>h4 (.inr ⟨lk,ac,λp hp=>by
    have:=xK7.1 h6 p (by rw[hk];exact hp)
    rwa [aF] at this⟩)
   have h7:=D (i,k);have af:(i,k)∈A.flatMap (usAt us):=lg.1 (by omega);refine⟨k,af,?_⟩;obtain⟨x,G⟩:=J.wd _ (U _ af);have h8:=O (A.flatMap (usAt us)) (hs,ws,[]) (i,k);rw[G] at h8;obtain⟨y,hy⟩:=iw.1 h8;have:=hP.ws _ _ hy;rw[hy];congr 1;omega
 refine⟨hP.len.trans J.len,λu x G=>?_,λu hu=>?_,λi x G=>?_,λi=>?_,hP.nd⟩
 ·have:=hP.ws u x G;have:=D u;rw[show H+1-2=H-1 by omega];omega
 ·obtain⟨x,G⟩:=J.wd u hu;have h8:=O (A.flatMap (usAt us)) (hs,ws,[]) u;rw[G] at h8;exact iw.1 h8
 ·rw[show H+1-1=H by omega];by_cases an:x=H
  ·subst an;obtain⟨E,k,h4,h5⟩:=(hP.new i).1 G;refine⟨λ_=>⟨ah i k h4 h5,dJ _⟩,λm hm hh=>⟨by omega,?_⟩⟩;refine jv λaS=>?_;have:=((J.ht i 0 E).2 m (by omega) hh).1;omega
  ·obtain⟨E,h4⟩:=(hP.old i x an).1 G;obtain⟨h5,h6⟩:=J.ht i x E;refine⟨λh0=>⟨(h5 h0).1,by have:=(h5 h0).2;omega⟩,λm hm hh=>?_⟩;by_cases h7:htG cl links (H-1) i
   ·have h8:=h6 (H-1) (dJ _) h7;by_cases aA:m<=H-1
    ·exact h6 m aA hh
    ·exact⟨h8.1,by omega⟩
   ·have aB:m=H:=by
     refine jv λaO=>h7 (qm hh (by omega))
    subst aB;have h9:x=0:=by
     rcases Nat.eq_zero_or_pos x with h|h
     ·exact h
     ·exact absurd (qm (h5 h).1 (h5 h).2) h7
    exact absurd ⟨h9,ak i hh h7⟩ h4
 ·rw[show H+1-1=H by omega];exact hP.nx i
def Sett.right {H:Nat}{hs r E:List Nat}{ws:List (List Nat)}(h:Sett us H hs ws E r)(D:Rnd cl links H hs ws E)(hH:2<=H)(ae:∀p u,(usAt us p).count u=(lkAt links u).count p)(h2:∀u,(lkAt links u).length<=2)(O:∀u,∀p∈lkAt links u,p<links.length) :
  r.length=links.length/\∀i x,r[i]?=some x->LstG cl links i x:=by
 induction h with
 | more hn _ ih=>exact ih (D.next hH ae h2 O) (by omega)
 | done H hs ws =>
  refine⟨D.len,λi x G=>?_⟩;have A:∀i,i<links.length->htG cl links (H-1) i->htG cl links (H-2) i:=λi U h1=>by
   obtain⟨x,G⟩:=dB (l:=hs) (D.len▸U);obtain⟨h3,h4⟩:=D.ht i x G;have h5:=h4 (H-1) (dJ _) h1;have h6:x≠H-1:=λh6=>by
    have:=(D.nw i).2 (by rw[G,h6]);cases this
   exact qm (h3 h5.1).1 (by omega)
  have aa:∀k i,i<links.length->htG cl links k i->htG cl links (H-2) i:=λk=>by
   induction k with
   | zero=>intro i _ h;exact h.elim
   | succ k ih =>
    intro i U h;refine A i U ?_;obtain⟨n,hn⟩:∃n,H=n+2:=⟨H-2,by omega⟩
    rw[hn,show n+2-2=n by omega] at ih;rw[hn];rcases h with h|⟨lk,J,h⟩
    ·exact .inl h
    ·refine .inr ⟨lk,J,λp hp=>ih p ?_ (h p hp)⟩;obtain⟨q,hq⟩:=F8 J;exact O (i,q) p (by rw[hq];exact hp)
  have U:i<links.length:=by rw[<- D.len];exact (lGs G).1
  obtain⟨h3,h4⟩:=D.ht i x G;refine⟨λh0=>(h3 h0).1,λk hk=>?_⟩;by_cases ag:k<=H-1
  ·exact h4 k ag hk
  ·have h5:=h4 (H-2) (by omega) (aa k i U hk);exact⟨h5.1,by omega⟩
end
end Go.Proofs.Tryz
namespace Go.Proofs.Tryz
open Go Go.Iv
set_option maxRecDepth 4000
variable (gl:Nat->Option IV)
def vc:intK prog 21=some .i32:=by kernel_rfl
def IsLk (k:Lk)(x:IV):Prop:=∃p q:Nat,x=.agg [.raw (.int .u8 (k.1:Int)),.raw (.int .u8 (k.2.2.length:Int)),.raw (.int .i32 (k.2.1:Int)),.raw (.int .i32 (p:Int)),.raw (.int .i32 (q:Int))]/\k.2.2=[p,q].take k.2.2.length
def vd (l:List Lk)(x:IV):Prop:=∃t ys,x=.sl t ys/\okEs t 5/\AllR IsLk l ys
def numE (lines:List Ln):List (Value×IV):=lines.zipIdx.map λp=>(.string (keyB p.1),.raw (.int .i32 (p.2:Int)))
def mY (ln:Ln):Prop:=((∀i∈ln.1,i<16777216)/\∀i∈ln.2,i<16777216)/\ln.1.length<256
structure RS (ca m:Nat)(W:List Fm)(tw:Tag)(xw:List IV)(rb mN:Nat)(S0 st:ISt)(lines:List Ln)(links:List (List Lk)):Prop where
 ex:∃tl xl tk xk,st rb=some (.box [spI ca tw xw m,.sl tl xl,.raw (.map (some mN)),.sl tk xk,.sl ⟨true,.nil,0⟩ []])/\AllR IsLn lines xl/\own st tl lines.length 2 S0/\AllR vd links xk/\own st tk links.length 1 S0
 num:st mN=some (.map .str (numE lines))
 sp:SpSt ca m W st
 base:subSt S0 st
 off:S0 rb=none/\S0 mN=none/\S0 m=none
 ok:∀ln∈lines,mY ln
 nd:lines.Nodup
def Ox (rb mN m:Nat)(st st':ISt):Prop:=∀b o,st b=some o->b≠rb->b≠mN->b≠m->(∀n,o≠.front n 2)->st' b=some o
def Oy (lines:List Ln)(ln:Ln):numE (lines++[ln])=numE lines++[(.string (keyB ln),.raw (.int .i32 (lines.length:Int)))]:=by
 simp[numE,List.zipIdx_append]
def F9 (lines:List Ln):(numE lines).map (·.1)=lines.map λln=>Value.string (keyB ln):=by
 unfold numE;rw[iG]
 conv=>rhs;rw[<- List.zipIdx_map_fst 0 lines,iG]
 rfl
def Oz {lines:List Ln}{n:Nat}{ln:Ln}(h:lines[n]?=some ln):(numE lines)[n]?=some (.string (keyB ln),.raw (.int .i32 (n:Int))):=by
 unfold numE;rw[eI,List.getElem?_zipIdx,h];simp
def F_ {a b:Ln}(D:mY a)(A:mY b)(h:keyB a=keyB b):a=b:=Oo D.1 A.1 ⟨D.2,A.2⟩ h
def OA {lines:List Ln}(h:∀ln∈lines,mY ln)(D:lines.Nodup):((numE lines).map (·.1)).Nodup:=by
 rw[F9];refine km.2 (List.Pairwise.imp_of_mem (λ{a b} J G A E=>A (F_ (h a J) (h b G) ?_)) D);exact Value.string.inj E
def Ga (lines:List Ln):∀p∈numE lines,fF .str p.1=true:=λp hp=>by
 obtain⟨q,_,rfl⟩:=dH.1 hp;rfl
def OB {lines:List Ln}(h:∀ln∈lines,mY ln)(A:lines.Nodup){n:Nat}{ln:Ln}(hl:lines[n]?=some ln):fZ (.string (keyB ln)) (numE lines)=some (.raw (.int .i32 (n:Int))):=by
 obtain⟨x,h1,h2,_⟩:=wg (kk:=.str) (key:=.string (keyB ln)) rfl .junk (numE lines) n (Ga lines) (OA h A) (by rw[F9,eI,hl];rfl);rw[Oz hl] at h1;rw[h2];exact dX some (Prod.mk.inj (eE h1)).2.symm
def OC {lines:List Ln}{ln:Ln}(h:∀ln∈lines,mY ln)(G:mY ln)(D:ln ∉ lines):fZ (.string (keyB ln)) (numE lines)=none/\updI (.string (keyB ln)) (.raw (.int .i32 (lines.length:Int))) (numE lines)=numE (lines++[ln]):=by
 rw[Oy];refine we (kk:=.str) rfl _ _ (Ga lines) λp hp J=>D ?_;obtain⟨q,A,rfl⟩:=dH.1 hp;have E:q.1∈lines:=by
  have:=gh (f:=Prod.fst) A
  rwa [List.zipIdx_map_fst] at this
 rwa [<- F_ (h _ E) G (Value.string.inj J)]
def Gb (ca m:Nat)(W:List Fm)(tw:Tag)(xw:List IV)(rb mN:Nat)(S0 st:ISt)(lines:List Ln)(links:List (List Lk))(E:RS ca m W tw xw rb mN S0 st lines links)(ln:Ln)(hk:mY ln)(aI:ln.2.length<256)(x:IV)(hx:IsLn ln x)(hll:lines.length<=20000) :
  ICall prog gl 95 [.raw (.pointer (some ⟨rb,0,none⟩)),x] st (λr st' =>
   (∃n:Nat,lines[n]?=some ln/\r=.tup [.raw (.int .i32 (n:Int)),(0:Int)]/\st'=st) \/
   (ln ∉ lines/\((20000<=lines.length/\r=.tup [.raw (.int .i32 0),(4:Int)]/\st'=st) \/
    (lines.length<20000/\r=.tup [.raw (.int .i32 (lines.length:Int)),(0:Int)]/\RS ca m W tw xw rb mN S0 st' (lines++[ln]) links/\Ox rb mN m st st')))):=by
 have am:=λst=>On gl ln x hx ⟨by have:=hk.2;omega,by omega⟩ st;obtain⟨t1,t2,rfl,e1,e2⟩:=id hx;obtain⟨tl,xl,tk,xk,aa,ah,ax,av,ay⟩:=E.ex;refine ICall.intro (c:=cf prog gl [39,2000042] []) func95 rfl (by show _<=52;simp) (by kernel_rfl) ?_;simp only[go_sem,zE,zA,zL];refine (am _).q ?_;by_cases hm:ln∈lines
 ·obtain⟨n,hn⟩:=List.mem_iff_getElem?.1 hm;have hf:=OB E.ok E.nd hn;simp only[go_sem,zE,reduceCtorEq,aa,E.num,hf,vJ];exact c_ (.inl ⟨n,hn,rfl,rfl⟩)
 ·obtain⟨hf,hu⟩:=OC E.ok hk hm;have aB:=λn:Int=>l7 prog 3 21 l_ vc .i64 n;have O:=ah.1;by_cases aA:20000<=lines.length
  ·simp only[go_sem,zE,reduceCtorEq,aa,E.num,hf,sL,O,dEt (show (20000:Int)<=lines.length by omega)];intros;exact c_ (.inr ⟨hm,.inl ⟨aA,rfl,rfl⟩⟩)
  ·have hw:IntKind.i32.wrap (lines.length:Int)=(lines.length:Int):=IntWalk.i32_in _ (by omega);simp only[go_sem,zE,zA,zM,zL,reduceCtorEq,aa,E.num,hf,sL,fits,O,dEf (show ¬ (20000:Int)<=lines.length by omega),aB,hw,dW];intros;refine gQ ax O E.base rfl (by simp[fits,IV.one]) (by simp only;omega) (by omega) λag af ai aC D=>?_;have J:=D rb _ aa λn h=>by cases h
   have A:=D mN _ E.num λn h=>by cases h
   obtain⟨es,aq,ao⟩:=E.sp;have U:=D m _ aq λn h=>by cases h
   have ac:mN≠rb:=by rintro rfl;rw[J] at A;cases A
   have ak:m≠rb:=by rintro rfl;rw[J] at U;cases U
   have aj:m≠mN:=by rintro rfl;rw[A] at U;cases U
   simp only[go_sem,zE,zA,zL,reduceCtorEq,J,dw ac,A,hu];have G:∀b o,af b=some o->b≠rb->b≠mN->((af.put rb (some (.box [spI ca tw xw m,.sl ag (xl++[.agg [.sl t1 (dM ln.1),.sl t2 (dM ln.2)]]),.raw (.map (some mN)),.sl tk xk,()]))).put mN (some (.map .str (numE (lines++[ln]))))) b=some o:=λb o h h1 h2=>by
    rw[dw h2,dw h1];exact h
   have ab:∀g n k,af g=some (.front n k)->g≠rb/\g≠mN:=λg n k h=>⟨λh1=>(by rw[h1,J] at h;cases h),λh1=>(by rw[h1,A] at h;cases h)⟩
   refine c_ (.inr ⟨hm,.inr ⟨by omega,rfl,⟨⟨ag,_,tk,xk,?_,ah.snoc hx,?_,av,?_⟩,b_ ..,⟨es,G m _ U ak aj,ao⟩,eA (eA aC E.off.1) E.off.2.1,E.off,?_,?_⟩,λb o h h1 h2 h3 h4=>G b o (D b o h h4) h1 h2⟩⟩)
   ·rw[dw λh=>ac h.symm,b_]
   ·rw[lLa];exact ai.mono λg hg _=>G g _ hg (ab g _ _ hg).1 (ab g _ _ hg).2
   ·exact ay.mono λg hg _=>by
     have h2:=D g _ hg λn h=>by cases h
     exact G g _ h2 (ab g _ _ h2).1 (ab g _ _ h2).2
   ·intro a ha;rcases dR.1 ha with ha|ha
    ·exact E.ok a ha
    ·rw[dZ.1 ha];exact hk
   ·refine lr.2 ⟨E.nd,hY.2 ⟨by simp,jF⟩,λa ha b hb aD=>?_⟩;rw[dZ] at hb;rw[aD,hb] at ha;exact hm ha
def _root_.Go.Iv.IterU.of {P:Program}{gl:Nat->Option IV}{g:FuncId}{first A:List IV}{lk:Nat->List IV->ISt->Prop}{len:Nat}{I J:Nat->ISt->Prop}{up:Nat->List (Value×IV)->List (Value×IV)->Prop}(h:IterU P gl g first A lk len I up)(D:∀k st,J k st->I k st):IterU P gl g first A lk len J up :=
 λy I' S' st U hI G E h0=>h y I' S' st U (λk stu O=>by obtain⟨s,h1,h2⟩:=hI k stu O;exact⟨s,h1,D k s h2⟩) G E h0
def LkOf (lines:List Ln)(v:Mv)(k:Lk):Prop:=k.1=v.1/\k.2.1=v.2.1/\k.2.2.length=v.2.2.length/\∀(q n:Nat),k.2.2[q]?=some n->∃p,lines[n]?=some p/\v.2.2[q]?=some p
def LkOf.app {lines more:List Ln}{v:Mv}{k:Lk}(h:LkOf lines v k):LkOf (lines++more) v k :=
 ⟨h.1,h.2.1,h.2.2.1,λq n A=>by
  obtain⟨p,h1,h2⟩:=h.2.2.2 q n A;exact⟨p,by rw[fw (lGs h1).1];exact h1,h2⟩⟩
def LksOf (lines:List Ln)(vs:List Mv)(l:List Lk):Prop:=l.length=vs.length/\∀(i:Nat) (v:Mv),vs[i]?=some v->∃k,l[i]?=some k/\LkOf lines v k
def LksOf.app {lines more:List Ln}{vs:List Mv}{l:List Lk}(h:LksOf lines vs l):LksOf (lines++more) vs l:=⟨h.1,λi v hv=>by
 obtain⟨k,h1,h2⟩:=h.2 i v hv;exact⟨k,h1,h2.app⟩⟩
def LksOf.snoc {lines:List Ln}{vs:List Mv}{l:List Lk}{v:Mv}{k:Lk}(h:LksOf lines vs l)(G:LkOf lines v k):LksOf lines (vs++[v]) (l++[k]):=by
 refine⟨by simp[h.1],λi b A=>?_⟩;rcases fQ i vs.length with E|E
 ·rw[fw E] at A;rw[fw (by rw[h.1];exact E)];exact h.2 i b A
 ·rw[fD E] at A;rw[fD (by rw[h.1];exact E),h.1];cases D:i-vs.length with
  | zero=>rw[D] at A;cases A;exact⟨k,rfl,G⟩
  | succ n=>rw[D] at A;simp at A
def kb (W:List Fm)(j:Bool)(ln p:Ln):Prop:=∃v:Mv,some v∈mvsN W j ln/\p∈v.2.2
def OD {j:Bool}{ln:Ln}{i:Nat}{t:Tn}{v:Mv}(h:mvN j ln i t=some v):v=(t.1,i,t.2.map (j9 j ln))/\t.2.any (tooN j ln)=false:=by
 unfold mvN at h;cases A:t.2.any (tooN j ln)
 ·rw[A] at h;simp at h;exact⟨h.symm,rfl⟩
 ·rw[A] at h;simp at h
def ve {ca:Nat}{W:List Fm}(hS:SpOk ca W){ln:Ln}(aa:LnOk W ln){v:Mv}(h:some v∈mvsN W (calJ ca) ln):v.2.1<W.length/\v.1<256/\v.2.2.length<=2/\∀p∈v.2.2,LnOk W p/\p.1.length<=64/\p.2.length<=64:=by
 obtain⟨⟨i,r⟩,hp,h⟩:=f_.1 h;unfold iR at h;cases O:W[i]? with
 | none=>simp only[O] at h;cases h
 | some f =>
  simp only[O] at h;obtain⟨t,ht,h⟩:=dH.1 h;obtain⟨t0,G,rfl⟩:=dH.1 ht;obtain⟨rfl,E⟩:=OD h;have J:=lMg O;refine⟨(lGs O).1,?_,by rw[dY,dY];exact zw G,λp hp=>?_⟩
  ·have:t0.1∈jk (calJ ca) f.op r:=by rw[<- uX (hS.pf J) r];exact gh G
   unfold jk at this;have key:∀l:List Nat,t0.1∈l->(∀x∈l,x<256)->t0.1<256:=λl h1 h2=>h2 _ h1;refine key _ this ?_
   repeat' split
   all_goals simp
  ·obtain⟨e,he,rfl⟩:=dH.1 hp;obtain⟨A,U,rfl⟩:=dH.1 he;refine⟨Fv aa (hS.sub J G U),?_⟩;have D:tooN (calJ ca) ln (exW W A)=false:=by
    cases hq:tooN (calJ ca) ln (exW W A) with
    | false=>rfl
    | true=>rw[gw.2 ⟨_,he,hq⟩] at E;cases E
   unfold tooN at D;rw[Bool.or_eq_false_iff,decide_eq_false_iff_not,decide_eq_false_iff_not] at D;have h1:=r_ (ln.1++(exW W A).1.1);have h2:=r_ (rgtN (calJ ca) ln (exW W A)++(exW W A).1.2);rw[lLa] at h1 h2;have h3:(exW W A).1.1.length<=(exW W A).2.1:=ql W A.1;have h4:(exW W A).1.2.length<=(exW W A).2.2:=ql W A.2;unfold j9;simp only;omega
def Gc {W:List Fm}(D:W.length<=1000000){ln:Ln}(h:LnOk W ln)(hs:ln.1.length<=64/\ln.2.length<=64):mY ln/\ln.2.length<256:=by
 exact⟨⟨⟨λi A=>by have:=h.1.2 i A;omega,λi A=>by have:=h.2.2 i A;omega⟩,by omega⟩,by omega⟩
def RS.upm {ca m:Nat}{W:List Fm}{tw:Tag}{xw:List IV}{rb mN:Nat}{S0 st:ISt}{lines:List Ln}{links:List (List Lk)}(h:RS ca m W tw xw rb mN S0 st lines links){kk:KeyK}{es D:List (Value×IV)}(hm:st m=some (.map kk es))(hu:CacheOk ca W es->CacheOk ca W D) :
  RS ca m W tw xw rb mN S0 (st.put m (some (.map kk D))) lines links:=by
 obtain⟨tl,xl,tk,xk,G,O,aa,U,ab⟩:=h.ex;obtain⟨ag,A,ac⟩:=h.sp;rw[A] at hm;cases hm;have h1:rb≠m:=by rintro rfl;rw[G] at A;cases A
 have h2:mN≠m:=by rintro rfl;rw[h.num] at A;cases A
 have J:∀g n k,st g=some (.front n k)->(st.put m (some (.map .pl D))) g=some (.front n k):=λg n k E=>by
  rw[dw λe=>by rw[e,A] at E;cases E];exact E
 exact⟨⟨tl,xl,tk,xk,by rw[dw h1];exact G,O,aa.mono λg E _=>J g _ _ E,U,ab.mono λg E _=>J g _ _ E⟩,by rw[dw h2];exact h.num,⟨D,b_ ..,hu ac⟩,eA h.base h.off.2.2,h.off,h.ok,h.nd⟩
def RS.elsewhere {ca m:Nat}{W:List Fm}{tw:Tag}{xw:List IV}{rb mN:Nat}{S0 st st':ISt}{lines:List Ln}{links:List (List Lk)}(h:RS ca m W tw xw rb mN S0 st lines links)(hb:subSt S0 st')
  (A:∀b o,st b=some o->b=rb\/b=mN\/b=m\/(∃n,o=.front n 2)\/(∃n,o=.front n 1)->st' b=some o):RS ca m W tw xw rb mN S0 st' lines links:=by
 obtain⟨tl,xl,tk,xk,G,D,J,E,O⟩:=h.ex;obtain⟨ac,aa,ab⟩:=h.sp;exact⟨⟨tl,xl,tk,xk,A _ _ G (.inl rfl),D,J.mono λg U _=>A g _ U (.inr (.inr (.inr (.inl ⟨_,rfl⟩)))),E,O.mono λg U _=>A g _ U (.inr (.inr (.inr (.inr ⟨_,rfl⟩))))⟩,A _ _ h.num (.inr (.inl rfl)),⟨ac,A _ _ aa (.inr (.inr (.inl rfl))),ab⟩,hb,h.off,h.ok,h.nd⟩
def zH {ca:Nat}{W:List Fm}(hS:SpOk ca W)(E:W.length<=200000){ln:Ln}(A:LnOk W ln):(mvsN W (calJ ca) ln).length<=16000000:=by
 have h1:=nV A.1.1 A.1.2;have h2:=nV A.2.1 A.2.2;have J:∀p,(iR W (calJ ca) ln p).length<=2:=λp=>by
  unfold iR;cases D:W[p.1]? with
  | none=>simp
  | some f =>
   simp only[dY,gd];rw[<- dY (f:=(·.1)),uX (hS.pf (lMg D))];unfold jk
   repeat' split
   all_goals simp
 have G:∀l:List (Nat×Bool),(l.flatMap (iR W (calJ ca) ln)).length<=2*l.length:=λl=>by
  induction l with
  | nil=>simp
  | cons a l O=>rw[eC,lLa,dV];have:=J a;omega
 have:=G (plcs ln);rw[sh] at this;unfold mvsN;omega
def mZ:tyI prog 21=some (false,1):=by kernel_rfl
def addP:List Ln->List Ln->Option (List Ln)
 | [],ls=>some ls
 | p::ps,ls=>if p∈ls then addP ps ls else if ls.length<20000 then addP ps (ls++[p]) else none
def expF:List (Option Mv)->List Ln->List Ln×Nat
 | [],ls=>(ls,0)
 | none::_,ls=>(ls,5)
 | some v::l,ls=>match addP v.2.2 ls with
  | none=>(ls,4)
  | some A=>expF l A
def Gd:∀ {l:List (Option Mv)}{k:Nat}{o:Option Mv},(cutO l)[k]?=some o->l[k]?=some o/\l.take k=(cutO l).take k
 | [],_,_,h=>by simp[cutO] at h
 | none::l,k,o,h=>by
  cases k with
  | zero=>exact⟨h,rfl⟩
  | succ k=>simp[cutO] at h
 | some v::l,k,o,h=>by
  cases k with
  | zero=>exact⟨h,rfl⟩
  | succ k =>
   simp only[cutO,gJ] at h;obtain⟨h1,h2⟩:=Gd h;exact⟨h1,by simp only[cutO,ko,h2]⟩
def Ge {l:List (Option Mv)}{k:Nat}{o:Option Mv}{vs:List Mv}{ls A:List Ln}(h:(cutO l)[k]?=some o)(h1:(cutO l).take k=vs.map some)(h2:∀D,expF (vs.map some++D) ls=expF D A):expF l ls=expF (o::l.drop (k+1)) A:=by
 obtain⟨a,b⟩:=Gd h;have hl:vs.map some++o::l.drop (k+1)=l:=by
  have E:=lGs a;rw[<- h1,<- b,<- E.2,<- fa E.1,el]
 rw[<- h2,hl]
def ExpR (ca m:Nat)(W:List Fm)(tw:Tag)(xw:List IV)(rb mN:Nat)(S0:ISt)(lines:List Ln)(links:List (List Lk))(ln:Ln)(r:IV)(st':ISt):Prop :=
 (∃t ys L vs more,r=.tup [.sl t ys,(0:Int)]/\okEs t 5/\AllR IsLk L ys/\mvsN W (calJ ca) ln=vs.map some/\LksOf (lines++more) vs L/\(∀p∈more,kb W (calJ ca) ln p)/\(lines++more).length<=20000/\RS ca m W tw xw rb mN S0 st' (lines++more) links/\expF (mvsN W (calJ ca) ln) lines=(lines++more,0)) \/
 (r=.tup [(),(5:Int)]/\none∈mvsN W (calJ ca) ln/\subSt S0 st'/\(expF (mvsN W (calJ ca) ln) lines).2=5) \/
 (r=.tup [(),(4:Int)]/\subSt S0 st'/\(expF (mvsN W (calJ ca) ln) lines).2=4/\∃more p,(∀q∈more,kb W (calJ ca) ln q)/\kb W (calJ ca) ln p/\p ∉ lines++more/\(lines++more).Nodup/\20000<=(lines++more).length)
def OE (G:Gl gl)(T:Gt gl)(ca m:Nat)(W:List Fm)(hS:SpOk ca W)(bh:W.length<=200000)(tw:Tag)(xw:List IV)(bH:okEs tw 4)(bD:IsFms W xw)(rb mN:Nat)(S0 st:ISt)(lines:List Ln)(links:List (List Lk))(hR:RS ca m W tw xw rb mN S0 st lines links)(hll:lines.length<=20000)
  (i:Nat) (ln:Ln) (hi:lines[i]?=some ln) (aF:LnOk W ln) :
  ICall prog gl 98 [.raw (.pointer (some ⟨rb,0,none⟩)),(i:Int)] st (ExpR ca m W tw xw rb mN S0 lines links ln):=by
 obtain⟨tl,xl,tk,xk,a8,bF,bK,cj,co⟩:=hR.ex;obtain⟨x,bG,hx⟩:=bF.2 i ln hi;have cr:i<lines.length:=(lGs hi).1;have bL:=λst=>FZ gl m (spI ca tw xw m) x _ rfl ln hx st;have bN:=F5 gl G T ca m W hS bh tw xw bH bD ln aF x hx;obtain⟨t1,t2,rfl,e1,e2⟩:=id hx;refine ICall.intro (c:=cf prog gl [4,5,6,17,21] [] [2]) func98 rfl (by show _<=68;simp) (by kernel_rfl) ?_;simp only[go_sem,zE,zB,zA,fits];refine λb4=>d_ λh4=>λb5=>d_ λh5=>λb6=>d_ λh6=>?_;have J:b5≠b4:=by rintro rfl;rw[b_] at h5;cases h5
 have aC:b6≠b4:=by rintro rfl;rw[dw (λh=>J h.symm),b_] at h6;cases h6
 have aB:b6≠b5:=by rintro rfl;rw[b_] at h6;cases h6
 have aI:st b5=none:=by rw[dw J] at h5;exact h5
 have aH:st b6=none:=by rw[dw aB,dw aC] at h6;exact h6
 obtain⟨al,O⟩:∃s,s=((st.put b4 (some (.box [()]))).put b5 (some (.box [(0:Int)]))).put b6 (some (.box [()])):=⟨_,rfl⟩
 have hA:∀b o,st b=some o->al b=some o:=λb o h=>by
  rw[O,dw (λe=>by rw[e,aH] at h;cases h),dw (λe=>by rw[e,aI] at h;cases h),dw (λe=>by rw[e,h4] at h;cases h)];exact h
 have bX:al b4=some (.box [()]):=by rw[O,dw (λh=>aC h.symm),dw (λh=>J h.symm),b_]
 have bW:al b5=some (.box [(0:Int)]):=by rw[O,dw (λh=>aB h.symm),b_]
 have bV:al b6=some (.box [()]):=by rw[O,b_]
 have bT:=hR.elsewhere (st':=al) (λb o h=>hA b o (hR.base b o h)) λb o h _=>hA b o h;rw[<- O];have aA:∀ {b:Nat},st b=none->b≠rb/\b≠mN/\b≠m:=λ{b} h=>by
  obtain⟨es,he,_⟩:=hR.sp;exact⟨λe=>(by rw[e,a8] at h;cases h),λe=>(by rw[e,hR.num] at h;cases h),λe=>(by rw[e,he] at h;cases h)⟩
 have k4:=aA h4;have k5:=aA aI;have k6:=aA aH;have z4:=j3 hR.base h4;have z5:=j3 hR.base aI;have z6:=j3 hR.base aH;simp only[go_sem,zA,hA _ _ a8,dz bK.es,iNn,bG];refine (bL _).q ?_;simp only[go_sem,reduceCtorEq];have bg:∀ {l:List (Option Mv)} {o:Option Mv},o∈cutO l->o∈l:=λ{l}=>by
  induction l with
  | nil=>intro o h;exact h
  | cons a l ih =>
   intro o h;cases a with
   | none=>simp only[cutO,dZ] at h;rw[h];exact .head _
   | some a =>
    simp only[cutO] at h;rcases dN.1 h with h|h
    ·rw[h];exact .head _
    ·exact .tail _ (ih h)
 let EI:Nat->ISt->Prop:=λk s=>∃more vs L t6 ys,(cutO (mvsN W (calJ ca) ln)).take k=vs.map some/\RS ca m W tw xw rb mN S0 s (lines++more) links/\(∀p∈more,kb W (calJ ca) ln p)/\(lines++more).length<=20000/\LksOf (lines++more) vs L/\AllR IsLk L ys /\
  s b4=some (.box [()])/\s b5=some (.box [(0:Int)])/\s b6=some (.box [.sl t6 ys])/\own s t6 L.length 5 S0/\∀l,expF (vs.map some++l) lines=expF l (lines++more)
 let ES:Exit->ISt->Prop:=λe s=>e=.ret/\s b4=some (.box [()])/\subSt S0 s/\((s b5=some (.box [(5:Int)])/\none∈mvsN W (calJ ca) ln/\(expF (mvsN W (calJ ca) ln) lines).2=5) \/
  (s b5=some (.box [(4:Int)])/\(expF (mvsN W (calJ ca) ln) lines).2=4/\∃more p,(∀q∈more,kb W (calJ ca) ln q)/\kb W (calJ ca) ln p/\p ∉ lines++more/\(lines++more).Nodup/\20000<=(lines++more).length))
 refine RangeU.intro (mvX W (calJ ca) ln) (cutO (mvsN W (calJ ca) ln)).length EI ES (SpUp ca m W) ?_ (by simp only[go_sem]) ?_ ?_ ?_ (bN.of λk s ⟨_,_,_,_,_,_,h,_⟩=>h.sp) ?_ ?_
 ·rintro k s m' kk es bZ ⟨more,vs,L,t6,ys,q1,q2,q3,q4,q5,q6,q7,q8,q9,D,aa⟩ hm ⟨rfl,hu⟩;refine⟨more,vs,L,t6,ys,q1,q2.upm hm hu,q3,q4,q5,q6,by rw[dw k4.2.2];exact q7,by rw[dw k5.2.2];exact q8,by rw[dw k6.2.2];exact q9,D.mono λg hg _=>?_,aa⟩;rw[dw λe=>by rw[e,hm] at hg;cases hg];exact hg
 ·rintro k a ⟨o,_,ho⟩;cases o with
  | none=>rw[show a=_ from ho];rfl
  | some v=>obtain⟨x,rfl,_⟩:=ho;rfl
 ·refine⟨[],[],[],_,_,rfl,by rw[eo];exact bT,λ_ h=>(by cases h),by rw[eo];exact hll,⟨rfl,λi v h=>(by simp at h)⟩,AllR.nil,bX,bW,bV,own.nil _ _ _ _ _,λl=>by rw[eo];rfl⟩
 ·rintro k a s ⟨o,E,ho⟩ ⟨more,vs,L,t6,ys,q1,q2,q3,q4,q5,q6,q7,q8,q9,D,aa⟩;cases o with
  | none =>
   obtain rfl:a=_:=ho;simp only[go_sem,zE,zA,zL,show decide ((5:Int)=0)=false from rfl,q7,dw J,q8];exact⟨rfl,by rw[dw (λh=>J h.symm),b_],eA (eA q2.base z4) z5,.inl ⟨b_ ..,bg (lMg E),by rw[Ge E q1 aa];rfl⟩⟩
  | some v =>
   obtain⟨xv,rfl,tv,zv,rfl,bI,a1⟩:=ho;have a7:=bg (lMg E);obtain⟨g1,g2,g3,g4⟩:=ve hS aF a7;have bQ:=λn:Int=>l7 prog 3 21 l_ vc .i64 n;have hw:IntKind.i32.wrap (v.2.1:Int)=(v.2.1:Int):=IntWalk.i32_in _ (by omega);simp only[go_sem,zE,zA,zL,fits,dA,bQ,hw];intro _;rw[a1.1];refine dj v.2.2.length (λq fr st' ds=>(∃(A:List Ln) (p0 p1:Nat) (aq:List Nat),fr 9=.box [.raw (.int .u8 (v.1:Int)),.raw (.int .u8 (q:Int)),.raw (.int .i32 (v.2.1:Int)),.raw (.int .i32 (p0:Int)),.raw (.int .i32 (p1:Int))]/\aq=[p0,p1].take q /\
     RS ca m W tw xw rb mN S0 st' (lines++(more++A)) links/\(∀p∈more++A,kb W (calJ ca) ln p)/\(lines++(more++A)).length<=20000/\(∀(r n:Nat),aq[r]?=some n->∃p,(lines++(more++A))[n]?=some p/\v.2.2[r]?=some p)/\∀ps,addP (v.2.2.take q++ps) (lines++more)=addP ps (lines++(more++A))) /\
    st' b4=some (.box [()])/\st' b5=some (.box [(0:Int)])/\st' b6=some (.box [.sl t6 ys])/\own st' t6 L.length 5 S0 /\
    fr 2=.iv (.cptr (.raw (.pointer (some ⟨rb,0,none⟩))))/\fr 4=.iv (.raw (.pointer (some ⟨b4,0,none⟩)))/\fr 5=.iv (.raw (.pointer (some ⟨b5,0,none⟩)))/\fr 6=.iv (.raw (.pointer (some ⟨b6,0,none⟩))) /\
    fr 38=.iv (.sl tv zv)/\fr 39=.iv (.raw (.int .i64 v.2.2.length))/\fr 40=(q:Int)/\ds=[]) ?_ ?_ ?_
   ·simp only[go_sem,zE];exact⟨⟨[],0,0,[],rfl,rfl,by rw[eo];exact q2,by rw[eo];exact q3,by rw[eo];exact q4,λr n h=>by simp at h,λps=>by rw[eo]⟩,q7,q8,q9,D,rfl⟩
   ·rintro q fr s1 _ hq ⟨⟨A,p0,p1,aq,f9,rfl,r2,r3,r4,r5,r6⟩,q7,q8,q9,D,f2,f4,f5,f6,f38,f39,f40,rfl⟩;obtain⟨p,hp⟩:=dB hq;have bb:=lMg hp;obtain⟨g5,g6⟩:=g4 p bb;have bj:kb W (calJ ca) ln p:=⟨v,a7,bb⟩
    obtain⟨zq,bB,a6⟩:=a1.2 q p hp;obtain⟨bA,bx⟩:=Gc (by omega) g5 g6;have bP:=Gb gl ca m W tw xw rb mN S0 s1 _ links r2 p bA bx zq a6 r4;obtain⟨ta,tb,rfl,ea,eb⟩:=a6;have r7:∀ps,addP (v.2.2.take (q+1)++ps) (lines++more)=addP (p::ps) (lines++(more++A)):=λps=>by rw[dE hp,en,r6];rfl
    have ba:q=0\/q=1:=by omega
    have av:∀ {n:Nat} {ao:List Ln},(lines++(more++ao))[n]?=some p->(∀(k:Nat) (a:Ln),(lines++(more++A))[k]?=some a->(lines++(more++ao))[k]?=some a)->∀(r n':Nat),([p0,p1].take q++[n])[r]?=some n'->∃p,(lines++(more++ao))[n']?=some p/\v.2.2[r]?=some p:=λ{n ao} hn ah r n' h=>by
     have U:([p0,p1].take q).length=q:=by rw[dQ];simp only[dV,dU];omega
     rcases fQ r q with hr|hr
     ·rw[fw (by omega)] at h;obtain⟨a,bS,bR⟩:=r5 r n' h;exact⟨a,ah _ _ bS,bR⟩
     ·rw[fD (by omega),U] at h;have bJ:r-q=0:=by
       rcases Nat.eq_zero_or_pos (r-q) with h0|h0
       ·exact h0
       ·rw[List.getElem?_eq_none (by simp only[dV,dU];omega)] at h;cases h
      rw[bJ] at h;cases h;obtain rfl:r=q:=by omega
      exact⟨p,hn,hp⟩
    simp only[go_sem,zE,zB,zA,zL,f2,f38,f39,f40,lt_i hq,dz bI,iNn,bB,fits];refine bP.mono ?_;rintro _ s2 (⟨n,hn,rfl,rfl⟩|⟨aE,⟨bO,rfl,rfl⟩|⟨be,rfl,bU,au⟩⟩)
    ·have r8:=λps=>(r7 ps).trans (cV (lMg hn));rcases ba with rfl|rfl
     ·simp only[go_sem,zE,zA,zM,zL,f2,f4,f5,f6,f9,f38,f39,f40,dA,iNn,show (0<2)=True from eQ (by decide),mZ,show IntKind.u8.wrap (((0:Nat):Int)+1)=((1:Nat):Int) from rfl,show IntKind.i64.wrap (((0:Nat):Int)+1)=((1:Nat):Int) from rfl];exact⟨⟨A,n,p1,[n],rfl,rfl,r2,r3,r4,av hn (λ_ _ h=>h),r8⟩,q7,q8,q9,D⟩
     ·simp only[go_sem,zE,zA,zM,zL,f2,f4,f5,f6,f9,f38,f39,f40,dA,iNn,show (1<2)=True from eQ (by decide),mZ,show IntKind.u8.wrap (((1:Nat):Int)+1)=((2:Nat):Int) from rfl,show IntKind.i64.wrap (((1:Nat):Int)+1)=((2:Nat):Int) from rfl];exact⟨⟨A,p0,n,[p0,n],rfl,rfl,r2,r3,r4,av hn (λ_ _ h=>h),r8⟩,q7,q8,q9,D⟩
    ·simp only[go_sem,zE,zL,f4,f5,show decide ((4:Int)=0)=false from rfl,q7,dw J,q8];refine⟨rfl,by rw[dw (λh=>J h.symm),b_],eA (eA r2.base z4) z5,.inr ⟨b_ ..,?_,more++A,p,r3,bj,aE,r2.nd,bO⟩⟩;have r9:addP v.2.2 (lines++more)=none:=by
      have:=r7 (v.2.2.drop (q+1));rw[el] at this;rw[this];exact (a_ aE).trans (a_ (by omega))
     rw[Ge E q1 aa];simp only[expF,r9]
    ·have bf:(lines++(more++(A++[p])))[(lines++(more++A)).length]?=some p:=by
      rw[<- en more,<- en lines,fD (dJ _),fS];rfl
     have ah:∀(k:Nat) (a:Ln),(lines++(more++A))[k]?=some a->(lines++(more++(A++[p])))[k]?=some a:=λk a h=>by
      rw[<- en more,<- en lines,fw (lGs h).1];exact h
     have bi:RS ca m W tw xw rb mN S0 s2 (lines++(more++(A++[p]))) links:=by
      rw[<- en more,<- en lines];exact bU
     have bk:∀x∈more++(A++[p]),kb W (calJ ca) ln x:=λx hx=>by
      rw[<- en] at hx;rcases dR.1 hx with hx|hx
      ·exact r3 x hx
      ·rw[dZ.1 hx];exact bj
     have bl:(lines++(more++(A++[p]))).length<=20000:=by
      rw[<- en more,<- en lines,lLa];simp only[dV,dU];omega
     have r8:∀ps,addP (v.2.2.take (q+1)++ps) (lines++more)=addP ps (lines++(more++(A++[p]))):=λps=>by
      rw[r7,show lines++(more++(A++[p]))=lines++(more++A)++[p] by simp only[en]];exact (a_ aE).trans (cV be)
     have v4:=au b4 _ q7 k4.1 k4.2.1 k4.2.2 λn h=>by cases h
     have v5:=au b5 _ q8 k5.1 k5.2.1 k5.2.2 λn h=>by cases h
     have v6:=au b6 _ q9 k6.1 k6.2.1 k6.2.2 λn h=>by cases h
     have aS:own s2 t6 L.length 5 S0:=D.mono λg hg _=>by
      obtain⟨cg,cc,ch,cd,w1,_⟩:=r2.ex;obtain⟨bZ,w2,_⟩:=r2.sp;exact au g _ hg (λe=>by rw[e,w1] at hg;cases hg) (λe=>by rw[e,r2.num] at hg;cases hg) (λe=>by rw[e,w2] at hg;cases hg) λn h=>by cases h
     rcases ba with rfl|rfl
     ·simp only[go_sem,zE,zA,zM,zL,f2,f4,f5,f6,f9,f38,f39,f40,dA,iNn,show (0<2)=True from eQ (by decide),mZ,show IntKind.u8.wrap (((0:Nat):Int)+1)=((1:Nat):Int) from rfl,show IntKind.i64.wrap (((0:Nat):Int)+1)=((1:Nat):Int) from rfl];exact⟨⟨A++[p],_,p1,[_],rfl,rfl,bi,bk,bl,av bf ah,r8⟩,v4,v5,v6,aS⟩
     ·simp only[go_sem,zE,zA,zM,zL,f2,f4,f5,f6,f9,f38,f39,f40,dA,iNn,show (1<2)=True from eQ (by decide),mZ,show IntKind.u8.wrap (((1:Nat):Int)+1)=((2:Nat):Int) from rfl,show IntKind.i64.wrap (((1:Nat):Int)+1)=((2:Nat):Int) from rfl];exact⟨⟨A++[p],p0,_,[p0,_],rfl,rfl,bi,bk,bl,av bf ah,r8⟩,v4,v5,v6,aS⟩
   ·rintro fr s1 _ ⟨⟨A,p0,p1,aq,f9,rfl,r2,r3,r4,r5,r6⟩,q7,q8,q9,D,f2,f4,f5,f6,f38,f39,f40,rfl⟩;have U:([p0,p1].take v.2.2.length).length=v.2.2.length:=by rw[dQ];simp only[dV,dU];omega
    have bC:ys.length=L.length:=q6.1;have cu:(cutO (mvsN W (calJ ca) ln)).length<=16000000:=by
     have h1:∀l:List (Option Mv),(cutO l).length<=l.length:=λl=>by
      induction l with
      | nil=>exact dJ _
      | cons a l ih =>
       cases a with
       | none=>simp[cutO]
       | some a=>simp only[cutO,dV];omega
     exact dT (h1 _) (zH hS bh aF)
    have cv:L.length=k:=by
     have h1:=dX List.length q1;rw[dQ,dY] at h1;have h2:=(lGs E).1;rw[q5.1];omega
    have cq:=(lGs E).1;simp only[go_sem,zE,zA,zM,zL,f6,f9,f39,f40,dF (nLi _),q9,fits,dW];refine gQ D bC r2.base rfl (by simp[fits,IV.one]) (by simp only;omega) (by omega) λaT s2 w1 w2 w3=>?_;have v4:=w3 b4 _ q7 λn h=>by cases h
    have v5:=w3 b5 _ q8 λn h=>by cases h
    have v6:=w3 b6 _ q9 λn h=>by cases h
    simp only[go_sem,zE,zL,f6,v6];have aG:∀b o,s1 b=some o->b≠b6->(∀n,o≠.front n 5)->(s2.put b6 (some (.box [.sl aT (ys++[.agg [.raw (.int .u8 (v.1:Int)),.raw (.int .u8 (v.2.2.length:Int)),.raw (.int .i32 (v.2.1:Int)),.raw (.int .i32 (p0:Int)),.raw (.int .i32 (p1:Int))]])]))) b=some o:=λb o h h1 h2=>by
     rw[dw h1];exact w3 b o h h2
    refine⟨more++A,vs++[v],L++[(v.1,v.2.1,[p0,p1].take v.2.2.length)],aT,_,?_,r2.elsewhere (eA w2 z6) λb o h ai=>aG b o h ?_ ?_,r3,r4,LksOf.snoc ?_ ⟨rfl,rfl,U,r5⟩,q6.snoc ⟨p0,p1,by rw[U],by rw[U]⟩,?_,?_,b_ ..,?_,?_⟩
    ·rw[dE E,q1,eJ];rfl
    ·rintro rfl;rcases ai with h1|h1|h1|⟨n,h1⟩|⟨n,h1⟩
     ·exact k6.1 h1
     ·exact k6.2.1 h1
     ·exact k6.2.2 h1
     ·rw[q9] at h;rw[h1] at h;cases h
     ·rw[q9] at h;rw[h1] at h;cases h
    ·rintro n rfl;rcases ai with h1|h1|h1|⟨n,h1⟩|⟨n,h1⟩
     ·obtain⟨_,_,_,_,e,_⟩:=r2.ex;rw[h1,e] at h;cases h
     ·rw[h1,r2.num] at h;cases h
     ·obtain⟨_,e,_⟩:=r2.sp;rw[h1,e] at h;cases h
     ·cases h1
     ·cases h1
    ·rw[<- en];exact q5.app
    ·rw[dw λh=>aC h.symm];exact v4
    ·rw[dw λh=>aB h.symm];exact v5
    ·rw[lLa];refine w1.mono λg hg _=>?_;rw[dw λe=>by rw[e,v6] at hg;cases hg];exact hg
    ·have r9:=r6 [];rw[lTl,eo] at r9;intro l;rw[eJ,en,aa];show expF (some v::l) _=_;simp only[expF,r9,addP]
 ·rintro s rr ⟨more,vs,L,t6,ys,q1,q2,q3,q4,q5,q6,q7,q8,q9,D,aa⟩;rw[lTl] at q1;have ax:mvsN W (calJ ca) ln=vs.map some:=by
   have h1:∀l:List (Option Mv),none ∉ cutO l->cutO l=l:=λl=>by
    induction l with
    | nil=>intro _;rfl
    | cons a l ih =>
     intro h;cases a with
     | none=>exact absurd (.head _) h
     | some a=>simp only[cutO] at h ⊢;rw[ih λh'=>h (.tail _ h')]
   rw[<- q1,h1];rw[q1];simp
  simp only[go_sem,zE,zL,q9,q7,q8,dw J,dw (λh=>J h.symm)];refine c_ (.inl ⟨t6,ys,L,vs,more,rfl,D.es,q6,ax,q5,q3,q4,q2.elsewhere (eA (eA q2.base z4) z5) λb o h ai=>?_,by have:=aa [];rw[eo,<- ax] at this;exact this⟩);have hb:∀b',(b'≠rb/\b'≠mN/\b'≠m)->(∃c,s b'=some (.box c))->b≠b':=by
   rintro b' hk ⟨c,hc⟩ rfl;rcases ai with h1|h1|h1|⟨n,h1⟩|⟨n,h1⟩
   ·exact hk.1 h1
   ·exact hk.2.1 h1
   ·exact hk.2.2 h1
   ·rw[hc,h1] at h;cases h
   ·rw[hc,h1] at h;cases h
  rw[dw (hb b5 k5 ⟨_,q8⟩),dw (hb b4 k4 ⟨_,q7⟩)];exact h
 ·rintro e s rr ⟨rfl,w1,w2,ai⟩;rcases ai with⟨w3,w4,w5⟩|⟨w3,w5,w4⟩
  ·simp only[go_sem,zE,w1,w3];exact c_ (.inr (.inl ⟨rfl,w4,w2,w5⟩))
  ·simp only[go_sem,zE,w1,w3];exact c_ (.inr (.inr ⟨rfl,w2,w5,w4⟩))
