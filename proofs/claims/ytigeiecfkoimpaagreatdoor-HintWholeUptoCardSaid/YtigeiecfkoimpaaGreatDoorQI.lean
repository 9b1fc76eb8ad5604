/- Cuts can be left out of both calculi: wh -/
import Derived.Test.YtigeiecfkoimpaaGreatDoorQH
import Derived.Test.YtigeiecfkoimpaaGreatDoorKE
import Derived.Deep.DeepHandedRow
set_option linter.all false
open Nat renaming reduceEqDiff → zE,reduceAdd → zA,reduceLeDiff → zL
namespace Go.Proofs.Tryz
open Go Go.Iv
def Der (j:Bool)(L R:List Fm):Prop:=∃n,HtF j n L R
def Der.sub {j:Bool}{L R L' R':List Fm}(h:Der j L R)(hl:∀f∈L,f∈L')(D:∀f∈R,f∈R'):Der j L' R':=by
 obtain⟨n,h⟩:=h;exact⟨n,h.sub hl D⟩
def Der.close {j:Bool}{L R:List Fm}(h:ClF L R):Der j L R:=⟨1,.inl h⟩
def Der.rule {j:Bool}{L R:List Fm}{f:Fm}{r:Bool}{t:Nat×List Sn}(E:f∈(if r=true then R else L))(ht:t∈addF j f r)(hp:∀p∈t.2,Der j (L++p.1) (rgt j R p.2)):Der j L R:=by
 obtain⟨n,D⟩:=zl (j:=j) (q:=λp=>(L++p.1,rgt j R p.2)) hp;exact⟨n+1,.inr ⟨f,r,E,t,ht,D⟩⟩
mutual
def wgF:Fm->Nat
 | .mk o _ _ sub=>(if o=7 then 2 else 1)+wgFs sub
def wgFs:List Fm->Nat
 | []=>0
 | a::l=>wgF a+wgFs l
end
def nu (R:List Fm):rgt true R []=R:=by unfold rgt;simp
def nv (R:List Fm)(a:Fm)(l:List Fm):rgt true R (a::l)=a::l:=by unfold rgt;simp
def AN {A:Fm}{r:Bool}(D:r=true){t:Nat×List Sn}(h:t∈addF true A r):(∃n us a,A=.mk 3 n us [a]/\t.2=[([a],[])])\/(∃n us a b,A=.mk 4 n us [a,b]/\t.2=[([],[a]),([],[b])]) \/
  (∃n us a b,A=.mk 5 n us [a,b]/\(t.2=[([],[a])]\/t.2=[([],[b])]))\/(∃n us a b,A=.mk 6 n us [a,b]/\t.2=[([a],[b])])\/∃n us a b,A=.mk 7 n us [a,b]/\t.2=[([a],[b]),([b],[a])]:=by
 unfold addF at h;split at h<;>simp at h
 all_goals first
  | (cases D;done)
  | (subst h;first
    | exact .inl ⟨_,_,_,rfl,rfl⟩
    | exact .inr (.inl ⟨_,_,_,_,rfl,rfl⟩)
    | exact .inr (.inr (.inr (.inl ⟨_,_,_,_,rfl,rfl⟩)))
    | exact .inr (.inr (.inr (.inr ⟨_,_,_,_,rfl,rfl⟩))))
  | (rcases h with rfl|rfl
     ·exact .inr (.inr (.inl ⟨_,_,_,_,rfl,.inl rfl⟩))
     ·exact .inr (.inr (.inl ⟨_,_,_,_,rfl,.inr rfl⟩)))
def front {A:Fm}{L M:List Fm}:∀f∈(A::L)++M,f∈A::(L++M):=λf h=>by simpa using h
def sW {L M:List Fm}:∀f∈L,f∈L++M:=λ_ h=>gg _ h
def HW {A:Fm}{L M:List Fm}(h:∀f∈L,f∈M):∀f∈A::L,f∈A::M:=λf D=>by
 rcases dF.1 D with rfl|D
 ·exact .head _
 ·exact .tail _ (h f D)
def mA {a:Fm}{L:List Fm}:∀f∈L++[a],f∈a::L:=λf D=>by
 rcases dQ.1 D with D|D
 ·exact .tail _ D
 ·rw[dR.1 D];exact .head _
def HX {a b:Fm}{L:List Fm}:∀f∈L++[a,b],f∈b::(L++[a]):=λf D=>by
 simp only[dQ,dF,fJ,eU] at D ⊢;rcases D with h|h|h
 ·exact .inr (.inl h)
 ·exact .inr (.inr h)
 ·exact .inl h
def jw {L:List Fm}:∀f∈L,f∈L:=λ_ h=>h
def cutJ:∀(w:Nat)(A:Fm),wgF A<=w->∀(k n m:Nat),n+m<=k->∀L R:List Fm,HtF true n L [A]->HtF true m (A::L) R->Der true L R
 | 0,.mk o _ _ _,h=>by simp only[wgF] at h;split at h<;>omega
 | w+1,A,hA=>by
  have D:∀B:Fm,wgF B<wgF A->∀L R:List Fm,Der true L [B]->Der true (B::L) R->Der true L R:=λB hB L R ⟨n,h1⟩ ⟨m,h2⟩=>cutJ w B (by omega) (n+m) n m (dG _) L R h1 h2;intro k
  induction k with
  | zero =>
   intro n m hk L R h1 _;obtain rfl:n=0:=by omega
   exact h1.elim
  | succ k ih =>
   intro n m hk L R h1 h2;cases n with
   | zero=>exact h1.elim
   | succ n =>
    have am:=h1;rcases h1 with ag|⟨f,r,hf,t,ht,hp⟩
    ·rcases ag with⟨g,hg,aa⟩|⟨g,hg,av⟩
     ·rw[dR.1 aa] at hg;exact⟨m,h2.sub (λf hf=>(dF.1 hf).elim (λe=>e▸hg) id) jw⟩
     ·exact .close (.inr ⟨g,hg,av⟩)
    cases r with
    | false =>
     refine .rule (r:=false) hf ht λp af=>?_;have G:=hp p af;obtain⟨p1,p2⟩:=p;cases p2 with
     | nil =>
      simp only[nu] at G ⊢;exact ih n m (by omega) _ R G (h2.sub (HW sW) jw)
     | cons a l =>
      simp only[nv] at G ⊢;exact⟨n,G⟩
    | true =>
     obtain rfl:f=A:=dR.1 hf;cases m with
     | zero=>exact h2.elim
     | succ m =>
      rcases h2 with ag|⟨g,r,hg,t',J,al⟩
      ·rcases ag with⟨x,hx,ak⟩|⟨x,hx,aj⟩
       ·rcases dF.1 hx with rfl|hx
        ·exact⟨n+1,am.sub jw λy hy=>by rw[dR.1 hy];exact ak⟩
        ·exact .close (.inl ⟨x,hx,ak⟩)
       ·rcases dF.1 hx with rfl|hx
        ·rcases AN rfl ht with⟨_,_,_,rfl,_⟩|⟨_,_,_,_,rfl,_⟩|⟨_,_,_,_,rfl,_⟩|⟨_,_,_,_,rfl,_⟩|⟨_,_,_,_,rfl,_⟩<;>simp[jU] at aj
        ·exact .close (.inr ⟨x,hx,aj⟩)
      ·have E:∀p∈t'.2,Der true (L++p.1) (rgt true R p.2):=λp af=>ih (n+1) m (by omega) _ _ (am.sub sW jw) ((al p af).sub front jw);by_cases aa:r=false/\g=f
       ·obtain⟨rfl,rfl⟩:=aa;rcases AN rfl ht with⟨nn,us,a,rfl,G⟩|⟨nn,us,a,b,rfl,G⟩|⟨nn,us,a,b,rfl,G⟩|⟨nn,us,a,b,rfl,G⟩|⟨nn,us,a,b,rfl,G⟩
        ·have h4:t'=(3,[([],[a])]):=by simpa[addF] using J
         subst h4;have O:=E _ (.head _);rw[G] at hp;have d1:=hp _ (.head _);simp only[nv,nu,ek] at O d1;have h5:Der true (L++[a]) R:=ih n (m+1) (by omega) _ R d1 (HtF.sub (n:=m+1) (.inr ⟨_,_,hg,_,J,al⟩) (HW sW) jw);exact D a (by simp only[wgF,wgFs];split<;>omega) L R O (h5.sub mA jw)
        ·have h4:t'=(5,[([a,b],[])]):=by simpa[addF] using J
         subst h4;have O:=E _ (.head _);rw[G] at hp;have d1:=hp _ (.head _);have d2:=hp _ (.tail _ (.head _));simp only[nv,nu,ek] at O d1 d2;have h5:=D b (by simp only[wgF,wgFs];split<;>omega) (L++[a]) R ⟨n,d2.sub sW jw⟩ (O.sub HX jw);exact D a (by simp only[wgF,wgFs];split<;>omega) L R ⟨n,d1⟩ (h5.sub mA jw)
        ·have h4:t'=(7,[([a],[]),([b],[])]):=by simpa[addF] using J
         subst h4;have O:=E _ (.head _);have e2:=E _ (.tail _ (.head _));simp only[nu] at O e2;rcases G with G|G
         ·rw[G] at hp;have d1:=hp _ (.head _);simp only[nv,ek] at d1;exact D a (by simp only[wgF,wgFs];split<;>omega) L R ⟨n,d1⟩ (O.sub mA jw)
         ·rw[G] at hp;have d1:=hp _ (.head _);simp only[nv,ek] at d1;exact D b (by simp only[wgF,wgFs];split<;>omega) L R ⟨n,d1⟩ (e2.sub mA jw)
        ·have h4:t'=(9,[([],[a]),([b],[])]):=by simpa[addF] using J
         subst h4;have O:=E _ (.head _);have e2:=E _ (.tail _ (.head _));rw[G] at hp;have d1:=hp _ (.head _);simp only[nv,nu,ek] at O e2 d1;have h5:=D a (by simp only[wgF,wgFs];split<;>omega) L [b] O ⟨n,d1.sub mA jw⟩;exact D b (by simp only[wgF,wgFs];split<;>omega) L R h5 (e2.sub mA jw)
        ·have h4:t'=(11,[([imF a b,imF b a],[])]):=by simpa[addF] using J
         subst h4;have O:=E _ (.head _);rw[G] at hp;have d1:=hp _ (.head _);have d2:=hp _ (.tail _ (.head _));simp only[nv,nu] at O d1 d2;have im:∀x y:Fm,HtF true n (L++[x]) [y]->Der true L [imF x y]:=λx y h=>.rule (f:=imF x y) (r:=true) (t:=(10,[([x],[y])])) (.head _) (by simp[addF,imF]) λp hp=>by
          rw[dR.1 hp];simp only[nv];exact⟨n,h⟩
         have h5:=D (imF b a) (by simp only[wgF,wgFs];simp<;>omega) (L++[imF a b]) R ((im b a d2).sub sW jw) (O.sub HX jw);exact D (imF a b) (by simp only[wgF,wgFs];simp<;>omega) L R (im a b d1) (h5.sub mA jw)
       ·refine .rule (f:=g) (r:=r) ?_ J E;cases r with
        | false=>exact (dF.1 hg).resolve_left λe=>aa ⟨rfl,e⟩
        | true=>exact hg
def HY {L R:List Fm}{A:Fm}(h1:Der true L [A])(h2:Der true (A::L) R):Der true L R:=by
 obtain⟨n,h1⟩:=h1;obtain⟨m,h2⟩:=h2;exact cutJ _ A (dG _) _ n m (dG _) L R h1 h2
def cutK {L R:List Fm}{A:Fm}(hp:∀f∈L++R,PF f)(hA:PF A)(h1:Der false L (A::R))(h2:Der false (A::L) R):Der false L R:=by
 apply gM;intro J;have h0:hF false (L,R)=0:=xVj.2 λn hn=>J ⟨n,hn⟩;obtain⟨v,hl,O⟩:=refuted hp h0;have hL:∀f∈L,PF f:=λf E=>hp f (gg _ E);have hR:∀f∈R,PF f:=λf E=>hp f (fV _ E);obtain⟨n,h1⟩:=h1;obtain⟨m,h2⟩:=h2;have D:∀ {l:List Fm},(∀f∈l,PF f)->∀f∈A::l,PF f:=λh f E=>(dF.1 E).elim (λe=>e▸hA) (h f);obtain⟨f,E,hv⟩:=HtF.valid v h1 hL (D hR) hl;rcases dF.1 E with rfl|E
 ·obtain⟨g,hg,G⟩:=HtF.valid v h2 (D hL) hR (λx hx=>(dF.1 hx).elim (λe=>e▸hv) (hl x));rw[O g hg] at G;cases G
 ·rw[O f E] at hv;cases hv
mutual
def HZ {ca:Nat}(hc:ca≠3)(e:List ByteArray):∀f g:Fm,opsB ca f=true->dbF e f=dbF e g->f=g
 | .mk o n us sub,.mk o' n' E D,J,h=>by
  simp only[opsB,bAt,dTe,a_ hc,dEf hc,Bool.false_or,List.isEmpty_iff] at J;obtain⟨⟨⟨h1,h2⟩,rfl⟩,h4⟩:=J;have q:∀o,o<=7->isQ o=false:=by decide
  have q:=q o h2;simp only[dbF,NlF.mk.injEq] at h;obtain⟨rfl,G,O,h⟩:=h;simp only[q,bFt,dE] at G h;cases E with
  | cons a l=>simp[dbs] at O
  | nil=>rw[G,H0 hc e sub D h4 h]
def H0 {ca:Nat}(hc:ca≠3)(e:List ByteArray):∀l m:List Fm,iw ca l=true->dbFs e l=dbFs e m->l=m
 | [],[],_,_=>rfl
 | [],b::m,_,h=>by simp[dbFs] at h
 | a::l,[],_,h=>by simp[dbFs] at h
 | a::l,b::m,hl,h=>by
  simp only[iw,bAt] at hl;simp only[dbFs,jF] at h;rw[HZ hc e a b hl.1 h.1,H0 hc e l m hl.2 h.2]
end
def QQ {ca:Nat}(hc:ca=1\/ca=2){rule:Nat}{R:Rw}{J:Fm}(E:rowS ca rule=some R)(hm:fmB ca J=true)(D:R.op=0\/J.op=R.op) :
  R.asks=0/\((rule=1/\R.left=true/\R.right=true)\/(rule=2/\R.left=true/\J.op=2)\/rule=17 \/
   ∃r t,t∈addF (calJ ca) J r/\addS ca rule J ((J.subs[0]?).getD fm0) ((J.subs[1]?).getD fm0)=t.2.map sqOf/\(r=false->R.left=true)/\(r=true->R.right=true)):=by
 have G:=lr (by omega:ca≠3) hm;have O:rule=1\/rule=2\/rule=3\/rule=4\/rule=5\/rule=6\/rule=7\/rule=8\/rule=9\/rule=10\/rule=11\/rule=12\/rule=17\/(ca=2/\rule=18):=by
  apply gM;intro aa;have:rowS ca rule=none:=by
   unfold rowS;rw[a_ (by omega),a_ (by omega),a_ (by omega),a_ (by omega),a_ (by omega)];unfold rowK
   repeat (rw[a_ (by omega)])
  rw[this] at E;cases E
 rcases O with rfl|rfl|rfl|rfl|rfl|rfl|rfl|rfl|rfl|rfl|rfl|rfl|rfl|⟨rfl,rfl⟩
 ·rcases hc with rfl|rfl<;>simp[rowS,rowK] at E<;>subst E<;>exact⟨rfl,.inl ⟨rfl,rfl,rfl⟩⟩
 ·rcases hc with rfl|rfl<;>simp[rowS,rowK] at E<;>subst E<;>exact⟨rfl,.inr (.inl ⟨rfl,rfl,by simpa using D⟩)⟩
 ·rcases hc with rfl|rfl<;>simp[rowS,rowK] at E<;>subst E<;>simp at D<;>cases G<;>simp[Fm.op] at D
  all_goals first
   | omega
   | exact⟨rfl,.inr (.inr (.inr ⟨false,(3,[([],[_])]),by simp[addF,Fm.subs],rfl,λ_=>rfl,nofun⟩))⟩
 ·rcases hc with rfl|rfl<;>simp[rowS,rowK] at E<;>subst E<;>simp at D<;>cases G<;>simp[Fm.op] at D
  all_goals first
   | omega
   | exact⟨rfl,.inr (.inr (.inr ⟨true,(4,[([_],[])]),by simp[addF,Fm.subs],rfl,nofun,λ_=>rfl⟩))⟩
 ·rcases hc with rfl|rfl<;>simp[rowS,rowK] at E<;>subst E<;>simp at D<;>cases G<;>simp[Fm.op] at D
  all_goals (subst D;exact⟨rfl,.inr (.inr (.inr ⟨false,(5,[([_,_],[])]),by simp[addF,Fm.subs],rfl,λ_=>rfl,nofun⟩))⟩)
 ·rcases hc with rfl|rfl<;>simp[rowS,rowK] at E<;>subst E<;>simp at D<;>cases G<;>simp[Fm.op] at D
  all_goals (subst D;exact⟨rfl,.inr (.inr (.inr ⟨true,(6,[([],[_]),([],[_])]),by simp[addF,Fm.subs],rfl,nofun,λ_=>rfl⟩))⟩)
 ·rcases hc with rfl|rfl<;>simp[rowS,rowK] at E<;>subst E<;>simp at D<;>cases G<;>simp[Fm.op] at D
  all_goals (subst D;exact⟨rfl,.inr (.inr (.inr ⟨false,(7,[([_],[]),([_],[])]),by simp[addF,Fm.subs],rfl,λ_=>rfl,nofun⟩))⟩)
 ·rcases hc with rfl|rfl
  ·simp[rowS,rowK] at E;subst E;simp at D;cases G<;>simp[Fm.op] at D
   all_goals (subst D;exact⟨rfl,.inr (.inr (.inr ⟨true,(8,[([],[_,_])]),by simp[addF,calJ,Fm.subs],rfl,nofun,λ_=>rfl⟩))⟩)
  ·simp[rowS,rowK] at E;subst E;simp at D;cases G<;>simp[Fm.op] at D
   all_goals (subst D;exact⟨rfl,.inr (.inr (.inr ⟨true,(8,[([],[_])]),by simp[addF,calJ,Fm.subs],rfl,nofun,λ_=>rfl⟩))⟩)
 ·rcases hc with rfl|rfl<;>simp[rowS,rowK] at E<;>subst E<;>simp at D<;>cases G<;>simp[Fm.op] at D
  all_goals (subst D;exact⟨rfl,.inr (.inr (.inr ⟨false,(9,[([],[_]),([_],[])]),by simp[addF,Fm.subs],rfl,λ_=>rfl,nofun⟩))⟩)
 ·rcases hc with rfl|rfl<;>simp[rowS,rowK] at E<;>subst E<;>simp at D<;>cases G<;>simp[Fm.op] at D
  all_goals (subst D;exact⟨rfl,.inr (.inr (.inr ⟨true,(10,[([_],[_])]),by simp[addF,Fm.subs],rfl,nofun,λ_=>rfl⟩))⟩)
 ·rcases hc with rfl|rfl<;>simp[rowS,rowK] at E<;>subst E<;>simp at D<;>cases G<;>simp[Fm.op] at D
  all_goals (subst D;exact⟨rfl,.inr (.inr (.inr ⟨false,(11,[([imF _ _,imF _ _],[])]),by simp[addF,Fm.subs],rfl,λ_=>rfl,nofun⟩))⟩)
 ·rcases hc with rfl|rfl<;>simp[rowS,rowK] at E<;>subst E<;>simp at D<;>cases G<;>simp[Fm.op] at D
  all_goals (subst D;exact⟨rfl,.inr (.inr (.inr ⟨true,(12,[([_],[_]),([_],[_])]),by simp[addF,Fm.subs],rfl,nofun,λ_=>rfl⟩))⟩)
 ·rcases hc with rfl|rfl<;>simp[rowS,rowK] at E<;>subst E<;>exact⟨rfl,.inr (.inr (.inl rfl))⟩
 ·simp[rowS] at E;subst E;simp at D;cases G<;>simp[Fm.op] at D
  all_goals (subst D;exact⟨rfl,.inr (.inr (.inr ⟨true,(18,[([],[_])]),by simp[addF,calJ,Fm.subs],rfl,nofun,λ_=>rfl⟩))⟩)
def QR {A:Fm}{r:Bool}(D:r=false){t:Nat×List Sn}(h:t∈addF true A r):∀p∈t.2,p.2≠[]->p.1=[]:=by
 unfold addF at h;split at h<;>simp at h
 all_goals first
  | (cases D;done)
  | (subst h;simp;done)
  | (rcases h with rfl|rfl<;>simp;done)
def QS {A:Fm}{t:Nat×List Sn}(ht:t∈addF true A true){p:Sn}(hp:p∈t.2)(h2:p.2≠[])(L:List Fm):p.1=[]\/Der true (A::(L++p.1)) p.2:=by
 have G:∀(x y:Fm) (n:ByteArray) (us:List Tm) (M:List Fm),Fm.mk 6 n us [x,y]∈M->x∈M->Der true M [y]:=λx y n us M h1 h2 =>
  .rule (f:=.mk 6 n us [x,y]) (r:=false) (t:=(9,[([],[x]),([y],[])])) h1 (by simp[addF]) λp hp=>by
   simp only[dF,fJ,eU] at hp;rcases hp with rfl|rfl
   ·simp only[nv,ek];exact .close (.inl ⟨x,h2,.head _⟩)
   ·simp only[nu];exact .close (.inl ⟨y,by simp,.head _⟩)
 rcases AN rfl ht with⟨n,us,a,rfl,D⟩|⟨n,us,a,b,rfl,D⟩|⟨n,us,a,b,rfl,D⟩|⟨n,us,a,b,rfl,D⟩|⟨n,us,a,b,rfl,D⟩
 ·rw[D,dR] at hp;subst hp;exact absurd rfl h2
 ·rw[D] at hp;simp only[dF,fJ,eU] at hp;rcases hp with rfl|rfl<;>exact .inl rfl
 ·rcases D with D|D<;>rw[D,dR] at hp<;>subst hp<;>exact .inl rfl
 ·rw[D,dR] at hp;subst hp;exact .inr (G a b n us _ (.head _) (by simp))
 ·rw[D] at hp;have two:∀x y:Fm,(Fm.mk 6 noN [] [x,y]=imF a b\/Fm.mk 6 noN [] [x,y]=imF b a)->Der true (Fm.mk 7 n us [a,b]::(L++[x])) [y]:=λx y E =>
   .rule (f:=.mk 7 n us [a,b]) (r:=false) (t:=(11,[([imF a b,imF b a],[])])) (.head _) (by simp[addF]) λp hp=>by
    rw[dR.1 hp];simp only[nu];exact G x y noN [] _ (fV _ (by rcases E with h|h<;>rw[h]<;>simp)) (by simp)
  simp only[dF,fJ,eU] at hp;rcases hp with rfl|rfl
  ·exact .inr (two a b (.inl rfl))
  ·exact .inr (two b a (.inr rfl))
def QT {ca:Nat}(hc:ca=1\/ca=2){rule:Nat}{s:Sq}{D:Fm}{u:Tm}{n:ByteArray}{sub:List Tr}(hk:fF ca (.mk rule s D u n sub)=0)
  (hs:∀a∈sub,en ca a.sq=true/\Der (calJ ca) a.sq.l a.sq.r):Der (calJ ca) s.l s.r:=by
 have aj:ca≠3:=by omega
 obtain⟨h1,h2,h3⟩:=Pn hk;obtain⟨R,k1,k2,k3,k4,k5,k6,k7⟩:=Pm h1;obtain⟨ad,G⟩:∃ad,fQ ca rule R D u n=(ad,0):=⟨_,Prod.ext rfl k3⟩
 rw[k7,G] at h2 h3;simp only at h2 h3;have aC:=qJ k1;have ag:fmB ca D=true/\(R.op=0\/D.op=R.op):=by
  unfold fQ at G;by_cases h:(!fmB ca D || (decide (R.op≠0)&&decide (D.op≠R.op)))=true
  ·rw[cX h] at G;cases G
  ·simp at h;refine⟨h.1,?_⟩;by_cases h0:R.op=0
   ·exact .inl h0
   ·exact .inr (h.2 h0)
 obtain⟨hm,ao⟩:=ag;obtain⟨aE,ai⟩:=QQ hc k2 hm ao;have ab:ad=addS ca rule D ((D.subs[0]?).getD fm0) ((D.subs[1]?).getD fm0):=by
  unfold fQ at G;rw[a_ (by rw[hm];rcases ao with h|h<;>simp[h])] at G;simp only[aE,dJ] at G;exact (dZ Prod.fst G).symm
 have mem:∀ {l:List Fm} {f:Fm},fmB ca f=true->hasF l f=true->f∈l:=λE h=>by
  obtain⟨g,hg,he⟩:=wVv.1 h;rw[HZ aj [] _ g (vQ5.1 E).2.2.2 (vQd.1 he).2.2.2];exact hg
 have ac:=λh=>mem hm (k4 h);have am:=λh=>mem hm (k5 h)
 -- aM ak
 have J:∀q∈ad,∃Q:List Fm,Der (calJ ca) (s.l++q.l) Q/\(∀f∈Q,f∈s.r++q.r)/\(ca=2->∀f∈Q,∀g∈Q,f=g):=λq hq=>by
  obtain⟨i,hi⟩:=List.getElem?_of_mem hq;have au:i<sub.length:=by have:=(lGs hi).1;omega
  have hw:=GP s ad sub h3 i q _ hi (dT au);obtain⟨hv,hd⟩:=hs _ (jI au);have aw:=qJ hv;unfold m_ at hw;simp only[bAt,Sq.plus] at hw;have w1:∀f∈sub[i].sq.l,f∈s.l++q.l:=λf E=>mem (aw f (gg _ E)) (xJe.1 hw.1 f E);have w2:∀f∈sub[i].sq.r,f∈s.r++q.r:=λf E=>mem (aw f (fV _ E)) (xJe.1 hw.2 f E);refine⟨sub[i].sq.r,hd.sub w1 λ_ h=>h,w2,λh2=>?_⟩;subst h2;exact z8 hv
 rcases ai with⟨_,h4,h5⟩|⟨_,h4,h5⟩|rfl|⟨r,t,ht,aD,h4,h5⟩
 ·exact .close (.inl ⟨D,ac h4,am h5⟩)
 ·refine .close (.inr ⟨D,ac h4,?_⟩);obtain⟨o,nn,us,sb⟩:=D;simp only[Fm.op] at h5;simp[jU,h5]
 ·have hA:ad=[⟨[],[D]⟩,⟨[D],[]⟩]:=by rw[ab];rfl
  rw[hA] at J;obtain⟨Q0,d0,e0,u0⟩:=J _ (.head _);obtain⟨Q1,d1,e1,u1⟩:=J _ (.tail _ (.head _));simp only[ek] at d0 e1;rcases hc with rfl|rfl
  ·refine cutK (A:=D) (λf E=>lr aj (aC f E)) (lr aj hm) (d0.sub (λ_ h=>h) λf E=>mA f (e0 f E)) (d1.sub (λf E=>mA f E) e1)
  ·have dm:Der true (D::s.l) s.r:=d1.sub (λf E=>mA f E) e1;by_cases hq:∀f∈Q0,f∈[D]
   ·exact HY (d0.sub (λ_ h=>h) hq) dm
   ·refine d0.sub (λ_ h=>h) λf E=>?_;obtain⟨g,hg⟩:=Classical.not_forall.1 hq;obtain⟨aa,ah⟩:=Classical.not_imp.1 hg;rw[u0 rfl f E g aa];exact (dQ.1 (e0 g aa)).resolve_right ah
 ·have hA:ad=t.2.map sqOf:=by rw[ab,aD]
  have O:D∈(if r=true then s.r else s.l):=by
   cases r with
   | false=>exact ac (h4 rfl)
   | true=>exact am (h5 rfl)
  have pr:∀p∈t.2,∃Q:List Fm,Der (calJ ca) (s.l++p.1) Q/\(∀f∈Q,f∈s.r++p.2)/\(ca=2->∀f∈Q,∀g∈Q,f=g):=λp hp=>J (sqOf p) (by rw[hA];exact gh hp);rcases hc with rfl|rfl
  ·refine .rule O ht λp hp=>?_;obtain⟨Q,d,e,_⟩:=pr p hp;exact d.sub (λ_ h=>h) λf E=>by
    show f∈rgt false s.r p.2;unfold rgt;simpa using e f E
  ·apply gM;intro af;refine af (.rule O ht λp hp=>?_);obtain⟨Q,d,e,uq⟩:=pr p hp;have uq:=uq rfl;have an:(∀f∈Q,f∈p.2)\/∀f∈Q,f∈s.r:=by
    by_cases hq:∀f∈Q,f∈p.2
    ·exact .inl hq
    ·obtain⟨g,hg⟩:=Classical.not_forall.1 hq;obtain⟨aa,ah⟩:=Classical.not_imp.1 hg;refine .inr λf E=>?_;rw[uq f E g aa];exact (dQ.1 (e g aa)).resolve_right ah
   have d:Der true (s.l++p.1) Q:=d;show Der true (s.l++p.1) (rgt true s.r p.2);by_cases h2:p.2=[]
   ·rw[h2,nu];rcases an with h|h
    ·exact d.sub (λ_ h=>h) λf E=>by have:=h f E;rw[h2] at this;cases this
    ·exact d.sub (λ_ h=>h) h
   ·have aA:rgt true s.r p.2=p.2:=by unfold rgt;simp[h2]
    rw[aA];rcases an with h|h
    ·exact d.sub (λ_ h=>h) h
    ·have dr:Der true (s.l++p.1) s.r:=d.sub (λ_ h=>h) h;cases r with
     | false =>
      have h1:=QR rfl ht p hp h2;rw[h1,ek] at dr;exact (af dr).elim
     | true =>
      have hu:=z8 k1;have aB:D∈s.r:=O;rcases QS ht hp h2 s.l with h1|h1
      ·rw[h1,ek] at dr;exact (af dr).elim
      ·exact HY (A:=D) (dr.sub (λ_ h=>h) λf E=>by rw[hu f E D aB];exact .head _) h1
def AO:∀(p:List Nat)(t:Tr),okP t p->∀z∈ga (atT t p),z∈ga t
 | [],t,_,z,D=>by rwa [show atT t []=t by cases t;rfl] at D
 | i::p,.mk r s m u n sub,⟨a,h1,h2⟩,z,D=>by
  rw[show atT (.mk r s m u n sub) (i::p)=atT a p by simp only[atT,h1]] at D;rw[oY];exact .tail _ (fh.2 ⟨a,lMg h1,AO p a h2 z D⟩)
def H2 {ca:Nat}(hc:ca=1\/ca=2):∀(k:Nat) (t:Tr),SizeOf.sizeOf t<k->(∀z∈ga t,fF ca z=0)->Der (calJ ca) t.sq.l t.sq.r
 | 0,t,h,_=>by omega
 | k+1,.mk r s m u n sub,h,E=>by
  rw[oY] at E;refine QT hc (E _ (.head _)) λa J=>?_;have D:∀z∈ga a,z∈Tr.mk r s m u n sub::sub.flatMap ga:=λz D=>.tail _ (fh.2 ⟨a,J,D⟩);refine⟨?_,H2 hc k a (by have:=lSm J;simp at h;omega) λz h=>E z (D z h)⟩;have:=E a (D a (PN a));obtain⟨r',s',m',O,n',G⟩:=a;exact Pj this
def H3 (s:Sq):∀(ad:List Sq) (sub:List Tr),gT s ad (sub.map λp=>goalT p.sq)=gT s ad sub
 | [],_=>by simp[gT]
 | m::ad,[]=>by simp[gT]
 | m::ad,t::sub=>by simp only[ec,gT,H3 s ad sub];rfl
def QU {ca:Nat}(hc:ca=1\/ca=2)(s:Sq)(rule:Nat)(m:Fm)(u:Tm)(n:ByteArray):fU ca s rule m tmZ noN=fU ca s rule m u n:=by
 unfold fU;cases E:rowS ca rule with
 | none=>rfl
 | some R =>
  have h0:=Pq (by omega) E;have D:fQ ca rule R m tmZ noN=fQ ca rule R m u n:=by unfold fQ;simp only[h0,dJ]
  simp only[D,h0];rfl
def QV {ca:Nat}(hc:ca=1\/ca=2)(z:Tr):fF ca (shal z)=fF ca z:=by
 obtain⟨r,s,m,u,n,sub⟩:=z;simp only[shal,fF,QU hc s r m u n,dP,H3]
def QW {ca:Nat}(hc:ca=1\/ca=2){z:Tr}(D:ki z=false)(hs:(shal z).steps<=300):gx ca z=true↔fF ca z=0:=by
 have G:jV z=false:=by
  obtain⟨r,s,m,u,n,sub⟩:=z;simp only[ki] at D;simp only[jV,D,oq]
 have E:gR ca=true:=by unfold gR;rcases hc with rfl|rfl<;>rfl
 rw[<- QV hc z];constructor
 ·intro h;unfold gx at h;rw[G] at h;simp only[bFt,dE] at h;unfold gj at h;rw[E] at h;simp only[ly,bFt,dE] at h;rw[a_ (by omega)] at h;obtain⟨r,s,m,u,n,sub⟩:=z;by_cases h0:fF ca (shal (.mk r s m u n sub))=0
  ·exact h0
  ·simp only[shal,Tr.walk] at h h0;rw[fz,a_ h0] at h;simp[h0] at h
 ·exact sR E G hs
def H4 {e E:Tr->Nat}:∀w:List (List Nat×Tr),(∀q∈w,e q.2=0↔E q.2=0)->(fz e w).1=(fz E w).1/\((fz e w).2=0↔(fz E w).2=0)
 | [],_=>⟨rfl,Iff.rfl⟩
 | (p,z)::w,h=>by
  have h0:=h (p,z) (.head _);have G:=H4 w λq J=>h q (.tail _ J);rw[fz,fz];by_cases D:e z=0
  ·rw[cX D,cX (h0.1 D)];exact G
  ·rw[a_ D,a_ λh=>D (h0.2 h)];exact⟨rfl,⟨λh=>absurd h D,λh=>absurd (h0.2 h) D⟩⟩
def H5 {ca:Nat}:∀w:List (List Nat×Tr),(fz (badN ca) w).2=0\/(fz (badN ca) w).2=270
 | []=>.inl rfl
 | (p,z)::w=>by
  rw[fz];split
  ·exact H5 w
  ·rename_i h;unfold badN at h ⊢;split at h
   ·exact absurd rfl h
   ·rename_i D;rw[a_ D];exact .inr rfl
def H6 (t:Tr):(eY t).length=kj (λ_=>(0,0)) t:=by
 unfold eY kj ga;rw[dP,List.filter_map,dP];congr 1;refine List.filter_congr λq _=>?_;simp[lstB]
def H7 {t:Tr}(h:eY t=[]):∀z∈ga t,ki z=false:=λz D=>by
 obtain⟨p,hp⟩:=Ao D;unfold eY at h;rw[List.map_eq_nil_iff,List.filter_eq_nil_iff] at h;have:=h (p,z) hp;simpa using this
def QX {ca:Nat}(hc:ca=1\/ca=2){t:Tr}(hs:t.steps<=60)(h:eY t=[]) :
  (hCk ca t).1=(gj ca t).1/\((hCk ca t).2=0↔(gj ca t).2=0)/\((hCk ca t).2=0\/(hCk ca t).2=270)/\((hCk ca t).2=0->∀z∈ga t,fF ca z=0):=by
 have hk:gR ca=true:=by unfold gR;rcases hc with rfl|rfl<;>rfl
 have G:∀z∈ga t,(shal z).steps<=300:=λz D=>by
  obtain⟨p,hp⟩:=Ao D;have h1:=Ak _ _ _ hp;obtain⟨r,s,m,u,n,sub⟩:=z;have h2:=QJ sub;simp only[Tr.steps] at h1;simp only[shal,Tr.steps];have h3:eE (sub.map λp=>goalT p.sq)=sub.length:=by
   have:=HC (sub.map λp=>(p.sq.l,p.sq.r));rw[gZ,dP] at this;exact this
  omega
 have E:=λz D=>QW hc (H7 h z D) (G z D);have hC:gj ca t=fz (fF ca) (t.walk []):=by unfold gj;rw[hk];simp only[ly,bFt,dE];rw[a_ (by omega)]
 have O:hCk ca t=fz (badN ca) (t.walk []):=by unfold hCk;rw[cX hc,a_ (by omega)]
 have hb:∀q∈t.walk [],badN ca q.2=0↔fF ca q.2=0:=λq hq=>by
  rw[<- E q.2 (dH.2 ⟨q,hq,rfl⟩)];unfold badN;split
  ·rename_i J;exact⟨λ_=>J,λ_=>rfl⟩
  ·rename_i J;exact⟨λh=>(by cases h),λh=>absurd h J⟩
 obtain⟨k1,k2⟩:=H4 (t.walk []) hb;rw[hC,O];refine⟨k1,k2,H5 _,λh0 z D=>?_⟩;rw[<- O] at h0;exact (E z D).1 ((sV (by omega) hc).1 h0 z D)
def QY {t:Tr}(h:eY t=[]){p:List Nat}(hp:okP t p):eY (gK t p)=[p]:=by
 have h1:kj (λ_=>(0,0)) t=0:=by rw[<- H6,h];rfl
 have h2:kj (λ_=>(0,0)) (atT t p)=0:=by
  unfold kj;rw[lC,List.filter_eq_nil_iff];intro z O;unfold lstB;rw[H7 h z (AO p t hp z O)];simp
 have D:=HK (λ_=>(0,0)) p t hp;rw[h1,h2] at D;simp only[dJ] at D;rw[<- H6] at D;have D:(eY (gK t p)).length=1:=D;obtain⟨J,G⟩:=AI p t hp;have E:p∈eY (gK t p):=by
  unfold eY;refine dH.2 ⟨(p,atT (gK t p) p),jf.2 ⟨vG p _ [] J,?_⟩,rfl⟩;rw[G];rfl
 match hg:eY (gK t p),D with
 | [a],_ =>
  rw[hg] at E;rw[dR.1 E]
def QZ {ca:Nat}(hc:ca=1\/ca=2){t:Tr}(h:∀z∈ga t,fF ca z=0){p:List Nat}(hp:okP t p):0<Tryz.hF (calJ ca) ((atT t p).sq.l,(atT t p).sq.r):=by
 obtain⟨n,E⟩:=H2 hc _ (atT t p) (eS _) λz D=>h z (AO p t hp z D);exact (nr (s:=((atT t p).sq.l,(atT t p).sq.r)) E).2.2
end Go.Proofs.Tryz
namespace Go.Proofs.Tryz
open Go Go.Iv
set_option maxRecDepth 8000
variable (gl:Nat->Option IV)
def Q2 {ca:Nat}(hc:ca=1\/ca=2){s:Sq}(hv:en ca s=true):errN ca s=0\/errN ca s=4\/errN ca s=5:=by
 unfold errN;rw[cX hc,cX hv];have E:∀(l:List (Option Mv)) (ls:List Ln),(expF l ls).2=0\/(expF l ls).2=4\/(expF l ls).2=5:=λl=>by
  induction l with
  | nil=>exact λ_=>.inl rfl
  | cons a l D =>
   intro ls;cases a with
   | none=>exact .inr (.inr rfl)
   | some v =>
    rw[expF];split
    ·exact .inr (.inl rfl)
    ·exact D _
 have key:∀(q n:Nat) (ls:List Ln),runF (spW s) (calJ ca) q n ls=0\/runF (spW s) (calJ ca) q n ls=4\/runF (spW s) (calJ ca) q n ls=5:=λq=>by
  induction q with
  | zero=>exact λ_ _=>.inl rfl
  | succ q D =>
   intro n ls;rw[runF];split
   ·exact .inl rfl
   ·split
    ·exact D _ _
    ·split
     ·exact D _ _
     ·exact E _ _
 exact key _ _ _
def w_at:∀(p:List Nat)(t:Tr),okP t p->wFms (atT t p).sq.l<=wTr t/\wFms (atT t p).sq.r<=wTr t
 | [],.mk r s f u n sub,_=>by simp only[atT,Tr.sq,wTr];omega
 | i::p,.mk r s f u n sub,⟨a,h1,h2⟩=>by
  have E:=w_at p a h2;have D:=Az (lMg h1);simp only[atT,h1,wTr];omega
def Q3 {t:Tr}{a o v:IV}{J G E a1 a2 a3 a4:IV}{tl tr:Tag}{xl D:List IV}(h:IsTr t (.agg [a,.sl tl xl,.sl tr D,o,J,a1,a2,v,G,a3,E,a4])):IsSq t.sq (.agg [.sl tl xl,.sl tr D]):=by
 obtain⟨r,s,m,u,n,sub⟩:=t;obtain⟨_,_,_,_,_,_,_,_,_,_,_,_,_,_,_,_,O,_,b1,c1,b2,c2,_⟩:=h.mk;cases O;exact⟨_,_,_,_,rfl,b1,c1,b2,c2⟩
def Q4 {ca:Nat}(hc:ca=1\/ca=2)(s:Sq):decide (((hCk ca (goalT s)).2:Int)=0)=en ca s:=by
 have D:gx ca (goalT s)=en ca s:=by
  unfold gx;rw[cX (by rw[jV,(kc fm0 fm0).2 rfl];rfl)];rfl
 have h:=sV (ca:=ca) (t:=goalT s) (by simp only[Tr.steps,eE];omega) hc;have E:ga (goalT s)=[goalT s]:=rfl;rw[E] at h;simp only[dR,forall_eq,D] at h;cases hv:en ca s
 ·rw[hv] at h;exact dEf λh0=>by
   have:=h.1 (by omega);cases this
 ·rw[hv] at h;exact dEt (by have:=h.2 rfl;omega)
set_option maxHeartbeats 4000000 in
def Ml (G:Gl gl)(T:Gt gl)(aa:∀g x,gl g=some x->age x=x)(b:Bool)(t:Tr)(x:IV)(hx:IsTr t x)(hw:wTr t<=1099511627776)(wh:Nat)(bJ:wh<256)(st:ISt) :
  ICall prog gl 3 [b,x,.raw (.int .u8 (wh:Int))] st (λr st'=>r=true/\st'=st):=by
 have bc:=λst=>Qu gl G T aa st;have a1:=λst=>Qh gl t x hx hw st;have aH:=λst=>Qv gl b st;have O:(if b=true then 2 else 1:Nat)=1\/(if b=true then 2 else 1:Nat)=2:=by cases b<;>simp
 generalize (if b=true then 2 else 1:Nat)=ca at aH O;have an:=λhs st=>sJ gl aa t x hx hs st;have hCk:=λD hs st=>qL gl G T ca t x hx D hs st;have al:=λD st=>yW gl G T ca t x hx D st;have ag:=λD hs J hl st=>HD gl G T aa ca t x hx D hs J hl st;have am:=λD hs st=>QD gl G T aa ca t x hx D hs 1 (by omega) (by omega) st;have aw:=hx;obtain⟨rule,tl,xl,tr,xr,op,fn,ta,xa,tb,xb,v,un,tu,xu,n,ts,xs,rfl⟩:=ft hx;have az:=Q3 aw;refine ICall.intro (c:=cf prog gl [18] []) func3 rfl (by show _<=144;simp) (by kernel_rfl) ?_;simp only[go_sem,zE,zA];refine (bc _).q ?_;simp only[go_sem,zE,zA,reduceCtorEq];refine (aH _).q ?_;simp only[go_sem,zE,zA,zL];refine (a1 _).q ?_;cases hs:(okT t&&decide (t.steps<=60))
 ·simp only[go_sem];exact c_ ⟨rfl,rfl⟩
 simp only[bAt,dTe] at hs;obtain⟨aj,hst⟩:=hs;have D:=oZ aj (by omega);have an:=an (by omega);have hCk:=hCk D (by omega);have al:=al D;have am:=am D (by omega);have aW:fY t.sq:=vM (p:=[]) D trivial;have aU:=sT az;have aT:=λst=>qN gl tl xl tr xr st;have aG:=λst=>qL gl G T ca (goalT t.sq) _ aU (oZ (by have:=AM [] t trivial aj;rwa [pc] at this) (by simp only[Tr.steps,eE];omega)) (by simp only[Tr.steps,eE];omega) st;have aY:=λst=>uO gl G ca t.sq _ az aW st;have aV:=Q4 O t.sq;simp only[go_sem,zE,zA,zL];refine (aT _).q ?_;unfold gI at aG ⊢;simp only[go_sem,zE,zA];refine (aG _).mono ?_;rintro _ st ⟨⟨bF,rfl,_⟩,rfl⟩;simp only[go_sem,zE,zA,zL];refine (aY _).q ?_;simp only[go_sem,zE,zA,zL,aV];refine (an _).mono ?_;rintro _ st ⟨⟨bC,ys,rfl,bi,hys⟩,rfl⟩;have av:=hys.1;by_cases E:eY t=[]
 case neg =>
  have dl:decide ((0:Int)<(ys.length:Int))=true:=dEt (by
   cases hg:eY t with
   | nil=>exact absurd hg E
   | cons a l=>rw[hg,dX] at av;omega)
  simp only[go_sem,dl];intro _;exact c_ ⟨rfl,rfl⟩
 have dl:decide ((0:Int)<(ys.length:Int))=false:=dEf (by rw[av,E];simp);obtain⟨w1,w2,w3,w4⟩:=QX O hst E;simp only[go_sem,zE,zA,zL,dl];intro _;refine (hCk _).mono ?_;rintro _ st ⟨⟨aL,rfl,ay⟩,rfl⟩;simp only[go_sem,zE,zA,zL];refine (al _).mono ?_;rintro _ st ⟨⟨aK,rfl,ax⟩,rfl⟩;have dc:decide (((gj ca t).2:Int)=0)=decide (((Tryz.hCk ca t).2:Int)=0):=by
  rw[fH];constructor
  ·intro h;have:=w2.2 (by omega);omega
  ·intro h;have:=w2.1 (by omega);omega
 have aE:=λst=>Mx gl aL aK (Tryz.hCk ca t).1 (gj ca t).1 ay ax st;rw[yZ1.2 w1] at aE;simp only[go_sem,zE,zA,dc];refine (aE _).q ?_;by_cases J:(Tryz.hCk ca t).2=0
 case neg =>
  have d0:decide (((Tryz.hCk ca t).2:Int)=0)=false:=dEf (by omega);have d1:decide (((Tryz.hCk ca t).2:Int)=270)=true:=dEt (by omega);simp only[go_sem,zE,d0,d1];exact c_ ⟨rfl,rfl⟩
 have d0:decide (((Tryz.hCk ca t).2:Int)=0)=true:=dEt (by omega);have ag:=ag D (by omega) J (by rw[E];simp);have aS:iD ca t=(0,0):=by unfold iD;rw[E]
 rw[aS] at ag;simp only[go_sem,zE,zA,zL,d0];refine (ag _).q ?_;simp only[go_sem,zE,zA,zL];refine (am _).mono ?_;rintro r st ⟨hr,rfl⟩;obtain rfl:r=.tup [.agg advZ,(271:Int)]:=by
  rcases hr with⟨h,_⟩|⟨_,_,h⟩|⟨_,p,ps,_,h,_⟩
  ·exact absurd J h
  ·exact h
  ·rw[E] at h;cases h
 simp only[go_sem,zE,zA,zL,dC,show decide (((0:Nat):Int)=0)=true from rfl];refine λkb=>d_ λae=>?_;have ww:IntKind.i64.wrap (wh:Int)=(wh:Int):=by rw[IntWalk.i64_in _ (by omega)]
 simp only[go_sem,zL,ww,IV.one,IV.cells,eN];have a6:=pr_c gl t _ aw (by omega) kb wh (by omega) _ (b_ (st:=st) kb (some (.box [(wh:Int)])));refine a6.mono ?_;rintro _ ac ⟨p,hp,⟨z,y,rfl,hz,hy⟩,k',rfl⟩;rw[eN];have ab:=hz;have aC:=AM p t hp aj;have aZ:=dN (AL p t hp) hst;have aD:=QI O (by omega) hp J;have af:=QY E hp;obtain⟨_,ak⟩:=AI p t hp;have hF:=QZ O (w4 J) hp;have ai:=HN ((sV (by omega) O).1 J _ (An hp));have aX:=vM D hp;have aQ:=w_at p t hp;generalize gK t p=U at ab aC aZ aD af ak hz;generalize (atT t p).sq=q at hy hF ai aX ak aQ;have aB:=oZ aC (by omega);have bb:=λst=>qL gl G T ca U z ab aB (by omega) st;have ba:=λst=>sJ gl aa U z ab (by omega) st;have a8:=λst=>HD gl G T aa ca U z ab aB (by omega) aD (by rw[af];simp) st;have a7:=λst=>NN gl q y hy ⟨by omega,by omega⟩ st;have aF:iD ca U=if (leF ca q).2≠0 then (0,(leF ca q).2) else if (leF ca q).1=0 then (0,272) else ((leF ca q).1,0):=by
  unfold iD;rw[af];show (if (leF ca (atT U p).sq).2≠0 then _ else if (leF ca (atT U p).sq).1=0 then _ else _)=_;rw[ak];rfl
 have aA:(∃h:Nat,0<h/\iD ca U=(h,0))\/iD ca U=(0,4)\/iD ca U=(0,5):=by
  rw[aF];rcases Q2 O ai with h|h|h
  ·have e1:(leF ca q).2=0:=h;have e2:(leF ca q).1=Tryz.hF (calJ ca) (q.l,q.r):=by show (if errN ca q=0 then _ else 0)=_;rw[cX h]
   rw[a_ (by rw[e1];simp),e2,a_ (by omega)];exact .inl ⟨_,hF,rfl⟩
  ·have e1:(leF ca q).2=4:=h;rw[cX (by rw[e1];simp),e1];exact .inr (.inl rfl)
  ·have e1:(leF ca q).2=5:=h;rw[cX (by rw[e1];simp),e1];exact .inr (.inr rfl)
 obtain⟨q1,p1,q2,p2,rfl⟩:∃q1 p1 q2 p2,y=.agg [.sl q1 p1,.sl q2 p2]:=by
  obtain⟨q1,p1,q2,p2,rfl,_⟩:=hy;exact⟨q1,p1,q2,p2,rfl⟩
 obtain⟨aM,bA,bp,tr2,bn,bI,bM,bH,br,bG,bq,v2,bu,bw,bl,n2,bx,bm,rfl⟩:=ft ab;have d3:decide (((Tryz.hCk ca U).2:Int)=0)=true:=dEt (by omega);simp only[go_sem,zE,zA,zL];refine (bb _).mono ?_;rintro _ ac ⟨⟨bD,rfl,_⟩,rfl⟩;simp only[go_sem,zE,zA,zL,d3];refine (ba _).mono ?_;rintro _ ac ⟨⟨bB,yu,rfl,bh,aN⟩,rfl⟩;have au:yu.length=1:=by rw[aN.1,af];rfl
 simp only[go_sem,zE,zA,zL,au,show decide (((1:Nat):Int)=1)=true from rfl];refine (a7 _).q ?_;cases va q
 ·simp only[go_sem];exact eI (fb ae) ⟨rfl,rfl⟩
 simp only[go_sem,zE,zA,zL];refine (a8 _).q ?_;rcases aA with⟨h,h0,he⟩|he|he
 ·rw[he];have dh:decide ((1:Int)<=(h:Int))=true:=dEt (by omega);simp only[go_sem,zE,dh,show decide (((0:Nat):Int)=0)=true from rfl];exact eI (fb ae) ⟨rfl,rfl⟩
 ·rw[he];simp only[go_sem,zE,show decide (((4:Nat):Int)=0)=false from rfl,show decide (((4:Nat):Int)=4)=true from rfl];exact eI (fb ae) ⟨rfl,rfl⟩
 ·rw[he];simp only[go_sem,zE,show decide (((5:Nat):Int)=0)=false from rfl,show decide (((5:Nat):Int)=4)=false from rfl,show decide (((5:Nat):Int)=5)=true from rfl];exact eI (fb ae) ⟨rfl,rfl⟩
end Go.Proofs.Tryz
namespace Go.Proofs.Tryz
open Go Go.Iv Go.ChangeShapes
open Go.Proofs.YtigeiecfkoimpaaGreatDoor.Rows (uptoBulk uptoBulkAll)
set_option maxRecDepth 4000
def uSeq:prog.underlying 24=some (.struct #[⟨ "Left",22,0,false, "", "",0⟩,⟨ "Right",22,1,false, "", "",24⟩]):=by kernel_rfl
def H8:prog.underlying 32=some (.struct #[⟨ "Rule",5,0,false, "", "",0⟩,⟨ "Seq",24,1,false, "", "",8⟩,⟨ "Main",27,3,false, "", "",56⟩,⟨ "Term",29,7,false, "", "",128⟩,⟨ "Name",9,10,false, "", "",176⟩,⟨ "Sub",30,11,false, "", "",192⟩]):=by kernel_rfl
def Q5:prog.underlying 30=some (.slice 32):=by kernel_rfl
def nSeq:prog.cellsOf 24=2:=by kernel_rfl
def H9:prog.cellsOf 32=12:=by kernel_rfl
mutual
def H_:∀t:Tm,wTm t<=2*pS t
 | .mk _ n us=>by have:=AP us;simp only[wTm,pS];omega
def AP:∀l:List Tm,wTms l<=2*ml l
 | []=>dG _
 | a::l=>by have:=H_ a;have:=AP l;simp only[wTms,ml];omega
end
mutual
def Ia:∀f:Fm,wFm f<=2*pT f
 | .mk _ n us sub=>by have:=AP us;have:=vO sub;simp only[wFm,pT];omega
def vO:∀l:List Fm,wFms l<=2*mT l
 | []=>dG _
 | a::l=>by have:=Ia a;have:=vO l;simp only[wFms,mT];omega
end
section
variable {H:Type}{enc:TypeId×Value->H}{w:World}{spare:Nat->Bool}{held:Bool}
def RQ (d:DataW H)(s:Sq)(x:IV):Prop:=IsSq s x/\wFms s.l+wFms s.r<=2*uptoBulk d
def Q6 (aa:Nat)(cs:List Value)(y:DataW H×List MemPlace)(h:DataW.trod enc prog w 0 spare held aa 24 cs=some y)(hb:uptoBulk y.1<=1048576):∃s x,VL 0 (L0 w) w cs x.cells/\RQ y.1 s x:=by
 obtain⟨ys,n,rfl,rfl,hl,O,hf⟩:=DataW.trod_struct uSeq h
 match ys,O with
 | [y0,y1],_ =>
  rw[nSeq] at hl
  match cs,hl with
  | [c0,c1],_ =>
   have h0:=hf 0 _ rfl;have h1:=hf 1 _ rfl;simp only[kr,gY] at h0 h1;simp only[ec,fG,uptoBulk,uptoBulkAll] at hb;obtain⟨v0,J,E,l0,e0,ac,af,ah,am⟩:=yj h0 (by omega) (λm _=>yk m);obtain⟨v1,G,D,l1,e1,ab,ae,ag,al⟩:=yj h1 (by omega) (λm _=>yk m);cases e0;cases e1;refine⟨⟨l0,l1⟩,.agg [.sl J E,.sl G D],VL.cons ac (VL.cons ab VL.nil),⟨J,E,G,D,rfl,af,ah,ae,ag⟩,?_⟩;have:=vO l0;have:=vO l1;simp only[ec,fG,uptoBulk,uptoBulkAll];omega
def Ib:∀ {us:List Tr}{xs:List IV},us.length=xs.length->(∀(i:Nat)(a:Tr)(x:IV),us[i]?=some a->xs[i]?=some x->IsTr a x)->IsTrs us xs
 | [],xs,h,_=>by simpa[IsTrs] using h.symm
 | a::us,[],h,_=>by simp at h
 | a::us,x::xs,h,D=>⟨x,xs,rfl,D 0 a x rfl rfl,Ib (by simpa using h) (λi b y G E=>D (i+1) b y (by simpa using G) (by simpa using E))⟩
def Ic:∀ {us:List Tr}{ds:List (DataW H)},us.length=ds.length->(∀(i:Nat)(a:Tr)(d:DataW H),us[i]?=some a->ds[i]?=some d->wTr a+a.steps<=2*uptoBulk d)->wTrs us+eE us<=2*uptoBulkAll ds
 | [],ds,h,_=>by simp[wTrs,eE]
 | a::us,[],h,_=>by simp at h
 | a::us,x::xs,h,D=>by
  have h1:=D 0 a x rfl rfl;have h2:=Ic (us:=us) (ds:=xs) (by simpa using h) (λi b y G E=>D (i+1) b y (by simpa using G) (by simpa using E));simp only[wTrs,eE,uptoBulkAll];omega
def RR (d:DataW H)(t:Tr)(x:IV):Prop:=IsTr t x/\wTr t+t.steps<=2*uptoBulk d
def RR.cells {d:DataW H}{t:Tr}{x:IV}(h:RR d t x):x.cells.length=12:=by
 obtain⟨_,_,_,_,_,_,_,_,_,_,_,_,_,_,_,_,_,_,rfl⟩:=ft h.1;rfl
def Q7 {E:Nat}{cs:List Value}{y:DataW H×List MemPlace}(h:DataW.trod enc prog w 0 spare held E 30 cs=some y)(hb:uptoBulk y.1<=1048576)
  (IH:∀(n:Nat),n<E->∀(cs:List Value) (y:DataW H×List MemPlace),DataW.trod enc prog w 0 spare held n 32 cs=some y->uptoBulk y.1<=1048576->∃t x,VL 0 (L0 w) w cs x.cells/\RR y.1 t x) :
  ∃v J xs ts,cs=[v]/\V 0 (L0 w) w v (.sl J xs)/\okEs J 12/\IsTrs ts xs/\wTrs ts+eE ts+1<=2*uptoBulk y.1:=by
 obtain⟨v,J,xs,ts,rfl,hv,O,hl,hc⟩:=yh (H:=H) (P:=prog) (d:=y.1) (p:=y.2) RR Q5 H9 (by decide) h (λD sp e=>by
   have:=mY D sp;have:=uI D;rw[<- e] at *;omega) (λd t x h=>h.cells) (λn hn cs' z q ⟨D,sp,he,hm⟩ hz=>by
   have:=mY D sp;have:=uH hm;rw[he] at hb;exact IH n (by omega) cs' (z,q) hz (show uptoBulk z<=1048576 by omega))
 refine⟨v,J,xs,ts,rfl,hv,O,?_⟩;rcases hc with⟨hd,rfl⟩|⟨D,sp,hd,aj,hr⟩
 ·obtain rfl:ts=[]:=lC.1 (by simpa using hl);exact⟨rfl,by rw[hd];simp[wTrs,eE,uptoBulk]⟩
 ·have hi:∀(i:Nat) (a:Tr),ts[i]?=some a->∃x d,xs[i]?=some x/\D[i]?=some d/\RR d a x:=λi a G=>by
   have hi:=(lGs G).1;exact⟨_,_,dT (by omega),dT (by omega),hr i _ _ _ (dT (by omega)) G (dT (by omega))⟩
  refine⟨Ib hl (λi a x G hx=>?_),?_⟩
  ·obtain⟨x',d,h1,h2,h3⟩:=hi i a G;rw[hx] at h1;cases h1;exact h3.1
  ·have:=Ic (us:=ts) (ds:=D) (by omega) (λi a d G ab=>by
    obtain⟨x',d',h1,h2,h3⟩:=hi i a G;rw[ab] at h2;cases h2;exact h3.2)
   have:=mY D sp;grind
def cs12 {cs:List Value}(h:cs.length=12):∃a b c d e f g h i j k l,cs=[a,b,c,d,e,f,g,h,i,j,k,l]:=by
 match cs,h with
 | [a,b,c,d,e,f,g,h,i,j,k,l],_=>exact⟨a,b,c,d,e,f,g,h,i,j,k,l,rfl⟩
def Mg:∀(D:Nat)(cs:List Value)(y:DataW H×List MemPlace),DataW.trod enc prog w 0 spare held D 32 cs=some y->uptoBulk y.1<=1048576->∃t x,VL 0 (L0 w) w cs x.cells/\RR y.1 t x:=by
 intro D
 induction D using Nat.strongRecOn with
 | ind D IH =>
  intro cs y h hb;obtain⟨ys,n,rfl,rfl,hl,O,G⟩:=DataW.trod_struct H8 h
  match ys,O with
  | [y0,y1,y2,y3,y4,y5],_ =>
   rw[H9] at hl;obtain⟨c0,c1,c2,c3,c4,c5,c6,c7,c8,c9,aL,aK,rfl⟩:=cs12 hl;have h0:=G 0 _ rfl;have h1:=G 1 _ rfl;have h2:=G 2 _ rfl;have h3:=G 3 _ rfl;have h4:=G 4 _ rfl;have h5:=G 5 _ rfl;simp only[kr,gY] at h0 h1 h2 h3 h4 h5;simp only[ec,fG,uptoBulk,uptoBulkAll] at hb;obtain⟨op,e0,rfl,E⟩:=DataW.trod_int uG h0;obtain⟨s,xs,af,ah,aA⟩:=Q6 n _ _ h1 (by omega);obtain⟨f,xf,ag,aa,aD⟩:=yk n _ _ h2 (by omega);obtain⟨t,xt,ae,J,ay⟩:=DP n _ _ h3 (by omega);obtain⟨nm,e4,hn,aB⟩:=yi h4 (by omega);obtain⟨v,tg,xb,ts,e5,hv,ax,hts,aF⟩:=Q7 h5 (by omega) (λm hm=>IH m (by omega));cases e0;cases e4;cases e5;have E:0<=op/\op<256:=by
    simp only[Lit.wf,IntKind.min,IntKind.max,IntKind.signed,IntKind.bits,bAt] at E;grind
   obtain⟨k,rfl⟩:=Int.eq_ofNat_of_zero_le E.1;obtain⟨tl,xl,tr,xr,rfl,k1,k2,k3,k4⟩:=ah;have aE:=aa;have az:=J;obtain⟨o,fn,us,sub⟩:=f;obtain⟨ta,xa,tb,ab,rfl,_⟩:=aa.mk;obtain⟨b,un,uu⟩:=t;obtain⟨tu,xu,rfl,_⟩:=J.mk;refine⟨.mk k s (.mk o fn us sub) (.mk b un uu) nm ts,.agg [.raw (.int .u8 k),.sl tl xl,.sl tr xr,.raw (.int .u8 o),fn,.sl ta xa,.sl tb ab,b,un,.sl tu xu,nm,.sl tg xb],
    VL.cons (.raw _ trivial) (af.append (ag.append (ae.append (VL.cons hn (VL.cons hv VL.nil))))),?_,?_⟩
   ·simp only[IsTr];grind
   ·have:=Ia (.mk o fn us sub);have:=H_ (.mk b un uu);simp only[ec,fG,uptoBulk,uptoBulkAll,wTr,Tr.steps];omega
end
end Go.Proofs.Tryz
namespace Go.Proofs.Tryz
open Go Go.Iv Go.ChangeShapes Go.RowKit
open Go.Proofs.YtigeiecfkoimpaaGreatDoor
set_option maxRecDepth 8000
def uRow:prog.underlying 178=some (.struct #[⟨ "right",4,0,false, "", "lyceum/syntax",0⟩,⟨ "schema",4,1,false, "", "lyceum/syntax",1⟩,⟨ "name",5,2,false, "", "lyceum/syntax",2⟩,⟨ "args",3,3,false, "", "lyceum/syntax",8⟩,⟨ "subs",3,4,false, "", "lyceum/syntax",16⟩]):=by kernel_rfl
def Q8:prog.underlying 179=some (.array 17 178):=by kernel_rfl
def uInt:prog.underlying 3=some (.int .i64):=by kernel_rfl
def nRow:prog.cellsOf 178=5:=by kernel_rfl
def Q9:prog.cellsOf 179=85:=by kernel_rfl
def gRows:prog.globalNamed "lyceum/syntax.rows" = some 0:=by kernel_rfl
def gRowsT:(prog.globals[0]?).map (·.type)=some 179:=by kernel_rfl
def gPow:prog.globalNamed "internal/strconv.uint64pow10" = some 2:=by kernel_rfl
def gPowT:(prog.globals[2]?).map (·.type)=some 345:=by kernel_rfl
def uPow:prog.underlying 345=some (.array 20 300):=by kernel_rfl
def uU64:prog.underlying 300=some (.int .u64):=by kernel_rfl
def nPow:prog.cellsOf 345=20:=by kernel_rfl
def nU64:prog.cellsOf 300=1:=by kernel_rfl
section
variable {H:Type}{enc:TypeId×Value->H}{w:World}{spare:Nat->Bool}{held:Bool}
def rowD (op:Nat):DataW H:=.agg [.lit (.bool (gQ op)),.lit (.bool (xF op)),.lit (.int .u8 (iG op)),.lit (.int .i64 (iz op)),.lit (.int .i64 (iA op))]
def rowV (op:Nat):List Value:=[.bool (gQ op),.bool (xF op),.int .u8 (iG op),.int .i64 (iz op),.int .i64 (iA op)]
def Q_ {J:Nat}{cs:List Value}{op:Nat}{p:List MemPlace}(h:DataW.trod enc prog w 0 spare held J 178 cs=some (rowD op,p)):cs=rowV op:=by
 obtain⟨ys,n,rfl,he,hl,D,E⟩:=DataW.trod_struct uRow h
 match ys,D with
 | [y0,y1,y2,y3,y4],_ =>
  rw[nRow] at hl
  match cs,hl with
  | [c0,c1,c2,c3,c4],_ =>
   have h0:=E 0 _ rfl;have h1:=E 1 _ rfl;have h2:=E 2 _ rfl;have h3:=E 3 _ rfl;have O:=E 4 _ rfl;simp only[kr,gY] at h0 h1 h2 h3 O;obtain⟨b0,e0,rfl⟩:=DataW.trod_bool p9 h0;obtain⟨b1,e1,rfl⟩:=DataW.trod_bool p9 h1;obtain⟨b2,e2,rfl,_⟩:=DataW.trod_int uG h2;obtain⟨b3,e3,rfl,_⟩:=DataW.trod_int uInt h3;obtain⟨b4,e4,rfl,_⟩:=DataW.trod_int uInt O;cases e0;cases e1;cases e2;cases e3;cases e4;have G:=dZ Prod.fst he;simp only[rowD,ec,fG,DataW.agg.injEq,jF,DataW.lit.injEq,Lit.bool.injEq,Lit.int.injEq,true_and,and_true] at G;obtain⟨rfl,rfl,rfl,rfl,rfl⟩:=G;rfl
def Ra:(Rows.laid_lyceum_syntax_rows:DataW H)=.agg ((List.range 17).map rowD):=by rfl
def Rb {J:Nat}{cs:List Value}{p:List MemPlace}(h:DataW.trod enc prog w 0 spare held J 179 cs=some (Rows.laid_lyceum_syntax_rows,p)) :
  cs.length=85/\∀op,op<17->(cs.drop (op*5)).take 5=rowV op:=by
 obtain⟨ys,n,rfl,he,hl,O,hf⟩:=DataW.trod_array Q8 h;rw[Q9] at hl;refine⟨hl,λop G=>?_⟩;have h1:=hf op G;rw[nRow] at h1;have D:=dZ Prod.fst he;rw[Ra] at D;simp only[DataW.agg.injEq] at D;have h2:(ys.map (·.1))[op]?=some (rowD op):=by
  rw[<- D,eB,List.getElem?_range G];rfl
 rw[eB] at h2;obtain⟨y,hy,E⟩:=fp.1 h2;rw[hy] at h1;obtain⟨y1,y2⟩:=y;simp only at E;subst E;exact Q_ h1
end
def gl0:Nat->Option IV
 | 0=>some (.agg rowsL)
 | 2=>some (.agg pow10L)
 | _=>none
def G0:Gl gl0:=⟨rfl⟩
def T0:Gt gl0:=⟨rfl⟩
def X0 (w:World):WS:={ w:=w,L:=L0 w,st:=λ_=>none,d:=0 }
def Rc {cs:List Value}(hl:cs.length=85)(h:∀op,op<17->(cs.drop (op*5)).take 5=rowV op)(i:Nat)(r:Value)(c:IV)(G:cs[i]?=some r)(hc:rowsL[i]?=some c):c=.raw r/\mD r:=by
 have J:i<85:=by have:=(lGs G).1;omega
 have D:i / 5<17:=by omega
 have e:i=i / 5*5+i%5:=by omega
 have E:i%5<5:=Nat.mod_lt _ (by decide);have h1:(rowV (i / 5))[i%5]?=some r:=by
  rw[<- h _ D,gd,cX E,kv,<- e];exact G
 have h2:(rowI (i / 5))[i%5]?=some c:=by
  rw[<- (CA _ D).2,gd,cX E,kv,<- e];exact hc
 generalize i%5=k at h1 h2 E
 match k,E with
 | 0,_=>cases h1;cases h2;exact⟨rfl,trivial⟩
 | 1,_=>cases h1;cases h2;exact⟨rfl,trivial⟩
 | 2,_=>cases h1;cases h2;exact⟨rfl,trivial⟩
 | 3,_=>cases h1;cases h2;exact⟨rfl,trivial⟩
 | 4,_=>cases h1;cases h2;exact⟨rfl,trivial⟩
def Mk {W:World}(hL:laidMetH prog Rows.hintWholeUptoRow.laid W):Go.Iv.Good ⟨prog,gl0,0⟩ (X0 W):=by
 obtain⟨ps,D,_⟩:=(show laidMet prog _ W from hL)
 obtain⟨_,_,_,_,_,_,_,_,_,_,D,_⟩:=D;obtain⟨_,_,_,_,_,_,_,_,_,_,D,_⟩:=D;obtain⟨g1,t1,O,f1,p1,q1,au,ao,am,aw,D,_⟩:=D;obtain⟨g2,t2,ai,f2,p2,q2,aq,an,al,av,_,_⟩:=D;obtain rfl:=eC (gPow.symm.trans au);obtain rfl:=eC (gPowT.symm.trans ao);obtain rfl:=eC (gRows.symm.trans aq);obtain rfl:=eC (gRowsT.symm.trans an);have af:=Lib.cells_of_tab (zs:=Lib.pow10Tab) uPow uU64 nU64 nPow aw;have J:=Rb av;have hb:∀(n:String) (g:Nat) (cs:Array Value),prog.globalNamed n=some g->W.var? prog n=some cs->∃T f,W.heap[g]?=some (.cells cs T f):=by
  intro n g cs hn hv;unfold World.var? at hv;rw[hn,Option.bind_some] at hv;split at hv
  ·rename_i c t f hh;cases hv;exact⟨_,_,hh⟩
  ·cases hv
 obtain⟨T1,ah,ae⟩:=hb _ _ _ gPow am;obtain⟨T2,ag,ac⟩:=hb _ _ _ gRows al;have row:∀(g:Nat) (cs:Array Value) (T:TypeId) (f:Nat×Nat) (xs:List IV),W.heap[g]?=some (.cells cs T f)->cs.size=xs.length->(∀(i:Nat) (r:Value) (c:IV),cs.toList[i]?=some r->xs[i]?=some c->c=.raw r/\mD r) →
   V 0 (L0 W) W (.pointer (some ⟨g,0,none⟩)) (.cptr (.agg xs)):=by
  intro g cs T f xs hh hl h;refine .cptr _ _ cs.toList rfl (by simpa[IV.cells] using hl) ?_ (λi r G=>?_) (λi r c G hc=>?_)
  ·show 0+cs.toList.length<=L0 W g;simp[L0,hh]
  ·show W.cell? ⟨g,0+i,none⟩=some r;simp only[World.cell?,hh,dY];simpa using G
  ·obtain⟨rfl,hk⟩:=h i r c G hc;exact .raw _ hk
 have hp:∀(i:Nat) (r:Value) (c:IV),O.toList[i]?=some r->pow10L[i]?=some c->c=.raw r/\mD r:=by
  intro i r c G hc;rw[af,eB] at G;unfold pow10L at hc;rw[eB] at hc;obtain⟨z,hz,rfl⟩:=fp.1 G;rw[hz] at hc;cases hc;exact⟨rfl,trivial⟩
 have ab:O.size=pow10L.length:=by
  rw[<- jX,af];simp[pow10L]
 have aa:ai.size=rowsL.length:=by
  rw[<- jX,J.1];rfl
 refine⟨λb o h=>(by cases h),λg x E=>?_,ed _,λb hb=>?_,λg x E=>?_,λ_=>ed _⟩
 ·match g,E with
  | 0,E=>cases E;exact row 0 ai T2 ag _ ac aa (λi r c G hc=>Rc J.1 J.2 i r c G hc)
  | 2,E=>cases E;exact row 2 O T1 ah _ ae ab hp
 ·show L0 W b=0;unfold L0;rw[Array.getElem?_eq_none (show W.heap.size<=b from hb)]
 ·match g,E with
  | 0,E=>cases E;exact⟨T2,ag == (0,0),by show shq W 0=_;simp[shq,ac,aa,IV.cells]⟩
  | 2,E=>cases E;exact⟨T1,ah == (0,0),by show shq W 2=_;simp[shq,ae,ab,IV.cells]⟩
def Re {W:World}{X':WS}(h:Ext (X0 W) X'):Below W.heap.size W X'.w :=
 ⟨h.os,h.tape,h.output,h.size,λk D=>(h.keep k D rfl).1⟩
def Rf:laidOutB prog=true:=by kernel_rfl
def Ie {H:Type}{enc:TypeId×Value->H}{W W':World}(G:Below W.heap.size W W')(sp:Nat->Bool):∀ {ts:List TypeId} {vs:List Value} {ds:List (DataW H)} {ps:List MemPlace},
  (∀t∈ts,prog.readableRec t=true/\t<prog.types.size)->DataW.TrodAll enc prog W 0 (λ_=>true) true ts vs ds ps->(∀p∈ps,p.block<W.heap.size)->(∀p∈ps,sp p.block=true) →
  DataW.TrodAll enc prog W' 0 sp true ts vs ds ps
 | [],vs,ds,ps,_,h,_,_=>by
  obtain⟨rfl,rfl,rfl⟩:=trodAll_nil h;rfl
 | t::ts,vs,ds,ps,ht,h,E,D=>by
  obtain⟨v,J,d,O,a,b,rfl,rfl,rfl,h1,h2⟩:=trodAll_cons h;refine⟨a,b,WideElems.Trod_stays Rf (ht t (by simp)).1 (ht t (by simp)).2 h1 (λp hp=>G.same (E p (by simp[hp]))) (λp hp=>D p (by simp[hp])),?_,rfl⟩;exact Ie G sp (λt h=>ht t (by simp[h])) h2 (λp hp=>E p (by simp[hp])) (λp hp=>D p (by simp[hp]))
def Mj {H:Type}{enc:TypeId×Value->H}{f:Func}{s:ChangeSpec}{ah:FuncId}{W:World}{args:Array Value}{ds gs:List (DataW H)}{J:List MemPlace}{ae:List IV}
  (D:s.vars=[]) (hW:DataW.Whole enc prog f.params.toList s.vars false W args.toList ds gs J) (ac:s.fn H (ds++gs)={ results:=[.lit (.bool true)],args:=ds })
  (O:f.resultTypes=#[4]) (aa:∀t∈f.params.toList,prog.readableRec t=true/\t<prog.types.size) (hg:Go.Iv.Good ⟨prog,gl0,0⟩ (X0 W)) (hv:VL 0 (L0 W) W args.toList ae)
  (hc:ICall prog gl0 ah ae (λ_=>none) (λr st'=>r=true/\st'=λ_=>none)) :
  Calls prog ah args W λe W'=>∃v,e=.returned v/\s.post enc prog f false true false false W args v W':=by
 refine (hc 0 (X0 W) args.toList hg rfl hv).mono ?_;rintro e W' ⟨v,rfl,X',x,rfl,au,he,G,rfl,_⟩;obtain rfl:=dK G;have hb:=Re he;refine⟨_,rfl,?_⟩;have ag:=hW;obtain⟨p,q,hA,hV,rfl,hz,_⟩:=hW;rw[D] at hV;have ak:gs=[]/\q=[]:=by
  cases gs with
  | nil=>exact⟨rfl,hV⟩
  | cons _ _=>exact absurd hV (by simp[DataW.TrodVars])
 obtain⟨rfl,rfl⟩:=ak;have ab:∀x∈p,x.block<W.heap.size:=λx G=>by simpa using ag.lt x (by simpa using G)
 have E:∀sp:Nat->Bool,(∀x∈p,sp x.block=true)->DataW.TrodAll enc prog X'.w 0 sp true f.params.toList args.toList (s.fn H (ds++[])).args p:=λsp aj=>by
  rw[ac];exact Ie hb sp aa hA ab aj
 have hr:∀(b:Nat) (sp:Nat->Bool) (hd:Bool),DataW.TrodAll enc prog X'.w b sp hd f.resultTypes.toList ((Value.bool true).resultList f.resultTypes.size) (s.fn H (ds++[])).results []:=λ_ _ _=>by
  rw[ac,O];exact trodAll_cons_mk (shut_bool p9 _) trodAll_mk0
 have af:∀sp:Nat->Bool,DataW.TrodVars enc prog X'.w sp s.vars (s.fn H (ds++[])).vars []:=λ_=>by
  rw[D,ac];rfl
 have ai:∀x∈p,(λb=>decide (b<W.heap.size)) x.block=true:=λx G=>by simpa using ab x G
 refine⟨ds,[],p++[],[],p,[],ag,hr _ _ _,E _ ai,af _,World.keptBut_mono (λx G=>⟨G,Or.inr (by simpa using G)⟩) (hb.frame (·∈p++[])),λ_=>⟨ok_one O rfl (okWide_bool_mk p9 _),_,_,([]++p)++[],
  ⟨[]++p,[],trodAll_append (E _ (λ_ _=>rfl)) (hr _ _ _),af _,rfl,?_,λh=>by cases h⟩,λx G _=>by simpa using G⟩⟩
 intro b off hp;rw[hb.frozen (p:=⟨b,off,none⟩) (ab (.cell b off) (by simpa using hp))];exact hz b off (by simpa using hp)
def Mh {W:World}{base:Nat}{v:Value}{t:Tr}{x:IV}(h:Value.okWide prog W .any base 32 v)(D:VL 0 (L0 W) W v.cells.toList x.cells)(E:IsTr t x):V 0 (L0 W) W v x:=by
 obtain⟨cs,rfl,_⟩:=WideShapes.okWide_struct H8 h;obtain⟨_,_,_,_,_,_,_,_,_,_,_,_,_,_,_,_,_,_,rfl⟩:=ft E;cases cs;exact D.agg
def Mi {α:Prop}{W:World}{base:Nat}{v:Value}(h:Value.okWide prog W .any base 5 v)(_:α):∃b:Nat,v=.int .u8 b/\V 0 (L0 W) W (.int .u8 b) (.raw (.int .u8 b))/\b<256:=by
 simp only[Value.okWide,uG,Cell.okWide] at h;cases v<;>simp_all [Cell.ok];rename_i k n;obtain⟨rfl,h1,h2⟩:=h;have E:IntKind.u8.min=0:=by decide
 have D:IntKind.u8.max=255:=by decide
 rw[E] at h1;rw[D] at h2;refine⟨n.toNat,?_,?_,?_⟩
 ·omega
 ·exact .raw _ trivial
 ·omega
def Mf {W:World}{base:Nat}{v:Value}(h:Value.okWide prog W .any base 4 v):∃b:Bool,v=.bool b/\V 0 (L0 W) W (.bool b) b:=by
 simp only[Value.okWide,p9,Cell.okWide] at h;cases v<;>simp_all [Cell.ok];exact .raw _ trivial
def tab32:List Int:=[0,1,28,2,29,14,24,3,30,22,20,15,25,17,4,8,31,27,13,23,21,19,16,7,26,12,18,6,11,5,10,9]
def tab64:List Int:=[0,1,56,2,57,49,28,3,61,58,42,50,38,29,17,4,62,47,59,36,45,43,51,22,53,39,33,30,24,18,12,5,63,55,48,27,60,41,37,16,46,35,44,21,52,32,23,11,54,26,40,15,34,20,31,10,25,14,19,9,13,8,7,6]
def lay (cs:List Value):Obj->Obj
 | .cells _ t frozen=>.cells cs.toArray t frozen
 | o=>o
noncomputable def yl (os:Os):World :=
 { World.holding prog os ⟨#[],#[],[]⟩ with heap:=((((World.holding prog os ⟨#[],#[],[]⟩).heap.modify 0 (lay ((List.range 17).flatMap rowV))).modify 2 (lay (Lib.pow10Tab.map λz=>.int .u64 z))).modify 3 (lay (tab32.map λz=>.int .u8 z))).modify 4 (lay (tab64.map λz=>.int .u8 z)) }
def Mp (os:Os)(args:Array Value):laidMet prog Rows.hintWholeUptoRow.laid ((yl os).forCall (λ_ _=>0) ⟨#[],args,[]⟩).memory :=
 laidMet_of_run' 8 (by kernel_rfl) (by kernel_rfl)
end Go.Proofs.Tryz
namespace Go.Proofs.Tryz
open Go Go.Iv
set_option maxRecDepth 4000
def AQ:∀l:List IV,(∀x∈l,∃v,x=.raw v)->ages l=l
 | [],_=>rfl
 | x::l,h=>by
  obtain⟨v,rfl⟩:=h x (by simp);simp only[ages,age,AQ l λy D=>h y (by simp[D])]
def Mm:∀g x,gl0 g=some x->age x=x:=by
 intro g x E
 match g,E with
 | 0,E =>
  cases E;simp only[age];rw[AQ _ λy D=>?_];obtain⟨op,_,D⟩:=fh.1 D;unfold rowI at D;simp only[dF,fJ,eU] at D;rcases D with rfl|rfl|rfl|rfl|rfl<;>exact⟨_,rfl⟩
 | 2,E =>
  cases E;simp only[age];rw[AQ _ λy D=>?_];obtain⟨z,_,rfl⟩:=dH.1 D;exact⟨_,rfl⟩
