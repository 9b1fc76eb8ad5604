/- The layer of ideal values, part I: lengt -/
import Derived.Test.YtakbihknkdpmgaaGreatDoorJC
import Derived.Great.FillDense
import Derived.Maps.Keyed
import Derived.Maps.RangeRun
set_option linter.all false
namespace Go.Iv
open Go
def kE {P:Program}{o:Oper}{b:Builtin}{args:Array Operand}{ts:Array TypeId}(A:o.op=.call ⟨.builtin b,args,ts⟩)(ρ:Operand->Value)(w:World) :
  (execOp ρ o).run P w=(builtin b ts o.type (args.map λ| .const _=>true|_=>false) (args.map ρ)).run P w:=by
 unfold execOp;rw[A];simp only[resolve,dt,dv,dq,invoke];rfl
section
variable {C:Cx}{X0 X:WS}{N:Nat}{fr:Fr}{ds:List Dfd}{a:Act}{ad:Ad}{K:Kt}{ro:Option Nat}{n:Nat}{Q:Exit->Act->World->Prop}{o:Oper}
def jd {B:Nat}{L:Nat->Nat}{w:World}{r:Value}{t:Tag}{A:List IV}(hv:V B L w r (.sl t A)):∃ad cap,r=.slice ad A.length cap/\A.length<=140737488355328/\A.length<=cap/\kO t.cap ad A.length cap:=by
 cases hv with
 | sl ad cap _ _ T vs E D U hs aa O J G _=>exact⟨ad,cap,rfl,D,U,E⟩
def A9 {s:Nat}:∀(A:List IV) (l:Nat),(∀x∈A,x.cells.length=s)->(A.drop l).flatMap IV.cells=(A.flatMap IV.cells).drop (l*s)
 | [],l,_=>by simp
 | x::A,0,_=>by simp
 | x::A,l+1,h=>by
  rw[List.drop_succ_cons,A9 A l (λz D=>h z (by simp[D])),eC,List.drop_append,h x (by simp)];have h1:(x.cells).drop ((l+1)*s)=[]:=List.drop_eq_nil_of_le (by rw[h x (by simp),Nat.succ_mul];omega);grind
def A_ {s:Nat}:∀(A:List IV) (l:Nat),(∀x∈A,x.cells.length=s)->(A.take l).flatMap IV.cells=(A.flatMap IV.cells).take (l*s)
 | [],l,_=>by simp
 | x::A,0,_=>by simp
 | x::A,l+1,h=>by
  rw[ko,eC,A_ A l (λz D=>h z (by simp[D])),eC,List.take_append,h x (by simp)];have h1:(x.cells).take ((l+1)*s)=x.cells:=List.take_of_length_le (by rw[h x (by simp),Nat.succ_mul];omega);grind
def gD {s:Nat}:∀(A:List IV),(∀x∈A,x.cells.length=s)->(A.flatMap IV.cells).length=A.length*s
 | [],_=>by simp
 | x::A,h=>by rw[eC,lLa,gD A (λz D=>h z (by simp[D])),h x (by simp),dV,Nat.succ_mul];omega
def V.slice {B:Nat}{L:Nat->Nat}{w:World}{ad:Option Addr}{len cap l h m:Nat}{D E:Tag}{xs:List IV}(hv:V B L w (.slice ad len cap) (.sl D xs))(aB:l<=h)(ai:h<=xs.length)(aD:h<=m)
  (U:E.es=D.es) (aq:E.fresh=true->D.fresh=true) (ac:kO E.cap (if m=l then ad else ad.map (·.add (l*D.es))) (h-l) (m-l)) (ak:∀g,E.cap=.app g->D.cap=.app g/\m-l<=cap) :
  V B L w (.slice (if m=l then ad else ad.map (·.add (l*D.es))) (h-l) (m-l)) (.sl E ((xs.drop l).take (h-l))):=by
 cases hv with
 | sl _ _ _ _ T vs ax aw aH hs am ab O J hc =>
  have G:((xs.drop l).take (h-l)).length=h-l:=by simp;omega
  have key:=V.sl (B:=B) (L:=L) (w:=w) (if m=l then ad else ad.map (·.add (l*D.es))) (m-l) E ((xs.drop l).take (h-l)) T ((vs.drop (l*D.es)).take ((h-l)*D.es));rw[G] at key;have aA:(h-l)*D.es+l*D.es=h*D.es:=by rw[<- fp];congr 1;omega
  have aC:h*D.es<=vs.length:=by rw[am];exact fz _ ai
  refine key ac (by omega) (by omega) (λx hx=>by rw[U];exact hs x (List.mem_of_mem_drop (lp hx))) (by rw[U];simp;omega) ?_ ?_ ?_ ?_
  ·intro g hg;obtain⟨h1,h2⟩:=ak g hg;obtain⟨T',k,h3,h4⟩:=ab g h1;refine⟨T',k,h3,dT ?_ h4⟩;rw[U];exact fz _ h2
  ·intro hf aJ ha;rw[U];split at ha
   ·grind
   ·cases hq:ad with
    | none=>simp[hq] at ha
    | some A =>
     simp only[hq,eK,dG] at ha;subst ha;obtain⟨h1,h2,h3⟩:=O (aq hf) A hq;have aj:(A.add (l*D.es)).block=A.block:=by unfold Addr.add;split<;>rfl
     have ag:(A.add (l*D.es)).off=A.off+l*D.es:=by unfold Addr.add;split<;>simp_all
     rw[aj,ag,Nat.add_mul_mod_self_right];grind
  ·intro ao;have ah:l<h:=by
    rcases fQ l h with ah|aE
    ·exact ah
    ·exact absurd (eG (by rw[G];omega)) ao
   obtain⟨A,ha,aa,hL,au⟩:=J (by rintro rfl;simp at ai;omega);subst ha;rw[a_ (by omega)];refine⟨A.add (l*D.es),rfl,?_,?_,?_⟩
   ·rw[mD A aa]
   ·rw[mD A aa];simp;omega
   ·intro i r hr;rw[mD A aa];grind
  ·intro i r c hr av;rw[A_ _ _ (λx hx=>hs x (List.mem_of_mem_drop hx)),A9 _ _ hs,gg] at av;grind
def ox {x:Option Operand}{r:Option Int}(D:Inv C X0 N X fr ds a)(h:iJ C.gl fr x=some r):(x=none/\r=none)\/∃y k m,x=some y/\r=some m/\a.eval y=.int k m:=by
 cases x with
 | none=>simp only[iJ,dG] at h;exact .inl ⟨rfl,h.symm⟩
 | some y =>
  simp only[iJ] at h;cases A:evV C.gl fr y with
  | none=>rw[A] at h;cases h
  | some z =>
   rw[A] at h;unfold intI at h;split at h
   ·rename_i k m E;cases E;cases h;exact .inr ⟨y,k,m,rfl,rfl,dK (pg D.good D.fr A).1⟩
   ·cases h
def mG {P:Program}{k:IntKind}{i:Int}{y:Nat}{A:BoundsCode}(h:0<=i/\i<=(y:Int))(w:World):(Instr.sliceBound (.int k i) y A).run P w=.ok i.toNat w:=by
 simp only[Instr.sliceBound,asIntOf,dt,dv,dq,h,and_self,dD]
def IL {D A:Option Int}{len:Nat}{p:Nat×Nat}(h:fT D A len=some p):p.1<=p.2/\p.2<=len:=by
 unfold fT at h;grind
def s7 {lo hi mx:Option Operand}{E A max:Option Int}{sl:Bool}{len ln cap:Nat}{p:Nat×Nat}(D:Inv C X0 N X fr ds a)(h1:iJ C.gl fr lo=some E)(h2:iJ C.gl fr hi=some A)
  (h3:iJ C.gl fr mx=some max) (O:fT E A len=some p) (ak:len<=cap) (hm:∀m,max=some m->(p.2:Int)<=m/\m<=cap) (U:A=none->max=none) (aa:A=none->ln=len:=by first|exact λ_=>rfl|(intro h;simp[h])) :
  (Instr.sliceBounds sl ln cap (lo.map a.eval) (hi.map a.eval) (mx.map a.eval)).run C.P X.w=.ok (p.1,p.2,(max.getD cap).toNat) X.w/\p.1<=p.2/\p.2<=len:=by
 unfold fT at O;split at O
 ·rename_i hc;cases O;obtain⟨c1,c2,c3⟩:=hc;refine⟨?_,by simp only;omega,by simp only;omega⟩;simp only at hm;rcases ox D h3 with⟨rfl,rfl⟩|⟨y3,k3,m,rfl,rfl,e3⟩
  ·rcases ox D h2 with⟨rfl,rfl⟩|⟨y2,k2,q,rfl,rfl,G⟩
   ·obtain rfl:=aa rfl;rcases ox D h1 with⟨rfl,rfl⟩|⟨y1,k1,r,rfl,rfl,J⟩
    ·simp only[Instr.sliceBounds,gM,dt,dv,dq,fM];simp
    ·simp only[eh,fM] at *;simp only[Instr.sliceBounds,gM,eK,J,dt,dv,dq,gy];rw[mG ⟨by omega,by omega⟩];simp
   ·simp only[eh,fM] at *;rcases ox D h1 with⟨rfl,rfl⟩|⟨y1,k1,r,rfl,rfl,J⟩
    ·simp only[fM] at *;simp only[Instr.sliceBounds,gM,eK,G,dt,dv,dq];rw[mG ⟨by omega,by omega⟩];simp
    ·simp only[eh] at *;simp only[Instr.sliceBounds,gM,eK,J,G,dt,dv,dq];rw[mG ⟨by omega,by omega⟩];simp only[dq];rw[mG ⟨by omega,by omega⟩];simp
  ·obtain⟨m1,m2⟩:=hm m rfl;rcases ox D h2 with⟨rfl,rfl⟩|⟨y2,k2,q,rfl,rfl,G⟩
   ·cases U rfl
   ·simp only[eh] at *;rcases ox D h1 with⟨rfl,rfl⟩|⟨y1,k1,r,rfl,rfl,J⟩
    ·simp only[fM] at *;simp only[Instr.sliceBounds,gM,eK,G,e3,dt,dv,dq];rw[mG ⟨by omega,by omega⟩];simp only[dq];rw[mG ⟨by omega,by omega⟩];simp
    ·simp only[eh] at *;simp only[Instr.sliceBounds,eK,J,G,e3,dt,dv];rw[mG ⟨by omega,by omega⟩];simp only[dq];rw[mG ⟨by omega,by omega⟩];simp only[dq];rw[mG ⟨by omega,by omega⟩];simp
 ·cases O
variable (hA:At C X0 N X fr ds a ad o.dst)
include hA
def IM {dr:Bool}{T:TypeId}{x:Operand}(ho:o.op=.call ⟨.builtin .len,⟨[x]⟩,⟨[T]⟩⟩)
  (h:dp (lenI C.P T) λk=>dp (evV C.gl fr x) λx=>lenV dr k x (finK o.dst K ad fr) X.st ds):o.wpIn (eF ro) n C.P a X.w (PK C X0 N K) Q:=by
 obtain⟨lk,O,h2⟩:=yQ3.1 h;clear h;obtain⟨vx,hx,h⟩:=yQ3.1 h2;clear h2;have hnd:∀c,o.op≠.defer c:=by rw[ho];intro c hc;cases hc
 have A:=(hA.v hx).1;have key:∀z:Value,(Builtin.len_ #[T] o.type #[a.eval x]).run C.P X.w=.ok z X.w->(execOp a.eval o).run C.P X.w=.ok (.value z) X.w:=by
  intro z hz;rw[kE ho];simp only[builtin,iW,ec,fx,dt,hz,dq,dv]
 rcases qP O with⟨rfl,E⟩|⟨rfl,e,E⟩|⟨rfl,k,e,E⟩|⟨len,e,rfl,E⟩
 ·obtain⟨v,rfl,h2⟩:=vS h;clear h;have ex:=dK A;cases v with
  | string s =>
   have hs:s.size<=281474976710656:=qC A;refine et (key (.int .i64 s.size) ?_) hnd (hA.val (.raw _ trivial) (h2 λ_=>hs));rw[ex];simp[Builtin.len_,dS E,goInt]
  | _=>exact h2.elim
 ·rcases A1 h with⟨tg,xs,rfl,h2⟩|⟨b,off,m,cap,rfl,h2⟩
  case inr =>
   have ex:=dK A;refine et (key (.int .i64 m) ?_) hnd (hA.val (.raw _ trivial) h2);rw[ex];simp[Builtin.len_,dS E,goInt]
  clear h;obtain⟨ah,cap,ex,D,_⟩:=jd A;refine et (key (.int .i64 xs.length) ?_) hnd (hA.val (.raw _ trivial) (h2 λ_=>D));rw[ex];simp[Builtin.len_,dS E,goInt]
 ·obtain⟨_,h2⟩:=sX h;clear h;obtain⟨m,rfl,h⟩:=sW h2;clear h2;have ex:=dK A;cases m with
  | none =>
   refine et (key (.int .i64 0) ?_) hnd (hA.val (.raw _ trivial) h);rw[ex];simp[Builtin.len_,dS E,goInt]
  | some b =>
   obtain⟨ob,J,h2⟩:=yQ3.1 h;clear h;obtain⟨kk,es,rfl,h⟩:=vV h2;clear h2;obtain⟨_,_,_,G,U,hh,hk,_⟩:=hA.inv.good.ok b _ J;refine et (key (.int .i64 es.length) ?_) hnd (hA.val (.raw _ trivial) h);have D:G.size=es.length:=by have:=dX List.length hk;simpa using this
   rw[ex];simp[Builtin.len_,dS E,goInt,getObj,Sem.run,hh,D]
 ·refine et (key (.int .i64 len) ?_) hnd (hA.val (.raw _ trivial) h);simp[Builtin.len_,dS E,goInt]
def IN {T:TypeId}{x:Operand}(G:o.op=.call ⟨.builtin .cap,⟨[x]⟩,⟨[T]⟩⟩)
  (h:dp (slI C.P T) λ_=>dp (evV C.gl fr x) λx=>capV x (finK o.dst K ad fr) X.st ds):o.wpIn (eF ro) n C.P a X.w (PK C X0 N K) Q:=by
 obtain⟨⟨e,ag,s,by_⟩,E,h1⟩:=yQ3.1 h;clear h;obtain⟨vx,hx,h⟩:=yQ3.1 h1;clear h1;obtain⟨hT,_⟩:=mF E;have hnd:∀c,o.op≠.defer c:=by rw[G];intro c hc;cases hc
 have D:=(hA.v hx).1;have key:∀(p:Option Addr) (m c:Nat),a.eval x=.slice p m c->(execOp a.eval o).run C.P X.w=.ok (.value (.int .i64 c)) X.w:=by
  intro p m c U;rw[kE G];simp[builtin,U,Builtin.cap_,dS hT,goInt]
 rcases qM h with⟨O,xs,rfl,h2⟩|⟨b,off,m,cap,rfl,h2⟩
 ·obtain⟨ae,cap,ex,J,ab,A⟩:=jd D;cases hc:O.cap with
  | nil =>
   rw[hc] at h2 A;obtain⟨rfl,h0,rfl⟩:=A;exact et (key _ _ _ ex) hnd (hA.val (.raw _ trivial) h2)
  | full =>
   rw[hc] at h2 A;simp only[kO] at A;subst A;exact et (key _ _ _ ex) hnd (hA.val (.raw _ trivial) h2)
  | none=>rw[hc] at h2;exact h2.elim
  | app g=>rw[hc] at h2;exact h2.elim
 ·exact et (key _ _ _ (dK D)) hnd (hA.val (.raw _ trivial) h2)
def IP {ts:Array TypeId}{x y:Operand}(D:o.op=.call ⟨.builtin .max,⟨[x,y]⟩,ts⟩)
  (h:dp (evV C.gl fr x) λx=>dp (evV C.gl fr y) λy=>intV x λk p=>intV y λA q=>if k=A then finK o.dst K ad fr (.val (.raw (.int k (max p q)))) X.st ds else False) :
  o.wpIn (eF ro) n C.P a X.w (PK C X0 N K) Q:=by
 obtain⟨vx,U,h2⟩:=yQ3.1 h;clear h;obtain⟨vy,O,J⟩:=yQ3.1 h2;clear h2;obtain⟨k,p,rfl,G⟩:=mE J;clear J;obtain⟨A,q,rfl,E⟩:=mE G;clear G;obtain⟨rfl,h⟩:=jJ E;clear E;have hnd:∀c,o.op≠.defer c:=by rw[D];intro c hc;cases hc
 have ex:=dK (hA.v U).1;have ey:=dK (hA.v O).1;have hr:(execOp a.eval o).run C.P X.w=.ok (.value (.int k (max p q))) X.w:=by
  rw[kE D];simp[builtin,ex,ey,Builtin.max_,Builtin.max2,Int.max_def];grind
 exact et hr hnd (hA.val (.raw _ trivial) h)
def IQ {ts:Array TypeId}{x y:Operand}(D:o.op=.call ⟨.builtin .min,⟨[x,y]⟩,ts⟩)
  (h:dp (evV C.gl fr x) λx=>dp (evV C.gl fr y) λy=>intV x λk p=>intV y λA q=>if k=A then finK o.dst K ad fr (.val (.raw (.int k (min p q)))) X.st ds else False) :
  o.wpIn (eF ro) n C.P a X.w (PK C X0 N K) Q:=by
 obtain⟨vx,U,h2⟩:=yQ3.1 h;clear h;obtain⟨vy,O,J⟩:=yQ3.1 h2;clear h2;obtain⟨k,p,rfl,G⟩:=mE J;clear J;obtain⟨A,q,rfl,E⟩:=mE G;clear G;obtain⟨rfl,h⟩:=jJ E;clear E;have hnd:∀c,o.op≠.defer c:=by rw[D];intro c hc;cases hc
 have ex:=dK (hA.v U).1;have ey:=dK (hA.v O).1;have hr:(execOp a.eval o).run C.P X.w=.ok (.value (.int k (min p q))) X.w:=by
  rw[kE D];simp[builtin,ex,ey,Builtin.min_,Builtin.min2,Int.min_def];grind
 exact et hr hnd (hA.val (.raw _ trivial) h)
def IS {T:TypeId}{x:Operand}{lo hi mx:Option Operand}(ho:o.op=.slice T x lo hi mx)
  (h:dp (lenI C.P T) λk=>dp (evV C.gl fr x) λx=>dp (iJ C.gl fr lo) λlo=>dp (iJ C.gl fr hi) λhi=>dp (iJ C.gl fr mx) λmx =>
   kD k (slI C.P T) (arrI C.P T) x lo hi mx (finK o.dst K ad fr) X.st ds):o.wpIn (eF ro) n C.P a X.w (PK C X0 N K) Q:=by
 obtain⟨lk,aN,h1⟩:=yQ3.1 h;clear h;obtain⟨vx,hx,h2⟩:=yQ3.1 h1;clear h1;obtain⟨aK,aj,h3⟩:=yQ3.1 h2;clear h2;obtain⟨an,ak,h4⟩:=yQ3.1 h3;clear h3;obtain⟨max,ab,h⟩:=yQ3.1 h4;clear h4;have hnd:∀c,o.op≠.defer c:=by rw[ho];intro c hc;cases hc
 have A:=(hA.v hx).1;rcases qP aN with⟨rfl,hT⟩|⟨rfl,e,hT⟩|⟨rfl,k,e,hT⟩|⟨len,e,rfl,hT⟩
 ·obtain⟨v,rfl,h2⟩:=vS h;clear h;cases v with
  | string s =>
   cases max with
   | some m=>exact h2.elim
   | none =>
    obtain⟨p,hp,h⟩:=yQ3.1 h2;clear h2;have ex:=dK A;have aZ:s.size<=281474976710656:=qC A;have aM:mx=none:=by rcases ox hA.inv ab with⟨rfl,_⟩|⟨y,k,m,_,he,_⟩<;>first|rfl|cases he
    subst aM;obtain⟨hb,_⟩:=s7 (sl:=false) (cap:=s.size) hA.inv aj ak ab hp (dJ _) (λm hm=>by cases hm) (λ_=>rfl);have G:(execOp a.eval o).run C.P X.w=.ok (.value (.string (s.extract p.1 p.2))) X.w:=by
     unfold execOp;rw[ho];simp only[gM] at hb;simp only[Instr.sliceAt,Instr.slice,ex,dt,dS hT,dq,gM,gy,bFt,dI,hb,dv]
    refine et G hnd (hA.val (.raw _ ?_) h);simp only[mz,ByteArray.size_extract];omega
  | _=>exact h2.elim
 ·obtain⟨⟨e',ag,sz,by_⟩,hs,h1⟩:=yQ3.1 h;clear h;rcases qM h1 with⟨aJ,xs,rfl,aq,h2⟩|⟨b,off,m,cap,rfl,h2⟩
  case inr =>
   clear h1;have ex:=dK A;obtain⟨J,U,_⟩:=mF hs;rw[hT] at J;cases J;cases max with
   | some q=>exact h2.elim
   | none =>
    obtain⟨a1,h3⟩:=h2;obtain⟨⟨p1,p2⟩,hp,h⟩:=yQ3.1 h3;obtain⟨hb,_⟩:=s7 (sl:=true) (ln:=m) (cap:=cap) hA.inv aj ak ab hp (by split<;>omega) (λq hq=>by cases hq) (λ_=>rfl);simp only at hb h;have af:=(jU U X.w).2;have G:(execOp a.eval o).run C.P X.w=.ok (.value (.slice (some ⟨b,if cap=p1 then off else off+p1*sz,none⟩) (p2-p1) (cap-p1))) X.w:=by
     unfold execOp;rw[ho];simp only[Instr.sliceAt,Instr.slice,ex,dt,dS hT,dq,hb,af,dv,fM,kd];split
     ·rfl
     ·simp[Addr.add]
    exact et G hnd (hA.val (.raw _ trivial) h)
  clear h1;simp only at aq h2;replace A:=V.reTag (es:=sz) A;generalize reTag sz aJ=tg at aq h2 A;obtain⟨J,U,_⟩:=mF hs;rw[hT] at J;cases J;obtain⟨D,cap,ex,aD,aF,aE⟩:=jd A;have aL:an=none->max=none:=by
   rintro rfl;cases max with
   | none=>rfl
   | some m=>exact h2.elim
  have h3:dp (fT aK an xs.length) λp=>chk (∀m,max=some m->m=p.2) (finK o.dst K ad fr (.val (.sl (jm tg xs.length p.2 p.1 max) ((xs.drop p.1).take (p.2-p.1)))) X.st ds):=by
   grind
  clear h2;obtain⟨p,hp,ac,h⟩:=yQ3.1 h3;clear h3;obtain⟨p1,p2⟩:=p;simp only at ac h;obtain⟨aG,O⟩:=IL hp;obtain⟨hb,_⟩:=s7 (sl:=true) (cap:=cap) hA.inv aj ak ab hp aF (λm hm=>by have:=ac m hm;simp only at O;omega) aL;simp only at aG O hb;have af:=(jU U X.w).2;have G:(execOp a.eval o).run C.P X.w=.ok (.value (.slice (if (max.getD cap).toNat=p1 then D else D.map (·.add (p1*sz))) (p2-p1) ((max.getD cap).toNat-p1))) X.w:=by
   unfold execOp;rw[ho];simp only[Instr.sliceAt,Instr.slice,ex,dt,dS hT,dq,hb,af,dv]
  have aO:p2<=(max.getD cap).toNat:=by
   cases max with
   | none=>simp only[fM,kd];omega
   | some m=>have:=ac m rfl;simp only[eh];omega
  refine et G hnd (hA.val ?_ h);rw[ex] at A;rw[<- aq];by_cases E:tg.cap=.nil
  ·rw[E] at aE;obtain⟨rfl,h0,rfl⟩:=aE;obtain rfl:=eG h0;simp only[dU] at O;have e2:p2=0:=by omega
   have e1:p1=0:=by omega
   subst e1 e2;have e3:(max.getD ((0:Nat):Int)).toNat=0:=by
    cases max with
    | none=>rfl
    | some m=>rw[ac m rfl];rfl
   rw[e3];simp only[jm,cV E,List.drop_nil,List.take_nil,iZ,dD];exact A
  refine V.slice A aG O aO ?_ ?_ ?_ ?_
  ·simp only[jm,a_ E];split
   ·split<;>rfl
   ·split<;>rfl
  ·simp only[jm,a_ E];split
   ·grind
   ·grind
  ·simp only[jm,a_ E];split
   ·rename_i m;have:=ac m rfl;rw[cV this];simp only[kO,eh];omega
   ·split
    ·rename_i hc;obtain⟨rfl,rfl⟩:=hc;simp only[fM,kd,gL,iZ];have:(if cap=0 then D else D.map (·.add 0))=D:=by
      split
      ·rfl
      ·cases D<;>simp[Addr.add]
     grind
    ·trivial
  ·intro g hg;simp only[jm,a_ E] at hg;split at hg
   ·grind
   ·grind
 ·exact h.elim
 ·simp only[kD] at h;unfold arrV at h;split at h
  ·rename_i cs;obtain⟨⟨n',ag,sz⟩,aS,⟨aF,aD,aA⟩,h⟩:=yQ3.1 h;obtain⟨⟨p1,p2⟩,hp,h⟩:=yQ3.1 h;obtain⟨e',J,U⟩:=sZ aS;rw[hT] at J;cases J;obtain⟨hb,_,O⟩:=s7 (sl:=false) (ln:=len) (cap:=len) hA.inv aj ak ab hp (dJ _) (λm hm=>by cases hm) (λ_=>rfl);have hp1:p1=0:=by
    unfold fT at hp;split at hp
    ·cases hp;rfl
    ·cases hp
   subst hp1;have af:=(jU U X.w).2;generalize aQ:a.eval x=aV at A;cases A with
   | cptr D _ vs ai az hL hc hv =>
    have al:(IV.agg cs).cells=cs:=rfl;rw[al] at az hv;have G:(execOp a.eval o).run C.P X.w=.ok (.value (.slice (some D) p2 len)) X.w:=by
     unfold execOp;rw[ho];simp only[fM,kd] at hb;simp only[Instr.sliceAt,aQ,Instr.sureAddr,dt,dS hT,dv,dq,hb,af,iZ];split
     ·rfl
     ·rw[gL,mD D ai,iH];congr 4;obtain⟨b,of,sp⟩:=D;simp only at ai;rw[ai]
    have aa:∀c∈cs.take p2,c.cells=[c]:=λc au=>lv (eP.1 aA c (lp au));have ao:∀l:List IV,(∀c∈l,c.cells=[c])->l.flatMap IV.cells=l:=λl=>by
     induction l with
     | nil=>intro _;rfl
     | cons c l ih=>intro hl;rw[eC,hl c (by simp),ih λd hd=>hl d (by simp[hd])];rfl
    have hp2:(cs.take p2).length=p2:=by rw[dQ];simp only at O;omega
    refine et G hnd (hA.val ?_ h);have key:=V.sl (B:=C.B) (L:=X.L) (w:=X.w) (some D) len ⟨false,.none,1⟩ (cs.take p2) e (vs.take p2) trivial (by rw[hp2];simp only at O;omega) (by rw[hp2];exact O) (λc au=>by rw[aa c au];rfl)
     (by rw[dQ,az,fR,dQ]) (λg hg=>by cases hg) (λhf=>by cases hf)
     (λ_=>⟨D,rfl,ai,by rw[dQ];omega,λi r G=>hc i r (by rw[gg] at G;split at G<;>first|exact G|cases G)⟩)
     (λi r c G am=>by
      rw[ao _ aa] at am;rw[gg] at G am;split at G
      ·rename_i hi;rw[cV hi] at am;exact hv i r c G am
      ·cases G)
    rw[hp2] at key;exact key
  ·exact h.elim
end
def IT (off:Nat)(l:List Value)(cs:Array Value)(h:off+l.length<=cs.size) :
  ((l.zipIdx.foldl (λcs (x:Value×Nat)=>cs.setIfInBounds (off+x.2) x.1) cs)).toList=cs.toList.take off++l++cs.toList.drop (off+l.length):=by
 obtain⟨h1,h2⟩:=Great.foldl_set off l 0 cs;apply ke;grind
def Ba {P:Program}(w:World):∀(A:List Field),(∀f∈A,∃i,P.info? f.type=some i) →
  (A.mapM (λf=>do pure (f.offset,<- sizeOf f.type):Field->Sem (Nat×Nat))).run P w=.ok (A.map λf=>(f.offset,P.cellsOf f.type)) w
 | [],_=>by simp
 | f::A,h=>by
  obtain⟨i,D⟩:=h f (by simp);rw[List.mapM_cons];simp only[dt,run_sizeOf w D,dq,dv,Ba w A (λg E=>h g (by simp[E])),ec]
def IU {P:Program}{T:TypeId}{O:Array Field}(J:P.underlying T=some (.struct O)){i fo n:Nat}{ag:Bool}(h:bfI P T i=some (fo,ag,n)):((O.map λf=>(f.offset,P.cellsOf f.type))[i]?)=some (fo,n):=by
 unfold bfI at h;cases E:fldI P T i with
 | none =>
  rw[E] at h;simp[orO,arrI,J] at h
 | some f =>
  rw[E] at h;cases h;obtain⟨ab,f',A,U,G,D,_⟩:=sY E;rw[J] at A;cases A;have aa:P.cellsOf f'.type=n:=by have:=sT D;simp[Program.cellsOf,this]
  grind
def IW {P:Program}{T e:TypeId}{len:Nat}(J:P.underlying T=some (.array len e)){i fo n:Nat}{ag:Bool}(h:bfI P T i=some (fo,ag,n)):fo=i*P.cellsOf e/\n=P.cellsOf e:=by
 unfold bfI at h;have O:fldI P T i=none:=by unfold fldI;rw[J]
 rw[O] at h;cases G:arrI P T with
 | none=>rw[G] at h;cases h
 | some f =>
  obtain⟨l,a',s⟩:=f;rw[G] at h;cases h;obtain⟨U,A,D⟩:=sZ G;rw[J] at A;cases A;have E:P.cellsOf e=n:=by have:=sT D;simp[Program.cellsOf,this]
  rw[E];exact⟨rfl,rfl⟩
def vY {C:Cx}{X0 X:WS}{N:Nat}{fr:Fr}{ds:List Dfd}{a:Act}{T:TypeId}{place:Nat->Option (Nat×Nat)}(hI:Inv C X0 N X fr ds a)(aa:∀i fo ag n,bfI C.P T i=some (fo,ag,n)->place i=some (fo,n)) :
  ∀(parts:List (Nat×Operand)) (z:Array Value) (cs r:List IV),C.vl X z.toList cs->kC C.P C.gl fr T cs parts=some r →
   ∃A,Instr.fill place z (parts.map λp=>(p.1,a.eval p.2))=some A/\C.vl X A.toList r
 | [],z,cs,r,hv,h=>by
  simp only[kC,dG] at h;subst h;exact⟨z,rfl,hv⟩
 | (i,x)::l,z,cs,r,hv,h=>by
  rw[vK] at h;cases hf:bfI C.P T i with
  | none=>rw[hf] at h;cases h
  | some f =>
   cases hy:evV C.gl fr x with
   | none=>rw[hf,hy] at h;cases h
   | some y =>
    rw[hf,hy] at h;simp only[oZ] at h;split at h
    ·rename_i hc;obtain⟨J,ac,G⟩:=hc;obtain⟨fo,ag,n⟩:=f;simp only at J ac G h;obtain⟨_,_,af,ae⟩:=lA G;have ai:=(pg hI.good hI.fr hy).1;have U:=V.cells ai (ny af) ae;have D:=aa i fo ag n hf;have E:(a.eval x).cells.size=n:=by have:=U.1;rw[J] at this;simpa using this
     have hzs:z.size=cs.length:=by have:=hv.1;simpa using this
     have O:=IT fo (a.eval x).cells.toList z (by rw[jR,E,hzs,<- J];exact ac);obtain⟨A,ho,ak⟩:=vY hI aa l (((a.eval x).cells.toList.zipIdx.foldl (λcs (x:Value×Nat)=>cs.setIfInBounds (fo+x.2) x.1) z)) (fB cs fo y.cells) r
      (by rw[O];exact pk hv U) h
     refine⟨A,?_,ak⟩;rw[ec];unfold Instr.fill;simp only[D];have ab:¬ ((decide ((a.eval x).cells.size≠n) || decide (fo+(a.eval x).cells.size > z.size))=true):=by rw[E,hzs];simp;omega
     rw[a_ ab,<- ho];congr 1;rw[<- Array.foldl_toList,Array.toList_zipIdx]
    ·cases h
def VL.flat {B:Nat}{L:Nat->Nat}{w:World}{ag:Bool}{s:Nat}:∀ {rs:List Value} {ys:List IV},VL B L w rs ys->ys.all (fits ag s)=true →
  VL B L w (rs.flatMap λv=>v.cells.toList) (ys.flatMap IV.cells)/\(∀v∈rs,v.cells.size=s)
 | [],[],_,_=>⟨VL.nil,by simp⟩
 | [],_::_,h,_=>by simp[VL] at h
 | _::_,[],h,_=>by simp[VL] at h
 | r::rs,y::ys,h,G=>by
  simp only[List.all_cons,bAt] at G;have h0:=h.2 0 r y rfl rfl;obtain⟨_,A,E,D⟩:=lA G.1;have hv:=V.cells h0 (ny E) D;have hs:VL B L w rs ys:=⟨by have:=h.1;simpa using this,λi a b O J=>h.2 (i+1) a b (by simpa using O) (by simpa using J)⟩
  obtain⟨h1,h2⟩:=VL.flat hs G.2;refine⟨by rw[eC,eC];exact hv.append h1,λv hm=>?_⟩;rcases dN.1 hm with rfl|hm
  ·have:=hv.1;rw[A] at this;simpa using this
  ·exact h2 v hm
def vZ {ag:Bool}{s:Nat}{ys:List IV}(h:ys.all (fits ag s)=true):∀x∈ys,x.cells.length=s:=λx A=>(lA (eP.1 h x A)).2.1
def v7 {C:Cx}{X:WS}(E:Good C X){vs rest:List Value}{ys:List IV}{s cap:Nat}{e:TypeId}{cp:Cap}{so:Option IObj}(hv:C.vl X vs (ys.flatMap IV.cells))(hs:∀x∈ys,x.cells.length=s)
  (D:ys.length<=140737488355328) (U:ys.length<=cap) (A:kO cp (some ⟨X.w.heap.size,0,none⟩) ys.length cap) (G:∀g,cp=.app g->cap*s<=(vs++rest).length) :
  C.v (X.new (.cells ⟨vs++rest⟩ e) vs.length so) (.slice (some ⟨X.w.heap.size,0,none⟩) ys.length cap) (.sl ⟨true,cp,s⟩ ys):=by
 have J:vs.length=ys.length*s:=by rw[hv.1,gD ys hs]
 refine .sl _ _ _ _ e vs A D U hs J (λg E=>?_) (λ_ ad ha=>?_) (λ_=>?_) (λi r c O hc=>((E.new_ext _ _ _).vl hv).2 i r c O hc)
 ·simp only at E;subst E;simp only[kO,dG,Addr.mk.injEq,and_self,and_true] at A;refine⟨e,(vs++rest).length,?_,G g rfl⟩;rw[<- A];simp only[shq,WS.new,iL];rfl
 ·cases ha;refine⟨E.B,Nat.zero_mod _,?_⟩;simp only[ety,shq,WS.new,iL,eK]
 ·refine⟨_,rfl,rfl,?_,λi r O=>?_⟩
  ·simp[WS.new]
  ·have hi:=(lGs O).1;rw[ee];simp only[WS.new];rw[jn (iL X.w _)];grind
section
variable {C:Cx}{X0 X:WS}{N:Nat}{fr:Fr}{ds:List Dfd}{a:Act}{ad:Ad}{K:Kt}{ro:Option Nat}{n:Nat}{Q:Exit->Act->World->Prop}{o:Oper}
variable (hA:At C X0 N X fr ds a ad o.dst)
include hA
def IX {T:TypeId}{parts:Array (Nat×Operand)}(ho:o.op=.build T parts)
  (h:chk (gz C.P T=true) (dp (eO C.P T) λz=>dp (kC C.P C.gl fr T z.cells parts.toList) λcs=>finK o.dst K ad fr (.val (.agg cs)) X.st ds)):o.wpIn (eF ro) n C.P a X.w (PK C X0 N K) Q:=by
 obtain⟨E,h1⟩:=h;obtain⟨z,hz,h2⟩:=yQ3.1 h1;clear h1;obtain⟨cs,ab,h⟩:=yQ3.1 h2;clear h2;have hnd:∀c,o.op≠.defer c:=by rw[ho];intro c hc;cases hc
 unfold gz at E;split at E
 ·rename_i fs hT;obtain⟨v,A,hv,G,J⟩:=qL hz X.w;have U:=V.cells (hv C.B X.L X.w) (ny J) G;obtain⟨O,D,aa⟩:=vY hA.inv (λi fo ag n h=>IU hT h) parts.toList v.cells z.cells cs U ab;have hm:=Ba (P:=C.P) X.w fs.toList (λf hf=>by
   have:=eP.1 E f hf;cases hq:C.P.info? f.type with
   | none=>simp[hq] at this
   | some i=>exact⟨i,rfl⟩)
  have ah:(fs.mapM (λf=>do pure (f.offset,<- sizeOf f.type):Field->Sem (Nat×Nat))).run C.P X.w=.ok (fs.map λf=>(f.offset,C.P.cellsOf f.type)) X.w:=by
   rw[Array.mapM_eq_mapM_toList];simp only[Sem.run_map,hm,dq];congr 1;grind
  have hr:(execOp a.eval o).run C.P X.w=.ok (.value (.agg O)) X.w:=by
   unfold execOp;rw[ho];have hp:(parts.map λp=>(p.1,a.eval p.2)).toList=parts.toList.map λp=>(p.1,a.eval p.2):=by simp
   simp only[Instr.build,dt,A,dq,dS hT];rw[ah];simp only[dq,hp,D,dv]
  exact et hr hnd (hA.val aa.agg h)
 ·rename_i len e hT;obtain⟨v,A,hv,G,J⟩:=qL hz X.w;have U:=V.cells (hv C.B X.L X.w) (ny J) G;obtain⟨O,D,aa⟩:=vY (place:=λi=>some (i*C.P.cellsOf e,C.P.cellsOf e)) hA.inv (λi fo ag n h=>by obtain⟨h1,h2⟩:=IW hT h;rw[h1,h2]) parts.toList v.cells z.cells cs U ab;obtain⟨ie,ai⟩:=iw.1 E;have hr:(execOp a.eval o).run C.P X.w=.ok (.value (.agg O)) X.w:=by
   unfold execOp;rw[ho];have hp:(parts.map λp=>(p.1,a.eval p.2)).toList=parts.toList.map λp=>(p.1,a.eval p.2):=by simp
   simp only[Instr.build,dt,A,dq,dS hT,run_sizeOf X.w ai,hp,D,dv]
  exact et hr hnd (hA.val aa.agg h)
 ·cases E
def IY {esc:List Nat}{T:TypeId}{len:Nat}{parts:Array (Nat×Operand)}(ho:o.op=.buildSlice T len parts)
  (h:dp (slI C.P T) λe=>chk (kB len parts.toList=true/\len*e.2.2.1<=16777216/\1<=e.2.2.1) <|
   dp (evL C.gl fr (parts.toList.map (·.2))) λys=>chk (ys.all (fits e.2.1 e.2.2.1)=true) (mB esc o.dst e.2.2.1 ys (finK o.dst K ad fr) X.st ds)) :
  o.wpIn (eF ro) n C.P a X.w (PK C X0 N K) Q:=by
 obtain⟨⟨e,ag,s,by_⟩,hs,⟨aa,al,ac⟩,h1⟩:=yQ3.1 h;clear h;obtain⟨ys,hys,U,h⟩:=yQ3.1 h1;clear h1;simp only at al ac U h;have hnd:∀c,o.op≠.defer c:=by rw[ho];intro c hc;cases hc
 obtain⟨hT,aq,i,hi,hz,_⟩:=mF hs;have ah:=qK hA.inv.good hA.inv.fr hys;obtain⟨D,au⟩:=VL.flat ah U;have G:=vZ U;unfold kB at aa;have ae:parts.toList.map (·.1)=List.range len:=by simpa using aa
 have J:parts.toList.length=len:=by have:=dX List.length ae;simpa using this
 have A:ys.length=len:=by have:=ah.1;rw[dY,dY,J] at this;exact this.symm
 have E:(parts.map λp=>(p.1,a.eval p.2)).toList=(((parts.toList.map (·.2)).map a.eval).zipIdx 0).map λx=>(x.2,x.1):=by
  rw[Array.toList_map];apply List.ext_getElem
  ·simp
  ·intro k av aE;have hk:k<parts.toList.length:=by simpa using av
   have aA:(parts.toList[k]).1=k:=by
    have h0:(parts.toList.map (·.1))[k]?=some (parts.toList[k]).1:=by rw[eI,dO hk];rfl
    grind
   grind
 obtain⟨z,ao⟩:=iw.1 hz;have ab:(zeroValue e).run C.P X.w=.ok z X.w:=by simp only[zeroValue,dt,run_typeInfo X.w hi,dq,ao,dv]
 have O:∀zc:Array Value,zc.size=len*s->Instr.fill (λi=>some (i*s,s)) zc ((((parts.toList.map (·.2)).map a.eval).zipIdx 0).map λx=>(x.2,x.1)) =
   some (((parts.toList.map (·.2)).map a.eval).flatMap λv=>v.cells.toList).toArray:=λzc an =>
  Great.fill_whole ac ((parts.toList.map (·.2)).map a.eval) zc au (by simp only[dY];rw[J,an])
 have aw:(((parts.toList.map (·.2)).map a.eval).flatMap λv=>v.cells.toList).length=len*s:=by rw[D.1,gD ys G,A]
 have hr:(execOp a.eval o).run C.P X.w=.ok (.value (.slice (some ⟨X.w.heap.size,0,none⟩) len len)) (X.w.alloc (.cells (((parts.toList.map (·.2)).map a.eval).flatMap λv=>v.cells.toList).toArray e)):=by
  unfold execOp;rw[ho];have h2:=(jU aq X.w).2;have aj:¬ len*s > 2 ^ 24:=by omega
  by_cases h0:len*s=0
  ·simp only[Instr.buildSlice,dt,dS hT,dq,h2,a_ aj,cV h0,dv,E];rw[O _ (by simp)];simp[newRow]
  ·simp only[Instr.buildSlice,dt,dS hT,dq,h2,a_ aj,a_ h0,ab,dv,E];rw[O _ (by simp)];simp[newRow]
 unfold mB at h;split at h
 case isTrue =>
  have af:X.st X.w.heap.size=none:=by
   cases hs:X.st X.w.heap.size with
   | none=>rfl
   | some o=>have:=hA.inv.good.lt hs;omega
  have h:=h X.w.heap.size af;have hI:=hA.inv.new (.cells ⟨((parts.toList.map (·.2)).map a.eval).flatMap λv=>v.cells.toList⟩ e) 0 (some (.box (ys.flatMap IV.cells))) (λi hi=>by
   cases hi;exact⟨by simp[WS.new],_,e,iL _ _,(hA.inv.good.new_ext _ 0 _).vl D⟩)
  rw[A] at h;exact et hr hnd (gA (x:=.raw (.slice (some ⟨X.w.heap.size,0,none⟩) len len)) hI hA.ad hA.hd (.raw _ trivial) h)
 have ai:=v7 (cp:=.full) (so:=none) (rest:=[]) (e:=e) hA.inv.good D G (by rw[A];have:len<=len*s:=Nat.le_mul_of_pos_right _ ac;omega) (dJ _) rfl (λg hg=>by cases hg);rw[A,eo,aw] at ai;have hI:=hA.inv.new (.cells ⟨((parts.toList.map (·.2)).map a.eval).flatMap λv=>v.cells.toList⟩ e) (len*s) none (λi hi=>by cases hi);have hst:(X.new (.cells ⟨((parts.toList.map (·.2)).map a.eval).flatMap λv=>v.cells.toList⟩ e) (len*s) none).st=X.st:=by
  funext b;simp only[WS.new];split
  ·rename_i hb;cases hq:X.st b with
   | none=>rfl
   | some o=>have:=hA.inv.good.lt hq;omega
  ·rfl
 exact et hr hnd (gA hI hA.ad hA.hd ai (by rw[hst];exact h))
def IZ {T:TypeId}(E:o.op=.makeMap T none)(h0:dp (mapI C.P T) λD=>∀b,giv (X.st b=none) (finK o.dst K ad fr (.val (.raw (.map (some b)))) (X.st.put b (some (.map D.1 []))) ds)) :
  o.wpIn (eF ro) n C.P a X.w (PK C X0 N K) Q:=by
 have hnd:∀c,o.op≠.defer c:=by rw[E];intro c hc;cases hc
 obtain⟨D,_,h⟩:=yQ3.1 h0;have A:X.st X.w.heap.size=none:=by
  cases hs:X.st X.w.heap.size with
  | none=>rfl
  | some o=>have:=hA.inv.good.lt hs;omega
 have G:(execOp a.eval o).run C.P X.w=.ok (.value (.map (some X.w.heap.size))) (X.w.alloc (.map #[] 0)):=by
  unfold execOp;rw[E];simp[Instr.makeMap]
 have O:=hA.inv.new (.map #[] 0) 0 (some (.map D.1 [])) (λi J=>by
  cases J;refine⟨by simp[WS.new],by simp,by simp,#[],0,iL _ _,rfl,VL.nil,by simp,by simp⟩)
 exact et G hnd (gA (x:=.raw (.map (some X.w.heap.size))) O hA.ad hA.hd (.raw _ trivial) (h X.w.heap.size A))
end
def WS.obj (X:WS)(g:Nat)(o:Obj)(so:Option IObj):WS :=
 { w:={ X.w with heap:=X.w.heap.setIfInBounds g o },L:=X.L,st:=λb=>if b=g then so else X.st b,d:=X.d }
section
variable {C:Cx}{X:WS}{g:Nat}{o o':Obj}{so:Option IObj}
def nA (A:X.w.heap[g]?=some o):(X.obj g o' so).w.heap[g]?=some o':=(MapKept.heap_set A).1
def jV (A:X.w.heap[g]?=some o){b:Nat}(D:b≠g):(X.obj g o' so).w.heap[b]?=X.w.heap[b]?:=(MapKept.heap_set A).2 b D
def qQ (A:X.w.heap[g]?=some o)(G:∀c T f,o≠.cells c T f)(E:∀c T f,o'≠.cells c T f)(b i:Nat):(X.obj g o' so).w.cell? ⟨b,i,none⟩=X.w.cell? ⟨b,i,none⟩:=by
 by_cases D:b=g
 ·subst D;simp only[World.cell?,nA A,A];grind
 ·exact oo (jV A D) i
def qR (A:X.w.heap[g]?=some o)(E:∀c T f,o≠.cells c T f)(b:Nat)(p:(TypeId×Nat)×Bool)(hp:shq X.w b=some p):shq (X.obj g o' so).w b=some p:=by
 by_cases D:b=g
 ·subst D;simp only[shq,A] at hp;grind
 ·exact (np (jV A D)).trans hp
def mH (E:X.w.heap[g]?=some o)(D:∀c T f,o≠.cells c T f)(A:∀c T f,o'≠.cells c T f){r:Value}{x:IV}(hv:C.v X r x):C.v (X.obj g o' so) r x :=
 V.mono hv (λ_=>dJ _) (λb i _=>qQ E D A b i) (qR E D)
def Good.obj (h:Good C X)(G:X.w.heap[g]?=some o)(U:∀c T f,o≠.cells c T f)(E:∀c T f,o'≠.cells c T f)(O:∀i,so=some i->ObjOk C (X.obj g o' so) g i):Good C (X.obj g o' so) where
 ok b i D:=by
  by_cases A:b=g
  ·subst A;simp only[WS.obj,dD] at D;exact O i D
  ·have ab:X.st b=some i:=by simpa only[WS.obj,a_ A] using D
   exact (h.ok b i ab).mono (jV G A) rfl (λ_ _ hv=>⟨hv.1,λi r x hr hx=>mH G U E (hv.2 i r x hr hx)⟩)
 gl J x hg:=mH G U E (h.gl J x hg)
 gsh J x hg:=by obtain⟨T',z,hT⟩:=h.gsh J x hg;exact⟨T',z,qR G U J _ hT⟩
 B:=by simp only[WS.obj,lb];exact h.B
 Lnew b D:=by simp only[WS.obj,lb] at D ⊢;exact h.Lnew b D
 dr:=h.dr
def Ext.obj {X0:WS}(A:Ext X0 X)(G:X.w.heap[g]?=some o)(U:∀c T f,o≠.cells c T f)(E:∀c T f,o'≠.cells c T f)(O:X0.w.heap.size<=g\/X0.st g≠none):Ext X0 (X.obj g o' so) where
 os:=A.os
 tape:=A.tape
 output:=A.output
 size:=by simp only[WS.obj,lb];exact A.size
 lmono b:=A.lmono b
 cells b i hi:=by
  rw[<- A.cells b i hi];exact qQ G U E b i
 keep b J hs:=by
  have D:b≠g:=by
   grind
  rw[jV G D];exact A.keep b J hs
 dom b J hs:=by
  have D:b≠g:=by
   grind
  simp only[WS.obj];rw[a_ D];exact A.dom b J hs
 shape b p hp:=qR G U b p (A.shape b p hp)
 d:=A.d
def Inv.obj {X0:WS}{N:Nat}{fr:Fr}{ds:List Dfd}{a:Act}(h:Inv C X0 N X fr ds a)(E:X.w.heap[g]?=some o)(J:∀c T f,o≠.cells c T f)(D:∀c T f,o'≠.cells c T f)(hst:X.st g≠none)
  (O:∀i,so=some i->ObjOk C (X.obj g o' so) g i):Inv C X0 N (X.obj g o' so) fr ds a:=by
 have G:X0.w.heap.size<=g\/X0.st g≠none:=by
  rcases fQ g X0.w.heap.size with U|aa
  ·exact .inr λh0=>hst (h.ext.dom g U h0)
  ·exact .inl aa
 refine⟨h.good.obj E J D O,h.ext.obj E J D G,⟨λt=>(h.fr.slot t).mono (λ_ _=>mH E J D) ?_,h.fr.inj⟩,h.size,h.ds.mono (λ_ _=>mH E J D) ?_⟩
 ·intro b cs _ _ hb _ _;have A:b≠g:=by rintro rfl;exact hst hb
  exact⟨jV E A,rfl,by simp only[WS.obj];rw[a_ A];exact hb⟩
 ·intro r h1 h2 _;have A:r≠g:=by rintro rfl;exact hst h2
  exact⟨(jV E A).trans h1,by simp only[WS.obj];rw[a_ A];exact h2⟩
end
def Bb (m:Option Nat)(s:Nat)(e:Array Nat)(k:Nat):∀c T f,Obj.mapIter m s e k≠.cells c T f:=by intro c T f hc;cases hc
def Bc {v:Value}{k:IV}(h:keyI v=some k)(B:Nat)(L:Nat->Nat)(w:World):V B L w v k:=by
 unfold keyI at h;split at h
 ·split at h
  ·rename_i hs;cases h;exact .raw (.string _) hs
  ·cases h
 ·cases h;exact .raw _ trivial
 ·rename_i cs;obtain⟨l⟩:=cs;split at h
  ·rename_i s A n hl;simp only at hl;subst hl;split at h
   ·rename_i hs;cases h;exact (VL.cons (.raw (.string s) hs) (VL.cons (.raw (.int A n) trivial) VL.nil)).agg
   ·cases h
  ·rename_i s A n hl;simp only at hl;subst hl;cases h;exact (VL.cons (.raw (.bool s) trivial) (VL.cons (.raw (.int A n) trivial) VL.nil)).agg
  ·rename_i A n s hl;simp only at hl;subst hl;cases h;exact (VL.cons (.raw (.int A n) trivial) (VL.cons (.raw (.bool s) trivial) VL.nil)).agg
  ·cases h
 ·cases h
structure KeyRun (P:Program)(kt:TypeId)(kk:KeyK):Prop where
 check:∀(w:World) (em:Bool) {v:Value},fF kk v=true->(Instr.checkKey em 10000 kt v).run P w=.ok () w
 find:∀(w:World) {x:Value},fF kk x=true->∀es:List MapEntry,(∀e∈es,fF kk e.key=true) →
  ((Instr.findKey kt x es).run P w=.ok none w/\∀e∈es,e.key≠x)\/∃j e,(Instr.findKey kt x es).run P w=.ok (some (j,e.val)) w/\es[j]?=some e/\e.key=x
 stays:∀(w:World) {v:Value},fF kk v=true->(Instr.keyThatStays v v).run P w=.ok v w
def KeyRun.plain {P:Program}{E:TypeId}{kk:KeyK}{d:TypeDesc}(hd:P.underlying E=some d)(A:∀v,fF kk v=true->MapKept.IsKey d v):KeyRun P E kk where
 check w U v hv:=MapKept.run_checkKey hd (A v hv) U 9999
 find w x J es D:=by
  rcases MapKept.findNow_spec (A x J) es 0 (λy G=>A _ (D y G)) with⟨h1,h2⟩|⟨j,e,h1,h2,O⟩
  ·exact .inl ⟨MapKept.run_findKey hd h1,h2⟩
  ·exact .inr ⟨j,e,by rw[MapKept.run_findKey hd h1,ee],h2,O⟩
 stays w v hv:=MapKept.run_keyThatStays (A v hv)
def v8 {v:Value}(h:fF .sym v=true):∃s n,v=.agg #[.string s,.int .i64 n]/\s.size<=281474976710656 /\ -9223372036854775808<=n/\n<=9223372036854775807:=by
 cases v with
 | agg cs =>
  obtain⟨l⟩:=cs;change symK l=true at h;unfold symK at h;grind
 | _=>simp[fF] at h
def I0 {P:Program}{k:TypeId}{A:List Field}(h:symT P k A=true):∃f g,A=[f,g]/\P.keyType k=true/\P.keyTypeAt 2 k=true/\P.tiled 2 k=true/\(f.name != "_")=true/\(g.name != "_")=true/\f.offset=0/\g.offset=1/\P.cellsOf k=2/\P.cellsOf f.type=1/\P.cellsOf g.type=1/\0<P.types.size /\
  P.underlying f.type=some .string/\P.underlying g.type=some (.int .i64):=by
 unfold symT at h;grind
def KeyRun.ofSym {P:Program}{k:TypeId}{J:Array Field}(U:P.underlying k=some (.struct J))(h:symT P k J.toList=true):KeyRun P k .sym:=by
 obtain⟨f,g,ak,h1,h2,h3,h4,h5,h6,h7,h8,h9,ae,ax,ac,ab⟩:=I0 h;have A:WideMaps.KeyLaw P k:=deep_law (m:=2) (by omega) h2 h3 (by rw[U]);have key:∀v,fF .sym v=true->∃l,keyOf P k v=some l:=λv hv=>by
  obtain⟨s,n,rfl,q1,q2,q3⟩:=v8 hv;obtain⟨D,hD⟩:∃D,P.types.size=D+1:=⟨P.types.size-1,by omega⟩
  have G:J=#[f,g]:=by cases J;simp_all
  subst G;have O:(Lit.int .i64 n).wf=true:=by
   simp only[Lit.wf,bAt,dTe];exact⟨q2,q3⟩
  have E:P.keyLits (P.types.size+1) k [.string s,.int .i64 n]=some [.string s.data.toList,.int .i64 n]:=by
   rw[hD];have hs:s.size<=maxLen:=dT q1 (by decide);simp[Program.keyLits,U,h8,h4,h5,h6,h7,h9,ae,ac,ab,hs,O]
  refine⟨.string (keyBytes [.string s.data.toList,.int .i64 n]),?_⟩;unfold keyOf;simp only[U,h1,Value.formed,h8];simp[Value.cells,E]
 refine⟨λw em v hv=>?_,λw x hx es aa=>?_,λw v hv=>?_⟩
 ·obtain⟨l,hl⟩:=key v hv;exact A.check w em hl
 ·obtain⟨l,hl⟩:=key x hx;exact A.find w hl es λe he=>key _ (aa e he)
 ·obtain⟨l,hl⟩:=key v hv;exact A.stays w hl
def v_ {v:Value}(h:fF .sg v=true):∃b n,v=.agg #[.bool b,.int .u8 n]/\0<=n/\n<=255:=by
 cases v with
 | agg cs =>
  obtain⟨l⟩:=cs;change sgK l=true at h;unfold sgK at h;grind
 | _=>simp[fF] at h
def I1 {P:Program}{k:TypeId}{A:List Field}(h:sgT P k A=true):∃f g,A=[f,g]/\P.keyType k=true/\P.keyTypeAt 2 k=true/\P.tiled 2 k=true/\(f.name != "_")=true/\(g.name != "_")=true/\f.offset=0/\g.offset=1/\P.cellsOf k=2/\P.cellsOf f.type=1/\P.cellsOf g.type=1/\0<P.types.size /\
  P.underlying f.type=some .bool/\P.underlying g.type=some (.int .u8):=by
 unfold sgT at h;grind
def KeyRun.ofSg {P:Program}{k:TypeId}{J:Array Field}(U:P.underlying k=some (.struct J))(h:sgT P k J.toList=true):KeyRun P k .sg:=by
 obtain⟨f,g,aj,h1,h2,h3,h4,h5,h6,h7,h8,h9,ae,aw,ac,ab⟩:=I1 h;have A:WideMaps.KeyLaw P k:=deep_law (m:=2) (by omega) h2 h3 (by rw[U]);have key:∀v,fF .sg v=true->∃l,keyOf P k v=some l:=λv hv=>by
  obtain⟨b,n,rfl,q2,q3⟩:=v_ hv;obtain⟨D,hD⟩:∃D,P.types.size=D+1:=⟨P.types.size-1,by omega⟩
  have G:J=#[f,g]:=by cases J;simp_all
  subst G;have O:(Lit.int .u8 n).wf=true:=by
   simp only[Lit.wf,bAt,dTe];exact⟨q2,q3⟩
  have E:P.keyLits (P.types.size+1) k [.bool b,.int .u8 n]=some [.bool b,.int .u8 n]:=by
   rw[hD];simp[Program.keyLits,U,h8,h4,h5,h6,h7,h9,ae,ac,ab,O]
  refine⟨.string (keyBytes [.bool b,.int .u8 n]),?_⟩;unfold keyOf;simp only[U,h1,Value.formed,h8];simp[Value.cells,E]
 refine⟨λw em v hv=>?_,λw x hx es aa=>?_,λw v hv=>?_⟩
 ·obtain⟨l,hl⟩:=key v hv;exact A.check w em hl
 ·obtain⟨l,hl⟩:=key x hx;exact A.find w hl es λe he=>key _ (aa e he)
 ·obtain⟨l,hl⟩:=key v hv;exact A.stays w hl
def wa {v:Value}(h:fF .pl v=true):∃n b,v=.agg #[.int .i64 n,.bool b] /\ -9223372036854775808<=n/\n<=9223372036854775807:=by
 cases v with
 | agg cs =>
  obtain⟨l⟩:=cs;change plK l=true at h;unfold plK at h;grind
 | _=>simp[fF] at h
def I2 {P:Program}{k:TypeId}{A:List Field}(h:plT P k A=true):∃f g,A=[f,g]/\P.keyType k=true/\P.keyTypeAt 2 k=true/\P.tiled 2 k=true/\(f.name != "_")=true/\(g.name != "_")=true/\f.offset=0/\g.offset=1/\P.cellsOf k=2/\P.cellsOf f.type=1/\P.cellsOf g.type=1/\0<P.types.size /\
  P.underlying f.type=some (.int .i64)/\P.underlying g.type=some .bool:=by
 unfold plT at h;grind
def KeyRun.ofPl {P:Program}{k:TypeId}{J:Array Field}(U:P.underlying k=some (.struct J))(h:plT P k J.toList=true):KeyRun P k .pl:=by
 obtain⟨f,g,aj,h1,h2,h3,h4,h5,h6,h7,h8,h9,ae,aw,ac,ab⟩:=I2 h;have A:WideMaps.KeyLaw P k:=deep_law (m:=2) (by omega) h2 h3 (by rw[U]);have key:∀v,fF .pl v=true->∃l,keyOf P k v=some l:=λv hv=>by
  obtain⟨n,b,rfl,q2,q3⟩:=wa hv;obtain⟨D,hD⟩:∃D,P.types.size=D+1:=⟨P.types.size-1,by omega⟩
  have G:J=#[f,g]:=by cases J;simp_all
  subst G;have O:(Lit.int .i64 n).wf=true:=by
   simp only[Lit.wf,bAt,dTe];exact⟨q2,q3⟩
  have E:P.keyLits (P.types.size+1) k [.int .i64 n,.bool b]=some [.int .i64 n,.bool b]:=by
   rw[hD];simp[Program.keyLits,U,h8,h4,h5,h6,h7,h9,ae,ac,ab,O]
  refine⟨.string (keyBytes [.int .i64 n,.bool b]),?_⟩;unfold keyOf;simp only[U,h1,Value.formed,h8];simp[Value.cells,E]
 refine⟨λw em v hv=>?_,λw x hx es aa=>?_,λw v hv=>?_⟩
 ·obtain⟨l,hl⟩:=key v hv;exact A.check w em hl
 ·obtain⟨l,hl⟩:=key x hx;exact A.find w hl es λe he=>key _ (aa e he)
 ·obtain⟨l,hl⟩:=key v hv;exact A.stays w hl
def wb {P:Program}{T:TypeId}{G:KeyK×IV}(h:mapI P T=some G):∃J e,P.underlying T=some (.map J e)/\eO P e=some G.2/\KeyRun P J G.1:=by
 unfold mapI at h;split at h
 ·rename_i k e E;split at h
  ·rename_i z D A;cases h;exact⟨k,e,E,A,.plain D λv hv=>by cases v<;>simp[fF,MapKept.IsKey] at hv ⊢⟩
  ·rename_i i z D A;cases h;exact⟨k,e,E,A,.plain D λv hv=>by cases v<;>simp[fF,MapKept.IsKey] at hv ⊢;exact hv.symm⟩
  ·rename_i O z D A;split at h
   ·rename_i hs;cases h;exact⟨k,e,E,A,.ofSym D hs⟩
   ·split at h
    ·rename_i hs;cases h;exact⟨k,e,E,A,.ofSg D hs⟩
    ·split at h
     ·rename_i hs;cases h;exact⟨k,e,E,A,.ofPl D hs⟩
     ·cases h
  ·cases h
 ·cases h
def wc {kk:KeyK}{a b:Value}(D:fF kk a=true)(A:fF kk b=true):gN a b=true↔a=b:=by
 cases kk with
 | sym =>
  obtain⟨s,n,rfl,_⟩:=v8 D;obtain⟨s',E,rfl,_⟩:=v8 A;simp[gN,sJ]
 | sg =>
  obtain⟨s,n,rfl,_⟩:=v_ D;obtain⟨s',E,rfl,_⟩:=v_ A;simp[gN,sJ]
 | pl =>
  obtain⟨s,n,rfl,_⟩:=wa D;obtain⟨s',E,rfl,_⟩:=wa A;simp[gN,sJ]
 | _=>cases a<;>cases b<;>simp_all [fF,gN]
def we {kk:KeyK}{key:Value}(E:fF kk key=true)(y:IV):∀(es:List (Value×IV)),(∀p∈es,fF kk p.1=true)->(∀p∈es,p.1≠key)->fZ key es=none/\updI key y es=es++[(key,y)]
 | [],_,_=>⟨rfl,rfl⟩
 | (k,x)::es,G,D=>by
  have A:gN key k=false:=by
   cases J:gN key k with
   | false=>rfl
   | true=>exact absurd ((wc E (G _ (.head _))).1 J).symm (D _ (.head _))
  obtain⟨h1,h2⟩:=we E y es (λp hp=>G p (.tail _ hp)) (λp hp=>D p (.tail _ hp));exact⟨by simp only[fZ,A,bFt,dI,h1],by simp only[updI,A,bFt,dI,h2,ed]⟩
def wg {kk:KeyK}{key:Value}(D:fF kk key=true)(y:IV):∀(es:List (Value×IV)) (j:Nat),(∀p∈es,fF kk p.1=true)->(es.map (·.1)).Nodup->(es.map (·.1))[j]?=some key →
  ∃x,es[j]?=some (key,x)/\fZ key es=some x/\updI key y es=es.set j (key,y)
 | [],_,_,_,h=>by simp at h
 | (k,x)::es,0,E,_,h=>by
  simp only[ec,ki,dG] at h;subst h;have G:=(wc D D).2 rfl;exact⟨x,rfl,by simp only[fZ,G,dD],by simp only[updI,G,dD,List.set_cons_zero]⟩
 | (k,x)::es,j+1,E,J,h=>by
  simp only[ec,gJ] at h;rw[ec,hY] at J;have A:gN key k=false:=by
   cases O:gN key k with
   | false=>rfl
   | true =>
    have:=(wc D (E _ (.head _))).1 O;grind
  obtain⟨z,h1,h2,U⟩:=wg D y es j (λp hp=>E p (.tail _ hp)) J.2 h;exact⟨z,by simpa using h1,by simp only[fZ,A,bFt,dI,h2],by simp only[updI,A,bFt,dI,U,List.set_cons_succ]⟩
def Bd {P:Program}{A:TypeId}{kk:KeyK}(K:KeyRun P A kk){key:Value}(E:fF kk key=true)(y:IV)(l:List MapEntry)(es:List (Value×IV))(w:World)
  (G:l.map (·.key)=es.map (·.1)) (J:∀p∈es,fF kk p.1=true) (U:(es.map (·.1)).Nodup) :
  ((Instr.findKey A key l).run P w=.ok none w/\fZ key es=none/\updI key y es=es++[(key,y)]/\key ∉ es.map (·.1)) \/
  ∃j e x,(Instr.findKey A key l).run P w=.ok (some (j,e.val)) w/\l[j]?=some e/\e.key=key/\es[j]?=some (key,x)/\fZ key es=some x/\updI key y es=es.set j (key,y):=by
 have hl:∀e∈l,fF kk e.key=true:=λe he=>by
  have:e.key∈es.map (·.1):=G▸gh he;grind
 rcases K.find w E l hl with⟨h1,h2⟩|⟨j,e,h1,h2,h3⟩
 ·have D:key ∉ es.map (·.1):=λhc=>by
   grind
  obtain⟨h4,h5⟩:=we E y es J λp hp O=>D (O▸gh hp);grind
 ·obtain⟨x,h4,h5,h6⟩:=wg E y es j J U (by rw[<- G,eI,h2,eK,h3]);grind
section
variable {C:Cx}{X0 X:WS}{N:Nat}{fr:Fr}{ds:List Dfd}{a:Act}{ad:Ad}{K:Kt}{ro:Option Nat}{n:Nat}{Q:Exit->Act->World->Prop}{o:Oper}
variable (hA:At C X0 N X fr ds a ad o.dst)
include hA
def I3 {T:TypeId}{x y:Operand}{ok:Bool}(ho:o.op=.lookup T x y ok)
  (h:dp (mapI C.P T) λkz=>dp (evV C.gl fr x) λx=>mapV x λm=>dp (evV C.gl fr y) λi=>keyV i λkey=>pc kz m key ok (finK o.dst K ad fr) X.st ds) :
  o.wpIn (eF ro) n C.P a X.w (PK C X0 N K) Q:=by
 obtain⟨⟨kk,z⟩,hm,h1⟩:=yQ3.1 h;clear h;obtain⟨vx,hx,h2⟩:=yQ3.1 h1;clear h1;obtain⟨m,rfl,h3⟩:=sW h2;clear h2;obtain⟨vy,hy,h4⟩:=yQ3.1 h3;clear h3;have h5:=A2 (hA.v hy).1 h4;obtain⟨A,h⟩:=h5;generalize ak:a.eval y=key at A h;clear h4;simp only at A h;have hnd:∀c,o.op≠.defer c:=by rw[ho];intro c hc;cases hc
 obtain⟨kt,e,hT,hz,D⟩:=wb hm;simp only at hz D;have ex:=dK (hA.v hx).1;have ey:=ak;obtain⟨zv,G,O,_⟩:=qL hz X.w;cases m with
 | none =>
  have ac:(Instr.findKey kt key #[].toList).run C.P X.w=.ok none X.w:=by
   rcases D.find X.w A [] (λe he=>by cases he) with⟨h1,_⟩|⟨j,e,_,h2,_⟩
   ·exact h1
   ·simp at h2
  obtain⟨r,J,h⟩:=yQ3.1 h;simp only[kT,fM,gy,dG] at J;have E:(execOp a.eval o).run C.P X.w=.ok (.value (if ok then .tuple #[zv,.bool false] else zv)) X.w:=by
   unfold execOp;rw[ho];simp only[ex,ey,Instr.lookup,dt,dS hT,dq,dv,D.check _ _ A,
    ac,G]
  refine et E hnd (hA.val ?_ h);subst J;cases ok with
  | true=>exact (VL.cons (O _ _ _) (VL.cons (.raw (.bool false) trivial) VL.nil)).tup
  | false=>exact O _ _ _
 | some b =>
  obtain⟨ob,ai,g1⟩:=yQ3.1 h;clear h;obtain⟨aC,es,rfl,aj,g2⟩:=vV g1;clear g1;subst aj;obtain⟨r,J,h⟩:=yQ3.1 g2;clear g2;simp only[kT,dG] at J;obtain⟨_,ab,ae,af,ao,hh,aa,U,_,_⟩:=hA.inv.good.ok b _ ai;rcases Bd D A (.raw key) af.toList es X.w aa ab ae with⟨a1,a2,_⟩|⟨j,e',x',a1,a2,a3,a4,a5,_⟩
  ·rw[a2] at J;simp only[fM,gy] at J;have E:(execOp a.eval o).run C.P X.w=.ok (.value (if ok then .tuple #[zv,.bool false] else zv)) X.w:=by
    unfold execOp;rw[ho];simp only[ex,ey,Instr.lookup,dt,dS hT,MapKept.run_getObj_map hh,dq,dv,D.check _ _ A,a1,G]
   refine et E hnd (hA.val ?_ h);subst J;cases ok with
   | true=>exact (VL.cons (O _ _ _) (VL.cons (.raw (.bool false) trivial) VL.nil)).tup
   | false=>exact O _ _ _
  ·rw[a5] at J;simp only[eh,Option.isSome_some] at J;have hv:C.v X e'.val x':=U.2 j _ _ (by rw[eI,a2];rfl) (by rw[eI,a4];rfl);have E:(execOp a.eval o).run C.P X.w=.ok (.value (if ok then .tuple #[e'.val,.bool true] else e'.val)) X.w:=by
    unfold execOp;rw[ho];simp only[ex,ey,Instr.lookup,dt,dS hT,MapKept.run_getObj_map hh,dq,dv,D.check _ _ A,a1]
   refine et E hnd (hA.val ?_ h);subst J;cases ok with
   | true=>exact (VL.cons hv (VL.cons (.raw (.bool true) trivial) VL.nil)).tup
   | false=>exact hv
def Be {T:TypeId}{x y z:Operand}(ho:o.op=.mapUpdate T x y z\/o.op=.insert T x y z)
  (h:dp (mapI C.P T) λkz=>dp (evV C.gl fr x) λm=>mapV m λm=>dp (evV C.gl fr y) λi=>keyV i λkey=>dp (evV C.gl fr z) λy=>nv kz m key y (finK o.dst K ad fr) X.st ds) :
  o.wpIn (eF ro) n C.P a X.w (PK C X0 N K) Q:=by
 obtain⟨⟨kk,z0⟩,hm,h1⟩:=yQ3.1 h;clear h;obtain⟨vx,hx,h2⟩:=yQ3.1 h1;clear h1;obtain⟨m,rfl,h3⟩:=sW h2;clear h2;obtain⟨vy,hy,h4⟩:=yQ3.1 h3;clear h3;have h5:=A2 (hA.v hy).1 h4;clear h4;generalize aD:a.eval y=key at h5;obtain⟨vz,hz,O,h⟩:=yQ3.1 h5;clear h5;simp only at O h;have hnd:∀c,o.op≠.defer c:=by intro c hc;rw[hc] at ho;rcases ho with ho|ho<;>cases ho
 obtain⟨kt,e,hT,_,J⟩:=wb hm;simp only at J;have ex:=dK (hA.v hx).1;have ey:=aD;have ak:=(hA.v hz).1;cases m with
 | none=>exact h.elim
 | some b =>
  obtain⟨ob,am,h1⟩:=yQ3.1 h;clear h;obtain⟨aj,es,rfl,aC,h⟩:=vV h1;clear h1;subst aC;obtain⟨hL,ai,af,E,G,hh,U,ab,aF,aB⟩:=hA.inv.good.ok b _ am;have an:∀c T f,Obj.map E G≠.cells c T f:=by intro c T f hc;cases hc
  have ag:∀(e:Array MapEntry) (k:Nat),∀c T f,Obj.map e k≠.cells c T f:=by intro e k c T f hc;cases hc
  have au:∀(A:Array MapEntry) (D:Nat) (aa:List (Value×IV)),(Instr.mapUpdate T (.map (some b)) key (a.eval z)).run C.P X.w=.ok () { X.w with heap:=X.w.heap.setIfInBounds b (.map A D) } →
    A.toList.map (·.key)=aa.map (·.1)->C.vl X (A.toList.map (·.val)) (aa.map (·.2))->(∀p∈aa,fF aj p.1=true)->(aa.map (·.1)).Nodup->(∀e∈A.toList,e.born<D) →
    A.toList.Pairwise (λe e'=>e.born<e'.born)->updI key vz es=aa->o.wpIn (eF ro) n C.P a X.w (PK C X0 N K) Q:=by
   intro A D aa al h1 h2 h3 aG h4 h5 h6;have hr:(execOp a.eval o).run C.P X.w=.ok .skip { X.w with heap:=X.w.heap.setIfInBounds b (.map A D) }:=by
    unfold execOp;rcases ho with ho|ho<;>rw[ho]<;>simp only[ex,ey,al,dt,dq,dv]
   refine vQ hr hnd ?_;have hI:=hA.inv.obj (o':=.map A D) (so:=some (.map aj aa)) hh an (ag _ _) (by rw[am];simp) (λi hi=>by
    cases hi;exact⟨hL,h3,aG,A,D,nA hh,h1,⟨h2.1,λi r x hr hx=>mH hh an (ag _ _) (h2.2 i r x hr hx)⟩,h4,h5⟩)
   rw[h6] at h;exact Ij hI hA.ad h
  rcases Bd J O vz E.toList es X.w U ai af with⟨a1,_,a3,aW⟩|⟨j,e',x',a1,a2,a3,a4,_,a6⟩
  ·refine au (E.push { key,val:=a.eval z,born:=G }) (G+1) (es++[(key,vz)]) ?_ ?_ ?_ ?_ ?_ ?_ ?_ a3
   ·simp only[Instr.mapUpdate,dt,dS hT,MapKept.run_getObj_map hh,dq,J.check _ _ O,a1,MapKept.run_setObj_map _ hh]
   ·simp[U]
   ·simp only[Array.toList_push,eJ,ec,fx];exact ab.append (VL.cons ak VL.nil)
   ·grind
   ·grind
   ·grind
   ·grind
  ·have hj:E[j]?=some e':=by simpa using a2
   have ac:(E.modify j λe=>{ e with key:=key,val:=a.eval z }).toList=E.toList.set j { e' with key:=key,val:=a.eval z }:=by
    apply ke;grind
   refine au (E.modify j λe=>{ e with key:=key,val:=a.eval z }) G (es.set j (key,vz)) ?_ ?_ ?_ ?_ ?_ ?_ ?_ a6
   ·simp only[Instr.mapUpdate,dt,dS hT,MapKept.run_getObj_map hh,dq,J.check _ _ O,a1,hj,eK,eh,a3,J.stays _ O,MapKept.run_setObj_map _ hh]
   ·rw[ac,iV,iV,U]
   ·rw[ac,iV,iV];exact ab.set j ak
   ·grind
   ·rw[iV];have ao:(es.map (·.1))[j]?=some key:=by rw[eI,a4];rfl
    rw[show (es.map (·.1)).set j key=es.map (·.1) from by
     apply ke;intro i;rw[gx];split
     ·rename_i aE;subst aE;rw[cV (lGs ao).1,ao]
     ·rfl]
    exact af
   ·grind
   ·have hp:(E.toList.map (·.born)).Pairwise (·<·):=km.2 aB;have:((E.modify j λe=>{ e with key:=key,val:=a.eval z }).toList.map (·.born))=E.toList.map (·.born):=by
     rw[ac,iV];apply ke;grind
    grind
def I4 {T:TypeId}{x:Operand}(U:o.op=.range T x)
  (h:dp (mapI C.P T) λ_=>dp (evV C.gl fr x) λx=>mapV x λm=>sN m (finK o.dst K ad fr) X.st ds) :
  o.wpIn (eF ro) n C.P a X.w (PK C X0 N K) Q:=by
 obtain⟨kz,hm,h1⟩:=yQ3.1 h;clear h;obtain⟨vx,hx,h2⟩:=yQ3.1 h1;clear h1;obtain⟨m,rfl,O⟩:=sW h2;clear h2;have hnd:∀c,o.op≠.defer c:=by rw[U];intro c hc;cases hc
 obtain⟨kt,e,hT,_,_⟩:=wb hm;have ex:=dK (hA.v hx).1;cases m with
 | none=>exact O.elim
 | some b =>
  obtain⟨ob,G,h1⟩:=yQ3.1 O;clear O;obtain⟨E,A,rfl,h⟩:=vU h1;clear h1;obtain⟨hL,hh⟩:=hA.inv.good.ok b _ G;have D:X.st X.w.heap.size=none:=by
   cases hs:X.st X.w.heap.size with
   | none=>rfl
   | some o=>have:=hA.inv.good.lt hs;omega
  have hr:(execOp a.eval o).run C.P X.w=.ok (.value (.pointer (some ⟨X.w.heap.size,0,none⟩))) (X.w.alloc (.mapIter (some b) A #[] A)):=by
   unfold execOp;rw[U];simp only[ex,run_range_map X.w T kt e b E A hT hh,dt,dq,dv]
  have J:=hA.inv.new (.mapIter (some b) A #[] A) 0 (some (.iter b A #[] A)) (λi hi=>by
   cases hi;exact⟨by simp[WS.new],iL _ _⟩)
  exact et hr hnd (gA (dst:=o.dst) (K:=K) (x:=.raw (.pointer (some ⟨X.w.heap.size,0,none⟩))) J hA.ad hA.hd (.raw _ trivial) (h X.w.heap.size D))
def I5 {x:Operand}(ho:o.op=.next x false)
  (h:dp (evV C.gl fr x) λx=>adrV x λr=>sR r (finK o.dst K ad fr) X.st ds) :
  o.wpIn (eF ro) n C.P a X.w (PK C X0 N K) Q:=by
 obtain⟨vx,hx,h2⟩:=yQ3.1 h;clear h;obtain⟨r,rfl,h3⟩:=A3 h2;clear h2;obtain⟨ob,af,h1⟩:=yQ3.1 h3;clear h3;obtain⟨m,A,seen,c0,rfl,h2⟩:=A4 h1;clear h1;obtain⟨om,an,h1⟩:=yQ3.1 h2;clear h2;obtain⟨J,D,rfl,⟨U,am⟩,ab,aa⟩:=vU h1;clear h1;have hnd:∀c,o.op≠.defer c:=by rw[ho];intro c hc;cases hc
 have ex:=dK (hA.v hx).1;obtain⟨hL,hr⟩:=hA.inv.good.ok r _ af;obtain⟨_,hb⟩:=hA.inv.good.ok m _ an;have G:sK J seen=(leftOf J seen).toList:=by simp[sK,leftOf]
 rcases run_next_at (P:=C.P) X.w o.type r m A c0 seen J D hr hb (λe he=>(U e he).1) am with⟨h0,O⟩|⟨e,he,w1,ac,O⟩
 ·have E:(execOp a.eval o).run C.P X.w=.ok (.value (.tuple #[.bool false])) X.w:=by
   unfold execOp;rw[ho];simp only[ex,O,dt,dq,dv]
  exact et E hnd (hA.val (VL.cons (.raw (.bool false) trivial) VL.nil).tup (ab (by rw[G];exact eG (by simpa using h0))))
 ·have E:(execOp a.eval o).run C.P X.w=.ok (.value (.tuple #[.bool true,e.key,e.val])) (ChangeMaps.setBlock w1 r (.mapIter (some m) A (seen.push e.born) D)):=by
   unfold execOp;rw[ho];simp only[ex,O,dt,dq,dv]
  have ag:e∈J.toList:=by
   rw[<- G] at he;exact (iY.1 he).1
  obtain⟨k,hk⟩:=iw.1 (U e ag).2;have hc:=aa e (by rw[G];exact he) k hk;have ak:∀Y:WS,Y.w=w1->Y.st=X.st->Inv C X0 N Y fr ds a->Y.L=X.L->o.wpIn (eF ro) n C.P a X.w (PK C X0 N K) Q:=by
   intro Y ai aj hI aq;have ae:Y.w.heap[r]?=some (.mapIter (some m) A seen c0):=by
    rw[ai];rcases ac with rfl|rfl<;>exact hr
   have au:=hI.obj (o':=.mapIter (some m) A (seen.push e.born) D) (so:=some (.iter m A (seen.push e.born) D)) ae (Bb _ _ _ _) (Bb _ _ _ _) (by rw[aj,af];simp) (λi hi=>by
    cases hi;exact⟨by show Y.L r=0;rw[aq];exact hL,nA ae⟩)
   refine et E hnd ?_;have az:(Y.obj r (.mapIter (some m) A (seen.push e.born) D) (some (.iter m A (seen.push e.born) D))).w=ChangeMaps.setBlock w1 r (.mapIter (some m) A (seen.push e.born) D):=by
    rw[<- ai];rfl
   have hf:=gA (dst:=o.dst) (K:=K) (x:=.tup [.raw (.bool true),k,.junk]) (v:=.tuple #[.bool true,e.key,e.val]) au hA.ad hA.hd (VL.cons (.raw (.bool true) trivial) (VL.cons (Bc hk _ _ _) (VL.cons (.junk _) VL.nil))).tup (by
    have:(Y.obj r (.mapIter (some m) A (seen.push e.born) D) (some (.iter m A (seen.push e.born) D))).st=X.st.put r (some (.iter m A (seen.push e.born) D)):=by
     rw[<- aj];rfl
    rw[this];exact hc)
   grind
  rcases ac with rfl|rfl
  ·exact ak X rfl rfl hA.inv rfl
  ·exact ak X.drew rfl rfl (hA.inv.ext' hA.inv.good.drew.1 hA.inv.good.drew.2) rfl
def I6 {x:Operand}(ho:o.op=.entry x)
  (h:dp (evV C.gl fr x) λx=>adrV x λr=>sS r (finK o.dst K ad fr) X.st ds) :
  o.wpIn (eF ro) n C.P a X.w (PK C X0 N K) Q:=by
 obtain⟨vx,hx,h2⟩:=yQ3.1 h;clear h;obtain⟨r,rfl,h3⟩:=A3 h2;clear h2;obtain⟨ob,ac,h1⟩:=yQ3.1 h3;clear h3;obtain⟨m,J,seen,c0,rfl,h2⟩:=A4 h1;clear h1;obtain⟨om,ab,h1⟩:=yQ3.1 h2;clear h2;obtain⟨G,ak,rfl,⟨rfl,D⟩,h⟩:=vU h1;clear h1;obtain⟨k,hk,E⟩:=yQ3.1 h;have hnd:∀c,o.op≠.defer c:=by rw[ho];intro c hc;cases hc
 have ex:=dK (hA.v hx).1;obtain⟨hL,hr⟩:=hA.inv.good.ok r _ ac;obtain⟨_,hb⟩:=hA.inv.good.ok m _ ab;unfold AR at hk;obtain⟨b,aj,ag⟩:=Option.bind_eq_some_iff.1 hk;obtain⟨e,he,af⟩:=Option.bind_eq_some_iff.1 ag;have ah:=List.mem_of_find?_eq_some he;have au:e.born=b:=by simpa using List.find?_some he
 obtain⟨A,O⟩:∃s:Array Nat,seen=s.push e.born:=by
  refine⟨seen.pop,?_⟩;grind
 subst O;have U:(execOp a.eval o).run C.P X.w=.ok (.value (.tuple #[e.key,e.val])) X.w:=by
  unfold execOp;rw[ho];simp only[ex,run_entry_at X.w r m J A G c0 e hr hb ah D,dt,dq,dv]
 have ae:vH G (A.push e.born)=valI e.val:=by
  unfold vH;rw[aj,Option.bind_some,he]
 rw[ae] at E;have aa:C.v X e.val (valI e.val):=by
  generalize e.val=v;cases v<;>first|exact .raw (.int _ _) trivial|exact .junk _
 exact et U hnd (hA.val (VL.cons (Bc af _ _ _) (VL.cons aa VL.nil)).tup E)
end
