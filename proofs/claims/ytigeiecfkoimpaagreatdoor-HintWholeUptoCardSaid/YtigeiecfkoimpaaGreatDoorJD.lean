/- The layer of ideal values, part I: lengt -/
import Derived.Test.YtigeiecfkoimpaaGreatDoorJC
import Derived.Great.FillDense
import Derived.Maps.Keyed
import Derived.Maps.RangeRun
set_option linter.all false
namespace Go.Iv
open Go
def kO {P:Program}{o:Oper}{b:Builtin}{args:Array Operand}{ts:Array TypeId}(D:o.op=.call ⟨.builtin b,args,ts⟩)(ρ:Operand->Value)(w:World) :
  (execOp ρ o).run P w=(builtin b ts o.type (args.map λ| .const _=>true|_=>false) (args.map ρ)).run P w:=by
 unfold execOp;rw[D];simp only[resolve,dw,dA,dv,invoke];rfl
section
variable {C:Cx}{X0 X:WS}{N:Nat}{fr:Fr}{ds:List Dfd}{a:Act}{ad:Ad}{K:Kt}{ro:Option Nat}{n:Nat}{Q:Exit->Act->World->Prop}{o:Oper}
def jn {B:Nat}{L:Nat->Nat}{w:World}{r:Value}{t:Tag}{xs:List IV}(hv:V B L w r (.sl t xs)):∃ad cap,r=.slice ad xs.length cap/\xs.length<=140737488355328/\xs.length<=cap/\kY t.cap ad xs.length cap:=by
 cases hv with
 | sl ad cap _ _ T vs E D aa hs ab O J G _=>exact⟨ad,cap,rfl,D,aa,E⟩
def Bj {s:Nat}:∀(xs:List IV) (l:Nat),(∀x∈xs,x.cells.length=s)->(xs.drop l).flatMap IV.cells=(xs.flatMap IV.cells).drop (l*s)
 | [],l,_=>by simp
 | x::xs,0,_=>by simp
 | x::xs,l+1,h=>by
  rw[List.drop_succ_cons,Bj xs l (λz D=>h z (by simp[D])),eo,List.drop_append,h x (by simp)];have h1:(x.cells).drop ((l+1)*s)=[]:=List.drop_eq_nil_of_le (by rw[h x (by simp),hY];omega);grind
def Bk {s:Nat}:∀(xs:List IV) (l:Nat),(∀x∈xs,x.cells.length=s)->(xs.take l).flatMap IV.cells=(xs.flatMap IV.cells).take (l*s)
 | [],l,_=>by simp
 | x::xs,0,_=>by simp
 | x::xs,l+1,h=>by
  rw[kF,eo,Bk xs l (λz D=>h z (by simp[D])),eo,List.take_append,h x (by simp)];have h1:(x.cells).take ((l+1)*s)=x.cells:=List.take_of_length_le (by rw[h x (by simp),hY];omega);grind
def gS {s:Nat}:∀(xs:List IV),(∀x∈xs,x.cells.length=s)->(xs.flatMap IV.cells).length=xs.length*s
 | [],_=>by simp
 | x::xs,h=>by rw[eo,lLa,gS xs (λz D=>h z (by simp[D])),h x (by simp),dX,hY];omega
def V.slice {B:Nat}{L:Nat->Nat}{w:World}{ad:Option Addr}{len cap l h m:Nat}{E G:Tag}{xs:List IV}(hv:V B L w (.slice ad len cap) (.sl E xs))(aC:l<=h)(aj:h<=xs.length)(aE:h<=m)
  (ab:G.es=E.es) (au:G.fresh=true->E.fresh=true) (af:kY G.cap (if m=l then ad else ad.map (·.add (l*E.es))) (h-l) (m-l)) (al:∀g,G.cap=.app g->E.cap=.app g/\m-l<=cap) :
  V B L w (.slice (if m=l then ad else ad.map (·.add (l*E.es))) (h-l) (m-l)) (.sl G ((xs.drop l).take (h-l))):=by
 cases hv with
 | sl _ _ _ _ T vs ay ax aI hs an ae aa O hc =>
  have J:((xs.drop l).take (h-l)).length=h-l:=by simp;omega
  have key:=V.sl (B:=B) (L:=L) (w:=w) (if m=l then ad else ad.map (·.add (l*E.es))) (m-l) G ((xs.drop l).take (h-l)) T ((vs.drop (l*E.es)).take ((h-l)*E.es));rw[J] at key;have aB:(h-l)*E.es+l*E.es=h*E.es:=by rw[<- ff];congr 1;omega
  have aD:h*E.es<=vs.length:=by rw[an];exact fE _ aj
  refine key af (by omega) (by omega) (λx hx=>by rw[ab];exact hs x (List.mem_of_mem_drop (kC hx))) (by rw[ab];simp;omega) ?_ ?_ ?_ ?_
  ·intro g hg;obtain⟨h1,h2⟩:=al g hg;obtain⟨T',k,h3,h4⟩:=ae g h1;refine⟨T',k,h3,dN ?_ h4⟩;rw[ab];exact fE _ h2
  ·intro hf aK ha;rw[ab];split at ha
   ·grind
   ·cases hq:ad with
    | none=>simp[hq] at ha
    | some D =>
     simp only[hq,eJ,dI] at ha;subst ha;obtain⟨h1,h2,h3⟩:=aa (au hf) D hq;have ak:(D.add (l*E.es)).block=D.block:=by unfold Addr.add;split<;>rfl
     have ah:(D.add (l*E.es)).off=D.off+l*E.es:=by unfold Addr.add;split<;>simp_all
     rw[ak,ah,Nat.add_mul_mod_self_right];grind
  ·intro aq;have ai:l<h:=by
    rcases fN l h with ai|aF
    ·exact ai
    ·exact absurd (ev (by rw[J];omega)) aq
   obtain⟨D,ha,ac,hL,av⟩:=O (by rintro rfl;simp at aj;omega);subst ha;rw[a_ (by omega)];refine⟨D.add (l*E.es),rfl,?_,?_,?_⟩
   ·rw[mH D ac]
   ·rw[mH D ac];simp;omega
   ·intro i r hr;rw[mH D ac];grind
  ·intro i r c hr aw;rw[Bk _ _ (λx hx=>hs x (List.mem_of_mem_drop hx)),Bj _ _ hs,gd] at aw;grind
def oD {x:Option Operand}{r:Option Int}(E:Inv C X0 N X fr ds a)(h:iP C.gl fr x=some r):(x=none/\r=none)\/∃y k m,x=some y/\r=some m/\a.eval y=.int k m:=by
 cases x with
 | none=>simp only[iP,dI] at h;exact .inl ⟨rfl,h.symm⟩
 | some y =>
  simp only[iP] at h;cases D:evV C.gl fr y with
  | none=>rw[D] at h;cases h
  | some z =>
   rw[D] at h;unfold intI at h;split at h
   ·rename_i k m G;cases G;cases h;exact .inr ⟨y,k,m,rfl,rfl,dK (pv E.good E.fr D).1⟩
   ·cases h
def mK {P:Program}{k:IntKind}{i:Int}{y:Nat}{D:BoundsCode}(h:0<=i/\i<=(y:Int))(w:World):(Instr.sliceBound (.int k i) y D).run P w=.ok i.toNat w:=by
 simp only[Instr.sliceBound,asIntOf,dw,dA,dv,h,and_self,dJ]
def IX {E D:Option Int}{len:Nat}{p:Nat×Nat}(h:gq E D len=some p):p.1<=p.2/\p.2<=len:=by
 unfold gq at h;grind
def tD {lo hi mx:Option Operand}{G D max:Option Int}{sl:Bool}{len ln cap:Nat}{p:Nat×Nat}(E:Inv C X0 N X fr ds a)(h1:iP C.gl fr lo=some G)(h2:iP C.gl fr hi=some D)
  (h3:iP C.gl fr mx=some max) (hb:gq G D len=some p) (am:len<=cap) (hm:∀m,max=some m->(p.2:Int)<=m/\m<=cap) (ab:D=none->max=none) (ac:D=none->ln=len:=by first|exact λ_=>rfl|(intro h;simp[h])) :
  (Instr.sliceBounds sl ln cap (lo.map a.eval) (hi.map a.eval) (mx.map a.eval)).run C.P X.w=.ok (p.1,p.2,(max.getD cap).toNat) X.w/\p.1<=p.2/\p.2<=len:=by
 unfold gq at hb;split at hb
 ·rename_i hc;cases hb;obtain⟨c1,c2,c3⟩:=hc;refine⟨?_,by simp only;omega,by simp only;omega⟩;simp only at hm;rcases oD E h3 with⟨rfl,rfl⟩|⟨y3,k3,m,rfl,rfl,e3⟩
  ·rcases oD E h2 with⟨rfl,rfl⟩|⟨y2,k2,q,rfl,rfl,J⟩
   ·obtain rfl:=ac rfl;rcases oD E h1 with⟨rfl,rfl⟩|⟨y1,k1,r,rfl,rfl,O⟩
    ·simp only[Instr.sliceBounds,gD,dw,dA,dv,fj];simp
    ·simp only[ez,fj] at *;simp only[Instr.sliceBounds,gD,eJ,O,dw,dA,dv,gn];rw[mK ⟨by omega,by omega⟩];simp
   ·simp only[ez,fj] at *;rcases oD E h1 with⟨rfl,rfl⟩|⟨y1,k1,r,rfl,rfl,O⟩
    ·simp only[fj] at *;simp only[Instr.sliceBounds,gD,eJ,J,dw,dA,dv];rw[mK ⟨by omega,by omega⟩];simp
    ·simp only[ez] at *;simp only[Instr.sliceBounds,gD,eJ,O,J,dw,dA,dv];rw[mK ⟨by omega,by omega⟩];simp only[dv];rw[mK ⟨by omega,by omega⟩];simp
  ·obtain⟨m1,m2⟩:=hm m rfl;rcases oD E h2 with⟨rfl,rfl⟩|⟨y2,k2,q,rfl,rfl,J⟩
   ·cases ab rfl
   ·simp only[ez] at *;rcases oD E h1 with⟨rfl,rfl⟩|⟨y1,k1,r,rfl,rfl,O⟩
    ·simp only[fj] at *;simp only[Instr.sliceBounds,gD,eJ,J,e3,dw,dA,dv];rw[mK ⟨by omega,by omega⟩];simp only[dv];rw[mK ⟨by omega,by omega⟩];simp
    ·simp only[ez] at *;simp only[Instr.sliceBounds,eJ,O,J,e3,dw,dA];rw[mK ⟨by omega,by omega⟩];simp only[dv];rw[mK ⟨by omega,by omega⟩];simp only[dv];rw[mK ⟨by omega,by omega⟩];simp
 ·cases hb
variable (hA:At C X0 N X fr ds a ad o.dst)
include hA
def IY {dr:Bool}{T:TypeId}{x:Operand}(ho:o.op=.call ⟨.builtin .len,⟨[x]⟩,⟨[T]⟩⟩)
  (h:du (lenI C.P T) λk=>du (evV C.gl fr x) λx=>lenV dr k x (finK o.dst K ad fr) X.st ds):o.wpIn (eP ro) n C.P a X.w (PK C X0 N K) Q:=by
 obtain⟨lk,aa,h2⟩:=yQ2.1 h;clear h;obtain⟨vx,hx,h⟩:=yQ2.1 h2;clear h2;have hnd:∀c,o.op≠.defer c:=by rw[ho];intro c hc;cases hc
 have D:=(hA.v hx).1;have key:∀z:Value,(Builtin.len_ #[T] o.type #[a.eval x]).run C.P X.w=.ok z X.w->(execOp a.eval o).run C.P X.w=.ok (.value z) X.w:=by
  intro z hz;rw[kO ho];simp only[builtin,je,ec,fG,dw,hz,dv,dA]
 rcases re aa with⟨rfl,G⟩|⟨rfl,e,G⟩|⟨rfl,k,e,G⟩|⟨len,e,rfl,G⟩
 ·obtain⟨v,rfl,h2⟩:=v_ h;clear h;have ex:=dK D;cases v with
  | string s =>
   have hs:s.size<=281474976710656:=qQ D;refine eD (key (.int .i64 s.size) ?_) hnd (hA.val (.raw _ trivial) (h2 λ_=>hs));rw[ex];simp[Builtin.len_,dW G,goInt]
  | _=>exact h2.elim
 ·rcases Bb h with⟨tg,xs,rfl,h2⟩|⟨b,off,m,cap,rfl,h2⟩
  case inr =>
   have ex:=dK D;refine eD (key (.int .i64 m) ?_) hnd (hA.val (.raw _ trivial) h2);rw[ex];simp[Builtin.len_,dW G,goInt]
  clear h;obtain⟨ai,cap,ex,E,_⟩:=jn D;refine eD (key (.int .i64 xs.length) ?_) hnd (hA.val (.raw _ trivial) (h2 λ_=>E));rw[ex];simp[Builtin.len_,dW G,goInt]
 ·obtain⟨_,h2⟩:=tj h;clear h;obtain⟨m,rfl,h⟩:=ti h2;clear h2;have ex:=dK D;cases m with
  | none =>
   refine eD (key (.int .i64 0) ?_) hnd (hA.val (.raw _ trivial) h);rw[ex];simp[Builtin.len_,dW G,goInt]
  | some b =>
   obtain⟨ob,O,h2⟩:=yQ2.1 h;clear h;obtain⟨kk,es,rfl,h⟩:=wc h2;clear h2;obtain⟨_,_,_,J,ab,hh,hk,_⟩:=hA.inv.good.ok b _ O;refine eD (key (.int .i64 es.length) ?_) hnd (hA.val (.raw _ trivial) h);have E:J.size=es.length:=by have:=dZ List.length hk;simpa using this
   rw[ex];simp[Builtin.len_,dW G,goInt,getObj,Sem.run,hh,E]
 ·refine eD (key (.int .i64 len) ?_) hnd (hA.val (.raw _ trivial) h);simp[Builtin.len_,dW G,goInt]
def IZ {T:TypeId}{x:Operand}(J:o.op=.call ⟨.builtin .cap,⟨[x]⟩,⟨[T]⟩⟩)
  (h:du (slI C.P T) λ_=>du (evV C.gl fr x) λx=>capV x (finK o.dst K ad fr) X.st ds):o.wpIn (eP ro) n C.P a X.w (PK C X0 N K) Q:=by
 obtain⟨⟨e,ag,s,by_⟩,G,h1⟩:=yQ2.1 h;clear h;obtain⟨vx,hx,h⟩:=yQ2.1 h1;clear h1;obtain⟨hT,_⟩:=mJ G;have hnd:∀c,o.op≠.defer c:=by rw[J];intro c hc;cases hc
 have E:=(hA.v hx).1;have key:∀(p:Option Addr) (m c:Nat),a.eval x=.slice p m c->(execOp a.eval o).run C.P X.w=.ok (.value (.int .i64 c)) X.w:=by
  intro p m c hz;rw[kO J];simp[builtin,hz,Builtin.cap_,dW hT,goInt]
 rcases q_ h with⟨tg,xs,rfl,h2⟩|⟨b,off,m,cap,rfl,h2⟩
 ·obtain⟨ah,cap,ex,O,ae,D⟩:=jn E;cases hc:tg.cap with
  | nil =>
   rw[hc] at h2 D;obtain⟨rfl,h0,rfl⟩:=D;exact eD (key _ _ _ ex) hnd (hA.val (.raw _ trivial) h2)
  | full =>
   rw[hc] at h2 D;simp only[kY] at D;subst D;exact eD (key _ _ _ ex) hnd (hA.val (.raw _ trivial) h2)
  | none=>rw[hc] at h2;exact h2.elim
  | app g=>rw[hc] at h2;exact h2.elim
 ·exact eD (key _ _ _ (dK E)) hnd (hA.val (.raw _ trivial) h2)
def I0 {ts:Array TypeId}{x y:Operand}(E:o.op=.call ⟨.builtin .max,⟨[x,y]⟩,ts⟩)
  (h:du (evV C.gl fr x) λx=>du (evV C.gl fr y) λy=>intV x λk p=>intV y λD q=>if k=D then finK o.dst K ad fr (.val (.raw (.int k (max p q)))) X.st ds else False) :
  o.wpIn (eP ro) n C.P a X.w (PK C X0 N K) Q:=by
 obtain⟨vx,hx,h2⟩:=yQ2.1 h;clear h;obtain⟨vy,hy,O⟩:=yQ2.1 h2;clear h2;obtain⟨k,p,rfl,J⟩:=mI O;clear O;obtain⟨D,q,rfl,G⟩:=mI J;clear J;obtain⟨rfl,h⟩:=jO G;clear G;have hnd:∀c,o.op≠.defer c:=by rw[E];intro c hc;cases hc
 have ex:=dK (hA.v hx).1;have ey:=dK (hA.v hy).1;have hr:(execOp a.eval o).run C.P X.w=.ok (.value (.int k (max p q))) X.w:=by
  rw[kO E];simp[builtin,ex,ey,Builtin.max_,Builtin.max2,Int.max_def];grind
 exact eD hr hnd (hA.val (.raw _ trivial) h)
def I1 {ts:Array TypeId}{x y:Operand}(E:o.op=.call ⟨.builtin .min,⟨[x,y]⟩,ts⟩)
  (h:du (evV C.gl fr x) λx=>du (evV C.gl fr y) λy=>intV x λk p=>intV y λD q=>if k=D then finK o.dst K ad fr (.val (.raw (.int k (min p q)))) X.st ds else False) :
  o.wpIn (eP ro) n C.P a X.w (PK C X0 N K) Q:=by
 obtain⟨vx,hx,h2⟩:=yQ2.1 h;clear h;obtain⟨vy,hy,O⟩:=yQ2.1 h2;clear h2;obtain⟨k,p,rfl,J⟩:=mI O;clear O;obtain⟨D,q,rfl,G⟩:=mI J;clear J;obtain⟨rfl,h⟩:=jO G;clear G;have hnd:∀c,o.op≠.defer c:=by rw[E];intro c hc;cases hc
 have ex:=dK (hA.v hx).1;have ey:=dK (hA.v hy).1;have hr:(execOp a.eval o).run C.P X.w=.ok (.value (.int k (min p q))) X.w:=by
  rw[kO E];simp[builtin,ex,ey,Builtin.min_,Builtin.min2,Int.min_def];grind
 exact eD hr hnd (hA.val (.raw _ trivial) h)
def I2 {T:TypeId}{x:Operand}{lo hi mx:Option Operand}(ho:o.op=.slice T x lo hi mx)
  (h:du (lenI C.P T) λk=>du (evV C.gl fr x) λx=>du (iP C.gl fr lo) λlo=>du (iP C.gl fr hi) λhi=>du (iP C.gl fr mx) λmx =>
   kM k (slI C.P T) (arrI C.P T) x lo hi mx (finK o.dst K ad fr) X.st ds):o.wpIn (eP ro) n C.P a X.w (PK C X0 N K) Q:=by
 obtain⟨lk,aO,h1⟩:=yQ2.1 h;clear h;obtain⟨vx,hx,h2⟩:=yQ2.1 h1;clear h1;obtain⟨aL,al,h3⟩:=yQ2.1 h2;clear h2;obtain⟨aq,am,h4⟩:=yQ2.1 h3;clear h3;obtain⟨max,ae,h⟩:=yQ2.1 h4;clear h4;have hnd:∀c,o.op≠.defer c:=by rw[ho];intro c hc;cases hc
 have D:=(hA.v hx).1;rcases re aO with⟨rfl,hT⟩|⟨rfl,e,hT⟩|⟨rfl,k,e,hT⟩|⟨len,e,rfl,hT⟩
 ·obtain⟨v,rfl,h2⟩:=v_ h;clear h;cases v with
  | string s =>
   cases max with
   | some m=>exact h2.elim
   | none =>
    obtain⟨p,hp,h⟩:=yQ2.1 h2;clear h2;have ex:=dK D;have a1:s.size<=281474976710656:=qQ D;have aN:mx=none:=by rcases oD hA.inv ae with⟨rfl,_⟩|⟨y,k,m,_,he,_⟩<;>first|rfl|cases he
    subst aN;obtain⟨hb,_⟩:=tD (sl:=false) (cap:=s.size) hA.inv al am ae hp (dG _) (λm hm=>by cases hm) (λ_=>rfl);have J:(execOp a.eval o).run C.P X.w=.ok (.value (.string (s.extract p.1 p.2))) X.w:=by
     unfold execOp;rw[ho];simp only[gD] at hb;simp only[Instr.sliceAt,Instr.slice,ex,dw,dW hT,dv,gD,gn,bFt,dE,hb,dA]
    refine eD J hnd (hA.val (.raw _ ?_) h);simp only[mD,ByteArray.size_extract];omega
  | _=>exact h2.elim
 ·obtain⟨⟨e',ag,sz,by_⟩,hs,h1⟩:=yQ2.1 h;clear h;rcases q_ h1 with⟨aK,xs,rfl,av,h2⟩|⟨b,off,m,cap,rfl,h2⟩
  case inr =>
   clear h1;have ex:=dK D;obtain⟨O,ab,_⟩:=mJ hs;rw[hT] at O;cases O;cases max with
   | some q=>exact h2.elim
   | none =>
    obtain⟨a6,h3⟩:=h2;obtain⟨⟨p1,p2⟩,hp,h⟩:=yQ2.1 h3;obtain⟨hb,_⟩:=tD (sl:=true) (ln:=m) (cap:=cap) hA.inv al am ae hp (by split<;>omega) (λq hq=>by cases hq) (λ_=>rfl);simp only at hb h;have ai:=(j0 ab X.w).2;have J:(execOp a.eval o).run C.P X.w=.ok (.value (.slice (some ⟨b,if cap=p1 then off else off+p1*sz,none⟩) (p2-p1) (cap-p1))) X.w:=by
     unfold execOp;rw[ho];simp only[Instr.sliceAt,Instr.slice,ex,dw,dW hT,dv,hb,ai,dA,fj,i_];split
     ·rfl
     ·simp[Addr.add]
    exact eD J hnd (hA.val (.raw _ trivial) h)
  clear h1;simp only at av h2;replace D:=V.reTag (es:=sz) D;generalize reTag sz aK=tg at av h2 D;obtain⟨O,ab,_⟩:=mJ hs;rw[hT] at O;cases O;obtain⟨E,cap,ex,aF,aH,aG⟩:=jn D;have aM:aq=none->max=none:=by
   rintro rfl;cases max with
   | none=>rfl
   | some m=>exact h2.elim
  have h3:du (gq aL aq xs.length) λp=>chk (∀m,max=some m->m=p.2) (finK o.dst K ad fr (.val (.sl (kL tg xs.length p.2 p.1 max) ((xs.drop p.1).take (p.2-p.1)))) X.st ds):=by
   grind
  clear h2;obtain⟨p,hp,af,h⟩:=yQ2.1 h3;clear h3;obtain⟨p1,p2⟩:=p;simp only at af h;obtain⟨aI,aa⟩:=IX hp;obtain⟨hb,_⟩:=tD (sl:=true) (cap:=cap) hA.inv al am ae hp aH (λm hm=>by have:=af m hm;simp only at aa;omega) aM;simp only at aI aa hb;have ai:=(j0 ab X.w).2;have J:(execOp a.eval o).run C.P X.w=.ok (.value (.slice (if (max.getD cap).toNat=p1 then E else E.map (·.add (p1*sz))) (p2-p1) ((max.getD cap).toNat-p1))) X.w:=by
   unfold execOp;rw[ho];simp only[Instr.sliceAt,Instr.slice,ex,dw,dW hT,dv,hb,ai,dA]
  have aQ:p2<=(max.getD cap).toNat:=by
   cases max with
   | none=>simp only[fj,i_];omega
   | some m=>have:=af m rfl;simp only[ez];omega
  refine eD J hnd (hA.val ?_ h);rw[ex] at D;rw[<- av];by_cases G:tg.cap=.nil
  ·rw[G] at aG;obtain⟨rfl,h0,rfl⟩:=aG;obtain rfl:=ev h0;simp only[ee] at aa;have e2:p2=0:=by omega
   have e1:p1=0:=by omega
   subst e1 e2;have e3:(max.getD ((0:Nat):Int)).toNat=0:=by
    cases max with
    | none=>rfl
    | some m=>rw[af m rfl];rfl
   rw[e3];simp only[kL,cX G,List.drop_nil,List.take_nil,gC,dJ];exact D
  refine V.slice D aI aa aQ ?_ ?_ ?_ ?_
  ·simp only[kL,a_ G];split
   ·split<;>rfl
   ·split<;>rfl
  ·simp only[kL,a_ G];split
   ·grind
   ·grind
  ·simp only[kL,a_ G];split
   ·rename_i m;have:=af m rfl;rw[cX this];simp only[kY,ez];omega
   ·split
    ·rename_i hc;obtain⟨rfl,rfl⟩:=hc;simp only[fj,i_,Nat.zero_mul,gC];have:(if cap=0 then E else E.map (·.add 0))=E:=by
      split
      ·rfl
      ·cases E<;>simp[Addr.add]
     grind
    ·trivial
  ·intro g hg;simp only[kL,a_ G] at hg;split at hg
   ·grind
   ·grind
 ·exact h.elim
 ·simp only[kM] at h;unfold arrV at h;split at h
  ·rename_i cs;obtain⟨⟨n',ag,sz⟩,aT,⟨aH,aF,aC⟩,h⟩:=yQ2.1 h;obtain⟨⟨p1,p2⟩,hp,h⟩:=yQ2.1 h;obtain⟨e',O,ab⟩:=tB aT;rw[hT] at O;cases O;obtain⟨hb,_,aa⟩:=tD (sl:=false) (ln:=len) (cap:=len) hA.inv al am ae hp (dG _) (λm hm=>by cases hm) (λ_=>rfl);have hp1:p1=0:=by
    unfold gq at hp;split at hp
    ·cases hp;rfl
    ·cases hp
   subst hp1;have ai:=(j0 ab X.w).2;generalize aS:a.eval x=aW at D;cases D with
   | cptr E _ vs ak aB hL hc hv =>
    have an:(IV.agg cs).cells=cs:=rfl;rw[an] at aB hv;have J:(execOp a.eval o).run C.P X.w=.ok (.value (.slice (some E) p2 len)) X.w:=by
     unfold execOp;rw[ho];simp only[fj,i_] at hb;simp only[Instr.sliceAt,aS,Instr.sureAddr,dw,dW hT,dA,dv,hb,ai,gC];split
     ·rfl
     ·rw[Nat.zero_mul,mH E ak,iO];congr 4;obtain⟨b,of,sp⟩:=E;simp only at ak;rw[ak]
    have ac:∀c∈cs.take p2,c.cells=[c]:=λc aw=>lF (eF.1 aC c (kC aw));have au:∀l:List IV,(∀c∈l,c.cells=[c])->l.flatMap IV.cells=l:=λl=>by
     induction l with
     | nil=>intro _;rfl
     | cons c l ih=>intro hl;rw[eo,hl c (by simp),ih λd hd=>hl d (by simp[hd])];rfl
    have hp2:(cs.take p2).length=p2:=by rw[dU];simp only at aa;omega
    refine eD J hnd (hA.val ?_ h);have key:=V.sl (B:=C.B) (L:=X.L) (w:=X.w) (some E) len ⟨false,.none,1⟩ (cs.take p2) e (vs.take p2) trivial (by rw[hp2];simp only at aa;omega) (by rw[hp2];exact aa) (λc aw=>by rw[ac c aw];rfl)
     (by rw[dU,aB,ew,dU]) (λg hg=>by cases hg) (λhf=>by cases hf)
     (λ_=>⟨E,rfl,ak,by rw[dU];omega,λi r J=>hc i r (by rw[gd] at J;split at J<;>first|exact J|cases J)⟩)
     (λi r c J ao=>by
      rw[au _ ac] at ao;rw[gd] at J ao;split at J
      ·rename_i hi;rw[cX hi] at ao;exact hv i r c J ao
      ·cases J)
    rw[hp2] at key;exact key
  ·exact h.elim
end
def I3 (off:Nat)(l:List Value)(cs:Array Value)(h:off+l.length<=cs.size) :
  ((l.zipIdx.foldl (λcs (x:Value×Nat)=>cs.setIfInBounds (off+x.2) x.1) cs)).toList=cs.toList.take off++l++cs.toList.drop (off+l.length):=by
 obtain⟨h1,h2⟩:=Great.foldl_set off l 0 cs;apply km;grind
def Bl {P:Program}(w:World):∀(D:List Field),(∀f∈D,∃i,P.info? f.type=some i) →
  (D.mapM (λf=>do pure (f.offset,<- sizeOf f.type):Field->Sem (Nat×Nat))).run P w=.ok (D.map λf=>(f.offset,P.cellsOf f.type)) w
 | [],_=>by simp
 | f::D,h=>by
  obtain⟨i,E⟩:=h f (by simp);rw[List.mapM_cons];simp only[dw,run_sizeOf w E,dv,dA,Bl w D (λg G=>h g (by simp[G])),ec]
def I4 {P:Program}{T:TypeId}{fs:Array Field}(O:P.underlying T=some (.struct fs)){i fo n:Nat}{ag:Bool}(h:bfI P T i=some (fo,ag,n)):((fs.map λf=>(f.offset,P.cellsOf f.type))[i]?)=some (fo,n):=by
 unfold bfI at h;cases G:fldI P T i with
 | none =>
  rw[G] at h;simp[orO,arrI,O] at h
 | some f =>
  rw[G] at h;cases h;obtain⟨ae,f',D,ab,J,E,_⟩:=tA G;rw[O] at D;cases D;have ac:P.cellsOf f'.type=n:=by have:=s_ E;simp[Program.cellsOf,this]
  grind
def I5 {P:Program}{T e:TypeId}{len:Nat}(O:P.underlying T=some (.array len e)){i fo n:Nat}{ag:Bool}(h:bfI P T i=some (fo,ag,n)):fo=i*P.cellsOf e/\n=P.cellsOf e:=by
 unfold bfI at h;have hf:fldI P T i=none:=by unfold fldI;rw[O]
 rw[hf] at h;cases J:arrI P T with
 | none=>rw[J] at h;cases h
 | some f =>
  obtain⟨l,a',s⟩:=f;rw[J] at h;cases h;obtain⟨e',D,E⟩:=tB J;rw[O] at D;cases D;have G:P.cellsOf e=n:=by have:=s_ E;simp[Program.cellsOf,this]
  rw[G];exact⟨rfl,rfl⟩
def wi {C:Cx}{X0 X:WS}{N:Nat}{fr:Fr}{ds:List Dfd}{a:Act}{T:TypeId}{place:Nat->Option (Nat×Nat)}(hI:Inv C X0 N X fr ds a)(ac:∀i fo ag n,bfI C.P T i=some (fo,ag,n)->place i=some (fo,n)) :
  ∀(parts:List (Nat×Operand)) (z:Array Value) (cs r:List IV),C.vl X z.toList cs->kK C.P C.gl fr T cs parts=some r →
   ∃D,Instr.fill place z (parts.map λp=>(p.1,a.eval p.2))=some D/\C.vl X D.toList r
 | [],z,cs,r,hv,h=>by
  simp only[kK,dI] at h;subst h;exact⟨z,rfl,hv⟩
 | (i,x)::l,z,cs,r,hv,h=>by
  rw[vU] at h;cases hf:bfI C.P T i with
  | none=>rw[hf] at h;cases h
  | some f =>
   cases hy:evV C.gl fr x with
   | none=>rw[hf,hy] at h;cases h
   | some y =>
    rw[hf,hy] at h;simp only[pg] at h;split at h
    ·rename_i hc;obtain⟨O,af,J⟩:=hc;obtain⟨fo,ag,n⟩:=f;simp only at O af J h;obtain⟨_,_,ai,ah⟩:=lJ J;have ak:=(pv hI.good hI.fr hy).1;have ab:=V.cells ak (nE ai) ah;have E:=ac i fo ag n hf;have G:(a.eval x).cells.size=n:=by have:=ab.1;rw[O] at this;simpa using this
     have hzs:z.size=cs.length:=by have:=hv.1;simpa using this
     have aa:=I3 fo (a.eval x).cells.toList z (by rw[jX,G,hzs,<- O];exact af);obtain⟨D,ho,am⟩:=wi hI ac l (((a.eval x).cells.toList.zipIdx.foldl (λcs (x:Value×Nat)=>cs.setIfInBounds (fo+x.2) x.1) z)) (fu cs fo y.cells) r
      (by rw[aa];exact px hv ab) h
     refine⟨D,?_,am⟩;rw[ec];unfold Instr.fill;simp only[E];have ae:¬ ((decide ((a.eval x).cells.size≠n) || decide (fo+(a.eval x).cells.size > z.size))=true):=by rw[G,hzs];simp;omega
     rw[a_ ae,<- ho];congr 1;rw[<- Array.foldl_toList,Array.toList_zipIdx]
    ·cases h
def VL.flat {B:Nat}{L:Nat->Nat}{w:World}{ag:Bool}{s:Nat}:∀ {rs:List Value} {ys:List IV},VL B L w rs ys->ys.all (fits ag s)=true →
  VL B L w (rs.flatMap λv=>v.cells.toList) (ys.flatMap IV.cells)/\(∀v∈rs,v.cells.size=s)
 | [],[],_,_=>⟨VL.nil,by simp⟩
 | [],_::_,h,_=>by simp[VL] at h
 | _::_,[],h,_=>by simp[VL] at h
 | r::rs,y::ys,h,J=>by
  simp only[jE,bAt] at J;have h0:=h.2 0 r y rfl rfl;obtain⟨_,D,G,E⟩:=lJ J.1;have hv:=V.cells h0 (nE G) E;have hs:VL B L w rs ys:=⟨by have:=h.1;simpa using this,λi a b ha O=>h.2 (i+1) a b (by simpa using ha) (by simpa using O)⟩
  obtain⟨h1,h2⟩:=VL.flat hs J.2;refine⟨by rw[eo,eo];exact hv.append h1,λv hm=>?_⟩;rcases dF.1 hm with rfl|hm
  ·have:=hv.1;rw[D] at this;simpa using this
  ·exact h2 v hm
def wk {ag:Bool}{s:Nat}{ys:List IV}(h:ys.all (fits ag s)=true):∀x∈ys,x.cells.length=s:=λx D=>(lJ (eF.1 h x D)).2.1
def wm {C:Cx}{X:WS}(G:Good C X){vs rest:List Value}{ys:List IV}{s cap:Nat}{e:TypeId}{cp:Cap}{so:Option IObj}(hv:C.vl X vs (ys.flatMap IV.cells))(hs:∀x∈ys,x.cells.length=s)
  (E:ys.length<=140737488355328) (ab:ys.length<=cap) (D:kY cp (some ⟨X.w.heap.size,0,none⟩) ys.length cap) (J:∀g,cp=.app g->cap*s<=(vs++rest).length) :
  C.v (X.new (.cells ⟨vs++rest⟩ e) vs.length so) (.slice (some ⟨X.w.heap.size,0,none⟩) ys.length cap) (.sl ⟨true,cp,s⟩ ys):=by
 have O:vs.length=ys.length*s:=by rw[hv.1,gS ys hs]
 refine .sl _ _ _ _ e vs D E ab hs O (λg G=>?_) (λ_ ad ha=>?_) (λ_=>?_) (λi r c hr hc=>((G.new_ext _ _ _).vl hv).2 i r c hr hc)
 ·simp only at G;subst G;simp only[kY,dI,Addr.mk.injEq,and_self,and_true] at D;refine⟨e,(vs++rest).length,?_,J g rfl⟩;rw[<- D];simp only[shq,WS.new,iR];rfl
 ·cases ha;refine⟨G.B,Nat.zero_mod _,?_⟩;simp only[ety,shq,WS.new,iR,eJ]
 ·refine⟨_,rfl,rfl,?_,λi r hr=>?_⟩
  ·simp[WS.new]
  ·have hi:=(lGs hr).1;rw[dY];simp only[WS.new];rw[jx (iR X.w _)];grind
section
variable {C:Cx}{X0 X:WS}{N:Nat}{fr:Fr}{ds:List Dfd}{a:Act}{ad:Ad}{K:Kt}{ro:Option Nat}{n:Nat}{Q:Exit->Act->World->Prop}{o:Oper}
variable (hA:At C X0 N X fr ds a ad o.dst)
include hA
def I6 {T:TypeId}{parts:Array (Nat×Operand)}(ho:o.op=.build T parts)
  (h:chk (gP C.P T=true) (du (eX C.P T) λz=>du (kK C.P C.gl fr T z.cells parts.toList) λcs=>finK o.dst K ad fr (.val (.agg cs)) X.st ds)):o.wpIn (eP ro) n C.P a X.w (PK C X0 N K) Q:=by
 obtain⟨G,h1⟩:=h;obtain⟨z,hz,h2⟩:=yQ2.1 h1;clear h1;obtain⟨cs,ae,h⟩:=yQ2.1 h2;clear h2;have hnd:∀c,o.op≠.defer c:=by rw[ho];intro c hc;cases hc
 unfold gP at G;split at G
 ·rename_i fs hT;obtain⟨v,D,hv,J,O⟩:=qZ hz X.w;have ab:=V.cells (hv C.B X.L X.w) (nE O) J;obtain⟨aa,E,ac⟩:=wi hA.inv (λi fo ag n h=>I4 hT h) parts.toList v.cells z.cells cs ab ae;have hm:=Bl (P:=C.P) X.w fs.toList (λf hf=>by
   have:=eF.1 G f hf;cases hq:C.P.info? f.type with
   | none=>simp[hq] at this
   | some i=>exact⟨i,rfl⟩)
  have aj:(fs.mapM (λf=>do pure (f.offset,<- sizeOf f.type):Field->Sem (Nat×Nat))).run C.P X.w=.ok (fs.map λf=>(f.offset,C.P.cellsOf f.type)) X.w:=by
   rw[Array.mapM_eq_mapM_toList];simp only[Sem.run_map,hm,dv];congr 1;grind
  have hr:(execOp a.eval o).run C.P X.w=.ok (.value (.agg aa)) X.w:=by
   unfold execOp;rw[ho];have hp:(parts.map λp=>(p.1,a.eval p.2)).toList=parts.toList.map λp=>(p.1,a.eval p.2):=by simp
   simp only[Instr.build,dw,D,dv,dW hT];rw[aj];simp only[dv,hp,E,dA]
  exact eD hr hnd (hA.val ac.agg h)
 ·rename_i len e hT;obtain⟨v,D,hv,J,O⟩:=qZ hz X.w;have ab:=V.cells (hv C.B X.L X.w) (nE O) J;obtain⟨aa,E,ac⟩:=wi (place:=λi=>some (i*C.P.cellsOf e,C.P.cellsOf e)) hA.inv (λi fo ag n h=>by obtain⟨h1,h2⟩:=I5 hT h;rw[h1,h2]) parts.toList v.cells z.cells cs ab ae;obtain⟨ie,ak⟩:=iE.1 G;have hr:(execOp a.eval o).run C.P X.w=.ok (.value (.agg aa)) X.w:=by
   unfold execOp;rw[ho];have hp:(parts.map λp=>(p.1,a.eval p.2)).toList=parts.toList.map λp=>(p.1,a.eval p.2):=by simp
   simp only[Instr.build,dw,D,dv,dW hT,run_sizeOf X.w ak,hp,E,dA]
  exact eD hr hnd (hA.val ac.agg h)
 ·cases G
def I7 {esc:List Nat}{T:TypeId}{len:Nat}{parts:Array (Nat×Operand)}(ho:o.op=.buildSlice T len parts)
  (h:du (slI C.P T) λe=>chk (la len parts.toList=true/\len*e.2.2.1<=16777216/\1<=e.2.2.1) <|
   du (evL C.gl fr (parts.toList.map (·.2))) λys=>chk (ys.all (fits e.2.1 e.2.2.1)=true) (mF esc o.dst e.2.2.1 ys (finK o.dst K ad fr) X.st ds)) :
  o.wpIn (eP ro) n C.P a X.w (PK C X0 N K) Q:=by
 obtain⟨⟨e,ag,s,by_⟩,hs,⟨ac,an,af⟩,h1⟩:=yQ2.1 h;clear h;obtain⟨ys,hys,ab,h⟩:=yQ2.1 h1;clear h1;simp only at an af ab h;have hnd:∀c,o.op≠.defer c:=by rw[ho];intro c hc;cases hc
 obtain⟨hT,av,i,hi,hz,_⟩:=mJ hs;have aj:=qY hA.inv.good hA.inv.fr hys;obtain⟨E,aw⟩:=VL.flat aj ab;have J:=wk ab;unfold la at ac;have ah:parts.toList.map (·.1)=List.range len:=by simpa using ac
 have O:parts.toList.length=len:=by have:=dZ List.length ah;simpa using this
 have D:ys.length=len:=by have:=aj.1;rw[dP,dP,O] at this;exact this.symm
 have G:(parts.map λp=>(p.1,a.eval p.2)).toList=(((parts.toList.map (·.2)).map a.eval).zipIdx 0).map λx=>(x.2,x.1):=by
  rw[Array.toList_map];apply List.ext_getElem
  ·simp
  ·intro k ax aG;have hk:k<parts.toList.length:=by simpa using ax
   have aC:(parts.toList[k]).1=k:=by
    have h0:(parts.toList.map (·.1))[k]?=some (parts.toList[k]).1:=by rw[eB,dT hk];rfl
    grind
   grind
 obtain⟨z,au⟩:=iE.1 hz;have ae:(zeroValue e).run C.P X.w=.ok z X.w:=by simp only[zeroValue,dw,run_typeInfo X.w hi,dv,au,dA]
 have aa:∀zc:Array Value,zc.size=len*s->Instr.fill (λi=>some (i*s,s)) zc ((((parts.toList.map (·.2)).map a.eval).zipIdx 0).map λx=>(x.2,x.1)) =
   some (((parts.toList.map (·.2)).map a.eval).flatMap λv=>v.cells.toList).toArray:=λzc aq =>
  Great.fill_whole af ((parts.toList.map (·.2)).map a.eval) zc aw (by simp only[dP];rw[O,aq])
 have ay:(((parts.toList.map (·.2)).map a.eval).flatMap λv=>v.cells.toList).length=len*s:=by rw[E.1,gS ys J,D]
 have hr:(execOp a.eval o).run C.P X.w=.ok (.value (.slice (some ⟨X.w.heap.size,0,none⟩) len len)) (X.w.alloc (.cells (((parts.toList.map (·.2)).map a.eval).flatMap λv=>v.cells.toList).toArray e)):=by
  unfold execOp;rw[ho];have h2:=(j0 av X.w).2;have al:¬ len*s > 2 ^ 24:=by omega
  by_cases h0:len*s=0
  ·simp only[Instr.buildSlice,dw,dW hT,dv,h2,a_ al,cX h0,dA,G];rw[aa _ (by simp)];simp[newRow]
  ·simp only[Instr.buildSlice,dw,dW hT,dv,h2,a_ al,a_ h0,ae,dA,G];rw[aa _ (by simp)];simp[newRow]
 unfold mF at h;split at h
 case isTrue =>
  have ai:X.st X.w.heap.size=none:=by
   cases hs:X.st X.w.heap.size with
   | none=>rfl
   | some o=>have:=hA.inv.good.lt hs;omega
  have h:=h X.w.heap.size ai;have hI:=hA.inv.new (.cells ⟨((parts.toList.map (·.2)).map a.eval).flatMap λv=>v.cells.toList⟩ e) 0 (some (.box (ys.flatMap IV.cells))) (λi hi=>by
   cases hi;exact⟨by simp[WS.new],_,e,iR _ _,(hA.inv.good.new_ext _ 0 _).vl E⟩)
  rw[D] at h;exact eD hr hnd (gF (x:=.raw (.slice (some ⟨X.w.heap.size,0,none⟩) len len)) hI hA.ad hA.hd (.raw _ trivial) h)
 have ak:=wm (cp:=.full) (so:=none) (rest:=[]) (e:=e) hA.inv.good E J (by rw[D];have:len<=len*s:=Nat.le_mul_of_pos_right _ af;omega) (dG _) rfl (λg hg=>by cases hg);rw[D,ek,ay] at ak;have hI:=hA.inv.new (.cells ⟨((parts.toList.map (·.2)).map a.eval).flatMap λv=>v.cells.toList⟩ e) (len*s) none (λi hi=>by cases hi);have hst:(X.new (.cells ⟨((parts.toList.map (·.2)).map a.eval).flatMap λv=>v.cells.toList⟩ e) (len*s) none).st=X.st:=by
  funext b;simp only[WS.new];split
  ·rename_i hb;cases hq:X.st b with
   | none=>rfl
   | some o=>have:=hA.inv.good.lt hq;omega
  ·rfl
 exact eD hr hnd (gF hI hA.ad hA.hd ak (by rw[hst];exact h))
def I8 {T:TypeId}(G:o.op=.makeMap T none)(h0:du (mapI C.P T) λE=>∀b,giv (X.st b=none) (finK o.dst K ad fr (.val (.raw (.map (some b)))) (X.st.put b (some (.map E.1 []))) ds)) :
  o.wpIn (eP ro) n C.P a X.w (PK C X0 N K) Q:=by
 have hnd:∀c,o.op≠.defer c:=by rw[G];intro c hc;cases hc
 obtain⟨E,_,h⟩:=yQ2.1 h0;have D:X.st X.w.heap.size=none:=by
  cases hs:X.st X.w.heap.size with
  | none=>rfl
  | some o=>have:=hA.inv.good.lt hs;omega
 have J:(execOp a.eval o).run C.P X.w=.ok (.value (.map (some X.w.heap.size))) (X.w.alloc (.map #[] 0)):=by
  unfold execOp;rw[G];simp[Instr.makeMap]
 have hI:=hA.inv.new (.map #[] 0) 0 (some (.map E.1 [])) (λi O=>by
  cases O;refine⟨by simp[WS.new],by simp,by simp,#[],0,iR _ _,rfl,VL.nil,by simp,by simp⟩)
 exact eD J hnd (gF (x:=.raw (.map (some X.w.heap.size))) hI hA.ad hA.hd (.raw _ trivial) (h X.w.heap.size D))
end
def WS.obj (X:WS)(g:Nat)(o:Obj)(so:Option IObj):WS :=
 { w:={ X.w with heap:=X.w.heap.setIfInBounds g o },L:=X.L,st:=λb=>if b=g then so else X.st b,d:=X.d }
section
variable {C:Cx}{X:WS}{g:Nat}{o o':Obj}{so:Option IObj}
def nG (D:X.w.heap[g]?=some o):(X.obj g o' so).w.heap[g]?=some o':=(MapKept.heap_set D).1
def j3 (D:X.w.heap[g]?=some o){b:Nat}(E:b≠g):(X.obj g o' so).w.heap[b]?=X.w.heap[b]?:=(MapKept.heap_set D).2 b E
def rf (D:X.w.heap[g]?=some o)(J:∀c T f,o≠.cells c T f)(G:∀c T f,o'≠.cells c T f)(b i:Nat):(X.obj g o' so).w.cell? ⟨b,i,none⟩=X.w.cell? ⟨b,i,none⟩:=by
 by_cases E:b=g
 ·subst E;simp only[World.cell?,nG D,D];grind
 ·exact ow (j3 D E) i
def rh (D:X.w.heap[g]?=some o)(G:∀c T f,o≠.cells c T f)(b:Nat)(p:(TypeId×Nat)×Bool)(hp:shq X.w b=some p):shq (X.obj g o' so).w b=some p:=by
 by_cases E:b=g
 ·subst E;simp only[shq,D] at hp;grind
 ·exact (ny (j3 D E)).trans hp
def mL (G:X.w.heap[g]?=some o)(E:∀c T f,o≠.cells c T f)(D:∀c T f,o'≠.cells c T f){r:Value}{x:IV}(hv:C.v X r x):C.v (X.obj g o' so) r x :=
 V.mono hv (λ_=>dG _) (λb i _=>rf G E D b i) (rh G E)
def Good.obj (h:Good C X)(J:X.w.heap[g]?=some o)(hn:∀c T f,o≠.cells c T f)(G:∀c T f,o'≠.cells c T f)(aa:∀i,so=some i->ObjOk C (X.obj g o' so) g i):Good C (X.obj g o' so) where
 ok b i E:=by
  by_cases D:b=g
  ·subst D;simp only[WS.obj,dJ] at E;exact aa i E
  ·have ae:X.st b=some i:=by simpa only[WS.obj,a_ D] using E
   exact (h.ok b i ae).mono (j3 J D) rfl (λ_ _ hv=>⟨hv.1,λi r x hr hx=>mL J hn G (hv.2 i r x hr hx)⟩)
 gl O x hg:=mL J hn G (h.gl O x hg)
 gsh O x hg:=by obtain⟨T',z,hT⟩:=h.gsh O x hg;exact⟨T',z,rh J hn O _ hT⟩
 B:=by simp only[WS.obj,lx];exact h.B
 Lnew b E:=by simp only[WS.obj,lx] at E ⊢;exact h.Lnew b E
 dr:=h.dr
def Ext.obj {X0:WS}(D:Ext X0 X)(J:X.w.heap[g]?=some o)(hn:∀c T f,o≠.cells c T f)(G:∀c T f,o'≠.cells c T f)(aa:X0.w.heap.size<=g\/X0.st g≠none):Ext X0 (X.obj g o' so) where
 os:=D.os
 tape:=D.tape
 output:=D.output
 size:=by simp only[WS.obj,lx];exact D.size
 lmono b:=D.lmono b
 cells b i hi:=by
  rw[<- D.cells b i hi];exact rf J hn G b i
 keep b O hs:=by
  have E:b≠g:=by
   grind
  rw[j3 J E];exact D.keep b O hs
 dom b O hs:=by
  have E:b≠g:=by
   grind
  simp only[WS.obj];rw[a_ E];exact D.dom b O hs
 shape b p hp:=rh J hn b p (D.shape b p hp)
 d:=D.d
def Inv.obj {X0:WS}{N:Nat}{fr:Fr}{ds:List Dfd}{a:Act}(h:Inv C X0 N X fr ds a)(G:X.w.heap[g]?=some o)(O:∀c T f,o≠.cells c T f)(E:∀c T f,o'≠.cells c T f)(hst:X.st g≠none)
  (aa:∀i,so=some i->ObjOk C (X.obj g o' so) g i):Inv C X0 N (X.obj g o' so) fr ds a:=by
 have J:X0.w.heap.size<=g\/X0.st g≠none:=by
  rcases fN g X0.w.heap.size with ab|ac
  ·exact .inr λh0=>hst (h.ext.dom g ab h0)
  ·exact .inl ac
 refine⟨h.good.obj G O E aa,h.ext.obj G O E J,⟨λt=>(h.fr.slot t).mono (λ_ _=>mL G O E) ?_,h.fr.inj⟩,h.size,h.ds.mono (λ_ _=>mL G O E) ?_⟩
 ·intro b cs _ _ hb _ _;have D:b≠g:=by rintro rfl;exact hst hb
  exact⟨j3 G D,rfl,by simp only[WS.obj];rw[a_ D];exact hb⟩
 ·intro r h1 h2 _;have D:r≠g:=by rintro rfl;exact hst h2
  exact⟨(j3 G D).trans h1,by simp only[WS.obj];rw[a_ D];exact h2⟩
end
def Bn (m:Option Nat)(s:Nat)(e:Array Nat)(k:Nat):∀c T f,Obj.mapIter m s e k≠.cells c T f:=by intro c T f hc;cases hc
def Bo {v:Value}{k:IV}(h:keyI v=some k)(B:Nat)(L:Nat->Nat)(w:World):V B L w v k:=by
 unfold keyI at h;split at h
 ·split at h
  ·rename_i hs;cases h;exact .raw (.string _) hs
  ·cases h
 ·cases h;exact .raw _ trivial
 ·rename_i cs;obtain⟨l⟩:=cs;split at h
  ·rename_i s D n hl;simp only at hl;subst hl;split at h
   ·rename_i hs;cases h;exact (VL.cons (.raw (.string s) hs) (VL.cons (.raw (.int D n) trivial) VL.nil)).agg
   ·cases h
  ·rename_i s D n hl;simp only at hl;subst hl;cases h;exact (VL.cons (.raw (.bool s) trivial) (VL.cons (.raw (.int D n) trivial) VL.nil)).agg
  ·rename_i D n s hl;simp only at hl;subst hl;cases h;exact (VL.cons (.raw (.int D n) trivial) (VL.cons (.raw (.bool s) trivial) VL.nil)).agg
  ·cases h
 ·cases h
structure KeyRun (P:Program)(kt:TypeId)(kk:KeyK):Prop where
 check:∀(w:World) (em:Bool) {v:Value},fK kk v=true->(Instr.checkKey em 10000 kt v).run P w=.ok () w
 find:∀(w:World) {x:Value},fK kk x=true->∀es:List MapEntry,(∀e∈es,fK kk e.key=true) →
  ((Instr.findKey kt x es).run P w=.ok none w/\∀e∈es,e.key≠x)\/∃j e,(Instr.findKey kt x es).run P w=.ok (some (j,e.val)) w/\es[j]?=some e/\e.key=x
 stays:∀(w:World) {v:Value},fK kk v=true->(Instr.keyThatStays v v).run P w=.ok v w
def KeyRun.plain {P:Program}{G:TypeId}{kk:KeyK}{d:TypeDesc}(hd:P.underlying G=some d)(D:∀v,fK kk v=true->MapKept.IsKey d v):KeyRun P G kk where
 check w em v hv:=MapKept.run_checkKey hd (D v hv) em 9999
 find w x O es E:=by
  rcases MapKept.findNow_spec (D x O) es 0 (λy J=>D _ (E y J)) with⟨h1,h2⟩|⟨j,e,h1,h2,h3⟩
  ·exact .inl ⟨MapKept.run_findKey hd h1,h2⟩
  ·exact .inr ⟨j,e,by rw[MapKept.run_findKey hd h1,dY],h2,h3⟩
 stays w v hv:=MapKept.run_keyThatStays (D v hv)
def wo {v:Value}(h:fK .sym v=true):∃s n,v=.agg #[.string s,.int .i64 n]/\s.size<=281474976710656 /\ -9223372036854775808<=n/\n<=9223372036854775807:=by
 cases v with
 | agg cs =>
  obtain⟨l⟩:=cs;change symK l=true at h;unfold symK at h;grind
 | _=>simp[fK] at h
def I9 {P:Program}{k:TypeId}{D:List Field}(h:symT P k D=true):∃f g,D=[f,g]/\P.keyType k=true/\P.keyTypeAt 2 k=true/\P.tiled 2 k=true/\(f.name != "_")=true/\(g.name != "_")=true/\f.offset=0/\g.offset=1/\P.cellsOf k=2/\P.cellsOf f.type=1/\P.cellsOf g.type=1/\0<P.types.size /\
  P.underlying f.type=some .string/\P.underlying g.type=some (.int .i64):=by
 unfold symT at h;grind
def KeyRun.ofSym {P:Program}{k:TypeId}{O:Array Field}(hu:P.underlying k=some (.struct O))(h:symT P k O.toList=true):KeyRun P k .sym:=by
 obtain⟨f,g,am,h1,h2,h3,h4,h5,h6,h7,h8,h9,ag,az,af,ae⟩:=I9 h;have E:WideMaps.KeyLaw P k:=deep_law (m:=2) (by omega) h2 h3 (by rw[hu]);have key:∀v,fK .sym v=true->∃l,keyOf P k v=some l:=λv hv=>by
  obtain⟨s,n,rfl,q1,q2,q3⟩:=wo hv;obtain⟨D,hD⟩:∃D,P.types.size=D+1:=⟨P.types.size-1,by omega⟩
  have J:O=#[f,g]:=by cases O;simp_all
  subst J;have aa:(Lit.int .i64 n).wf=true:=by
   simp only[Lit.wf,bAt,dTe];exact⟨q2,q3⟩
  have G:P.keyLits (P.types.size+1) k [.string s,.int .i64 n]=some [.string s.data.toList,.int .i64 n]:=by
   rw[hD];have hs:s.size<=maxLen:=dN q1 (by decide);simp[Program.keyLits,hu,h8,h4,h5,h6,h7,h9,ag,af,ae,hs,aa]
  refine⟨.string (keyBytes [.string s.data.toList,.int .i64 n]),?_⟩;unfold keyOf;simp only[hu,h1,Value.formed,h8];simp[Value.cells,G]
 refine⟨λw em v hv=>?_,λw x hx es ac=>?_,λw v hv=>?_⟩
 ·obtain⟨l,hl⟩:=key v hv;exact E.check w em hl
 ·obtain⟨l,hl⟩:=key x hx;exact E.find w hl es λe he=>key _ (ac e he)
 ·obtain⟨l,hl⟩:=key v hv;exact E.stays w hl
def wq {v:Value}(h:fK .sg v=true):∃b n,v=.agg #[.bool b,.int .u8 n]/\0<=n/\n<=255:=by
 cases v with
 | agg cs =>
  obtain⟨l⟩:=cs;change sgK l=true at h;unfold sgK at h;grind
 | _=>simp[fK] at h
def I_ {P:Program}{k:TypeId}{D:List Field}(h:sgT P k D=true):∃f g,D=[f,g]/\P.keyType k=true/\P.keyTypeAt 2 k=true/\P.tiled 2 k=true/\(f.name != "_")=true/\(g.name != "_")=true/\f.offset=0/\g.offset=1/\P.cellsOf k=2/\P.cellsOf f.type=1/\P.cellsOf g.type=1/\0<P.types.size /\
  P.underlying f.type=some .bool/\P.underlying g.type=some (.int .u8):=by
 unfold sgT at h;grind
def KeyRun.ofSg {P:Program}{k:TypeId}{O:Array Field}(hu:P.underlying k=some (.struct O))(h:sgT P k O.toList=true):KeyRun P k .sg:=by
 obtain⟨f,g,al,h1,h2,h3,h4,h5,h6,h7,h8,h9,ag,ay,af,ae⟩:=I_ h;have E:WideMaps.KeyLaw P k:=deep_law (m:=2) (by omega) h2 h3 (by rw[hu]);have key:∀v,fK .sg v=true->∃l,keyOf P k v=some l:=λv hv=>by
  obtain⟨b,n,rfl,q2,q3⟩:=wq hv;obtain⟨D,hD⟩:∃D,P.types.size=D+1:=⟨P.types.size-1,by omega⟩
  have J:O=#[f,g]:=by cases O;simp_all
  subst J;have aa:(Lit.int .u8 n).wf=true:=by
   simp only[Lit.wf,bAt,dTe];exact⟨q2,q3⟩
  have G:P.keyLits (P.types.size+1) k [.bool b,.int .u8 n]=some [.bool b,.int .u8 n]:=by
   rw[hD];simp[Program.keyLits,hu,h8,h4,h5,h6,h7,h9,ag,af,ae,aa]
  refine⟨.string (keyBytes [.bool b,.int .u8 n]),?_⟩;unfold keyOf;simp only[hu,h1,Value.formed,h8];simp[Value.cells,G]
 refine⟨λw em v hv=>?_,λw x hx es ac=>?_,λw v hv=>?_⟩
 ·obtain⟨l,hl⟩:=key v hv;exact E.check w em hl
 ·obtain⟨l,hl⟩:=key x hx;exact E.find w hl es λe he=>key _ (ac e he)
 ·obtain⟨l,hl⟩:=key v hv;exact E.stays w hl
def wu {v:Value}(h:fK .pl v=true):∃n b,v=.agg #[.int .i64 n,.bool b] /\ -9223372036854775808<=n/\n<=9223372036854775807:=by
 cases v with
 | agg cs =>
  obtain⟨l⟩:=cs;change plK l=true at h;unfold plK at h;grind
 | _=>simp[fK] at h
def Ja {P:Program}{k:TypeId}{D:List Field}(h:plT P k D=true):∃f g,D=[f,g]/\P.keyType k=true/\P.keyTypeAt 2 k=true/\P.tiled 2 k=true/\(f.name != "_")=true/\(g.name != "_")=true/\f.offset=0/\g.offset=1/\P.cellsOf k=2/\P.cellsOf f.type=1/\P.cellsOf g.type=1/\0<P.types.size /\
  P.underlying f.type=some (.int .i64)/\P.underlying g.type=some .bool:=by
 unfold plT at h;grind
def KeyRun.ofPl {P:Program}{k:TypeId}{O:Array Field}(hu:P.underlying k=some (.struct O))(h:plT P k O.toList=true):KeyRun P k .pl:=by
 obtain⟨f,g,al,h1,h2,h3,h4,h5,h6,h7,h8,h9,ag,ay,af,ae⟩:=Ja h;have E:WideMaps.KeyLaw P k:=deep_law (m:=2) (by omega) h2 h3 (by rw[hu]);have key:∀v,fK .pl v=true->∃l,keyOf P k v=some l:=λv hv=>by
  obtain⟨n,b,rfl,q2,q3⟩:=wu hv;obtain⟨D,hD⟩:∃D,P.types.size=D+1:=⟨P.types.size-1,by omega⟩
  have J:O=#[f,g]:=by cases O;simp_all
  subst J;have aa:(Lit.int .i64 n).wf=true:=by
   simp only[Lit.wf,bAt,dTe];exact⟨q2,q3⟩
  have G:P.keyLits (P.types.size+1) k [.int .i64 n,.bool b]=some [.int .i64 n,.bool b]:=by
   rw[hD];simp[Program.keyLits,hu,h8,h4,h5,h6,h7,h9,ag,af,ae,aa]
  refine⟨.string (keyBytes [.int .i64 n,.bool b]),?_⟩;unfold keyOf;simp only[hu,h1,Value.formed,h8];simp[Value.cells,G]
 refine⟨λw em v hv=>?_,λw x hx es ac=>?_,λw v hv=>?_⟩
 ·obtain⟨l,hl⟩:=key v hv;exact E.check w em hl
 ·obtain⟨l,hl⟩:=key x hx;exact E.find w hl es λe he=>key _ (ac e he)
 ·obtain⟨l,hl⟩:=key v hv;exact E.stays w hl
def wv {P:Program}{T:TypeId}{J:KeyK×IV}(h:mapI P T=some J):∃O e,P.underlying T=some (.map O e)/\eX P e=some J.2/\KeyRun P O J.1:=by
 unfold mapI at h;split at h
 ·rename_i k e G;split at h
  ·rename_i z E D;cases h;exact⟨k,e,G,D,.plain E λv hv=>by cases v<;>simp[fK,MapKept.IsKey] at hv ⊢⟩
  ·rename_i i z E D;cases h;exact⟨k,e,G,D,.plain E λv hv=>by cases v<;>simp[fK,MapKept.IsKey] at hv ⊢;exact hv.symm⟩
  ·rename_i fs z E D;split at h
   ·rename_i hs;cases h;exact⟨k,e,G,D,.ofSym E hs⟩
   ·split at h
    ·rename_i hs;cases h;exact⟨k,e,G,D,.ofSg E hs⟩
    ·split at h
     ·rename_i hs;cases h;exact⟨k,e,G,D,.ofPl E hs⟩
     ·cases h
  ·cases h
 ·cases h
def wx {kk:KeyK}{a b:Value}(E:fK kk a=true)(D:fK kk b=true):h_ a b=true↔a=b:=by
 cases kk with
 | sym =>
  obtain⟨s,n,rfl,_⟩:=wo E;obtain⟨s',G,rfl,_⟩:=wo D;simp[h_,sX]
 | sg =>
  obtain⟨s,n,rfl,_⟩:=wq E;obtain⟨s',G,rfl,_⟩:=wq D;simp[h_,sX]
 | pl =>
  obtain⟨s,n,rfl,_⟩:=wu E;obtain⟨s',G,rfl,_⟩:=wu D;simp[h_,sX]
 | _=>cases a<;>cases b<;>simp_all [fK,h_]
def wy {kk:KeyK}{key:Value}(G:fK kk key=true)(y:IV):∀(es:List (Value×IV)),(∀p∈es,fK kk p.1=true)->(∀p∈es,p.1≠key)->f_ key es=none/\updI key y es=es++[(key,y)]
 | [],_,_=>⟨rfl,rfl⟩
 | (k,x)::es,J,E=>by
  have D:h_ key k=false:=by
   cases O:h_ key k with
   | false=>rfl
   | true=>exact absurd ((wx G (J _ (.head _))).1 O).symm (E _ (.head _))
  obtain⟨h1,h2⟩:=wy G y es (λp hp=>J p (.tail _ hp)) (λp hp=>E p (.tail _ hp));exact⟨by simp only[f_,D,bFt,dE,h1],by simp only[updI,D,bFt,dE,h2,eu]⟩
def wz {kk:KeyK}{key:Value}(E:fK kk key=true)(y:IV):∀(es:List (Value×IV)) (j:Nat),(∀p∈es,fK kk p.1=true)->(es.map (·.1)).Nodup->(es.map (·.1))[j]?=some key →
  ∃x,es[j]?=some (key,x)/\f_ key es=some x/\updI key y es=es.set j (key,y)
 | [],_,_,_,h=>by simp at h
 | (k,x)::es,0,G,_,h=>by
  simp only[ec,kr,dI] at h;subst h;have J:=(wx E E).2 rfl;exact⟨x,rfl,by simp only[f_,J,dJ],by simp only[updI,J,dJ,jh]⟩
 | (k,x)::es,j+1,G,O,h=>by
  simp only[ec,gY] at h;rw[ec,gN] at O;have D:h_ key k=false:=by
   cases hb:h_ key k with
   | false=>rfl
   | true =>
    have:=(wx E (G _ (.head _))).1 hb;grind
  obtain⟨z,h1,h2,h3⟩:=wz E y es j (λp hp=>G p (.tail _ hp)) O.2 h;exact⟨z,by simpa using h1,by simp only[f_,D,bFt,dE,h2],by simp only[updI,D,bFt,dE,h3,kE]⟩
def Bp {P:Program}{D:TypeId}{kk:KeyK}(K:KeyRun P D kk){key:Value}(G:fK kk key=true)(y:IV)(l:List MapEntry)(es:List (Value×IV))(w:World)
  (J:l.map (·.key)=es.map (·.1)) (O:∀p∈es,fK kk p.1=true) (hn:(es.map (·.1)).Nodup) :
  ((Instr.findKey D key l).run P w=.ok none w/\f_ key es=none/\updI key y es=es++[(key,y)]/\key ∉ es.map (·.1)) \/
  ∃j e x,(Instr.findKey D key l).run P w=.ok (some (j,e.val)) w/\l[j]?=some e/\e.key=key/\es[j]?=some (key,x)/\f_ key es=some x/\updI key y es=es.set j (key,y):=by
 have hl:∀e∈l,fK kk e.key=true:=λe he=>by
  have:e.key∈es.map (·.1):=J▸gh he;grind
 rcases K.find w G l hl with⟨h1,h2⟩|⟨j,e,h1,h2,h3⟩
 ·have E:key ∉ es.map (·.1):=λhc=>by
   grind
  obtain⟨h4,h5⟩:=wy G y es O λp hp hq=>E (hq▸gh hp);grind
 ·obtain⟨x,h4,h5,h6⟩:=wz G y es j O hn (by rw[<- J,eB,h2,eJ,h3]);grind
section
variable {C:Cx}{X0 X:WS}{N:Nat}{fr:Fr}{ds:List Dfd}{a:Act}{ad:Ad}{K:Kt}{ro:Option Nat}{n:Nat}{Q:Exit->Act->World->Prop}{o:Oper}
variable (hA:At C X0 N X fr ds a ad o.dst)
include hA
def Jb {T:TypeId}{x y:Operand}{ok:Bool}(ho:o.op=.lookup T x y ok)
  (h:du (mapI C.P T) λkz=>du (evV C.gl fr x) λx=>mapV x λm=>du (evV C.gl fr y) λi=>keyV i λkey=>pk kz m key ok (finK o.dst K ad fr) X.st ds) :
  o.wpIn (eP ro) n C.P a X.w (PK C X0 N K) Q:=by
 obtain⟨⟨kk,z⟩,hm,h1⟩:=yQ2.1 h;clear h;obtain⟨vx,hx,h2⟩:=yQ2.1 h1;clear h1;obtain⟨m,rfl,h3⟩:=ti h2;clear h2;obtain⟨vy,hy,h4⟩:=yQ2.1 h3;clear h3;have h5:=Bc (hA.v hy).1 h4;obtain⟨D,h⟩:=h5;generalize am:a.eval y=key at D h;clear h4;simp only at D h;have hnd:∀c,o.op≠.defer c:=by rw[ho];intro c hc;cases hc
 obtain⟨kt,e,hT,hz,E⟩:=wv hm;simp only at hz E;have ex:=dK (hA.v hx).1;have ey:=am;obtain⟨zv,J,aa,_⟩:=qZ hz X.w;cases m with
 | none =>
  have af:(Instr.findKey kt key #[].toList).run C.P X.w=.ok none X.w:=by
   rcases E.find X.w D [] (λe he=>by cases he) with⟨h1,_⟩|⟨j,e,_,h2,_⟩
   ·exact h1
   ·simp at h2
  obtain⟨r,O,h⟩:=yQ2.1 h;simp only[lb,fj,gn,dI] at O;have G:(execOp a.eval o).run C.P X.w=.ok (.value (if ok then .tuple #[zv,.bool false] else zv)) X.w:=by
   unfold execOp;rw[ho];simp only[ex,ey,Instr.lookup,dw,dW hT,dv,dA,E.check _ _ D,
    af,J]
  refine eD G hnd (hA.val ?_ h);subst O;cases ok with
  | true=>exact (VL.cons (aa _ _ _) (VL.cons (.raw (.bool false) trivial) VL.nil)).tup
  | false=>exact aa _ _ _
 | some b =>
  obtain⟨ob,ak,g1⟩:=yQ2.1 h;clear h;obtain⟨aE,es,rfl,al,g2⟩:=wc g1;clear g1;subst al;obtain⟨r,O,h⟩:=yQ2.1 g2;clear g2;simp only[lb,dI] at O;obtain⟨_,ae,ag,ah,au,hh,ac,ab,_,_⟩:=hA.inv.good.ok b _ ak;rcases Bp E D (.raw key) ah.toList es X.w ac ae ag with⟨a1,a2,_⟩|⟨j,e',x',a1,a2,a3,a4,a5,_⟩
  ·rw[a2] at O;simp only[fj,gn] at O;have G:(execOp a.eval o).run C.P X.w=.ok (.value (if ok then .tuple #[zv,.bool false] else zv)) X.w:=by
    unfold execOp;rw[ho];simp only[ex,ey,Instr.lookup,dw,dW hT,MapKept.run_getObj_map hh,dv,dA,E.check _ _ D,a1,J]
   refine eD G hnd (hA.val ?_ h);subst O;cases ok with
   | true=>exact (VL.cons (aa _ _ _) (VL.cons (.raw (.bool false) trivial) VL.nil)).tup
   | false=>exact aa _ _ _
  ·rw[a5] at O;simp only[ez,Option.isSome_some] at O;have hv:C.v X e'.val x':=ab.2 j _ _ (by rw[eB,a2];rfl) (by rw[eB,a4];rfl);have G:(execOp a.eval o).run C.P X.w=.ok (.value (if ok then .tuple #[e'.val,.bool true] else e'.val)) X.w:=by
    unfold execOp;rw[ho];simp only[ex,ey,Instr.lookup,dw,dW hT,MapKept.run_getObj_map hh,dv,dA,E.check _ _ D,a1]
   refine eD G hnd (hA.val ?_ h);subst O;cases ok with
   | true=>exact (VL.cons hv (VL.cons (.raw (.bool true) trivial) VL.nil)).tup
   | false=>exact hv
def Bq {T:TypeId}{x y z:Operand}(ho:o.op=.mapUpdate T x y z\/o.op=.insert T x y z)
  (h:du (mapI C.P T) λkz=>du (evV C.gl fr x) λm=>mapV m λm=>du (evV C.gl fr y) λi=>keyV i λkey=>du (evV C.gl fr z) λy=>nD kz m key y (finK o.dst K ad fr) X.st ds) :
  o.wpIn (eP ro) n C.P a X.w (PK C X0 N K) Q:=by
 obtain⟨⟨kk,z0⟩,hm,h1⟩:=yQ2.1 h;clear h;obtain⟨vx,hx,h2⟩:=yQ2.1 h1;clear h1;obtain⟨m,rfl,h3⟩:=ti h2;clear h2;obtain⟨vy,hy,h4⟩:=yQ2.1 h3;clear h3;have h5:=Bc (hA.v hy).1 h4;clear h4;generalize aF:a.eval y=key at h5;obtain⟨vz,hz,aa,h⟩:=yQ2.1 h5;clear h5;simp only at aa h;have hnd:∀c,o.op≠.defer c:=by intro c hc;rw[hc] at ho;rcases ho with ho|ho<;>cases ho
 obtain⟨kt,e,hT,_,O⟩:=wv hm;simp only at O;have ex:=dK (hA.v hx).1;have ey:=aF;have am:=(hA.v hz).1;cases m with
 | none=>exact h.elim
 | some b =>
  obtain⟨ob,ao,h1⟩:=yQ2.1 h;clear h;obtain⟨al,es,rfl,aE,h⟩:=wc h1;clear h1;subst aE;obtain⟨hL,ak,ah,G,J,hh,ab,ae,aH,aD⟩:=hA.inv.good.ok b _ ao;have aq:∀c T f,Obj.map G J≠.cells c T f:=by intro c T f hc;cases hc
  have ai:∀(e:Array MapEntry) (k:Nat),∀c T f,Obj.map e k≠.cells c T f:=by intro e k c T f hc;cases hc
  have aw:∀(D:Array MapEntry) (E:Nat) (ac:List (Value×IV)),(Instr.mapUpdate T (.map (some b)) key (a.eval z)).run C.P X.w=.ok () { X.w with heap:=X.w.heap.setIfInBounds b (.map D E) } →
    D.toList.map (·.key)=ac.map (·.1)->C.vl X (D.toList.map (·.val)) (ac.map (·.2))->(∀p∈ac,fK al p.1=true)->(ac.map (·.1)).Nodup->(∀e∈D.toList,e.born<E) →
    D.toList.Pairwise (λe e'=>e.born<e'.born)->updI key vz es=ac->o.wpIn (eP ro) n C.P a X.w (PK C X0 N K) Q:=by
   intro D E ac an h1 h2 h3 aI h4 h5 h6;have hr:(execOp a.eval o).run C.P X.w=.ok .skip { X.w with heap:=X.w.heap.setIfInBounds b (.map D E) }:=by
    unfold execOp;rcases ho with ho|ho<;>rw[ho]<;>simp only[ex,ey,an,dw,dv,dA]
   refine v7 hr hnd ?_;have hI:=hA.inv.obj (o':=.map D E) (so:=some (.map al ac)) hh aq (ai _ _) (by rw[ao];simp) (λi hi=>by
    cases hi;exact⟨hL,h3,aI,D,E,nG hh,h1,⟨h2.1,λi r x hr hx=>mL hh aq (ai _ _) (h2.2 i r x hr hx)⟩,h4,h5⟩)
   rw[h6] at h;exact It hI hA.ad h
  rcases Bp O aa vz G.toList es X.w ab ak ah with⟨a1,_,a3,aY⟩|⟨j,e',x',a1,a2,a3,a4,_,a6⟩
  ·refine aw (G.push { key,val:=a.eval z,born:=J }) (J+1) (es++[(key,vz)]) ?_ ?_ ?_ ?_ ?_ ?_ ?_ a3
   ·simp only[Instr.mapUpdate,dw,dW hT,MapKept.run_getObj_map hh,dv,O.check _ _ aa,a1,MapKept.run_setObj_map _ hh]
   ·simp[ab]
   ·simp only[Array.toList_push,eQ,ec,fG];exact ae.append (VL.cons am VL.nil)
   ·grind
   ·grind
   ·grind
   ·grind
  ·have hj:G[j]?=some e':=by simpa using a2
   have af:(G.modify j λe=>{ e with key:=key,val:=a.eval z }).toList=G.toList.set j { e' with key:=key,val:=a.eval z }:=by
    apply km;grind
   refine aw (G.modify j λe=>{ e with key:=key,val:=a.eval z }) J (es.set j (key,vz)) ?_ ?_ ?_ ?_ ?_ ?_ ?_ a6
   ·simp only[Instr.mapUpdate,dw,dW hT,MapKept.run_getObj_map hh,dv,O.check _ _ aa,a1,hj,eJ,ez,a3,O.stays _ aa,MapKept.run_setObj_map _ hh]
   ·rw[af,jd,jd,ab]
   ·rw[af,jd,jd];exact ae.set j am
   ·grind
   ·rw[jd];have au:(es.map (·.1))[j]?=some key:=by rw[eB,a4];rfl
    rw[show (es.map (·.1)).set j key=es.map (·.1) from by
     apply km;intro i;rw[gy];split
     ·rename_i aG;subst aG;rw[cX (lGs au).1,au]
     ·rfl]
    exact ah
   ·grind
   ·have hp:(G.toList.map (·.born)).Pairwise (·<·):=kD.2 aD;have:((G.modify j λe=>{ e with key:=key,val:=a.eval z }).toList.map (·.born))=G.toList.map (·.born):=by
     rw[af,jd];apply km;grind
    grind
def Jc {T:TypeId}{x:Operand}(ho:o.op=.range T x)
  (h:du (mapI C.P T) λ_=>du (evV C.gl fr x) λx=>mapV x λm=>s7 m (finK o.dst K ad fr) X.st ds) :
  o.wpIn (eP ro) n C.P a X.w (PK C X0 N K) Q:=by
 obtain⟨kz,hm,h1⟩:=yQ2.1 h;clear h;obtain⟨vx,hx,h2⟩:=yQ2.1 h1;clear h1;obtain⟨m,rfl,h3⟩:=ti h2;clear h2;have hnd:∀c,o.op≠.defer c:=by rw[ho];intro c hc;cases hc
 obtain⟨kt,e,hT,_,_⟩:=wv hm;have ex:=dK (hA.v hx).1;cases m with
 | none=>exact h3.elim
 | some b =>
  obtain⟨ob,J,h1⟩:=yQ2.1 h3;clear h3;obtain⟨G,D,rfl,h⟩:=wb h1;clear h1;obtain⟨hL,hh⟩:=hA.inv.good.ok b _ J;have E:X.st X.w.heap.size=none:=by
   cases hs:X.st X.w.heap.size with
   | none=>rfl
   | some o=>have:=hA.inv.good.lt hs;omega
  have hr:(execOp a.eval o).run C.P X.w=.ok (.value (.pointer (some ⟨X.w.heap.size,0,none⟩))) (X.w.alloc (.mapIter (some b) D #[] D)):=by
   unfold execOp;rw[ho];simp only[ex,run_range_map X.w T kt e b G D hT hh,dw,dv,dA]
  have O:=hA.inv.new (.mapIter (some b) D #[] D) 0 (some (.iter b D #[] D)) (λi hi=>by
   cases hi;exact⟨by simp[WS.new],iR _ _⟩)
  exact eD hr hnd (gF (dst:=o.dst) (K:=K) (x:=.raw (.pointer (some ⟨X.w.heap.size,0,none⟩))) O hA.ad hA.hd (.raw _ trivial) (h X.w.heap.size E))
def Jd {x:Operand}(ho:o.op=.next x false)
  (h:du (evV C.gl fr x) λx=>adrV x λr=>s8 r (finK o.dst K ad fr) X.st ds) :
  o.wpIn (eP ro) n C.P a X.w (PK C X0 N K) Q:=by
 obtain⟨vx,hx,h2⟩:=yQ2.1 h;clear h;obtain⟨r,rfl,h3⟩:=Bd h2;clear h2;obtain⟨ob,ah,h1⟩:=yQ2.1 h3;clear h3;obtain⟨m,D,seen,c0,rfl,h2⟩:=Be h1;clear h1;obtain⟨om,aq,h1⟩:=yQ2.1 h2;clear h2;obtain⟨O,E,rfl,⟨ab,ao⟩,ae,ac⟩:=wb h1;clear h1;have hnd:∀c,o.op≠.defer c:=by rw[ho];intro c hc;cases hc
 have ex:=dK (hA.v hx).1;obtain⟨hL,hr⟩:=hA.inv.good.ok r _ ah;obtain⟨_,hb⟩:=hA.inv.good.ok m _ aq;have J:sY O seen=(leftOf O seen).toList:=by simp[sY,leftOf]
 rcases run_next_at (P:=C.P) X.w o.type r m D c0 seen O E hr hb (λe he=>(ab e he).1) ao with⟨h0,aa⟩|⟨e,he,w1,af,aa⟩
 ·have G:(execOp a.eval o).run C.P X.w=.ok (.value (.tuple #[.bool false])) X.w:=by
   unfold execOp;rw[ho];simp only[ex,aa,dw,dv,dA]
  exact eD G hnd (hA.val (VL.cons (.raw (.bool false) trivial) VL.nil).tup (ae (by rw[J];exact ev (by simpa using h0))))
 ·have G:(execOp a.eval o).run C.P X.w=.ok (.value (.tuple #[.bool true,e.key,e.val])) (ChangeMaps.setBlock w1 r (.mapIter (some m) D (seen.push e.born) E)):=by
   unfold execOp;rw[ho];simp only[ex,aa,dw,dv,dA]
  have ai:e∈O.toList:=by
   rw[<- J] at he;exact (jf.1 he).1
  obtain⟨k,hk⟩:=iE.1 (ab e ai).2;have hc:=ac e (by rw[J];exact he) k hk;have am:∀Y:WS,Y.w=w1->Y.st=X.st->Inv C X0 N Y fr ds a->Y.L=X.L->o.wpIn (eP ro) n C.P a X.w (PK C X0 N K) Q:=by
   intro Y ak al hI av;have ag:Y.w.heap[r]?=some (.mapIter (some m) D seen c0):=by
    rw[ak];rcases af with rfl|rfl<;>exact hr
   have aw:=hI.obj (o':=.mapIter (some m) D (seen.push e.born) E) (so:=some (.iter m D (seen.push e.born) E)) ag (Bn _ _ _ _) (Bn _ _ _ _) (by rw[al,ah];simp) (λi hi=>by
    cases hi;exact⟨by show Y.L r=0;rw[av];exact hL,nG ag⟩)
   refine eD G hnd ?_;have aB:(Y.obj r (.mapIter (some m) D (seen.push e.born) E) (some (.iter m D (seen.push e.born) E))).w=ChangeMaps.setBlock w1 r (.mapIter (some m) D (seen.push e.born) E):=by
    rw[<- ak];rfl
   have hf:=gF (dst:=o.dst) (K:=K) (x:=.tup [.raw (.bool true),k,.junk]) (v:=.tuple #[.bool true,e.key,e.val]) aw hA.ad hA.hd (VL.cons (.raw (.bool true) trivial) (VL.cons (Bo hk _ _ _) (VL.cons (.junk _) VL.nil))).tup (by
    have:(Y.obj r (.mapIter (some m) D (seen.push e.born) E) (some (.iter m D (seen.push e.born) E))).st=X.st.put r (some (.iter m D (seen.push e.born) E)):=by
     rw[<- al];rfl
    rw[this];exact hc)
   grind
  rcases af with rfl|rfl
  ·exact am X rfl rfl hA.inv rfl
  ·exact am X.drew rfl rfl (hA.inv.ext' hA.inv.good.drew.1 hA.inv.good.drew.2) rfl
def Je {x:Operand}(ho:o.op=.entry x)
  (h:du (evV C.gl fr x) λx=>adrV x λr=>s9 r (finK o.dst K ad fr) X.st ds) :
  o.wpIn (eP ro) n C.P a X.w (PK C X0 N K) Q:=by
 obtain⟨vx,hx,h2⟩:=yQ2.1 h;clear h;obtain⟨r,rfl,h3⟩:=Bd h2;clear h2;obtain⟨ob,af,h1⟩:=yQ2.1 h3;clear h3;obtain⟨m,O,seen,c0,rfl,h2⟩:=Be h1;clear h1;obtain⟨om,ae,h1⟩:=yQ2.1 h2;clear h2;obtain⟨J,am,rfl,⟨rfl,E⟩,h⟩:=wb h1;clear h1;obtain⟨k,hk,G⟩:=yQ2.1 h;have hnd:∀c,o.op≠.defer c:=by rw[ho];intro c hc;cases hc
 have ex:=dK (hA.v hx).1;obtain⟨hL,hr⟩:=hA.inv.good.ok r _ af;obtain⟨_,hb⟩:=hA.inv.good.ok m _ ae;unfold A3 at hk;obtain⟨b,al,ai⟩:=Option.bind_eq_some_iff.1 hk;obtain⟨e,he,ah⟩:=Option.bind_eq_some_iff.1 ai;have aj:=List.mem_of_find?_eq_some he;have aw:e.born=b:=by simpa using List.find?_some he
 obtain⟨D,aa⟩:∃s:Array Nat,seen=s.push e.born:=by
  refine⟨seen.pop,?_⟩;grind
 subst aa;have ab:(execOp a.eval o).run C.P X.w=.ok (.value (.tuple #[e.key,e.val])) X.w:=by
  unfold execOp;rw[ho];simp only[ex,run_entry_at X.w r m O D J c0 e hr hb aj E,dw,dv,dA]
 have ag:vQ J (D.push e.born)=valI e.val:=by
  unfold vQ;rw[al,Option.bind_some,he]
 rw[ag] at G;have ac:C.v X e.val (valI e.val):=by
  generalize e.val=v;cases v<;>first|exact .raw (.int _ _) trivial|exact .junk _
 exact eD ab hnd (hA.val (VL.cons (Bo ah _ _ _) (VL.cons ac VL.nil)).tup G)
end
