/- The layer of ideal values, part I: lengt -/
import Derived.Test.YtopmhkmegkpkdaaGreatDoorJC
import Derived.Great.FillDense
import Derived.Maps.Keyed
import Derived.Maps.RangeRun
set_option linter.all false
namespace Go.Iv
open Go
def kP {P:Program}{o:Oper}{b:Builtin}{args:Array Operand}{A:Array TypeId}(D:o.op=.call ⟨.builtin b,args,A⟩)(ρ:Operand->Value)(w:World) :
  (execOp ρ o).run P w=(builtin b A o.type (args.map λ| .const _=>true|_=>false) (args.map ρ)).run P w:=by
 unfold execOp;rw[D];simp only[resolve,cX,c_,cW,invoke];rfl
section
variable {C:Cx}{X0 X:WS}{N:Nat}{fr:Fr}{ds:List Dfd}{a:Act}{ad:Ad}{K:Kt}{ro:Option Nat}{n:Nat}{Q:Exit->Act->World->Prop}{o:Oper}
def jx {B:Nat}{L:Nat->Nat}{w:World}{r:Value}{t:Tag}{A:List IV}(hv:V B L w r (.sl t A)):∃ad cap,r=.slice ad A.length cap/\A.length<=140737488355328/\A.length<=cap/\kH t.cap ad A.length cap:=by
 cases hv with
 | sl ad cap _ _ T vs E D aa hs ab W U O _=>exact⟨ad,cap,rfl,D,aa,E⟩
def vk {s:Nat}:∀(A:List IV) (l:Nat),(∀x∈A,x.cells.length=s)->(A.drop l).flatMap IV.cells=(A.flatMap IV.cells).drop (l*s)
 | [],l,_=>by simp
 | x::A,0,_=>by simp
 | x::A,l+1,h=>by
  rw[List.drop_succ_cons,vk A l (λz D=>h z (by simp[D])),ff,List.drop_append,h x (by simp)];have h1:(x.cells).drop ((l+1)*s)=[]:=List.drop_eq_nil_of_le (by rw[h x (by simp),Nat.succ_mul];omega);grind
def Av {s:Nat}:∀(A:List IV) (l:Nat),(∀x∈A,x.cells.length=s)->(A.take l).flatMap IV.cells=(A.flatMap IV.cells).take (l*s)
 | [],l,_=>by simp
 | x::A,0,_=>by simp
 | x::A,l+1,h=>by
  rw[kD,ff,Av A l (λz D=>h z (by simp[D])),ff,List.take_append,h x (by simp)];have h1:(x.cells).take ((l+1)*s)=x.cells:=gA (by rw[h x (by simp),Nat.succ_mul];omega);grind
def jZ {s:Nat}:∀(A:List IV),(∀x∈A,x.cells.length=s)->(A.flatMap IV.cells).length=A.length*s
 | [],_=>by simp
 | x::A,h=>by rw[ff,lLa,jZ A (λz D=>h z (by simp[D])),h x (by simp),eG,Nat.succ_mul];omega
def V.slice {B:Nat}{L:Nat->Nat}{w:World}{ad:Option Addr}{len cap l h m:Nat}{D E:Tag}{xs:List IV}(hv:V B L w (.slice ad len cap) (.sl D xs))(aD:l<=h)(aj:h<=xs.length)(aF:h<=m)
  (aa:E.es=D.es) (au:E.fresh=true->D.fresh=true) (ae:kH E.cap (if m=l then ad else ad.map (·.add (l*D.es))) (h-l) (m-l)) (am:∀g,E.cap=.app g->D.cap=.app g/\m-l<=cap) :
  V B L w (.slice (if m=l then ad else ad.map (·.add (l*D.es))) (h-l) (m-l)) (.sl E ((xs.drop l).take (h-l))):=by
 cases hv with
 | sl _ _ _ _ T vs ay ax aJ hs an ac W U hc =>
  have O:((xs.drop l).take (h-l)).length=h-l:=by simp;omega
  have key:=V.sl (B:=B) (L:=L) (w:=w) (if m=l then ad else ad.map (·.add (l*D.es))) (m-l) E ((xs.drop l).take (h-l)) T ((vs.drop (l*D.es)).take ((h-l)*D.es));rw[O] at key;have aC:(h-l)*D.es+l*D.es=h*D.es:=by rw[<- ek];congr 1;omega
  have aE:h*D.es<=vs.length:=by rw[an];exact ec _ aj
  refine key ae (by omega) (by omega) (λx hx=>by rw[aa];exact hs x (lG (List.mem_of_mem_take hx))) (by rw[aa];simp;omega) ?_ ?_ ?_ ?_
  ·intro g hg;obtain⟨h1,h2⟩:=am g hg;obtain⟨T',k,h3,h4⟩:=ac g h1;refine⟨T',k,h3,eh ?_ h4⟩;rw[aa];exact ec _ h2
  ·intro hf aL ha;rw[aa];split at ha
   ·grind
   ·cases hq:ad with
    | none=>simp[hq] at ha
    | some A =>
     simp only[hq,fg,dL] at ha;subst ha;obtain⟨h1,h2,h3⟩:=W (au hf) A hq;have ak:(A.add (l*D.es)).block=A.block:=by unfold Addr.add;split<;>rfl
     have ah:(A.add (l*D.es)).off=A.off+l*D.es:=by unfold Addr.add;split<;>simp_all
     rw[ak,ah,Nat.add_mul_mod_self_right];grind
  ·intro ar;have ai:l<h:=by
    rcases jT l h with ai|aG
    ·exact ai
    ·exact absurd (eN (by rw[O];omega)) ar
   obtain⟨A,ha,ab,hL,av⟩:=U (by rintro rfl;simp at aj;omega);subst ha;rw[a_ (by omega)];refine⟨A.add (l*D.es),rfl,?_,?_,?_⟩
   ·rw[mN A ab]
   ·rw[mN A ab];simp;omega
   ·intro i r hr;rw[mN A ab];grind
  ·intro i r c hr aw;rw[Av _ _ (λx hx=>hs x (lG hx)),vk _ _ hs,fl] at aw;grind
def oK {x:Option Operand}{r:Option Int}(D:Inv C X0 N X fr ds a)(h:iZ C.gl fr x=some r):(x=none/\r=none)\/∃y k m,x=some y/\r=some m/\a.eval y=.int k m:=by
 cases x with
 | none=>simp only[iZ,dL] at h;exact .inl ⟨rfl,h.symm⟩
 | some y =>
  simp only[iZ] at h;cases A:evV C.gl fr y with
  | none=>rw[A] at h;cases h
  | some z =>
   rw[A] at h;unfold intI at h;split at h
   ·rename_i k m E;cases E;cases h;exact .inr ⟨y,k,m,rfl,rfl,dQ (pI D.good D.fr A).1⟩
   ·cases h
def mR {P:Program}{k:IntKind}{i:Int}{y:Nat}{A:BoundsCode}(h:0<=i/\i<=(y:Int))(w:World):(Instr.sliceBound (.int k i) y A).run P w=.ok i.toNat w:=by
 simp only[Instr.sliceBound,asIntOf,cX,c_,cW,h,and_self,dB]
def Ij {D A:Option Int}{len:Nat}{p:Nat×Nat}(h:gK D A len=some p):p.1<=p.2/\p.2<=len:=by
 unfold gK at h;grind
def sG {lo hi mx:Option Operand}{E A max:Option Int}{sl:Bool}{len ln cap:Nat}{p:Nat×Nat}(D:Inv C X0 N X fr ds a)(h1:iZ C.gl fr lo=some E)(h2:iZ C.gl fr hi=some A)
  (h3:iZ C.gl fr mx=some max) (W:gK E A len=some p) (an:len<=cap) (hm:∀m,max=some m->(p.2:Int)<=m/\m<=cap) (aa:A=none->max=none) (ab:A=none->ln=len:=by first|exact λ_=>rfl|(intro h;simp[h])) :
  (Instr.sliceBounds sl ln cap (lo.map a.eval) (hi.map a.eval) (mx.map a.eval)).run C.P X.w=.ok (p.1,p.2,(max.getD cap).toNat) X.w/\p.1<=p.2/\p.2<=len:=by
 unfold gK at W;split at W
 ·rename_i hc;cases W;obtain⟨c1,c2,c3⟩:=hc;refine⟨?_,by simp only;omega,by simp only;omega⟩;simp only at hm;rcases oK D h3 with⟨rfl,rfl⟩|⟨y3,k3,m,rfl,rfl,e3⟩
  ·rcases oK D h2 with⟨rfl,rfl⟩|⟨y2,k2,q,rfl,rfl,O⟩
   ·obtain rfl:=ab rfl;rcases oK D h1 with⟨rfl,rfl⟩|⟨y1,k1,r,rfl,rfl,U⟩
    ·simp only[Instr.sliceBounds,jv,cX,c_,cW,gm];simp
    ·simp only[fI,gm] at *;simp only[Instr.sliceBounds,jv,fg,U,cX,c_,cW,ju];rw[mR ⟨by omega,by omega⟩];simp
   ·simp only[fI,gm] at *;rcases oK D h1 with⟨rfl,rfl⟩|⟨y1,k1,r,rfl,rfl,U⟩
    ·simp only[gm] at *;simp only[Instr.sliceBounds,jv,fg,O,cX,c_,cW];rw[mR ⟨by omega,by omega⟩];simp
    ·simp only[fI] at *;simp only[Instr.sliceBounds,jv,fg,U,O,cX,c_,cW];rw[mR ⟨by omega,by omega⟩];simp only[cW];rw[mR ⟨by omega,by omega⟩];simp
  ·obtain⟨m1,m2⟩:=hm m rfl;rcases oK D h2 with⟨rfl,rfl⟩|⟨y2,k2,q,rfl,rfl,O⟩
   ·cases aa rfl
   ·simp only[fI] at *;rcases oK D h1 with⟨rfl,rfl⟩|⟨y1,k1,r,rfl,rfl,U⟩
    ·simp only[gm] at *;simp only[Instr.sliceBounds,jv,fg,O,e3,cX,c_,cW];rw[mR ⟨by omega,by omega⟩];simp only[cW];rw[mR ⟨by omega,by omega⟩];simp
    ·simp only[fI] at *;simp only[Instr.sliceBounds,fg,U,O,e3,cX,c_];rw[mR ⟨by omega,by omega⟩];simp only[cW];rw[mR ⟨by omega,by omega⟩];simp only[cW];rw[mR ⟨by omega,by omega⟩];simp
 ·cases W
variable (hA:At C X0 N X fr ds a ad o.dst)
include hA
def Ik {dr:Bool}{T:TypeId}{x:Operand}(ho:o.op=.call ⟨.builtin .len,⟨[x]⟩,⟨[T]⟩⟩)
  (h:cU (lenI C.P T) λk=>cU (evV C.gl fr x) λx=>lenV dr k x (finK o.dst K ad fr) X.st ds):o.wpIn (ev ro) n C.P a X.w (PK C X0 N K) Q:=by
 obtain⟨lk,ab,h2⟩:=yQ4.1 h;clear h;obtain⟨vx,hx,h⟩:=yQ4.1 h2;clear h2;have A:∀c,o.op≠.defer c:=by rw[ho];intro c hc;cases hc
 have D:=(hA.v hx).1;have key:∀z:Value,(Builtin.len_ #[T] o.type #[a.eval x]).run C.P X.w=.ok z X.w->(execOp a.eval o).run C.P X.w=.ok (.value z) X.w:=by
  intro z hz;rw[kP ho];simp only[builtin,jo,eo,fm,cX,hz,cW,c_]
 rcases qV ab with⟨rfl,O⟩|⟨rfl,e,O⟩|⟨rfl,k,e,O⟩|⟨len,e,rfl,O⟩
 ·obtain⟨v,rfl,h2⟩:=vc h;clear h;have U:=dQ D;cases v with
  | string s =>
   have hs:s.size<=281474976710656:=qD D;refine eD (key (.int .i64 s.size) ?_) A (hA.val (.raw _ trivial) (h2 λ_=>hs));rw[U];simp[Builtin.len_,dS O,goInt]
  | _=>exact h2.elim
 ·rcases Ak h with⟨tg,xs,rfl,h2⟩|⟨b,off,m,cap,rfl,h2⟩
  case inr =>
   have U:=dQ D;refine eD (key (.int .i64 m) ?_) A (hA.val (.raw _ trivial) h2);rw[U];simp[Builtin.len_,dS O,goInt]
  clear h;obtain⟨ak,cap,U,E,_⟩:=jx D;refine eD (key (.int .i64 xs.length) ?_) A (hA.val (.raw _ trivial) (h2 λ_=>E));rw[U];simp[Builtin.len_,dS O,goInt]
 ·obtain⟨_,h2⟩:=sF h;clear h;obtain⟨m,rfl,h⟩:=sE h2;clear h2;have U:=dQ D;cases m with
  | none =>
   refine eD (key (.int .i64 0) ?_) A (hA.val (.raw _ trivial) h);rw[U];simp[Builtin.len_,dS O,goInt]
  | some b =>
   obtain⟨ob,aa,h2⟩:=yQ4.1 h;clear h;obtain⟨kk,es,rfl,h⟩:=ve h2;clear h2;obtain⟨_,_,_,W,ac,hh,hk,_⟩:=hA.inv.good.ok b _ aa;refine eD (key (.int .i64 es.length) ?_) A (hA.val (.raw _ trivial) h);have E:W.size=es.length:=by have:=et List.length hk;simpa using this
   rw[U];simp[Builtin.len_,dS O,goInt,getObj,Sem.run,hh,E]
 ·refine eD (key (.int .i64 len) ?_) A (hA.val (.raw _ trivial) h);simp[Builtin.len_,dS O,goInt]
def Il {T:TypeId}{x:Operand}(U:o.op=.call ⟨.builtin .cap,⟨[x]⟩,⟨[T]⟩⟩)
  (h:cU (slI C.P T) λ_=>cU (evV C.gl fr x) λx=>capV x (finK o.dst K ad fr) X.st ds):o.wpIn (ev ro) n C.P a X.w (PK C X0 N K) Q:=by
 obtain⟨⟨e,ag,s,by_⟩,O,h1⟩:=yQ4.1 h;clear h;obtain⟨vx,hx,h⟩:=yQ4.1 h1;clear h1;obtain⟨hT,_⟩:=mP O;have D:∀c,o.op≠.defer c:=by rw[U];intro c hc;cases hc
 have E:=(hA.v hx).1;have key:∀(p:Option Addr) (m c:Nat),a.eval x=.slice p m c->(execOp a.eval o).run C.P X.w=.ok (.value (.int .i64 c)) X.w:=by
  intro p m c hz;rw[kP U];simp[builtin,hz,Builtin.cap_,dS hT,goInt]
 rcases qT h with⟨tg,xs,rfl,h2⟩|⟨b,off,m,cap,rfl,h2⟩
 ·obtain⟨ah,cap,ex,W,ae,A⟩:=jx E;cases hc:tg.cap with
  | nil =>
   rw[hc] at h2 A;obtain⟨rfl,h0,rfl⟩:=A;exact eD (key _ _ _ ex) D (hA.val (.raw _ trivial) h2)
  | full =>
   rw[hc] at h2 A;simp only[kH] at A;subst A;exact eD (key _ _ _ ex) D (hA.val (.raw _ trivial) h2)
  | none=>rw[hc] at h2;exact h2.elim
  | app g=>rw[hc] at h2;exact h2.elim
 ·exact eD (key _ _ _ (dQ E)) D (hA.val (.raw _ trivial) h2)
def Im {ts:Array TypeId}{x y:Operand}(E:o.op=.call ⟨.builtin .max,⟨[x,y]⟩,ts⟩)
  (h:cU (evV C.gl fr x) λx=>cU (evV C.gl fr y) λy=>intV x λk p=>intV y λD q=>if k=D then finK o.dst K ad fr (.val (.raw (.int k (max p q)))) X.st ds else False) :
  o.wpIn (ev ro) n C.P a X.w (PK C X0 N K) Q:=by
 obtain⟨vx,hx,h2⟩:=yQ4.1 h;clear h;obtain⟨vy,hy,W⟩:=yQ4.1 h2;clear h2;obtain⟨k,p,rfl,U⟩:=mO W;clear W;obtain⟨D,q,rfl,O⟩:=mO U;clear U;obtain⟨rfl,h⟩:=jY O;clear O;have A:∀c,o.op≠.defer c:=by rw[E];intro c hc;cases hc
 have ex:=dQ (hA.v hx).1;have ey:=dQ (hA.v hy).1;have hr:(execOp a.eval o).run C.P X.w=.ok (.value (.int k (max p q))) X.w:=by
  rw[kP E];simp[builtin,ex,ey,Builtin.max_,Builtin.max2,Int.max_def];grind
 exact eD hr A (hA.val (.raw _ trivial) h)
def Io {ts:Array TypeId}{x y:Operand}(E:o.op=.call ⟨.builtin .min,⟨[x,y]⟩,ts⟩)
  (h:cU (evV C.gl fr x) λx=>cU (evV C.gl fr y) λy=>intV x λk p=>intV y λD q=>if k=D then finK o.dst K ad fr (.val (.raw (.int k (min p q)))) X.st ds else False) :
  o.wpIn (ev ro) n C.P a X.w (PK C X0 N K) Q:=by
 obtain⟨vx,hx,h2⟩:=yQ4.1 h;clear h;obtain⟨vy,hy,W⟩:=yQ4.1 h2;clear h2;obtain⟨k,p,rfl,U⟩:=mO W;clear W;obtain⟨D,q,rfl,O⟩:=mO U;clear U;obtain⟨rfl,h⟩:=jY O;clear O;have A:∀c,o.op≠.defer c:=by rw[E];intro c hc;cases hc
 have ex:=dQ (hA.v hx).1;have ey:=dQ (hA.v hy).1;have hr:(execOp a.eval o).run C.P X.w=.ok (.value (.int k (min p q))) X.w:=by
  rw[kP E];simp[builtin,ex,ey,Builtin.min_,Builtin.min2,Int.min_def];grind
 exact eD hr A (hA.val (.raw _ trivial) h)
def Ip {T:TypeId}{x:Operand}{lo hi mx:Option Operand}(ho:o.op=.slice T x lo hi mx)
  (h:cU (lenI C.P T) λk=>cU (evV C.gl fr x) λx=>cU (iZ C.gl fr lo) λlo=>cU (iZ C.gl fr hi) λhi=>cU (iZ C.gl fr mx) λmx =>
   la k (slI C.P T) (arrI C.P T) x lo hi mx (finK o.dst K ad fr) X.st ds):o.wpIn (ev ro) n C.P a X.w (PK C X0 N K) Q:=by
 obtain⟨lk,aX,h1⟩:=yQ4.1 h;clear h;obtain⟨vx,hx,h2⟩:=yQ4.1 h1;clear h1;obtain⟨aT,ao,h3⟩:=yQ4.1 h2;clear h2;obtain⟨av,aq,h4⟩:=yQ4.1 h3;clear h3;obtain⟨max,af,h⟩:=yQ4.1 h4;clear h4;have an:∀c,o.op≠.defer c:=by rw[ho];intro c hc;cases hc
 have A:=(hA.v hx).1;rcases qV aX with⟨rfl,hT⟩|⟨rfl,e,hT⟩|⟨rfl,k,e,hT⟩|⟨len,e,rfl,hT⟩
 ·obtain⟨v,rfl,h2⟩:=vc h;clear h;cases v with
  | string s =>
   cases max with
   | some m=>exact h2.elim
   | none =>
    obtain⟨p,hp,h⟩:=yQ4.1 h2;clear h2;have ex:=dQ A;have bf:s.size<=281474976710656:=qD A;have aW:mx=none:=by rcases oK hA.inv af with⟨rfl,_⟩|⟨y,k,m,_,he,_⟩<;>first|rfl|cases he
    subst aW;obtain⟨hb,_⟩:=sG (sl:=false) (cap:=s.size) hA.inv ao aq af hp (dz _) (λm hm=>by cases hm) (λ_=>rfl);have O:(execOp a.eval o).run C.P X.w=.ok (.value (.string (s.extract p.1 p.2))) X.w:=by
     unfold execOp;rw[ho];simp only[jv] at hb;simp only[Instr.sliceAt,Instr.slice,ex,cX,dS hT,cW,jv,ju,bFt,dJ,hb,c_]
    refine eD O an (hA.val (.raw _ ?_) h);simp only[kI,ByteArray.size_extract];omega
  | _=>exact h2.elim
 ·obtain⟨⟨e',ag,sz,by_⟩,hs,h1⟩:=yQ4.1 h;clear h;rcases qT h1 with⟨aS,xs,rfl,ay,h2⟩|⟨b,off,m,cap,rfl,h2⟩
  case inr =>
   clear h1;have ex:=dQ A;obtain⟨U,ac,_⟩:=mP hs;rw[hT] at U;cases U;cases max with
   | some q=>exact h2.elim
   | none =>
    obtain⟨bg,h3⟩:=h2;obtain⟨⟨p1,p2⟩,hp,h⟩:=yQ4.1 h3;obtain⟨hb,_⟩:=sG (sl:=true) (ln:=m) (cap:=cap) hA.inv ao aq af hp (by split<;>omega) (λq hq=>by cases hq) (λ_=>rfl);simp only at hb h;have aj:=(lb ac X.w).2;have O:(execOp a.eval o).run C.P X.w=.ok (.value (.slice (some ⟨b,if cap=p1 then off else off+p1*sz,none⟩) (p2-p1) (cap-p1))) X.w:=by
     unfold execOp;rw[ho];simp only[Instr.sliceAt,Instr.slice,ex,cX,dS hT,cW,hb,aj,c_,gm,jl];split
     ·rfl
     ·simp[Addr.add]
    exact eD O an (hA.val (.raw _ trivial) h)
  clear h1;simp only at ay h2;replace A:=V.reTag (es:=sz) A;generalize reTag sz aS=tg at ay h2 A;obtain⟨U,ac,_⟩:=mP hs;rw[hT] at U;cases U;obtain⟨D,cap,ex,aJ,aL,aK⟩:=jx A;have aV:av=none->max=none:=by
   rintro rfl;cases max with
   | none=>rfl
   | some m=>exact h2.elim
  have h3:cU (gK aT av xs.length) λp=>chk (∀m,max=some m->m=p.2) (finK o.dst K ad fr (.val (.sl (k_ tg xs.length p.2 p.1 max) ((xs.drop p.1).take (p.2-p.1)))) X.st ds):=by
   grind
  clear h2;obtain⟨p,hp,ah,h⟩:=yQ4.1 h3;clear h3;obtain⟨p1,p2⟩:=p;simp only at ah h;obtain⟨aM,W⟩:=Ij hp;obtain⟨hb,_⟩:=sG (sl:=true) (cap:=cap) hA.inv ao aq af hp aL (λm hm=>by have:=ah m hm;simp only at W;omega) aV;simp only at aM W hb;have aj:=(lb ac X.w).2;have O:(execOp a.eval o).run C.P X.w=.ok (.value (.slice (if (max.getD cap).toNat=p1 then D else D.map (·.add (p1*sz))) (p2-p1) ((max.getD cap).toNat-p1))) X.w:=by
   unfold execOp;rw[ho];simp only[Instr.sliceAt,Instr.slice,ex,cX,dS hT,cW,hb,aj,c_]
  have aY:p2<=(max.getD cap).toNat:=by
   cases max with
   | none=>simp only[gm,jl];omega
   | some m=>have:=ah m rfl;simp only[fI];omega
  refine eD O an (hA.val ?_ h);rw[ex] at A;rw[<- ay];by_cases E:tg.cap=.nil
  ·rw[E] at aK;obtain⟨rfl,h0,rfl⟩:=aK;obtain rfl:=eN h0;simp only[fN] at W;have e2:p2=0:=by omega
   have e1:p1=0:=by omega
   subst e1 e2;have e3:(max.getD ((0:Nat):Int)).toNat=0:=by
    cases max with
    | none=>rfl
    | some m=>rw[ah m rfl];rfl
   rw[e3];simp only[k_,b_ E,List.drop_nil,List.take_nil,Nat.sub_zero,dB];exact A
  refine V.slice A aM W aY ?_ ?_ ?_ ?_
  ·simp only[k_,a_ E];split
   ·split<;>rfl
   ·split<;>rfl
  ·simp only[k_,a_ E];split
   ·grind
   ·grind
  ·simp only[k_,a_ E];split
   ·rename_i m;have:=ah m rfl;rw[b_ this];simp only[kH,fI];omega
   ·split
    ·rename_i hc;obtain⟨rfl,rfl⟩:=hc;simp only[gm,jl,fY,Nat.sub_zero];have:(if cap=0 then D else D.map (·.add 0))=D:=by
      split
      ·rfl
      ·cases D<;>simp[Addr.add]
     grind
    ·trivial
  ·intro g hg;simp only[k_,a_ E] at hg;split at hg
   ·grind
   ·grind
 ·exact h.elim
 ·simp only[la] at h;unfold arrV at h;split at h
  ·rename_i cs;obtain⟨⟨n',ag,sz⟩,a1,⟨aL,aJ,aG⟩,h⟩:=yQ4.1 h;obtain⟨⟨p1,p2⟩,hp,h⟩:=yQ4.1 h;obtain⟨e',U,ac⟩:=vh a1;rw[hT] at U;cases U;obtain⟨hb,_,W⟩:=sG (sl:=false) (ln:=len) (cap:=len) hA.inv ao aq af hp (dz _) (λm hm=>by cases hm) (λ_=>rfl);have aU:p1=0:=by
    unfold gK at hp;split at hp
    ·cases hp;rfl
    ·cases hp
   subst aU;have aj:=(lb ac X.w).2;generalize aZ:a.eval x=bc at A;cases A with
   | cptr D _ vs am aF hL hc hv =>
    have ar:(IV.agg cs).cells=cs:=rfl;rw[ar] at aF hv;have O:(execOp a.eval o).run C.P X.w=.ok (.value (.slice (some D) p2 len)) X.w:=by
     unfold execOp;rw[ho];simp only[gm,jl] at hb;simp only[Instr.sliceAt,aZ,Instr.sureAddr,cX,dS hT,c_,cW,hb,aj,Nat.sub_zero];split
     ·rfl
     ·rw[fY,mN D am,jr];congr 4;obtain⟨b,of,sp⟩:=D;simp only at am;rw[am]
    have ae:∀c∈cs.take p2,c.cells=[c]:=λc az=>lI (ed.1 aG c (List.mem_of_mem_take az));have ax:∀l:List IV,(∀c∈l,c.cells=[c])->l.flatMap IV.cells=l:=λl=>by
     induction l with
     | nil=>intro _;rfl
     | cons c l ih=>intro hl;rw[ff,hl c (by simp),ih λd hd=>hl d (by simp[hd])];rfl
    have aw:(cs.take p2).length=p2:=by rw[dO];simp only at W;omega
    refine eD O an (hA.val ?_ h);have key:=V.sl (B:=C.B) (L:=X.L) (w:=X.w) (some D) len ⟨false,.none,1⟩ (cs.take p2) e (vs.take p2) trivial (by rw[aw];simp only at W;omega) (by rw[aw];exact W) (λc az=>by rw[ae c az];rfl)
     (by rw[dO,aF,Nat.mul_one,dO]) (λg hg=>by cases hg) (λhf=>by cases hf)
     (λ_=>⟨D,rfl,am,by rw[dO];omega,λi r O=>hc i r (by rw[fl] at O;split at O<;>first|exact O|cases O)⟩)
     (λi r c O au=>by
      rw[ax _ ae] at au;rw[fl] at O au;split at O
      ·rename_i hi;rw[b_ hi] at au;exact hv i r c O au
      ·cases O)
    rw[aw] at key;exact key
  ·exact h.elim
end
def Iq (off:Nat)(l:List Value)(cs:Array Value)(h:off+l.length<=cs.size) :
  ((l.zipIdx.foldl (λcs (x:Value×Nat)=>cs.setIfInBounds (off+x.2) x.1) cs)).toList=cs.toList.take off++l++cs.toList.drop (off+l.length):=by
 obtain⟨h1,h2⟩:=Great.foldl_set off l 0 cs;apply List.ext_getElem?;grind
def Aw {P:Program}(w:World):∀(A:List Field),(∀f∈A,∃i,P.info? f.type=some i) →
  (A.mapM (λf=>do pure (f.offset,<- sizeOf f.type):Field->Sem (Nat×Nat))).run P w=.ok (A.map λf=>(f.offset,P.cellsOf f.type)) w
 | [],_=>by simp
 | f::A,h=>by
  obtain⟨i,D⟩:=h f (by simp);rw[List.mapM_cons];simp only[cX,run_sizeOf w D,cW,c_,Aw w A (λg E=>h g (by simp[E])),eo]
def Ax {C:Cx}{X0 X:WS}{N:Nat}{fr:Fr}{ds:List Dfd}{a:Act}{T:TypeId}{fs:Array Field}(hI:Inv C X0 N X fr ds a)(hT:C.P.underlying T=some (.struct fs)) :
  ∀(parts:List (Nat×Operand)) (z:Array Value) (cs r:List IV),C.vl X z.toList cs->kM C.P C.gl fr T cs parts=some r →
   ∃A,Instr.fill ((fs.map λf=>(f.offset,C.P.cellsOf f.type))[·]?) z (parts.map λp=>(p.1,a.eval p.2))=some A/\C.vl X A.toList r
 | [],z,cs,r,hv,h=>by
  simp only[kM,dL] at h;subst h;exact⟨z,rfl,hv⟩
 | (i,x)::l,z,cs,r,hv,h=>by
  rw[uW] at h;cases hf:fldI C.P T i with
  | none=>rw[hf] at h;cases h
  | some f =>
   cases hy:evV C.gl fr x with
   | none=>rw[hf,hy] at h;cases h
   | some y =>
    rw[hf,hy] at h;simp only[pB] at h;split at h
    ·rename_i hc;obtain⟨U,ac,O⟩:=hc;obtain⟨fo,ag,n⟩:=f;obtain⟨aA,f',ah,ay,av,ao,_⟩:=vg hf;rw[hT] at ah;cases ah;simp only at U ac O h;obtain⟨_,_,af,ae⟩:=mQ O;have am:=(pI hI.good hI.fr hy).1;have aa:=V.cells am (oJ af) ae;have az:C.P.cellsOf f'.type=n:=by have:=u0 ao;simp[Program.cellsOf,this]
     have D:((fs.map λf=>(f.offset,C.P.cellsOf f.type))[i]?)=some (fo,n):=by
      grind
     have E:(a.eval x).cells.size=n:=by have:=aa.1;rw[U] at this;simpa using this
     have hzs:z.size=cs.length:=by have:=hv.1;simpa using this
     have W:=Iq fo (a.eval x).cells.toList z (by rw[kd,E,hzs,<- U];exact ac);obtain⟨A,ho,aq⟩:=Ax hI hT l (((a.eval x).cells.toList.zipIdx.foldl (λcs (x:Value×Nat)=>cs.setIfInBounds (fo+x.2) x.1) z)) (eV cs fo y.cells) r
      (by rw[W];exact pJ hv aa) h
     refine⟨A,?_,aq⟩;rw[eo];unfold Instr.fill;simp only[D];have ab:¬ ((decide ((a.eval x).cells.size≠n) || decide (fo+(a.eval x).cells.size > z.size))=true):=by rw[E,hzs];simp;omega
     rw[a_ ab,<- ho];congr 1;rw[<- Array.foldl_toList,Array.toList_zipIdx]
    ·cases h
def VL.flat {B:Nat}{L:Nat->Nat}{w:World}{ag:Bool}{s:Nat}:∀ {rs:List Value} {ys:List IV},VL B L w rs ys->ys.all (fits ag s)=true →
  VL B L w (rs.flatMap λv=>v.cells.toList) (ys.flatMap IV.cells)/\(∀v∈rs,v.cells.size=s)
 | [],[],_,_=>⟨VL.nil,by simp⟩
 | [],_::_,h,_=>by simp[VL] at h
 | _::_,[],h,_=>by simp[VL] at h
 | r::rs,y::ys,h,O=>by
  simp only[List.all_cons,bAt] at O;have h0:=h.2 0 r y rfl rfl;obtain⟨_,A,E,D⟩:=mQ O.1;have U:=V.cells h0 (oJ E) D;have W:VL B L w rs ys:=⟨by have:=h.1;simpa using this,λi a b ha hb=>h.2 (i+1) a b (by simpa using ha) (by simpa using hb)⟩
  obtain⟨h1,h2⟩:=VL.flat W O.2;refine⟨by rw[ff,ff];exact U.append h1,λv hm=>?_⟩;rcases dC.1 hm with rfl|hm
  ·have:=U.1;rw[A] at this;simpa using this
  ·exact h2 v hm
def vm {ag:Bool}{s:Nat}{ys:List IV}(h:ys.all (fits ag s)=true):∀x∈ys,x.cells.length=s:=λx hx=>(mQ (ed.1 h x hx)).2.1
def vn {C:Cx}{X:WS}(E:Good C X){vs rest:List Value}{ys:List IV}{s cap:Nat}{e:TypeId}{cp:Cap}{so:Option IObj}(hv:C.vl X vs (ys.flatMap IV.cells))(hs:∀x∈ys,x.cells.length=s)
  (D:ys.length<=140737488355328) (aa:ys.length<=cap) (A:kH cp (some ⟨X.w.heap.size,0,none⟩) ys.length cap) (O:∀g,cp=.app g->cap*s<=(vs++rest).length) :
  C.v (X.new (.cells ⟨vs++rest⟩ e) vs.length so) (.slice (some ⟨X.w.heap.size,0,none⟩) ys.length cap) (.sl ⟨true,cp,s⟩ ys):=by
 have U:vs.length=ys.length*s:=by rw[hv.1,jZ ys hs]
 refine .sl _ _ _ _ e vs A D aa hs U (λg E=>?_) (λ_ ad ha=>?_) (λ_=>?_) (λi r c W hc=>((E.new_ext _ _ _).vl hv).2 i r c W hc)
 ·simp only at E;subst E;simp only[kH,dL,Addr.mk.injEq,and_self,and_true] at A;refine⟨e,(vs++rest).length,?_,O g rfl⟩;rw[<- A];simp only[shq,WS.new,ja];rfl
 ·cases ha;refine⟨E.B,Nat.zero_mod _,?_⟩;simp only[ety,shq,WS.new,ja,fg]
 ·refine⟨_,rfl,rfl,?_,λi r W=>?_⟩
  ·simp[WS.new]
  ·have hi:=(lGs W).1;rw[eQ];simp only[WS.new];rw[jX (ja X.w _)];grind
section
variable {C:Cx}{X0 X:WS}{N:Nat}{fr:Fr}{ds:List Dfd}{a:Act}{ad:Ad}{K:Kt}{ro:Option Nat}{n:Nat}{Q:Exit->Act->World->Prop}{o:Oper}
variable (hA:At C X0 N X fr ds a ad o.dst)
include hA
def Ir {T:TypeId}{parts:Array (Nat×Operand)}(ho:o.op=.build T parts)
  (h:chk (gq C.P T=true) (cU (eY C.P T) λz=>cU (kM C.P C.gl fr T z.cells parts.toList) λcs=>finK o.dst K ad fr (.val (.agg cs)) X.st ds)):o.wpIn (ev ro) n C.P a X.w (PK C X0 N K) Q:=by
 obtain⟨A,h1⟩:=h;obtain⟨z,hz,h2⟩:=yQ4.1 h1;clear h1;obtain⟨cs,af,h⟩:=yQ4.1 h2;clear h2;have ac:∀c,o.op≠.defer c:=by rw[ho];intro c hc;cases hc
 unfold gq at A;split at A
 ·rename_i fs hT;obtain⟨v,D,hv,O,U⟩:=sB hz X.w;have aa:=V.cells (hv C.B X.L X.w) (oJ U) O;obtain⟨W,E,ab⟩:=Ax hA.inv hT parts.toList v.cells z.cells cs aa af;have hm:=Aw (P:=C.P) X.w fs.toList (λf hf=>by
   have:=ed.1 A f hf;cases hq:C.P.info? f.type with
   | none=>simp[hq] at this
   | some i=>exact⟨i,rfl⟩)
  have ae:(fs.mapM (λf=>do pure (f.offset,<- sizeOf f.type):Field->Sem (Nat×Nat))).run C.P X.w=.ok (fs.map λf=>(f.offset,C.P.cellsOf f.type)) X.w:=by
   rw[Array.mapM_eq_mapM_toList];simp only[Sem.run_map,hm,cW];congr 1;grind
  have hr:(execOp a.eval o).run C.P X.w=.ok (.value (.agg W)) X.w:=by
   unfold execOp;rw[ho];have hp:(parts.map λp=>(p.1,a.eval p.2)).toList=parts.toList.map λp=>(p.1,a.eval p.2):=by simp
   simp only[Instr.build,cX,D,cW,dS hT];rw[ae];simp only[cW,hp,E,c_]
  exact eD hr ac (hA.val ab.agg h)
 ·cases A
def Is {esc:List Nat}{T:TypeId}{len:Nat}{parts:Array (Nat×Operand)}(ho:o.op=.buildSlice T len parts)
  (h:cU (slI C.P T) λe=>chk (jH len parts.toList=true/\len*e.2.2.1<=16777216/\1<=e.2.2.1) <|
   cU (evL C.gl fr (parts.toList.map (·.2))) λys=>chk (ys.all (fits e.2.1 e.2.2.1)=true) (mL esc o.dst e.2.2.1 ys (finK o.dst K ad fr) X.st ds)) :
  o.wpIn (ev ro) n C.P a X.w (PK C X0 N K) Q:=by
 obtain⟨⟨e,ag,s,by_⟩,hs,⟨ab,ao,ae⟩,h1⟩:=yQ4.1 h;clear h;obtain⟨ys,hys,aa,h⟩:=yQ4.1 h1;clear h1;simp only at ao ae aa h;have ak:∀c,o.op≠.defer c:=by rw[ho];intro c hc;cases hc
 obtain⟨hT,av,i,hi,hz,_⟩:=mP hs;have ai:=qR hA.inv.good hA.inv.fr hys;obtain⟨D,aw⟩:=VL.flat ai aa;have O:=vm aa;unfold jH at ab;have af:parts.toList.map (·.1)=List.range len:=by simpa using ab
 have U:parts.toList.length=len:=by have:=et List.length af;simpa using this
 have A:ys.length=len:=by have:=ai.1;rw[gj,gj,U] at this;exact this.symm
 have E:(parts.map λp=>(p.1,a.eval p.2)).toList=(((parts.toList.map (·.2)).map a.eval).zipIdx 0).map λx=>(x.2,x.1):=by
  rw[Array.toList_map];apply List.ext_getElem
  ·simp
  ·intro k az aJ;have hk:k<parts.toList.length:=by simpa using az
   have aF:(parts.toList[k]).1=k:=by
    have h0:(parts.toList.map (·.1))[k]?=some (parts.toList[k]).1:=by rw[en,ee hk];rfl
    grind
   grind
 obtain⟨z,au⟩:=Option.isSome_iff_exists.1 hz;have ac:(zeroValue e).run C.P X.w=.ok z X.w:=by simp only[zeroValue,cX,run_typeInfo X.w hi,cW,au,c_]
 have W:∀zc:Array Value,zc.size=len*s->Instr.fill (λi=>some (i*s,s)) zc ((((parts.toList.map (·.2)).map a.eval).zipIdx 0).map λx=>(x.2,x.1)) =
   some (((parts.toList.map (·.2)).map a.eval).flatMap λv=>v.cells.toList).toArray:=λzc ar =>
  Great.fill_whole ae ((parts.toList.map (·.2)).map a.eval) zc aw (by simp only[gj];rw[U,ar])
 have aA:(((parts.toList.map (·.2)).map a.eval).flatMap λv=>v.cells.toList).length=len*s:=by rw[D.1,jZ ys O,A]
 have hr:(execOp a.eval o).run C.P X.w=.ok (.value (.slice (some ⟨X.w.heap.size,0,none⟩) len len)) (X.w.alloc (.cells (((parts.toList.map (·.2)).map a.eval).flatMap λv=>v.cells.toList).toArray e)):=by
  unfold execOp;rw[ho];have h2:=(lb av X.w).2;have am:¬ len*s > 2 ^ 24:=by omega
  by_cases h0:len*s=0
  ·simp only[Instr.buildSlice,cX,dS hT,cW,h2,a_ am,b_ h0,c_,E];rw[W _ (by simp)];simp[newRow]
  ·simp only[Instr.buildSlice,cX,dS hT,cW,h2,a_ am,a_ h0,ac,c_,E];rw[W _ (by simp)];simp[newRow]
 unfold mL at h;split at h
 case isTrue =>
  have ah:X.st X.w.heap.size=none:=by
   cases hs:X.st X.w.heap.size with
   | none=>rfl
   | some o=>have:=hA.inv.good.lt hs;omega
  have h:=h X.w.heap.size ah;have hI:=hA.inv.new (.cells ⟨((parts.toList.map (·.2)).map a.eval).flatMap λv=>v.cells.toList⟩ e) 0 (some (.box (ys.flatMap IV.cells))) (λi hi=>by
   cases hi;exact⟨by simp[WS.new],_,e,ja _ _,(hA.inv.good.new_ext _ 0 _).vl D⟩)
  rw[A] at h;exact eD hr ak (gD (x:=.raw (.slice (some ⟨X.w.heap.size,0,none⟩) len len)) hI hA.ad hA.hd (.raw _ trivial) h)
 have aj:=vn (cp:=.full) (so:=none) (rest:=[]) (e:=e) hA.inv.good D O (by rw[A];have:len<=len*s:=Nat.le_mul_of_pos_right _ ae;omega) (dz _) rfl (λg hg=>by cases hg);rw[A,fH,aA] at aj;have hI:=hA.inv.new (.cells ⟨((parts.toList.map (·.2)).map a.eval).flatMap λv=>v.cells.toList⟩ e) (len*s) none (λi hi=>by cases hi);have ax:(X.new (.cells ⟨((parts.toList.map (·.2)).map a.eval).flatMap λv=>v.cells.toList⟩ e) (len*s) none).st=X.st:=by
  funext b;simp only[WS.new];split
  ·rename_i hb;cases hq:X.st b with
   | none=>rfl
   | some o=>have:=hA.inv.good.lt hq;omega
  ·rfl
 exact eD hr ak (gD hI hA.ad hA.hd aj (by rw[ax];exact h))
def It {T:TypeId}(O:o.op=.makeMap T none)(h0:cU (mapI C.P T) λD=>∀b,giv (X.st b=none) (finK o.dst K ad fr (.val (.raw (.map (some b)))) (X.st.put b (some (.map D.1 []))) ds)) :
  o.wpIn (ev ro) n C.P a X.w (PK C X0 N K) Q:=by
 have E:∀c,o.op≠.defer c:=by rw[O];intro c hc;cases hc
 obtain⟨D,_,h⟩:=yQ4.1 h0;have A:X.st X.w.heap.size=none:=by
  cases U:X.st X.w.heap.size with
  | none=>rfl
  | some o=>have:=hA.inv.good.lt U;omega
 have W:(execOp a.eval o).run C.P X.w=.ok (.value (.map (some X.w.heap.size))) (X.w.alloc (.map #[] 0)):=by
  unfold execOp;rw[O];simp[Instr.makeMap]
 have hI:=hA.inv.new (.map #[] 0) 0 (some (.map D.1 [])) (λi hi=>by
  cases hi;refine⟨by simp[WS.new],by simp,by simp,#[],0,ja _ _,rfl,VL.nil,by simp,by simp⟩)
 exact eD W E (gD (x:=.raw (.map (some X.w.heap.size))) hI hA.ad hA.hd (.raw _ trivial) (h X.w.heap.size A))
end
def WS.obj (X:WS)(g:Nat)(o:Obj)(so:Option IObj):WS :=
 { w:={ X.w with heap:=X.w.heap.setIfInBounds g o },L:=X.L,st:=λb=>if b=g then so else X.st b,d:=X.d }
section
variable {C:Cx}{X:WS}{g:Nat}{o o':Obj}{so:Option IObj}
def nI (A:X.w.heap[g]?=some o):(X.obj g o' so).w.heap[g]?=some o':=(MapKept.heap_set A).1
def kh (A:X.w.heap[g]?=some o){b:Nat}(D:b≠g):(X.obj g o' so).w.heap[b]?=X.w.heap[b]?:=(MapKept.heap_set A).2 b D
def qW (A:X.w.heap[g]?=some o)(O:∀c T f,o≠.cells c T f)(E:∀c T f,o'≠.cells c T f)(b i:Nat):(X.obj g o' so).w.cell? ⟨b,i,none⟩=X.w.cell? ⟨b,i,none⟩:=by
 by_cases D:b=g
 ·subst D;simp only[World.cell?,nI A,A];grind
 ·exact qF (kh A D) i
def qX (A:X.w.heap[g]?=some o)(E:∀c T f,o≠.cells c T f)(b:Nat)(p:(TypeId×Nat)×Bool)(hp:shq X.w b=some p):shq (X.obj g o' so).w b=some p:=by
 by_cases D:b=g
 ·subst D;simp only[shq,A] at hp;grind
 ·exact (qG (kh A D)).trans hp
def mS (E:X.w.heap[g]?=some o)(D:∀c T f,o≠.cells c T f)(A:∀c T f,o'≠.cells c T f){r:Value}{x:IV}(O:C.v X r x):C.v (X.obj g o' so) r x :=
 V.mono O (λ_=>dz _) (λb i _=>qW E D A b i) (qX E D)
def Good.obj (h:Good C X)(O:X.w.heap[g]?=some o)(W:∀c T f,o≠.cells c T f)(E:∀c T f,o'≠.cells c T f)(U:∀i,so=some i->ObjOk C (X.obj g o' so) g i):Good C (X.obj g o' so) where
 ok b i D:=by
  by_cases A:b=g
  ·subst A;simp only[WS.obj,dB] at D;exact U i D
  ·have ab:X.st b=some i:=by simpa only[WS.obj,a_ A] using D
   exact (h.ok b i ab).mono (kh O A) rfl (λ_ _ hv=>⟨hv.1,λi r x hr hx=>mS O W E (hv.2 i r x hr hx)⟩)
 gl g' x hg:=mS O W E (h.gl g' x hg)
 gsh g' x hg:=by obtain⟨T',z,hT⟩:=h.gsh g' x hg;exact⟨T',z,qX O W g' _ hT⟩
 B:=by simp only[WS.obj,lz];exact h.B
 Lnew b D:=by simp only[WS.obj,lz] at D ⊢;exact h.Lnew b D
 dr:=h.dr
def Ext.obj {X0:WS}(A:Ext X0 X)(U:X.w.heap[g]?=some o)(hn:∀c T f,o≠.cells c T f)(O:∀c T f,o'≠.cells c T f)(aa:X0.w.heap.size<=g\/X0.st g≠none):Ext X0 (X.obj g o' so) where
 os:=A.os
 tape:=A.tape
 output:=A.output
 size:=by simp only[WS.obj,lz];exact A.size
 lmono b:=A.lmono b
 cells b i hi:=by
  rw[<- A.cells b i hi];exact qW U hn O b i
 keep b W E:=by
  have D:b≠g:=by
   grind
  rw[kh U D];exact A.keep b W E
 dom b W E:=by
  have D:b≠g:=by
   grind
  simp only[WS.obj];rw[a_ D];exact A.dom b W E
 shape b p hp:=qX U hn b p (A.shape b p hp)
 d:=A.d
def Inv.obj {X0:WS}{N:Nat}{fr:Fr}{ds:List Dfd}{a:Act}(h:Inv C X0 N X fr ds a)(O:X.w.heap[g]?=some o)(W:∀c T f,o≠.cells c T f)(D:∀c T f,o'≠.cells c T f)(E:X.st g≠none)
  (aa:∀i,so=some i->ObjOk C (X.obj g o' so) g i):Inv C X0 N (X.obj g o' so) fr ds a:=by
 have U:X0.w.heap.size<=g\/X0.st g≠none:=by
  rcases jT g X0.w.heap.size with ab|ac
  ·exact .inr λh0=>E (h.ext.dom g ab h0)
  ·exact .inl ac
 refine⟨h.good.obj O W D aa,h.ext.obj O W D U,⟨λt=>(h.fr.slot t).mono (λ_ _=>mS O W D) ?_,h.fr.inj⟩,h.size,h.ds.mono (λ_ _=>mS O W D) ?_⟩
 ·intro b cs _ _ hb _ _;have A:b≠g:=by rintro rfl;exact E hb
  exact⟨kh O A,rfl,by simp only[WS.obj];rw[a_ A];exact hb⟩
 ·intro r h1 h2 _;have A:r≠g:=by rintro rfl;exact E h2
  exact⟨(kh O A).trans h1,by simp only[WS.obj];rw[a_ A];exact h2⟩
end
def Ay (m:Option Nat)(s:Nat)(e:Array Nat)(k:Nat):∀c T f,Obj.mapIter m s e k≠.cells c T f:=by intro c T f hc;cases hc
def Az {v:Value}{k:IV}(h:keyI v=some k)(B:Nat)(L:Nat->Nat)(w:World):V B L w v k:=by
 unfold keyI at h;split at h
 ·split at h
  ·rename_i E;cases h;exact .raw (.string _) E
  ·cases h
 ·cases h;exact .raw _ trivial
 ·rename_i cs;obtain⟨l⟩:=cs;split at h
  ·rename_i s D n A;simp only at A;subst A;split at h
   ·rename_i E;cases h;exact (VL.cons (.raw (.string s) E) (VL.cons (.raw (.int D n) trivial) VL.nil)).agg
   ·cases h
  ·rename_i s D n A;simp only at A;subst A;cases h;exact (VL.cons (.raw (.bool s) trivial) (VL.cons (.raw (.int D n) trivial) VL.nil)).agg
  ·rename_i D n s A;simp only at A;subst A;cases h;exact (VL.cons (.raw (.int D n) trivial) (VL.cons (.raw (.bool s) trivial) VL.nil)).agg
  ·cases h
 ·cases h
structure KeyRun (P:Program)(kt:TypeId)(kk:KeyK):Prop where
 check:∀(w:World) (em:Bool) {v:Value},fJ kk v=true->(Instr.checkKey em 10000 kt v).run P w=.ok () w
 find:∀(w:World) {x:Value},fJ kk x=true->∀es:List MapEntry,(∀e∈es,fJ kk e.key=true) →
  ((Instr.findKey kt x es).run P w=.ok none w/\∀e∈es,e.key≠x)\/∃j e,(Instr.findKey kt x es).run P w=.ok (some (j,e.val)) w/\es[j]?=some e/\e.key=x
 stays:∀(w:World) {v:Value},fJ kk v=true->(Instr.keyThatStays v v).run P w=.ok v w
def KeyRun.plain {P:Program}{O:TypeId}{U:KeyK}{d:TypeDesc}(hd:P.underlying O=some d)(A:∀v,fJ U v=true->MapKept.IsKey d v):KeyRun P O U where
 check w em v D:=MapKept.run_checkKey hd (A v D) em 9999
 find w x hx es E:=by
  rcases MapKept.findNow_spec (A x hx) es 0 (λy W=>A _ (E y W)) with⟨h1,h2⟩|⟨j,e,h1,h2,h3⟩
  ·exact .inl ⟨MapKept.run_findKey hd h1,h2⟩
  ·exact .inr ⟨j,e,by rw[MapKept.run_findKey hd h1,eQ],h2,h3⟩
 stays w v D:=MapKept.run_keyThatStays (A v D)
def vo {v:Value}(h:fJ .sym v=true):∃s n,v=.agg #[.string s,.int .i64 n]/\s.size<=281474976710656 /\ -9223372036854775808<=n/\n<=9223372036854775807:=by
 cases v with
 | agg cs =>
  obtain⟨l⟩:=cs;change symK l=true at h;unfold symK at h;grind
 | _=>simp[fJ] at h
def Iu {P:Program}{k:TypeId}{A:List Field}(h:symT P k A=true):∃f g,A=[f,g]/\P.keyType k=true/\P.keyTypeAt 2 k=true/\P.tiled 2 k=true/\(f.name != "_")=true/\(g.name != "_")=true/\f.offset=0/\g.offset=1/\P.cellsOf k=2/\P.cellsOf f.type=1/\P.cellsOf g.type=1/\0<P.types.size /\
  P.underlying f.type=some .string/\P.underlying g.type=some (.int .i64):=by
 unfold symT at h;grind
def KeyRun.ofSym {P:Program}{k:TypeId}{fs:Array Field}(hu:P.underlying k=some (.struct fs))(h:symT P k fs.toList=true):KeyRun P k .sym:=by
 obtain⟨f,g,ao,h1,h2,h3,h4,h5,h6,h7,h8,h9,ah,aA,ag,af⟩:=Iu h;have A:WideMaps.KeyLaw P k:=deep_law (m:=2) (by omega) h2 h3 (by rw[hu]);have key:∀v,fJ .sym v=true->∃l,keyOf P k v=some l:=λv O=>by
  obtain⟨s,n,rfl,q1,q2,q3⟩:=vo O;obtain⟨D,hD⟩:∃D,P.types.size=D+1:=⟨P.types.size-1,by omega⟩
  have W:fs=#[f,g]:=by cases fs;simp_all
  subst W;have ab:(Lit.int .i64 n).wf=true:=by
   simp only[Lit.wf,bAt,dTe];exact⟨q2,q3⟩
  have E:P.keyLits (P.types.size+1) k [.string s,.int .i64 n]=some [.string s.data.toList,.int .i64 n]:=by
   rw[hD];have hs:s.size<=maxLen:=eh q1 (by decide);simp[Program.keyLits,hu,h8,h4,h5,h6,h7,h9,ah,ag,af,hs,ab]
  refine⟨.string (keyBytes [.string s.data.toList,.int .i64 n]),?_⟩;unfold keyOf;simp only[hu,h1,Value.formed,h8];simp[Value.cells,E]
 refine⟨λw em v O=>?_,λw x hx es ae=>?_,λw v O=>?_⟩
 ·obtain⟨l,U⟩:=key v O;exact A.check w em U
 ·obtain⟨l,U⟩:=key x hx;exact A.find w U es λe he=>key _ (ae e he)
 ·obtain⟨l,U⟩:=key v O;exact A.stays w U
def vp {v:Value}(h:fJ .sg v=true):∃b n,v=.agg #[.bool b,.int .u8 n]/\0<=n/\n<=255:=by
 cases v with
 | agg cs =>
  obtain⟨l⟩:=cs;change sgK l=true at h;unfold sgK at h;grind
 | _=>simp[fJ] at h
def Iw {P:Program}{k:TypeId}{A:List Field}(h:sgT P k A=true):∃f g,A=[f,g]/\P.keyType k=true/\P.keyTypeAt 2 k=true/\P.tiled 2 k=true/\(f.name != "_")=true/\(g.name != "_")=true/\f.offset=0/\g.offset=1/\P.cellsOf k=2/\P.cellsOf f.type=1/\P.cellsOf g.type=1/\0<P.types.size /\
  P.underlying f.type=some .bool/\P.underlying g.type=some (.int .u8):=by
 unfold sgT at h;grind
def KeyRun.ofSg {P:Program}{k:TypeId}{fs:Array Field}(hu:P.underlying k=some (.struct fs))(h:sgT P k fs.toList=true):KeyRun P k .sg:=by
 obtain⟨f,g,am,h1,h2,h3,h4,h5,h6,h7,h8,h9,ah,ay,ag,af⟩:=Iw h;have A:WideMaps.KeyLaw P k:=deep_law (m:=2) (by omega) h2 h3 (by rw[hu]);have key:∀v,fJ .sg v=true->∃l,keyOf P k v=some l:=λv O=>by
  obtain⟨b,n,rfl,q2,q3⟩:=vp O;obtain⟨D,hD⟩:∃D,P.types.size=D+1:=⟨P.types.size-1,by omega⟩
  have W:fs=#[f,g]:=by cases fs;simp_all
  subst W;have ab:(Lit.int .u8 n).wf=true:=by
   simp only[Lit.wf,bAt,dTe];exact⟨q2,q3⟩
  have E:P.keyLits (P.types.size+1) k [.bool b,.int .u8 n]=some [.bool b,.int .u8 n]:=by
   rw[hD];simp[Program.keyLits,hu,h8,h4,h5,h6,h7,h9,ah,ag,af,ab]
  refine⟨.string (keyBytes [.bool b,.int .u8 n]),?_⟩;unfold keyOf;simp only[hu,h1,Value.formed,h8];simp[Value.cells,E]
 refine⟨λw em v O=>?_,λw x hx es ae=>?_,λw v O=>?_⟩
 ·obtain⟨l,U⟩:=key v O;exact A.check w em U
 ·obtain⟨l,U⟩:=key x hx;exact A.find w U es λe he=>key _ (ae e he)
 ·obtain⟨l,U⟩:=key v O;exact A.stays w U
def vq {v:Value}(h:fJ .pl v=true):∃n b,v=.agg #[.int .i64 n,.bool b] /\ -9223372036854775808<=n/\n<=9223372036854775807:=by
 cases v with
 | agg cs =>
  obtain⟨l⟩:=cs;change plK l=true at h;unfold plK at h;grind
 | _=>simp[fJ] at h
def Ix {P:Program}{k:TypeId}{A:List Field}(h:plT P k A=true):∃f g,A=[f,g]/\P.keyType k=true/\P.keyTypeAt 2 k=true/\P.tiled 2 k=true/\(f.name != "_")=true/\(g.name != "_")=true/\f.offset=0/\g.offset=1/\P.cellsOf k=2/\P.cellsOf f.type=1/\P.cellsOf g.type=1/\0<P.types.size /\
  P.underlying f.type=some (.int .i64)/\P.underlying g.type=some .bool:=by
 unfold plT at h;grind
def KeyRun.ofPl {P:Program}{k:TypeId}{fs:Array Field}(hu:P.underlying k=some (.struct fs))(h:plT P k fs.toList=true):KeyRun P k .pl:=by
 obtain⟨f,g,am,h1,h2,h3,h4,h5,h6,h7,h8,h9,ah,ay,ag,af⟩:=Ix h;have A:WideMaps.KeyLaw P k:=deep_law (m:=2) (by omega) h2 h3 (by rw[hu]);have key:∀v,fJ .pl v=true->∃l,keyOf P k v=some l:=λv O=>by
  obtain⟨n,b,rfl,q2,q3⟩:=vq O;obtain⟨D,hD⟩:∃D,P.types.size=D+1:=⟨P.types.size-1,by omega⟩
  have W:fs=#[f,g]:=by cases fs;simp_all
  subst W;have ab:(Lit.int .i64 n).wf=true:=by
   simp only[Lit.wf,bAt,dTe];exact⟨q2,q3⟩
  have E:P.keyLits (P.types.size+1) k [.int .i64 n,.bool b]=some [.int .i64 n,.bool b]:=by
   rw[hD];simp[Program.keyLits,hu,h8,h4,h5,h6,h7,h9,ah,ag,af,ab]
  refine⟨.string (keyBytes [.int .i64 n,.bool b]),?_⟩;unfold keyOf;simp only[hu,h1,Value.formed,h8];simp[Value.cells,E]
 refine⟨λw em v O=>?_,λw x hx es ae=>?_,λw v O=>?_⟩
 ·obtain⟨l,U⟩:=key v O;exact A.check w em U
 ·obtain⟨l,U⟩:=key x hx;exact A.find w U es λe he=>key _ (ae e he)
 ·obtain⟨l,U⟩:=key v O;exact A.stays w U
def vr {P:Program}{T:TypeId}{W:KeyK×IV}(h:mapI P T=some W):∃kt e,P.underlying T=some (.map kt e)/\eY P e=some W.2/\KeyRun P kt W.1:=by
 unfold mapI at h;split at h
 ·rename_i k e O;split at h
  ·rename_i z D A;cases h;exact⟨k,e,O,A,.plain D λv U=>by cases v<;>simp[fJ,MapKept.IsKey] at U ⊢⟩
  ·rename_i i z D A;cases h;exact⟨k,e,O,A,.plain D λv U=>by cases v<;>simp[fJ,MapKept.IsKey] at U ⊢;exact U.symm⟩
  ·rename_i fs z D A;split at h
   ·rename_i E;cases h;exact⟨k,e,O,A,.ofSym D E⟩
   ·split at h
    ·rename_i E;cases h;exact⟨k,e,O,A,.ofSg D E⟩
    ·split at h
     ·rename_i E;cases h;exact⟨k,e,O,A,.ofPl D E⟩
     ·cases h
  ·cases h
 ·cases h
def vt {A:KeyK}{a b:Value}(E:fJ A a=true)(D:fJ A b=true):f_ a b=true↔a=b:=by
 cases A with
 | sym =>
  obtain⟨s,n,rfl,_⟩:=vo E;obtain⟨s',O,rfl,_⟩:=vo D;simp[f_,qM]
 | sg =>
  obtain⟨s,n,rfl,_⟩:=vp E;obtain⟨s',O,rfl,_⟩:=vp D;simp[f_,qM]
 | pl =>
  obtain⟨s,n,rfl,_⟩:=vq E;obtain⟨s',O,rfl,_⟩:=vq D;simp[f_,qM]
 | _=>cases a<;>cases b<;>simp_all [fJ,f_]
def AA {D:KeyK}{key:Value}(O:fJ D key=true)(y:IV):∀(es:List (Value×IV)),(∀p∈es,fJ D p.1=true)->(∀p∈es,p.1≠key)->e8 key es=none/\updI key y es=es++[(key,y)]
 | [],_,_=>⟨rfl,rfl⟩
 | (k,x)::es,U,E=>by
  have A:f_ key k=false:=by
   cases W:f_ key k with
   | false=>rfl
   | true=>exact absurd ((vt O (U _ (.head _))).1 W).symm (E _ (.head _))
  obtain⟨h1,h2⟩:=AA O y es (λp hp=>U p (.tail _ hp)) (λp hp=>E p (.tail _ hp));exact⟨by simp only[e8,A,bFt,dJ,h1],by simp only[updI,A,bFt,dJ,h2,dX]⟩
def AB {O:KeyK}{key:Value}(D:fJ O key=true)(y:IV):∀(es:List (Value×IV)) (j:Nat),(∀p∈es,fJ O p.1=true)->(es.map (·.1)).Nodup->(es.map (·.1))[j]?=some key →
  ∃x,es[j]?=some (key,x)/\e8 key es=some x/\updI key y es=es.set j (key,y)
 | [],_,_,_,h=>by simp at h
 | (k,x)::es,0,E,_,h=>by
  simp only[eo,fC,dL] at h;subst h;have U:=(vt D D).2 rfl;exact⟨x,rfl,by simp only[e8,U,dB],by simp only[updI,U,dB,List.set_cons_zero]⟩
 | (k,x)::es,j+1,E,W,h=>by
  simp only[eo,iV] at h;rw[eo,List.nodup_cons] at W;have A:f_ key k=false:=by
   cases hb:f_ key k with
   | false=>rfl
   | true =>
    have:=(vt D (E _ (.head _))).1 hb;grind
  obtain⟨z,h1,h2,h3⟩:=AB D y es j (λp hp=>E p (.tail _ hp)) W.2 h;exact⟨z,by simpa using h1,by simp only[e8,A,bFt,dJ,h2],by simp only[updI,A,bFt,dJ,h3,List.set_cons_succ]⟩
def AD {P:Program}{D:TypeId}{A:KeyK}(K:KeyRun P D A){key:Value}(O:fJ A key=true)(y:IV)(l:List MapEntry)(es:List (Value×IV))(w:World)
  (U:l.map (·.key)=es.map (·.1)) (W:∀p∈es,fJ A p.1=true) (hn:(es.map (·.1)).Nodup) :
  ((Instr.findKey D key l).run P w=.ok none w/\e8 key es=none/\updI key y es=es++[(key,y)]/\key ∉ es.map (·.1)) \/
  ∃j e x,(Instr.findKey D key l).run P w=.ok (some (j,e.val)) w/\l[j]?=some e/\e.key=key/\es[j]?=some (key,x)/\e8 key es=some x/\updI key y es=es.set j (key,y):=by
 have hl:∀e∈l,fJ A e.key=true:=λe he=>by
  have:e.key∈es.map (·.1):=U▸List.mem_map_of_mem he;grind
 rcases K.find w O l hl with⟨h1,h2⟩|⟨j,e,h1,h2,h3⟩
 ·have E:key ∉ es.map (·.1):=λhc=>by
   grind
  obtain⟨h4,h5⟩:=AA O y es W λp hp hq=>E (hq▸List.mem_map_of_mem hp);grind
 ·obtain⟨x,h4,h5,h6⟩:=AB O y es j W hn (by rw[<- U,en,h2,fg,h3]);grind
section
variable {C:Cx}{X0 X:WS}{N:Nat}{fr:Fr}{ds:List Dfd}{a:Act}{ad:Ad}{K:Kt}{ro:Option Nat}{n:Nat}{Q:Exit->Act->World->Prop}{o:Oper}
variable (hA:At C X0 N X fr ds a ad o.dst)
include hA
def Iy {T:TypeId}{x y:Operand}{ok:Bool}(ho:o.op=.lookup T x y ok)
  (h:cU (mapI C.P T) λkz=>cU (evV C.gl fr x) λx=>mapV x λm=>cU (evV C.gl fr y) λi=>keyV i λkey=>pC kz m key ok (finK o.dst K ad fr) X.st ds) :
  o.wpIn (ev ro) n C.P a X.w (PK C X0 N K) Q:=by
 obtain⟨⟨kk,z⟩,hm,h1⟩:=yQ4.1 h;clear h;obtain⟨vx,hx,h2⟩:=yQ4.1 h1;clear h1;obtain⟨m,rfl,h3⟩:=sE h2;clear h2;obtain⟨vy,hy,h4⟩:=yQ4.1 h3;clear h3;have h5:=Al (hA.v hy).1 h4;obtain⟨A,h⟩:=h5;generalize an:a.eval y=key at A h;clear h4;simp only at A h;have ab:∀c,o.op≠.defer c:=by rw[ho];intro c hc;cases hc
 obtain⟨kt,e,hT,hz,D⟩:=vr hm;simp only at hz D;have ex:=dQ (hA.v hx).1;have ey:=an;obtain⟨zv,O,W,_⟩:=sB hz X.w;cases m with
 | none =>
  have af:(Instr.findKey kt key #[].toList).run C.P X.w=.ok none X.w:=by
   rcases D.find X.w A [] (λe he=>by cases he) with⟨h1,_⟩|⟨j,e,_,h2,_⟩
   ·exact h1
   ·simp at h2
  obtain⟨r,U,h⟩:=yQ4.1 h;simp only[kN,gm,ju,dL] at U;have E:(execOp a.eval o).run C.P X.w=.ok (.value (if ok then .tuple #[zv,.bool false] else zv)) X.w:=by
   unfold execOp;rw[ho];simp only[ex,ey,Instr.lookup,cX,dS hT,cW,c_,D.check _ _ A,
    af,O]
  refine eD E ab (hA.val ?_ h);subst U;cases ok with
  | true=>exact (VL.cons (W _ _ _) (VL.cons (.raw (.bool false) trivial) VL.nil)).tup
  | false=>exact W _ _ _
 | some b =>
  obtain⟨ob,ak,g1⟩:=yQ4.1 h;clear h;obtain⟨aG,es,rfl,am,g2⟩:=ve g1;clear g1;subst am;obtain⟨r,U,h⟩:=yQ4.1 g2;clear g2;simp only[kN,dL] at U;obtain⟨_,ae,ag,ah,av,hh,ac,aa,_,_⟩:=hA.inv.good.ok b _ ak;rcases AD D A (.raw key) ah.toList es X.w ac ae ag with⟨a1,a2,_⟩|⟨j,e',x',a1,a2,a3,a4,a5,_⟩
  ·rw[a2] at U;simp only[gm,ju] at U;have E:(execOp a.eval o).run C.P X.w=.ok (.value (if ok then .tuple #[zv,.bool false] else zv)) X.w:=by
    unfold execOp;rw[ho];simp only[ex,ey,Instr.lookup,cX,dS hT,MapKept.run_getObj_map hh,cW,c_,D.check _ _ A,a1,O]
   refine eD E ab (hA.val ?_ h);subst U;cases ok with
   | true=>exact (VL.cons (W _ _ _) (VL.cons (.raw (.bool false) trivial) VL.nil)).tup
   | false=>exact W _ _ _
  ·rw[a5] at U;simp only[fI,Option.isSome_some] at U;have hv:C.v X e'.val x':=aa.2 j _ _ (by rw[en,a2];rfl) (by rw[en,a4];rfl);have E:(execOp a.eval o).run C.P X.w=.ok (.value (if ok then .tuple #[e'.val,.bool true] else e'.val)) X.w:=by
    unfold execOp;rw[ho];simp only[ex,ey,Instr.lookup,cX,dS hT,MapKept.run_getObj_map hh,cW,c_,D.check _ _ A,a1]
   refine eD E ab (hA.val ?_ h);subst U;cases ok with
   | true=>exact (VL.cons hv (VL.cons (.raw (.bool true) trivial) VL.nil)).tup
   | false=>exact hv
def AE {T:TypeId}{x y z:Operand}(ho:o.op=.mapUpdate T x y z\/o.op=.insert T x y z)
  (h:cU (mapI C.P T) λkz=>cU (evV C.gl fr x) λm=>mapV m λm=>cU (evV C.gl fr y) λi=>keyV i λkey=>cU (evV C.gl fr z) λy=>nG kz m key y (finK o.dst K ad fr) X.st ds) :
  o.wpIn (ev ro) n C.P a X.w (PK C X0 N K) Q:=by
 obtain⟨⟨kk,z0⟩,hm,h1⟩:=yQ4.1 h;clear h;obtain⟨vx,hx,h2⟩:=yQ4.1 h1;clear h1;obtain⟨m,rfl,h3⟩:=sE h2;clear h2;obtain⟨vy,hy,h4⟩:=yQ4.1 h3;clear h3;have h5:=Al (hA.v hy).1 h4;clear h4;generalize aE:a.eval y=key at h5;obtain⟨vz,hz,W,h⟩:=yQ4.1 h5;clear h5;simp only at W h;have aC:∀c,o.op≠.defer c:=by intro c hc;rw[hc] at ho;rcases ho with ho|ho<;>cases ho
 obtain⟨kt,e,hT,_,U⟩:=vr hm;simp only at U;have ex:=dQ (hA.v hx).1;have ey:=aE;have am:=(hA.v hz).1;cases m with
 | none=>exact h.elim
 | some b =>
  obtain⟨ob,ao,h1⟩:=yQ4.1 h;clear h;obtain⟨ak,es,rfl,aD,h⟩:=ve h1;clear h1;subst aD;obtain⟨hL,aj,ag,E,O,hh,aa,ac,aG,aB⟩:=hA.inv.good.ok b _ ao;have aq:∀c T f,Obj.map E O≠.cells c T f:=by intro c T f hc;cases hc
  have ah:∀(e:Array MapEntry) (k:Nat),∀c T f,Obj.map e k≠.cells c T f:=by intro e k c T f hc;cases hc
  have av:∀(A:Array MapEntry) (D:Nat) (ab:List (Value×IV)),(Instr.mapUpdate T (.map (some b)) key (a.eval z)).run C.P X.w=.ok () { X.w with heap:=X.w.heap.setIfInBounds b (.map A D) } →
    A.toList.map (·.key)=ab.map (·.1)->C.vl X (A.toList.map (·.val)) (ab.map (·.2))->(∀p∈ab,fJ ak p.1=true)->(ab.map (·.1)).Nodup->(∀e∈A.toList,e.born<D) →
    A.toList.Pairwise (λe e'=>e.born<e'.born)->updI key vz es=ab->o.wpIn (ev ro) n C.P a X.w (PK C X0 N K) Q:=by
   intro A D ab an h1 h2 h3 aH h4 h5 h6;have hr:(execOp a.eval o).run C.P X.w=.ok .skip { X.w with heap:=X.w.heap.setIfInBounds b (.map A D) }:=by
    unfold execOp;rcases ho with ho|ho<;>rw[ho]<;>simp only[ex,ey,an,cX,cW,c_]
   refine u_ hr aC ?_;have hI:=hA.inv.obj (o':=.map A D) (so:=some (.map ak ab)) hh aq (ah _ _) (by rw[ao];simp) (λi hi=>by
    cases hi;exact⟨hL,h3,aH,A,D,nI hh,h1,⟨h2.1,λi r x hr hx=>mS hh aq (ah _ _) (h2.2 i r x hr hx)⟩,h4,h5⟩)
   rw[h6] at h;exact HT hI hA.ad h
  rcases AD U W vz E.toList es X.w aa aj ag with⟨a1,_,a3,aY⟩|⟨j,e',x',a1,a2,a3,a4,_,a6⟩
  ·refine av (E.push { key,val:=a.eval z,born:=O }) (O+1) (es++[(key,vz)]) ?_ ?_ ?_ ?_ ?_ ?_ ?_ a3
   ·simp only[Instr.mapUpdate,cX,dS hT,MapKept.run_getObj_map hh,cW,U.check _ _ W,a1,MapKept.run_setObj_map _ hh]
   ·simp[aa]
   ·simp only[Array.toList_push,jn,eo,fm];exact ac.append (VL.cons am VL.nil)
   ·grind
   ·grind
   ·grind
   ·grind
  ·have hj:E[j]?=some e':=by simpa using a2
   have ae:(E.modify j λe=>{ e with key:=key,val:=a.eval z }).toList=E.toList.set j { e' with key:=key,val:=a.eval z }:=by
    apply List.ext_getElem?;grind
   refine av (E.modify j λe=>{ e with key:=key,val:=a.eval z }) O (es.set j (key,vz)) ?_ ?_ ?_ ?_ ?_ ?_ ?_ a6
   ·simp only[Instr.mapUpdate,cX,dS hT,MapKept.run_getObj_map hh,cW,U.check _ _ W,a1,hj,fg,fI,a3,U.stays _ W,MapKept.run_setObj_map _ hh]
   ·rw[ae,List.map_set,List.map_set,aa]
   ·rw[ae,List.map_set,List.map_set];exact ac.set j am
   ·grind
   ·rw[List.map_set];have ar:(es.map (·.1))[j]?=some key:=by rw[en,a4];rfl
    rw[show (es.map (·.1)).set j key=es.map (·.1) from by
     apply List.ext_getElem?;intro i;rw[List.getElem?_set];split
     ·rename_i aF;subst aF;rw[b_ (lGs ar).1,ar]
     ·rfl]
    exact ag
   ·grind
   ·have hp:(E.toList.map (·.born)).Pairwise (·<·):=List.pairwise_map.2 aB;have:((E.modify j λe=>{ e with key:=key,val:=a.eval z }).toList.map (·.born))=E.toList.map (·.born):=by
     rw[ae,List.map_set];apply List.ext_getElem?;grind
    grind
def Iz {T:TypeId}{x:Operand}(ho:o.op=.range T x)
  (h:cU (mapI C.P T) λ_=>cU (evV C.gl fr x) λx=>mapV x λm=>pD m (finK o.dst K ad fr) X.st ds) :
  o.wpIn (ev ro) n C.P a X.w (PK C X0 N K) Q:=by
 obtain⟨kz,hm,h1⟩:=yQ4.1 h;clear h;obtain⟨vx,hx,h2⟩:=yQ4.1 h1;clear h1;obtain⟨m,rfl,h3⟩:=sE h2;clear h2;have U:∀c,o.op≠.defer c:=by rw[ho];intro c hc;cases hc
 obtain⟨kt,e,hT,_,_⟩:=vr hm;have ex:=dQ (hA.v hx).1;cases m with
 | none=>exact h3.elim
 | some b =>
  obtain⟨ob,O,h1⟩:=yQ4.1 h3;clear h3;obtain⟨E,A,rfl,h⟩:=vd h1;clear h1;obtain⟨hL,hh⟩:=hA.inv.good.ok b _ O;have D:X.st X.w.heap.size=none:=by
   cases hs:X.st X.w.heap.size with
   | none=>rfl
   | some o=>have:=hA.inv.good.lt hs;omega
  have hr:(execOp a.eval o).run C.P X.w=.ok (.value (.pointer (some ⟨X.w.heap.size,0,none⟩))) (X.w.alloc (.mapIter (some b) A #[] A)):=by
   unfold execOp;rw[ho];simp only[ex,run_range_map X.w T kt e b E A hT hh,cX,cW,c_]
  have W:=hA.inv.new (.mapIter (some b) A #[] A) 0 (some (.iter b A #[] A)) (λi hi=>by
   cases hi;exact⟨by simp[WS.new],ja _ _⟩)
  exact eD hr U (gD (dst:=o.dst) (K:=K) (x:=.raw (.pointer (some ⟨X.w.heap.size,0,none⟩))) W hA.ad hA.hd (.raw _ trivial) (h X.w.heap.size D))
def IA {x:Operand}(ho:o.op=.next x false)
  (h:cU (evV C.gl fr x) λx=>adrV x λr=>pE r (finK o.dst K ad fr) X.st ds) :
  o.wpIn (ev ro) n C.P a X.w (PK C X0 N K) Q:=by
 obtain⟨vx,hx,h2⟩:=yQ4.1 h;clear h;obtain⟨r,rfl,h3⟩:=Am h2;clear h2;obtain⟨ob,ag,h1⟩:=yQ4.1 h3;clear h3;obtain⟨m,A,seen,c0,rfl,h2⟩:=An h1;clear h1;obtain⟨om,ar,h1⟩:=yQ4.1 h2;clear h2;obtain⟨U,D,rfl,⟨aa,aq⟩,ac,ab⟩:=vd h1;clear h1;have ah:∀c,o.op≠.defer c:=by rw[ho];intro c hc;cases hc
 have ex:=dQ (hA.v hx).1;obtain⟨hL,hr⟩:=hA.inv.good.ok r _ ag;obtain⟨_,hb⟩:=hA.inv.good.ok m _ ar;have O:jb U seen=(leftOf U seen).toList:=by simp[jb,leftOf]
 rcases run_next_at (P:=C.P) X.w o.type r m A c0 seen U D hr hb (λe he=>(aa e he).1) aq with⟨h0,W⟩|⟨e,he,w1,ae,W⟩
 ·have E:(execOp a.eval o).run C.P X.w=.ok (.value (.tuple #[.bool false])) X.w:=by
   unfold execOp;rw[ho];simp only[ex,W,cX,cW,c_]
  exact eD E ah (hA.val (VL.cons (.raw (.bool false) trivial) VL.nil).tup (ac (by rw[O];exact eN (by simpa using h0))))
 ·have E:(execOp a.eval o).run C.P X.w=.ok (.value (.tuple #[.bool true,e.key,e.val])) (ChangeMaps.setBlock w1 r (.mapIter (some m) A (seen.push e.born) D)):=by
   unfold execOp;rw[ho];simp only[ex,W,cX,cW,c_]
  have ai:e∈U.toList:=by
   rw[<- O] at he;exact (jq.1 he).1
  obtain⟨k,hk⟩:=Option.isSome_iff_exists.1 (aa e ai).2;have hc:=ab e (by rw[O];exact he) k hk;have an:∀Y:WS,Y.w=w1->Y.st=X.st->Inv C X0 N Y fr ds a->Y.L=X.L->o.wpIn (ev ro) n C.P a X.w (PK C X0 N K) Q:=by
   intro Y ak am hI av;have af:Y.w.heap[r]?=some (.mapIter (some m) A seen c0):=by
    rw[ak];rcases ae with rfl|rfl<;>exact hr
   have aw:=hI.obj (o':=.mapIter (some m) A (seen.push e.born) D) (so:=some (.iter m A (seen.push e.born) D)) af (Ay _ _ _ _) (Ay _ _ _ _) (by rw[am,ag];simp) (λi hi=>by
    cases hi;exact⟨by show Y.L r=0;rw[av];exact hL,nI af⟩)
   refine eD E ah ?_;have aC:(Y.obj r (.mapIter (some m) A (seen.push e.born) D) (some (.iter m A (seen.push e.born) D))).w=ChangeMaps.setBlock w1 r (.mapIter (some m) A (seen.push e.born) D):=by
    rw[<- ak];rfl
   have hf:=gD (dst:=o.dst) (K:=K) (x:=.tup [.raw (.bool true),k,.junk]) (v:=.tuple #[.bool true,e.key,e.val]) aw hA.ad hA.hd (VL.cons (.raw (.bool true) trivial) (VL.cons (Az hk _ _ _) (VL.cons (.junk _) VL.nil))).tup (by
    have:(Y.obj r (.mapIter (some m) A (seen.push e.born) D) (some (.iter m A (seen.push e.born) D))).st=X.st.put r (some (.iter m A (seen.push e.born) D)):=by
     rw[<- am];rfl
    rw[this];exact hc)
   grind
  rcases ae with rfl|rfl
  ·exact an X rfl rfl hA.inv rfl
  ·exact an X.drew rfl rfl (hA.inv.ext' hA.inv.good.drew.1 hA.inv.good.drew.2) rfl
def IB {x:Operand}(ho:o.op=.entry x)
  (h:cU (evV C.gl fr x) λx=>adrV x λr=>pF r (finK o.dst K ad fr) X.st ds) :
  o.wpIn (ev ro) n C.P a X.w (PK C X0 N K) Q:=by
 obtain⟨vx,hx,h2⟩:=yQ4.1 h;clear h;obtain⟨r,rfl,h3⟩:=Am h2;clear h2;obtain⟨ob,ae,h1⟩:=yQ4.1 h3;clear h3;obtain⟨m,U,seen,c0,rfl,h2⟩:=An h1;clear h1;obtain⟨om,ac,h1⟩:=yQ4.1 h2;clear h2;obtain⟨O,an,rfl,⟨rfl,D⟩,h⟩:=vd h1;clear h1;obtain⟨k,hk,E⟩:=yQ4.1 h;have af:∀c,o.op≠.defer c:=by rw[ho];intro c hc;cases hc
 have ex:=dQ (hA.v hx).1;obtain⟨hL,hr⟩:=hA.inv.good.ok r _ ae;obtain⟨_,hb⟩:=hA.inv.good.ok m _ ac;unfold qN at hk;obtain⟨b,am,ai⟩:=Option.bind_eq_some_iff.1 hk;obtain⟨e,he,ah⟩:=Option.bind_eq_some_iff.1 ai;have aj:=List.mem_of_find?_eq_some he;have av:e.born=b:=by simpa using List.find?_some he
 obtain⟨A,W⟩:∃s:Array Nat,seen=s.push e.born:=by
  refine⟨seen.pop,?_⟩;grind
 subst W;have aa:(execOp a.eval o).run C.P X.w=.ok (.value (.tuple #[e.key,e.val])) X.w:=by
  unfold execOp;rw[ho];simp only[ex,run_entry_at X.w r m U A O c0 e hr hb aj D,cX,cW,c_]
 have ag:pz O (A.push e.born)=valI e.val:=by
  unfold pz;rw[am,kG,he]
 rw[ag] at E;have ab:C.v X e.val (valI e.val):=by
  generalize e.val=v;cases v<;>first|exact .raw (.int _ _) trivial|exact .junk _
 exact eD aa af (hA.val (VL.cons (Az ah _ _ _) (VL.cons ab VL.nil)).tup E)
end
