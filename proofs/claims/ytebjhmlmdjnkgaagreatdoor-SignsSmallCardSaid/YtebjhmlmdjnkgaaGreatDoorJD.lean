/- The layer of ideal values, part I: lengt -/
import Derived.Test.YtebjhmlmdjnkgaaGreatDoorJC
import Derived.Great.FillDense
import Derived.Maps.Keyed
import Derived.Maps.RangeRun
set_option linter.all false
namespace Go.Iv
open Go
theorem yQv {P:Program}{o:Oper}{b:Builtin}{args:Array Operand}{ts:Array TypeId}(ho:o.op=.call ⟨.builtin b,args,ts⟩)(ρ:Operand->Value)(w:World) :
  (execOp ρ o).run P w=(builtin b ts o.type (args.map λ| .const _=>true|_=>false) (args.map ρ)).run P w:=by
 unfold execOp;rw[ho];simp only[resolve,Sem.run_bind,Sem.run_pure,Result.andThen_ok,invoke];rfl
section
variable {C:Cx}{X0 X:WS}{N:Nat}{fr:Fr}{ds:List Dfd}{a:Act}{ad:Ad}{K:Kt}{ro:Option Nat}{n:Nat}{Q:Exit->Act->World->Prop}{o:Oper}
theorem V.sl_len {B:Nat}{L:Nat->Nat}{w:World}{r:Value}{t:Tag}{xs:List IV}(hv:V B L w r (.sl t xs)):∃ad cap,r=.slice ad xs.length cap/\xs.length<=140737488355328/\xs.length<=cap/\zQm t.cap ad xs.length cap:=by
 cases hv with
 | sl ad cap _ _ T vs hcap hlen hcl hs hvl hroom hfresh hplace _=>exact⟨ad,cap,rfl,hlen,hcl,hcap⟩
theorem zJs {s:Nat}:∀(xs:List IV) (l:Nat),(∀x∈xs,x.cells.length=s)->(xs.drop l).flatMap IV.cells=(xs.flatMap IV.cells).drop (l*s)
 | [],l,_=>by simp
 | x::xs,0,_=>by simp
 | x::xs,l+1,h=>by
  rw[List.drop_succ_cons,zJs xs l (λz hz=>h z (by simp[hz])),List.flatMap_cons,List.drop_append,h x (by simp)];have h1:(x.cells).drop ((l+1)*s)=[]:=List.drop_eq_nil_of_le (by rw[h x (by simp),Nat.succ_mul];omega);grind
theorem zUz {s:Nat}:∀(xs:List IV) (l:Nat),(∀x∈xs,x.cells.length=s)->(xs.take l).flatMap IV.cells=(xs.flatMap IV.cells).take (l*s)
 | [],l,_=>by simp
 | x::xs,0,_=>by simp
 | x::xs,l+1,h=>by
  rw[List.take_succ_cons,List.flatMap_cons,zUz xs l (λz hz=>h z (by simp[hz])),List.flatMap_cons,List.take_append,h x (by simp)];have h1:(x.cells).take ((l+1)*s)=x.cells:=List.take_of_length_le (by rw[h x (by simp),Nat.succ_mul];omega);grind
theorem yZp {s:Nat}:∀(xs:List IV),(∀x∈xs,x.cells.length=s)->(xs.flatMap IV.cells).length=xs.length*s
 | [],_=>by simp
 | x::xs,h=>by rw[List.flatMap_cons,lLa,yZp xs (λz hz=>h z (by simp[hz])),h x (by simp),List.length_cons,Nat.succ_mul];omega
theorem V.slice {B:Nat}{L:Nat->Nat}{w:World}{ad:Option Addr}{len cap l h m:Nat}{tg tg':Tag}{xs:List IV}(hv:V B L w (.slice ad len cap) (.sl tg xs))(hlh:l<=h)(hhx:h<=xs.length)(hhm:h<=m)
  (hes:tg'.es=tg.es) (hfr:tg'.fresh=true->tg.fresh=true) (hcap':zQm tg'.cap (if m=l then ad else ad.map (·.add (l*tg.es))) (h-l) (m-l)) (happ:∀g,tg'.cap=.app g->tg.cap=.app g/\m-l<=cap) :
  V B L w (.slice (if m=l then ad else ad.map (·.add (l*tg.es))) (h-l) (m-l)) (.sl tg' ((xs.drop l).take (h-l))):=by
 cases hv with
 | sl _ _ _ _ T vs hcap hlen hcl hs hvl hroom hfresh hplace hc =>
  have hlen':((xs.drop l).take (h-l)).length=h-l:=by simp;omega
  have key:=V.sl (B:=B) (L:=L) (w:=w) (if m=l then ad else ad.map (·.add (l*tg.es))) (m-l) tg' ((xs.drop l).take (h-l)) T ((vs.drop (l*tg.es)).take ((h-l)*tg.es));rw[hlen'] at key;have hlm:(h-l)*tg.es+l*tg.es=h*tg.es:=by rw[<- Nat.add_mul];congr 1;omega
  have hle:h*tg.es<=vs.length:=by rw[hvl];exact Nat.mul_le_mul_right _ hhx
  refine key hcap' (by omega) (by omega) (λx hx=>by rw[hes];exact hs x (List.mem_of_mem_drop (List.mem_of_mem_take hx))) (by rw[hes];simp;omega) ?_ ?_ ?_ ?_
  ·intro g hg;obtain⟨h1,h2⟩:=happ g hg;obtain⟨T',k,h3,h4⟩:=hroom g h1;refine⟨T',k,h3,Nat.le_trans ?_ h4⟩;rw[hes];exact Nat.mul_le_mul_right _ h2
  ·intro hf ad' ha;rw[hes];split at ha
   ·grind
   ·cases hq:ad with
    | none=>simp[hq] at ha
    | some ad0 =>
     simp only[hq,Option.map_some,Option.some.injEq] at ha;subst ha;obtain⟨h1,h2,h3⟩:=hfresh (hfr hf) ad0 hq;have hblk:(ad0.add (l*tg.es)).block=ad0.block:=by unfold Addr.add;split<;>rfl
     have hoff:(ad0.add (l*tg.es)).off=ad0.off+l*tg.es:=by unfold Addr.add;split<;>simp_all
     rw[hblk,hoff,Nat.add_mul_mod_self_right];grind
  ·intro hne;have hlt:l<h:=by
    rcases Nat.lt_or_ge l h with hlt|hge
    ·exact hlt
    ·exact absurd (List.eq_nil_of_length_eq_zero (by rw[hlen'];omega)) hne
   obtain⟨ad0,ha,hsp,hL,hcell⟩:=hplace (by rintro rfl;simp at hhx;omega);subst ha;rw[if_neg (by omega)];refine⟨ad0.add (l*tg.es),rfl,?_,?_,?_⟩
   ·rw[yK0 ad0 hsp]
   ·rw[yK0 ad0 hsp];simp;omega
   ·intro i r hr;rw[yK0 ad0 hsp];grind
  ·intro i r c hr hcc;rw[zUz _ _ (λx hx=>hs x (List.mem_of_mem_drop hx)),zJs _ _ hs,List.getElem?_take] at hcc;grind
theorem yGz {x:Option Operand}{r:Option Int}(hI:Inv C X0 N X fr ds a)(h:yWr C.gl fr x=some r):(x=none/\r=none)\/∃y k m,x=some y/\r=some m/\a.eval y=.int k m:=by
 cases x with
 | none=>simp only[yWr,Option.some.injEq] at h;exact .inl ⟨rfl,h.symm⟩
 | some y =>
  simp only[yWr] at h;cases hy:evV C.gl fr y with
  | none=>rw[hy] at h;cases h
  | some z =>
   rw[hy] at h;unfold intI at h;split at h
   ·rename_i k m he;cases he;cases h;exact .inr ⟨y,k,m,rfl,rfl,V.raw_inv (xWx hI.good hI.fr hy).1⟩
   ·cases h
theorem yZt {P:Program}{k:IntKind}{i:Int}{y:Nat}{code:BoundsCode}(h:0<=i/\i<=(y:Int))(w:World):(Instr.sliceBound (.int k i) y code).run P w=.ok i.toNat w:=by
 simp only[Instr.sliceBound,asIntOf,Sem.run_bind,Sem.run_pure,Result.andThen_ok,h,and_self,if_true]
theorem xGc {low high:Option Int}{len:Nat}{p:Nat×Nat}(h:yXu low high len=some p):p.1<=p.2/\p.2<=len:=by
 unfold yXu at h;grind
theorem yJp {lo hi mx:Option Operand}{low high max:Option Int}{sl:Bool}{len ln cap:Nat}{p:Nat×Nat}(hI:Inv C X0 N X fr ds a)(h1:yWr C.gl fr lo=some low)(h2:yWr C.gl fr hi=some high)
  (h3:yWr C.gl fr mx=some max) (hb:yXu low high len=some p) (hlc:len<=cap) (hm:∀m,max=some m->(p.2:Int)<=m/\m<=cap) (hnm:high=none->max=none) (hln:high=none->ln=len:=by first|exact λ_=>rfl|(intro h;simp[h])) :
  (Instr.sliceBounds sl ln cap (lo.map a.eval) (hi.map a.eval) (mx.map a.eval)).run C.P X.w=.ok (p.1,p.2,(max.getD cap).toNat) X.w/\p.1<=p.2/\p.2<=len:=by
 unfold yXu at hb;split at hb
 ·rename_i hc;cases hb;obtain⟨c1,c2,c3⟩:=hc;refine⟨?_,by simp only;omega,by simp only;omega⟩;simp only at hm;rcases yGz hI h3 with⟨rfl,rfl⟩|⟨y3,k3,m,rfl,rfl,e3⟩
  ·rcases yGz hI h2 with⟨rfl,rfl⟩|⟨y2,k2,q,rfl,rfl,e2⟩
   ·obtain rfl:=hln rfl;rcases yGz hI h1 with⟨rfl,rfl⟩|⟨y1,k1,r,rfl,rfl,e1⟩
    ·simp only[Instr.sliceBounds,Option.map_none,Sem.run_bind,Sem.run_pure,Result.andThen_ok,Option.getD_none];simp
    ·simp only[Option.getD_some,Option.getD_none] at *;simp only[Instr.sliceBounds,Option.map_none,Option.map_some,e1,Sem.run_bind,Sem.run_pure,Result.andThen_ok,Option.isSome_none];rw[yZt ⟨by omega,by omega⟩];simp
   ·simp only[Option.getD_some,Option.getD_none] at *;rcases yGz hI h1 with⟨rfl,rfl⟩|⟨y1,k1,r,rfl,rfl,e1⟩
    ·simp only[Option.getD_none] at *;simp only[Instr.sliceBounds,Option.map_none,Option.map_some,e2,Sem.run_bind,Sem.run_pure,Result.andThen_ok];rw[yZt ⟨by omega,by omega⟩];simp
    ·simp only[Option.getD_some] at *;simp only[Instr.sliceBounds,Option.map_none,Option.map_some,e1,e2,Sem.run_bind,Sem.run_pure,Result.andThen_ok];rw[yZt ⟨by omega,by omega⟩];simp only[Result.andThen_ok];rw[yZt ⟨by omega,by omega⟩];simp
  ·obtain⟨m1,m2⟩:=hm m rfl;rcases yGz hI h2 with⟨rfl,rfl⟩|⟨y2,k2,q,rfl,rfl,e2⟩
   ·cases hnm rfl
   ·simp only[Option.getD_some] at *;rcases yGz hI h1 with⟨rfl,rfl⟩|⟨y1,k1,r,rfl,rfl,e1⟩
    ·simp only[Option.getD_none] at *;simp only[Instr.sliceBounds,Option.map_none,Option.map_some,e2,e3,Sem.run_bind,Sem.run_pure,Result.andThen_ok];rw[yZt ⟨by omega,by omega⟩];simp only[Result.andThen_ok];rw[yZt ⟨by omega,by omega⟩];simp
    ·simp only[Option.getD_some] at *;simp only[Instr.sliceBounds,Option.map_some,e1,e2,e3,Sem.run_bind,Sem.run_pure];rw[yZt ⟨by omega,by omega⟩];simp only[Result.andThen_ok];rw[yZt ⟨by omega,by omega⟩];simp only[Result.andThen_ok];rw[yZt ⟨by omega,by omega⟩];simp
 ·cases hb
variable (hA:At C X0 N X fr ds a ad o.dst)
include hA
theorem xG6 {dr:Bool}{T:TypeId}{x:Operand}(ho:o.op=.call ⟨.builtin .len,⟨[x]⟩,⟨[T]⟩⟩)
  (h:yQ6 (lenI C.P T) λk=>yQ6 (evV C.gl fr x) λx=>lenV dr k x (finK o.dst K ad fr) X.st ds):o.wpIn (yZ3 ro) n C.P a X.w (PK C X0 N K) Q:=by
 obtain⟨lk,hlk,h2⟩:=yQ4.1 h;clear h;obtain⟨vx,hx,h⟩:=yQ4.1 h2;clear h2;have hnd:∀c,o.op≠.defer c:=by rw[ho];intro c hc;cases hc
 have hxv:=(hA.v hx).1;have key:∀z:Value,(Builtin.len_ #[T] o.type #[a.eval x]).run C.P X.w=.ok z X.w->(execOp a.eval o).run C.P X.w=.ok (.value z) X.w:=by
  intro z hz;rw[yQv ho];simp only[builtin,List.map_toArray,List.map_cons,List.map_nil,Sem.run_bind,hz,Result.andThen_ok,Sem.run_pure]
 rcases yUj hlk with⟨rfl,hT⟩|⟨rfl,e,hT⟩|⟨rfl,k,e,hT⟩|⟨len,e,rfl,hT⟩
 ·obtain⟨v,rfl,h2⟩:=zWn h;clear h;have ex:=V.raw_inv hxv;cases v with
  | string s =>
   have hs:s.size<=281474976710656:=V.raw_ok hxv;refine yQd (key (.int .i64 s.size) ?_) hnd (hA.val (.raw _ trivial) (h2 λ_=>hs));rw[ex];simp[Builtin.len_,run_underlying hT,goInt]
  | _=>exact h2.elim
 ·rcases xGe h with⟨tg,xs,rfl,h2⟩|⟨b,off,m,cap,rfl,h2⟩
  case inr =>
   have ex:=V.raw_inv hxv;refine yQd (key (.int .i64 m) ?_) hnd (hA.val (.raw _ trivial) h2);rw[ex];simp[Builtin.len_,run_underlying hT,goInt]
  clear h;obtain⟨ad',cap,ex,hlen,_⟩:=V.sl_len hxv;refine yQd (key (.int .i64 xs.length) ?_) hnd (hA.val (.raw _ trivial) (h2 λ_=>hlen));rw[ex];simp[Builtin.len_,run_underlying hT,goInt]
 ·obtain⟨_,h2⟩:=yK9 h;clear h;obtain⟨m,rfl,h⟩:=zZy h2;clear h2;have ex:=V.raw_inv hxv;cases m with
  | none =>
   refine yQd (key (.int .i64 0) ?_) hnd (hA.val (.raw _ trivial) h);rw[ex];simp[Builtin.len_,run_underlying hT,goInt]
  | some b =>
   obtain⟨ob,hob,h2⟩:=yQ4.1 h;clear h;obtain⟨kk,es,rfl,h⟩:=xZl h2;clear h2;obtain⟨_,_,_,ents,clock,hh,hk,_⟩:=hA.inv.good.ok b _ hob;refine yQd (key (.int .i64 es.length) ?_) hnd (hA.val (.raw _ trivial) h);have hlen:ents.size=es.length:=by have:=congrArg List.length hk;simpa using this
   rw[ex];simp[Builtin.len_,run_underlying hT,goInt,getObj,Sem.run,hh,hlen]
 ·refine yQd (key (.int .i64 len) ?_) hnd (hA.val (.raw _ trivial) h);simp[Builtin.len_,run_underlying hT,goInt]
theorem xG7 {T:TypeId}{x:Operand}(ho:o.op=.call ⟨.builtin .cap,⟨[x]⟩,⟨[T]⟩⟩)
  (h:yQ6 (slI C.P T) λ_=>yQ6 (evV C.gl fr x) λx=>capV x (finK o.dst K ad fr) X.st ds):o.wpIn (yZ3 ro) n C.P a X.w (PK C X0 N K) Q:=by
 obtain⟨⟨e,ag,s,by_⟩,hsl,h1⟩:=yQ4.1 h;clear h;obtain⟨vx,hx,h⟩:=yQ4.1 h1;clear h1;obtain⟨hT,_⟩:=yWb hsl;have hnd:∀c,o.op≠.defer c:=by rw[ho];intro c hc;cases hc
 have hxv:=(hA.v hx).1;have key:∀(p:Option Addr) (m c:Nat),a.eval x=.slice p m c->(execOp a.eval o).run C.P X.w=.ok (.value (.int .i64 c)) X.w:=by
  intro p m c hz;rw[yQv ho];simp[builtin,hz,Builtin.cap_,run_underlying hT,goInt]
 rcases zXs h with⟨tg,xs,rfl,h2⟩|⟨b,off,m,cap,rfl,h2⟩
 ·obtain⟨ad',cap,ex,hlen,hcl,hco⟩:=V.sl_len hxv;cases hc:tg.cap with
  | nil =>
   rw[hc] at h2 hco;obtain⟨rfl,h0,rfl⟩:=hco;exact yQd (key _ _ _ ex) hnd (hA.val (.raw _ trivial) h2)
  | full =>
   rw[hc] at h2 hco;simp only[zQm] at hco;subst hco;exact yQd (key _ _ _ ex) hnd (hA.val (.raw _ trivial) h2)
  | none=>rw[hc] at h2;exact h2.elim
  | app g=>rw[hc] at h2;exact h2.elim
 ·exact yQd (key _ _ _ (V.raw_inv hxv)) hnd (hA.val (.raw _ trivial) h2)
theorem xG5 {ts:Array TypeId}{x y:Operand}(ho:o.op=.call ⟨.builtin .max,⟨[x,y]⟩,ts⟩)
  (h:yQ6 (evV C.gl fr x) λx=>yQ6 (evV C.gl fr y) λy=>intV x λk p=>intV y λk' q=>if k=k' then finK o.dst K ad fr (.val (.raw (.int k (max p q)))) X.st ds else False) :
  o.wpIn (yZ3 ro) n C.P a X.w (PK C X0 N K) Q:=by
 obtain⟨vx,hx,h2⟩:=yQ4.1 h;clear h;obtain⟨vy,hy,h3⟩:=yQ4.1 h2;clear h2;obtain⟨k,p,rfl,h4⟩:=yKt h3;clear h3;obtain⟨k',q,rfl,h5⟩:=yKt h4;clear h4;obtain⟨rfl,h⟩:=yQx h5;clear h5;have hnd:∀c,o.op≠.defer c:=by rw[ho];intro c hc;cases hc
 have ex:=V.raw_inv (hA.v hx).1;have ey:=V.raw_inv (hA.v hy).1;have hr:(execOp a.eval o).run C.P X.w=.ok (.value (.int k (max p q))) X.w:=by
  rw[yQv ho];simp[builtin,ex,ey,Builtin.max_,Builtin.max2,Int.max_def];grind
 exact yQd hr hnd (hA.val (.raw _ trivial) h)
theorem xG4 {ts:Array TypeId}{x y:Operand}(ho:o.op=.call ⟨.builtin .min,⟨[x,y]⟩,ts⟩)
  (h:yQ6 (evV C.gl fr x) λx=>yQ6 (evV C.gl fr y) λy=>intV x λk p=>intV y λk' q=>if k=k' then finK o.dst K ad fr (.val (.raw (.int k (min p q)))) X.st ds else False) :
  o.wpIn (yZ3 ro) n C.P a X.w (PK C X0 N K) Q:=by
 obtain⟨vx,hx,h2⟩:=yQ4.1 h;clear h;obtain⟨vy,hy,h3⟩:=yQ4.1 h2;clear h2;obtain⟨k,p,rfl,h4⟩:=yKt h3;clear h3;obtain⟨k',q,rfl,h5⟩:=yKt h4;clear h4;obtain⟨rfl,h⟩:=yQx h5;clear h5;have hnd:∀c,o.op≠.defer c:=by rw[ho];intro c hc;cases hc
 have ex:=V.raw_inv (hA.v hx).1;have ey:=V.raw_inv (hA.v hy).1;have hr:(execOp a.eval o).run C.P X.w=.ok (.value (.int k (min p q))) X.w:=by
  rw[yQv ho];simp[builtin,ex,ey,Builtin.min_,Builtin.min2,Int.min_def];grind
 exact yQd hr hnd (hA.val (.raw _ trivial) h)
theorem xQz {T:TypeId}{x:Operand}{lo hi mx:Option Operand}(ho:o.op=.slice T x lo hi mx)
  (h:yQ6 (lenI C.P T) λk=>yQ6 (evV C.gl fr x) λx=>yQ6 (yWr C.gl fr lo) λlo=>yQ6 (yWr C.gl fr hi) λhi=>yQ6 (yWr C.gl fr mx) λmx =>
   yGg k (slI C.P T) (arrI C.P T) x lo hi mx (finK o.dst K ad fr) X.st ds):o.wpIn (yZ3 ro) n C.P a X.w (PK C X0 N K) Q:=by
 obtain⟨lk,hlk,h1⟩:=yQ4.1 h;clear h;obtain⟨vx,hx,h2⟩:=yQ4.1 h1;clear h1;obtain⟨low,hlo,h3⟩:=yQ4.1 h2;clear h2;obtain⟨high,hhi,h4⟩:=yQ4.1 h3;clear h3;obtain⟨max,hmx,h⟩:=yQ4.1 h4;clear h4;have hnd:∀c,o.op≠.defer c:=by rw[ho];intro c hc;cases hc
 have hxv:=(hA.v hx).1;rcases yUj hlk with⟨rfl,hT⟩|⟨rfl,e,hT⟩|⟨rfl,k,e,hT⟩|⟨len,e,rfl,hT⟩
 ·obtain⟨v,rfl,h2⟩:=zWn h;clear h;cases v with
  | string s =>
   cases max with
   | some m=>exact h2.elim
   | none =>
    obtain⟨p,hp,h⟩:=yQ4.1 h2;clear h2;have ex:=V.raw_inv hxv;have hok:s.size<=281474976710656:=V.raw_ok hxv;have hmn:mx=none:=by rcases yGz hA.inv hmx with⟨rfl,_⟩|⟨y,k,m,_,he,_⟩<;>first|rfl|cases he
    subst hmn;obtain⟨hb,_⟩:=yJp (sl:=false) (cap:=s.size) hA.inv hlo hhi hmx hp (Nat.le_refl _) (λm hm=>by cases hm) (λ_=>rfl);have hr:(execOp a.eval o).run C.P X.w=.ok (.value (.string (s.extract p.1 p.2))) X.w:=by
     unfold execOp;rw[ho];simp only[Option.map_none] at hb;simp only[Instr.sliceAt,Instr.slice,ex,Sem.run_bind,run_underlying hT,Result.andThen_ok,Option.map_none,Option.isSome_none,bFt,if_false,hb,Sem.run_pure]
    refine yQd hr hnd (hA.val (.raw _ ?_) h);simp only[zZk,ByteArray.size_extract];omega
  | _=>exact h2.elim
 ·obtain⟨⟨e',ag,sz,by_⟩,hs,h1⟩:=yQ4.1 h;clear h;rcases zXs h1 with⟨tg0,xs,rfl,hes,h2⟩|⟨b,off,m,cap,rfl,h2⟩
  case inr =>
   clear h1;have ex:=V.raw_inv hxv;obtain⟨hT',hty,_⟩:=yWb hs;rw[hT] at hT';cases hT';cases max with
   | some q=>exact h2.elim
   | none =>
    obtain⟨hmc,h3⟩:=h2;obtain⟨⟨p1,p2⟩,hp,h⟩:=yQ4.1 h3;obtain⟨hb,_⟩:=yJp (sl:=true) (ln:=m) (cap:=cap) hA.inv hlo hhi hmx hp (by split<;>omega) (λq hq=>by cases hq) (λ_=>rfl);simp only at hb h;have h2':=(yXv hty X.w).2;have hr:(execOp a.eval o).run C.P X.w=.ok (.value (.slice (some ⟨b,if cap=p1 then off else off+p1*sz,none⟩) (p2-p1) (cap-p1))) X.w:=by
     unfold execOp;rw[ho];simp only[Instr.sliceAt,Instr.slice,ex,Sem.run_bind,run_underlying hT,Result.andThen_ok,hb,h2',Sem.run_pure,Option.getD_none,Int.toNat_natCast];split
     ·rfl
     ·simp[Addr.add]
    exact yQd hr hnd (hA.val (.raw _ trivial) h)
  clear h1;simp only at hes h2;replace hxv:=V.reTag (es:=sz) hxv;generalize reTag sz tg0=tg at hes h2 hxv;obtain⟨hT',hty,_⟩:=yWb hs;rw[hT] at hT';cases hT';obtain⟨ad',cap,ex,hlen,hcl,hco⟩:=V.sl_len hxv;have hnm:high=none->max=none:=by
   rintro rfl;cases max with
   | none=>rfl
   | some m=>exact h2.elim
  have h3:yQ6 (yXu low high xs.length) λp=>chk (∀m,max=some m->m=p.2) (finK o.dst K ad fr (.val (.sl (yVz tg xs.length p.2 p.1 max) ((xs.drop p.1).take (p.2-p.1)))) X.st ds):=by
   grind
  clear h2;obtain⟨p,hp,hme,h⟩:=yQ4.1 h3;clear h3;obtain⟨p1,p2⟩:=p;simp only at hme h;obtain⟨h12,h2l⟩:=xGc hp;obtain⟨hb,_⟩:=yJp (sl:=true) (cap:=cap) hA.inv hlo hhi hmx hp hcl (λm hm=>by have:=hme m hm;simp only at h2l;omega) hnm;simp only at h12 h2l hb;have h2':=(yXv hty X.w).2;have hr:(execOp a.eval o).run C.P X.w=.ok (.value (.slice (if (max.getD cap).toNat=p1 then ad' else ad'.map (·.add (p1*sz))) (p2-p1) ((max.getD cap).toNat-p1))) X.w:=by
   unfold execOp;rw[ho];simp only[Instr.sliceAt,Instr.slice,ex,Sem.run_bind,run_underlying hT,Result.andThen_ok,hb,h2',Sem.run_pure]
  have hhm:p2<=(max.getD cap).toNat:=by
   cases max with
   | none=>simp only[Option.getD_none,Int.toNat_natCast];omega
   | some m=>have:=hme m rfl;simp only[Option.getD_some];omega
  refine yQd hr hnd (hA.val ?_ h);rw[ex] at hxv;rw[<- hes];by_cases hnil:tg.cap=.nil
  ·rw[hnil] at hco;obtain⟨rfl,h0,rfl⟩:=hco;obtain rfl:=List.eq_nil_of_length_eq_zero h0;simp only[List.length_nil] at h2l;have e2:p2=0:=by omega
   have e1:p1=0:=by omega
   subst e1 e2;have e3:(max.getD ((0:Nat):Int)).toNat=0:=by
    cases max with
    | none=>rfl
    | some m=>rw[hme m rfl];rfl
   rw[e3];simp only[yVz,if_pos hnil,List.drop_nil,List.take_nil,Nat.sub_zero,if_true];exact hxv
  refine V.slice hxv h12 h2l hhm ?_ ?_ ?_ ?_
  ·simp only[yVz,if_neg hnil];split
   ·split<;>rfl
   ·split<;>rfl
  ·simp only[yVz,if_neg hnil];split
   ·grind
   ·grind
  ·simp only[yVz,if_neg hnil];split
   ·rename_i m;have:=hme m rfl;rw[if_pos this];simp only[zQm,Option.getD_some];omega
   ·split
    ·rename_i hc;obtain⟨rfl,rfl⟩:=hc;simp only[Option.getD_none,Int.toNat_natCast,Nat.zero_mul,Nat.sub_zero];have:(if cap=0 then ad' else ad'.map (·.add 0))=ad':=by
      split
      ·rfl
      ·cases ad'<;>simp[Addr.add]
     grind
    ·trivial
  ·intro g hg;simp only[yVz,if_neg hnil] at hg;split at hg
   ·grind
   ·grind
 ·exact h.elim
 ·simp only[yGg] at h;unfold arrV at h;split at h
  ·rename_i cs;obtain⟨⟨n',ag,sz⟩,har,⟨hcl,hlen,hone⟩,h⟩:=yQ4.1 h;obtain⟨⟨p1,p2⟩,hp,h⟩:=yQ4.1 h;obtain⟨e',hT',hty⟩:=zXb har;rw[hT] at hT';cases hT';obtain⟨hb,_,h2l⟩:=yJp (sl:=false) (ln:=len) (cap:=len) hA.inv hlo hhi hmx hp (Nat.le_refl _) (λm hm=>by cases hm) (λ_=>rfl);have hp1:p1=0:=by
    unfold yXu at hp;split at hp
    ·cases hp;rfl
    ·cases hp
   subst hp1;have h2':=(yXv hty X.w).2;generalize hex:a.eval x=vx' at hxv;cases hxv with
   | cptr ad' _ vs hsp hvl hL hc hv =>
    have hcells:(IV.agg cs).cells=cs:=rfl;rw[hcells] at hvl hv;have hr:(execOp a.eval o).run C.P X.w=.ok (.value (.slice (some ad') p2 len)) X.w:=by
     unfold execOp;rw[ho];simp only[Option.getD_none,Int.toNat_natCast] at hb;simp only[Instr.sliceAt,hex,Instr.sureAddr,Sem.run_bind,run_underlying hT,Sem.run_pure,Result.andThen_ok,hb,h2',Nat.sub_zero];split
     ·rfl
     ·rw[Nat.zero_mul,yK0 ad' hsp,Nat.add_zero];congr 4;obtain⟨b,of,sp⟩:=ad';simp only at hsp;rw[hsp]
    have hone':∀c∈cs.take p2,c.cells=[c]:=λc hcm=>IV.one_cells (List.all_eq_true.1 hone c (List.mem_of_mem_take hcm));have hflat:∀l:List IV,(∀c∈l,c.cells=[c])->l.flatMap IV.cells=l:=λl=>by
     induction l with
     | nil=>intro _;rfl
     | cons c l ih=>intro hl;rw[List.flatMap_cons,hl c (by simp),ih λd hd=>hl d (by simp[hd])];rfl
    have hp2:(cs.take p2).length=p2:=by rw[List.length_take];simp only at h2l;omega
    refine yQd hr hnd (hA.val ?_ h);have key:=V.sl (B:=C.B) (L:=X.L) (w:=X.w) (some ad') len ⟨false,.none,1⟩ (cs.take p2) e (vs.take p2) trivial (by rw[hp2];simp only at h2l;omega) (by rw[hp2];exact h2l) (λc hcm=>by rw[hone' c hcm];rfl)
     (by rw[List.length_take,hvl,Nat.mul_one,List.length_take]) (λg hg=>by cases hg) (λhf=>by cases hf)
     (λ_=>⟨ad',rfl,hsp,by rw[List.length_take];omega,λi r hr=>hc i r (by rw[List.getElem?_take] at hr;split at hr<;>first|exact hr|cases hr)⟩)
     (λi r c hr hcc=>by
      rw[hflat _ hone'] at hcc;rw[List.getElem?_take] at hr hcc;split at hr
      ·rename_i hi;rw[if_pos hi] at hcc;exact hv i r c hr hcc
      ·cases hr)
    rw[hp2] at key;exact key
  ·exact h.elim
end
theorem xWv (off:Nat)(l:List Value)(cs:Array Value)(h:off+l.length<=cs.size) :
  ((l.zipIdx.foldl (λcs (x:Value×Nat)=>cs.setIfInBounds (off+x.2) x.1) cs)).toList=cs.toList.take off++l++cs.toList.drop (off+l.length):=by
 obtain⟨h1,h2⟩:=Great.foldl_set off l 0 cs;apply List.ext_getElem?;grind
theorem yYf {P:Program}(w:World):∀(fs:List Field),(∀f∈fs,∃i,P.info? f.type=some i) →
  (fs.mapM (λf=>do pure (f.offset,<- sizeOf f.type):Field->Sem (Nat×Nat))).run P w=.ok (fs.map λf=>(f.offset,P.cellsOf f.type)) w
 | [],_=>by simp
 | f::fs,h=>by
  obtain⟨i,hi⟩:=h f (by simp);rw[List.mapM_cons];simp only[Sem.run_bind,run_sizeOf w hi,Result.andThen_ok,Sem.run_pure,yYf w fs (λg hg=>h g (by simp[hg])),List.map_cons]
theorem xY6 {P:Program}{T:TypeId}{fs:Array Field}(hT:P.underlying T=some (.struct fs)){i fo n:Nat}{ag:Bool}(h:bfI P T i=some (fo,ag,n)):((fs.map λf=>(f.offset,P.cellsOf f.type))[i]?)=some (fo,n):=by
 unfold bfI at h;cases hf:fldI P T i with
 | none =>
  rw[hf] at h;simp[orO,arrI,hT] at h
 | some f =>
  rw[hf] at h;cases h;obtain⟨fs',f',hT',hfi,hoff,hty,_⟩:=zX6 hf;rw[hT] at hT';cases hT';have hcl:P.cellsOf f'.type=n:=by have:=zZo hty;simp[Program.cellsOf,this]
  grind
theorem wZb {P:Program}{T e:TypeId}{len:Nat}(hT:P.underlying T=some (.array len e)){i fo n:Nat}{ag:Bool}(h:bfI P T i=some (fo,ag,n)):fo=i*P.cellsOf e/\n=P.cellsOf e:=by
 unfold bfI at h;have hf:fldI P T i=none:=by unfold fldI;rw[hT]
 rw[hf] at h;cases ha:arrI P T with
 | none=>rw[ha] at h;cases h
 | some f =>
  obtain⟨l,a',s⟩:=f;rw[ha] at h;cases h;obtain⟨e',hT',hty⟩:=zXb ha;rw[hT] at hT';cases hT';have hcl:P.cellsOf e=n:=by have:=zZo hty;simp[Program.cellsOf,this]
  rw[hcl];exact⟨rfl,rfl⟩
theorem yU0 {C:Cx}{X0 X:WS}{N:Nat}{fr:Fr}{ds:List Dfd}{a:Act}{T:TypeId}{place:Nat->Option (Nat×Nat)}(hI:Inv C X0 N X fr ds a)(hpl:∀i fo ag n,bfI C.P T i=some (fo,ag,n)->place i=some (fo,n)) :
  ∀(parts:List (Nat×Operand)) (z:Array Value) (cs r:List IV),C.vl X z.toList cs->yW6 C.P C.gl fr T cs parts=some r →
   ∃out,Instr.fill place z (parts.map λp=>(p.1,a.eval p.2))=some out/\C.vl X out.toList r
 | [],z,cs,r,hv,h=>by
  simp only[yW6,Option.some.injEq] at h;subst h;exact⟨z,rfl,hv⟩
 | (i,x)::l,z,cs,r,hv,h=>by
  rw[yU1] at h;cases hf:bfI C.P T i with
  | none=>rw[hf] at h;cases h
  | some f =>
   cases hy:evV C.gl fr x with
   | none=>rw[hf,hy] at h;cases h
   | some y =>
    rw[hf,hy] at h;simp only[zVz] at h;split at h
    ·rename_i hc;obtain⟨hsz,hle,hfit⟩:=hc;obtain⟨fo,ag,n⟩:=f;simp only at hsz hle hfit h;obtain⟨_,_,hall,hdef⟩:=yJ8 hfit;have hyv:=(xWx hI.good hI.fr hy).1;have hvl:=V.cells hyv (yYs hall) hdef;have hplace:=hpl i fo ag n hf;have hsz':(a.eval x).cells.size=n:=by have:=hvl.1;rw[hsz] at this;simpa using this
     have hzs:z.size=cs.length:=by have:=hv.1;simpa using this
     have hfold:=xWv fo (a.eval x).cells.toList z (by rw[Array.length_toList,hsz',hzs,<- hsz];exact hle);obtain⟨out,ho,hov⟩:=yU0 hI hpl l (((a.eval x).cells.toList.zipIdx.foldl (λcs (x:Value×Nat)=>cs.setIfInBounds (fo+x.2) x.1) z)) (yX8 cs fo y.cells) r
      (by rw[hfold];exact yG5 hv hvl) h
     refine⟨out,?_,hov⟩;rw[List.map_cons];unfold Instr.fill;simp only[hplace];have hneg:¬ ((decide ((a.eval x).cells.size≠n) || decide (fo+(a.eval x).cells.size > z.size))=true):=by rw[hsz',hzs];simp;omega
     rw[if_neg hneg,<- ho];congr 1;rw[<- Array.foldl_toList,Array.toList_zipIdx]
    ·cases h
theorem VL.flat {B:Nat}{L:Nat->Nat}{w:World}{ag:Bool}{s:Nat}:∀ {rs:List Value} {ys:List IV},VL B L w rs ys->ys.all (fits ag s)=true →
  VL B L w (rs.flatMap λv=>v.cells.toList) (ys.flatMap IV.cells)/\(∀v∈rs,v.cells.size=s)
 | [],[],_,_=>⟨VL.nil,by simp⟩
 | [],_::_,h,_=>by simp[VL] at h
 | _::_,[],h,_=>by simp[VL] at h
 | r::rs,y::ys,h,hf=>by
  simp only[List.all_cons,bAt] at hf;have h0:=h.2 0 r y rfl rfl;obtain⟨_,hlen,hall,hdef⟩:=yJ8 hf.1;have hv:=V.cells h0 (yYs hall) hdef;have hs:VL B L w rs ys:=⟨by have:=h.1;simpa using this,λi a b ha hb=>h.2 (i+1) a b (by simpa using ha) (by simpa using hb)⟩
  obtain⟨h1,h2⟩:=VL.flat hs hf.2;refine⟨by rw[List.flatMap_cons,List.flatMap_cons];exact hv.append h1,λv hm=>?_⟩;rcases List.mem_cons.1 hm with rfl|hm
  ·have:=hv.1;rw[hlen] at this;simpa using this
  ·exact h2 v hm
theorem zK5 {ag:Bool}{s:Nat}{ys:List IV}(h:ys.all (fits ag s)=true):∀x∈ys,x.cells.length=s:=λx hx=>(yJ8 (List.all_eq_true.1 h x hx)).2.1
theorem zJ8 {C:Cx}{X:WS}(hg:Good C X){vs rest:List Value}{ys:List IV}{s cap:Nat}{e:TypeId}{cp:Cap}{so:Option IObj}(hv:C.vl X vs (ys.flatMap IV.cells))(hs:∀x∈ys,x.cells.length=s)
  (hlen:ys.length<=140737488355328) (hcl:ys.length<=cap) (hcap:zQm cp (some ⟨X.w.heap.size,0,none⟩) ys.length cap) (happ:∀g,cp=.app g->cap*s<=(vs++rest).length) :
  C.v (X.new (.cells ⟨vs++rest⟩ e) vs.length so) (.slice (some ⟨X.w.heap.size,0,none⟩) ys.length cap) (.sl ⟨true,cp,s⟩ ys):=by
 have hvl:vs.length=ys.length*s:=by rw[hv.1,yZp ys hs]
 refine .sl _ _ _ _ e vs hcap hlen hcl hs hvl (λg hg=>?_) (λ_ ad ha=>?_) (λ_=>?_) (λi r c hr hc=>((hg.new_ext _ _ _).vl hv).2 i r c hr hc)
 ·simp only at hg;subst hg;simp only[zQm,Option.some.injEq,Addr.mk.injEq,and_self,and_true] at hcap;refine⟨e,(vs++rest).length,?_,happ g rfl⟩;rw[<- hcap];simp only[shq,WS.new,yQn];rfl
 ·cases ha;refine⟨hg.B,Nat.zero_mod _,?_⟩;simp only[ety,shq,WS.new,yQn,Option.map_some]
 ·refine⟨_,rfl,rfl,?_,λi r hr=>?_⟩
  ·simp[WS.new]
  ·have hi:=(lGs hr).1;rw[Nat.zero_add];simp only[WS.new];rw[yZm (yQn X.w _)];grind
section
variable {C:Cx}{X0 X:WS}{N:Nat}{fr:Fr}{ds:List Dfd}{a:Act}{ad:Ad}{K:Kt}{ro:Option Nat}{n:Nat}{Q:Exit->Act->World->Prop}{o:Oper}
variable (hA:At C X0 N X fr ds a ad o.dst)
include hA
theorem xZ6 {T:TypeId}{parts:Array (Nat×Operand)}(ho:o.op=.build T parts)
  (h:chk (yZ9 C.P T=true) (yQ6 (yX3 C.P T) λz=>yQ6 (yW6 C.P C.gl fr T z.cells parts.toList) λcs=>finK o.dst K ad fr (.val (.agg cs)) X.st ds)):o.wpIn (yZ3 ro) n C.P a X.w (PK C X0 N K) Q:=by
 obtain⟨hfs,h1⟩:=h;obtain⟨z,hz,h2⟩:=yQ4.1 h1;clear h1;obtain⟨cs,hcs,h⟩:=yQ4.1 h2;clear h2;have hnd:∀c,o.op≠.defer c:=by rw[ho];intro c hc;cases hc
 unfold yZ9 at hfs;split at hfs
 ·rename_i fs hT;obtain⟨v,hrun,hv,hdef,hall⟩:=zXd hz X.w;have hvl:=V.cells (hv C.B X.L X.w) (yYs hall) hdef;obtain⟨out,hout,hov⟩:=yU0 hA.inv (λi fo ag n h=>xY6 hT h) parts.toList v.cells z.cells cs hvl hcs;have hm:=yYf (P:=C.P) X.w fs.toList (λf hf=>by
   have:=List.all_eq_true.1 hfs f hf;cases hq:C.P.info? f.type with
   | none=>simp[hq] at this
   | some i=>exact⟨i,rfl⟩)
  have hma:(fs.mapM (λf=>do pure (f.offset,<- sizeOf f.type):Field->Sem (Nat×Nat))).run C.P X.w=.ok (fs.map λf=>(f.offset,C.P.cellsOf f.type)) X.w:=by
   rw[Array.mapM_eq_mapM_toList];simp only[Sem.run_map,hm,Result.andThen_ok];congr 1;grind
  have hr:(execOp a.eval o).run C.P X.w=.ok (.value (.agg out)) X.w:=by
   unfold execOp;rw[ho];have hp:(parts.map λp=>(p.1,a.eval p.2)).toList=parts.toList.map λp=>(p.1,a.eval p.2):=by simp
   simp only[Instr.build,Sem.run_bind,hrun,Result.andThen_ok,run_underlying hT];rw[hma];simp only[Result.andThen_ok,hp,hout,Sem.run_pure]
  exact yQd hr hnd (hA.val hov.agg h)
 ·rename_i len e hT;obtain⟨v,hrun,hv,hdef,hall⟩:=zXd hz X.w;have hvl:=V.cells (hv C.B X.L X.w) (yYs hall) hdef;obtain⟨out,hout,hov⟩:=yU0 (place:=λi=>some (i*C.P.cellsOf e,C.P.cellsOf e)) hA.inv (λi fo ag n h=>by obtain⟨h1,h2⟩:=wZb hT h;rw[h1,h2]) parts.toList v.cells z.cells cs hvl hcs;obtain⟨ie,hie⟩:=Option.isSome_iff_exists.1 hfs;have hr:(execOp a.eval o).run C.P X.w=.ok (.value (.agg out)) X.w:=by
   unfold execOp;rw[ho];have hp:(parts.map λp=>(p.1,a.eval p.2)).toList=parts.toList.map λp=>(p.1,a.eval p.2):=by simp
   simp only[Instr.build,Sem.run_bind,hrun,Result.andThen_ok,run_underlying hT,run_sizeOf X.w hie,hp,hout,Sem.run_pure]
  exact yQd hr hnd (hA.val hov.agg h)
 ·cases hfs
theorem zZi {esc:List Nat}{T:TypeId}{len:Nat}{parts:Array (Nat×Operand)}(ho:o.op=.buildSlice T len parts)
  (h:yQ6 (slI C.P T) λe=>chk (yZk len parts.toList=true/\len*e.2.2.1<=16777216/\1<=e.2.2.1) <|
   yQ6 (evL C.gl fr (parts.toList.map (·.2))) λys=>chk (ys.all (fits e.2.1 e.2.2.1)=true) (zY2 esc o.dst e.2.2.1 ys (finK o.dst K ad fr) X.st ds)) :
  o.wpIn (yZ3 ro) n C.P a X.w (PK C X0 N K) Q:=by
 obtain⟨⟨e,ag,s,by_⟩,hs,⟨hord,hbig,hs0⟩,h1⟩:=yQ4.1 h;clear h;obtain⟨ys,hys,hall,h⟩:=yQ4.1 h1;clear h1;simp only at hbig hs0 hall h;have hnd:∀c,o.op≠.defer c:=by rw[ho];intro c hc;cases hc
 obtain⟨hT,hty,i,hi,hz,_⟩:=yWb hs;have hvl:=wQx hA.inv.good hA.inv.fr hys;obtain⟨hflat,hsz⟩:=VL.flat hvl hall;have hcells:=zK5 hall;unfold yZk at hord;have hord':parts.toList.map (·.1)=List.range len:=by simpa using hord
 have hplen:parts.toList.length=len:=by have:=congrArg List.length hord';simpa using this
 have hylen:ys.length=len:=by have:=hvl.1;rw[List.length_map,List.length_map,hplen] at this;exact this.symm
 have hparts:(parts.map λp=>(p.1,a.eval p.2)).toList=(((parts.toList.map (·.2)).map a.eval).zipIdx 0).map λx=>(x.2,x.1):=by
  rw[Array.toList_map];apply List.ext_getElem
  ·simp
  ·intro k hk1 hk2;have hk:k<parts.toList.length:=by simpa using hk1
   have hfst:(parts.toList[k]).1=k:=by
    have h0:(parts.toList.map (·.1))[k]?=some (parts.toList[k]).1:=by rw[List.getElem?_map,List.getElem?_eq_getElem hk];rfl
    grind
   grind
 obtain⟨z,hz'⟩:=Option.isSome_iff_exists.1 hz;have hzrun:(zeroValue e).run C.P X.w=.ok z X.w:=by simp only[zeroValue,Sem.run_bind,run_typeInfo X.w hi,Result.andThen_ok,hz',Sem.run_pure]
 have hfill:∀zc:Array Value,zc.size=len*s->Instr.fill (λi=>some (i*s,s)) zc ((((parts.toList.map (·.2)).map a.eval).zipIdx 0).map λx=>(x.2,x.1)) =
   some (((parts.toList.map (·.2)).map a.eval).flatMap λv=>v.cells.toList).toArray:=λzc hzc =>
  Great.fill_whole hs0 ((parts.toList.map (·.2)).map a.eval) zc hsz (by simp only[List.length_map];rw[hplen,hzc])
 have hfl:(((parts.toList.map (·.2)).map a.eval).flatMap λv=>v.cells.toList).length=len*s:=by rw[hflat.1,yZp ys hcells,hylen]
 have hr:(execOp a.eval o).run C.P X.w=.ok (.value (.slice (some ⟨X.w.heap.size,0,none⟩) len len)) (X.w.alloc (.cells (((parts.toList.map (·.2)).map a.eval).flatMap λv=>v.cells.toList).toArray e)):=by
  unfold execOp;rw[ho];have h2:=(yXv hty X.w).2;have hnb:¬ len*s > 2 ^ 24:=by omega
  by_cases h0:len*s=0
  ·simp only[Instr.buildSlice,Sem.run_bind,run_underlying hT,Result.andThen_ok,h2,if_neg hnb,if_pos h0,Sem.run_pure,hparts];rw[hfill _ (by simp)];simp[newRow]
  ·simp only[Instr.buildSlice,Sem.run_bind,run_underlying hT,Result.andThen_ok,h2,if_neg hnb,if_neg h0,hzrun,Sem.run_pure,hparts];rw[hfill _ (by simp)];simp[newRow]
 unfold zY2 at h;split at h
 case isTrue =>
  have hnone:X.st X.w.heap.size=none:=by
   cases hs:X.st X.w.heap.size with
   | none=>rfl
   | some o=>have:=hA.inv.good.lt hs;omega
  have h:=h X.w.heap.size hnone;have hI:=hA.inv.new (.cells ⟨((parts.toList.map (·.2)).map a.eval).flatMap λv=>v.cells.toList⟩ e) 0 (some (.box (ys.flatMap IV.cells))) (λi hi=>by
   cases hi;exact⟨by simp[WS.new],_,e,yQn _ _,(hA.inv.good.new_ext _ 0 _).vl hflat⟩)
  rw[hylen] at h;exact yQd hr hnd (yZx (x:=.raw (.slice (some ⟨X.w.heap.size,0,none⟩) len len)) hI hA.ad hA.hd (.raw _ trivial) h)
 have hns:=zJ8 (cp:=.full) (so:=none) (rest:=[]) (e:=e) hA.inv.good hflat hcells (by rw[hylen];have:len<=len*s:=Nat.le_mul_of_pos_right _ hs0;omega) (Nat.le_refl _) rfl (λg hg=>by cases hg);rw[hylen,List.append_nil,hfl] at hns;have hI:=hA.inv.new (.cells ⟨((parts.toList.map (·.2)).map a.eval).flatMap λv=>v.cells.toList⟩ e) (len*s) none (λi hi=>by cases hi);have hst:(X.new (.cells ⟨((parts.toList.map (·.2)).map a.eval).flatMap λv=>v.cells.toList⟩ e) (len*s) none).st=X.st:=by
  funext b;simp only[WS.new];split
  ·rename_i hb;cases hq:X.st b with
   | none=>rfl
   | some o=>have:=hA.inv.good.lt hq;omega
  ·rfl
 exact yQd hr hnd (yZx hI hA.ad hA.hd hns (by rw[hst];exact h))
theorem zWe {T:TypeId}(ho:o.op=.makeMap T none)(h0:yQ6 (mapI C.P T) λkz=>∀b,giv (X.st b=none) (finK o.dst K ad fr (.val (.raw (.map (some b)))) (X.st.put b (some (.map kz.1 []))) ds)) :
  o.wpIn (yZ3 ro) n C.P a X.w (PK C X0 N K) Q:=by
 have hnd:∀c,o.op≠.defer c:=by rw[ho];intro c hc;cases hc
 obtain⟨kz,_,h⟩:=yQ4.1 h0;have hnone:X.st X.w.heap.size=none:=by
  cases hs:X.st X.w.heap.size with
  | none=>rfl
  | some o=>have:=hA.inv.good.lt hs;omega
 have hr:(execOp a.eval o).run C.P X.w=.ok (.value (.map (some X.w.heap.size))) (X.w.alloc (.map #[] 0)):=by
  unfold execOp;rw[ho];simp[Instr.makeMap]
 have hI:=hA.inv.new (.map #[] 0) 0 (some (.map kz.1 [])) (λi hi=>by
  cases hi;refine⟨by simp[WS.new],by simp,by simp,#[],0,yQn _ _,rfl,VL.nil,by simp,by simp⟩)
 exact yQd hr hnd (yZx (x:=.raw (.map (some X.w.heap.size))) hI hA.ad hA.hd (.raw _ trivial) (h X.w.heap.size hnone))
end
def WS.obj (X:WS)(g:Nat)(o:Obj)(so:Option IObj):WS :=
 { w:={ X.w with heap:=X.w.heap.setIfInBounds g o },L:=X.L,st:=λb=>if b=g then so else X.st b,d:=X.d }
section
variable {C:Cx}{X:WS}{g:Nat}{o o':Obj}{so:Option IObj}
theorem yVg (hh:X.w.heap[g]?=some o):(X.obj g o' so).w.heap[g]?=some o':=(MapKept.heap_set hh).1
theorem yXf (hh:X.w.heap[g]?=some o){b:Nat}(hb:b≠g):(X.obj g o' so).w.heap[b]?=X.w.heap[b]?:=(MapKept.heap_set hh).2 b hb
theorem yUd (hh:X.w.heap[g]?=some o)(hn:∀c T f,o≠.cells c T f)(hn':∀c T f,o'≠.cells c T f)(b i:Nat):(X.obj g o' so).w.cell? ⟨b,i,none⟩=X.w.cell? ⟨b,i,none⟩:=by
 by_cases hb:b=g
 ·subst hb;simp only[World.cell?,yVg hh,hh];grind
 ·exact yGb (yXf hh hb) i
theorem yYk (hh:X.w.heap[g]?=some o)(hn:∀c T f,o≠.cells c T f)(b:Nat)(p:(TypeId×Nat)×Bool)(hp:shq X.w b=some p):shq (X.obj g o' so).w b=some p:=by
 by_cases hb:b=g
 ·subst hb;simp only[shq,hh] at hp;grind
 ·exact (yWe (yXf hh hb)).trans hp
theorem zY0 (hh:X.w.heap[g]?=some o)(hn:∀c T f,o≠.cells c T f)(hn':∀c T f,o'≠.cells c T f){r:Value}{x:IV}(hv:C.v X r x):C.v (X.obj g o' so) r x :=
 V.mono hv (λ_=>Nat.le_refl _) (λb i _=>yUd hh hn hn' b i) (yYk hh hn)
theorem Good.obj (h:Good C X)(hh:X.w.heap[g]?=some o)(hn:∀c T f,o≠.cells c T f)(hn':∀c T f,o'≠.cells c T f)(hso:∀i,so=some i->ObjOk C (X.obj g o' so) g i):Good C (X.obj g o' so) where
 ok b i hb:=by
  by_cases hbs:b=g
  ·subst hbs;simp only[WS.obj,if_true] at hb;exact hso i hb
  ·have hb':X.st b=some i:=by simpa only[WS.obj,if_neg hbs] using hb
   exact (h.ok b i hb').mono (yXf hh hbs) rfl (λ_ _ hv=>⟨hv.1,λi r x hr hx=>zY0 hh hn hn' (hv.2 i r x hr hx)⟩)
 gl g' x hg:=zY0 hh hn hn' (h.gl g' x hg)
 gsh g' x hg:=by obtain⟨T',z,hT⟩:=h.gsh g' x hg;exact⟨T',z,yYk hh hn g' _ hT⟩
 B:=by simp only[WS.obj,Array.size_setIfInBounds];exact h.B
 Lnew b hb:=by simp only[WS.obj,Array.size_setIfInBounds] at hb ⊢;exact h.Lnew b hb
 dr:=h.dr
theorem Ext.obj {X0:WS}(he:Ext X0 X)(hh:X.w.heap[g]?=some o)(hn:∀c T f,o≠.cells c T f)(hn':∀c T f,o'≠.cells c T f)(hown:X0.w.heap.size<=g\/X0.st g≠none):Ext X0 (X.obj g o' so) where
 os:=he.os
 tape:=he.tape
 output:=he.output
 size:=by simp only[WS.obj,Array.size_setIfInBounds];exact he.size
 lmono b:=he.lmono b
 cells b i hi:=by
  rw[<- he.cells b i hi];exact yUd hh hn hn' b i
 keep b hb hs:=by
  have hbg:b≠g:=by
   grind
  rw[yXf hh hbg];exact he.keep b hb hs
 dom b hb hs:=by
  have hbg:b≠g:=by
   grind
  simp only[WS.obj];rw[if_neg hbg];exact he.dom b hb hs
 shape b p hp:=yYk hh hn b p (he.shape b p hp)
 d:=he.d
theorem Inv.obj {X0:WS}{N:Nat}{fr:Fr}{ds:List Dfd}{a:Act}(h:Inv C X0 N X fr ds a)(hh:X.w.heap[g]?=some o)(hn:∀c T f,o≠.cells c T f)(hn':∀c T f,o'≠.cells c T f)(hst:X.st g≠none)
  (hso:∀i,so=some i->ObjOk C (X.obj g o' so) g i):Inv C X0 N (X.obj g o' so) fr ds a:=by
 have hown:X0.w.heap.size<=g\/X0.st g≠none:=by
  rcases Nat.lt_or_ge g X0.w.heap.size with hlt|hge
  ·exact .inr λh0=>hst (h.ext.dom g hlt h0)
  ·exact .inl hge
 refine⟨h.good.obj hh hn hn' hso,h.ext.obj hh hn hn' hown,⟨λt=>(h.fr.slot t).mono (λ_ _=>zY0 hh hn hn') ?_,h.fr.inj⟩,h.size,h.ds.mono (λ_ _=>zY0 hh hn hn') ?_⟩
 ·intro b cs _ _ hb _ _;have hbg:b≠g:=by rintro rfl;exact hst hb
  exact⟨yXf hh hbg,rfl,by simp only[WS.obj];rw[if_neg hbg];exact hb⟩
 ·intro r h1 h2 _;have hbg:r≠g:=by rintro rfl;exact hst h2
  exact⟨(yXf hh hbg).trans h1,by simp only[WS.obj];rw[if_neg hbg];exact h2⟩
end
theorem vJp (m:Option Nat)(s:Nat)(e:Array Nat)(k:Nat):∀c T f,Obj.mapIter m s e k≠.cells c T f:=by intro c T f hc;cases hc
theorem wWz {v:Value}{k:IV}(h:keyI v=some k)(B:Nat)(L:Nat->Nat)(w:World):V B L w v k:=by
 unfold keyI at h;split at h
 ·split at h
  ·rename_i hs;cases h;exact .raw (.string _) hs
  ·cases h
 ·cases h;exact .raw _ trivial
 ·rename_i cs;obtain⟨l⟩:=cs;split at h
  ·rename_i s k' n hl;simp only at hl;subst hl;split at h
   ·rename_i hs;cases h;exact (VL.cons (.raw (.string s) hs) (VL.cons (.raw (.int k' n) trivial) VL.nil)).agg
   ·cases h
  ·rename_i s k' n hl;simp only at hl;subst hl;cases h;exact (VL.cons (.raw (.bool s) trivial) (VL.cons (.raw (.int k' n) trivial) VL.nil)).agg
  ·rename_i k' n s hl;simp only at hl;subst hl;cases h;exact (VL.cons (.raw (.int k' n) trivial) (VL.cons (.raw (.bool s) trivial) VL.nil)).agg
  ·cases h
 ·cases h
structure KeyRun (P:Program)(kt:TypeId)(kk:KeyK):Prop where
 check:∀(w:World) (em:Bool) {v:Value},yZ1 kk v=true->(Instr.checkKey em 10000 kt v).run P w=.ok () w
 find:∀(w:World) {x:Value},yZ1 kk x=true->∀es:List MapEntry,(∀e∈es,yZ1 kk e.key=true) →
  ((Instr.findKey kt x es).run P w=.ok none w/\∀e∈es,e.key≠x)\/∃j e,(Instr.findKey kt x es).run P w=.ok (some (j,e.val)) w/\es[j]?=some e/\e.key=x
 stays:∀(w:World) {v:Value},yZ1 kk v=true->(Instr.keyThatStays v v).run P w=.ok v w
theorem KeyRun.plain {P:Program}{kt:TypeId}{kk:KeyK}{d:TypeDesc}(hd:P.underlying kt=some d)(hk:∀v,yZ1 kk v=true->MapKept.IsKey d v):KeyRun P kt kk where
 check w em v hv:=MapKept.run_checkKey hd (hk v hv) em 9999
 find w x hx es hes:=by
  rcases MapKept.findNow_spec (hk x hx) es 0 (λy hy=>hk _ (hes y hy)) with⟨h1,h2⟩|⟨j,e,h1,h2,h3⟩
  ·exact .inl ⟨MapKept.run_findKey hd h1,h2⟩
  ·exact .inr ⟨j,e,by rw[MapKept.run_findKey hd h1,Nat.zero_add],h2,h3⟩
 stays w v hv:=MapKept.run_keyThatStays (hk v hv)
theorem zW9 {v:Value}(h:yZ1 .sym v=true):∃s n,v=.agg #[.string s,.int .i64 n]/\s.size<=281474976710656 /\ -9223372036854775808<=n/\n<=9223372036854775807:=by
 cases v with
 | agg cs =>
  obtain⟨l⟩:=cs;change symK l=true at h;unfold symK at h;grind
 | _=>simp[yZ1] at h
theorem wXr {P:Program}{k:TypeId}{fs:List Field}(h:symT P k fs=true):∃f g,fs=[f,g]/\P.keyType k=true/\P.keyTypeAt 2 k=true/\P.tiled 2 k=true/\(f.name != "_")=true/\(g.name != "_")=true/\f.offset=0/\g.offset=1/\P.cellsOf k=2/\P.cellsOf f.type=1/\P.cellsOf g.type=1/\0<P.types.size /\
  P.underlying f.type=some .string/\P.underlying g.type=some (.int .i64):=by
 unfold symT at h;grind
theorem KeyRun.ofSym {P:Program}{k:TypeId}{fs:Array Field}(hu:P.underlying k=some (.struct fs))(h:symT P k fs.toList=true):KeyRun P k .sym:=by
 obtain⟨f,g,hfs,h1,h2,h3,h4,h5,h6,h7,h8,h9,h10,h11,h12,h13⟩:=wXr h;have law:WideMaps.KeyLaw P k:=deep_law (m:=2) (by omega) h2 h3 (by rw[hu]);have key:∀v,yZ1 .sym v=true->∃l,keyOf P k v=some l:=λv hv=>by
  obtain⟨s,n,rfl,q1,q2,q3⟩:=zW9 hv;obtain⟨D,hD⟩:∃D,P.types.size=D+1:=⟨P.types.size-1,by omega⟩
  have hfs':fs=#[f,g]:=by cases fs;simp_all
  subst hfs';have hwf:(Lit.int .i64 n).wf=true:=by
   simp only[Lit.wf,bAt,dTe];exact⟨q2,q3⟩
  have hlits:P.keyLits (P.types.size+1) k [.string s,.int .i64 n]=some [.string s.data.toList,.int .i64 n]:=by
   rw[hD];have hs:s.size<=maxLen:=Nat.le_trans q1 (by decide);simp[Program.keyLits,hu,h8,h4,h5,h6,h7,h9,h10,h12,h13,hs,hwf]
  refine⟨.string (keyBytes [.string s.data.toList,.int .i64 n]),?_⟩;unfold keyOf;simp only[hu,h1,Value.formed,h8];simp[Value.cells,hlits]
 refine⟨λw em v hv=>?_,λw x hx es hes=>?_,λw v hv=>?_⟩
 ·obtain⟨l,hl⟩:=key v hv;exact law.check w em hl
 ·obtain⟨l,hl⟩:=key x hx;exact law.find w hl es λe he=>key _ (hes e he)
 ·obtain⟨l,hl⟩:=key v hv;exact law.stays w hl
theorem xZa {v:Value}(h:yZ1 .sg v=true):∃b n,v=.agg #[.bool b,.int .u8 n]/\0<=n/\n<=255:=by
 cases v with
 | agg cs =>
  obtain⟨l⟩:=cs;change sgK l=true at h;unfold sgK at h;grind
 | _=>simp[yZ1] at h
theorem wGc {P:Program}{k:TypeId}{fs:List Field}(h:sgT P k fs=true):∃f g,fs=[f,g]/\P.keyType k=true/\P.keyTypeAt 2 k=true/\P.tiled 2 k=true/\(f.name != "_")=true/\(g.name != "_")=true/\f.offset=0/\g.offset=1/\P.cellsOf k=2/\P.cellsOf f.type=1/\P.cellsOf g.type=1/\0<P.types.size /\
  P.underlying f.type=some .bool/\P.underlying g.type=some (.int .u8):=by
 unfold sgT at h;grind
theorem KeyRun.ofSg {P:Program}{k:TypeId}{fs:Array Field}(hu:P.underlying k=some (.struct fs))(h:sgT P k fs.toList=true):KeyRun P k .sg:=by
 obtain⟨f,g,hfs,h1,h2,h3,h4,h5,h6,h7,h8,h9,h10,h11,h12,h13⟩:=wGc h;have law:WideMaps.KeyLaw P k:=deep_law (m:=2) (by omega) h2 h3 (by rw[hu]);have key:∀v,yZ1 .sg v=true->∃l,keyOf P k v=some l:=λv hv=>by
  obtain⟨b,n,rfl,q2,q3⟩:=xZa hv;obtain⟨D,hD⟩:∃D,P.types.size=D+1:=⟨P.types.size-1,by omega⟩
  have hfs':fs=#[f,g]:=by cases fs;simp_all
  subst hfs';have hwf:(Lit.int .u8 n).wf=true:=by
   simp only[Lit.wf,bAt,dTe];exact⟨q2,q3⟩
  have hlits:P.keyLits (P.types.size+1) k [.bool b,.int .u8 n]=some [.bool b,.int .u8 n]:=by
   rw[hD];simp[Program.keyLits,hu,h8,h4,h5,h6,h7,h9,h10,h12,h13,hwf]
  refine⟨.string (keyBytes [.bool b,.int .u8 n]),?_⟩;unfold keyOf;simp only[hu,h1,Value.formed,h8];simp[Value.cells,hlits]
 refine⟨λw em v hv=>?_,λw x hx es hes=>?_,λw v hv=>?_⟩
 ·obtain⟨l,hl⟩:=key v hv;exact law.check w em hl
 ·obtain⟨l,hl⟩:=key x hx;exact law.find w hl es λe he=>key _ (hes e he)
 ·obtain⟨l,hl⟩:=key v hv;exact law.stays w hl
theorem xZi {v:Value}(h:yZ1 .pl v=true):∃n b,v=.agg #[.int .i64 n,.bool b] /\ -9223372036854775808<=n/\n<=9223372036854775807:=by
 cases v with
 | agg cs =>
  obtain⟨l⟩:=cs;change plK l=true at h;unfold plK at h;grind
 | _=>simp[yZ1] at h
theorem wGz {P:Program}{k:TypeId}{fs:List Field}(h:plT P k fs=true):∃f g,fs=[f,g]/\P.keyType k=true/\P.keyTypeAt 2 k=true/\P.tiled 2 k=true/\(f.name != "_")=true/\(g.name != "_")=true/\f.offset=0/\g.offset=1/\P.cellsOf k=2/\P.cellsOf f.type=1/\P.cellsOf g.type=1/\0<P.types.size /\
  P.underlying f.type=some (.int .i64)/\P.underlying g.type=some .bool:=by
 unfold plT at h;grind
theorem KeyRun.ofPl {P:Program}{k:TypeId}{fs:Array Field}(hu:P.underlying k=some (.struct fs))(h:plT P k fs.toList=true):KeyRun P k .pl:=by
 obtain⟨f,g,hfs,h1,h2,h3,h4,h5,h6,h7,h8,h9,h10,h11,h12,h13⟩:=wGz h;have law:WideMaps.KeyLaw P k:=deep_law (m:=2) (by omega) h2 h3 (by rw[hu]);have key:∀v,yZ1 .pl v=true->∃l,keyOf P k v=some l:=λv hv=>by
  obtain⟨n,b,rfl,q2,q3⟩:=xZi hv;obtain⟨D,hD⟩:∃D,P.types.size=D+1:=⟨P.types.size-1,by omega⟩
  have hfs':fs=#[f,g]:=by cases fs;simp_all
  subst hfs';have hwf:(Lit.int .i64 n).wf=true:=by
   simp only[Lit.wf,bAt,dTe];exact⟨q2,q3⟩
  have hlits:P.keyLits (P.types.size+1) k [.int .i64 n,.bool b]=some [.int .i64 n,.bool b]:=by
   rw[hD];simp[Program.keyLits,hu,h8,h4,h5,h6,h7,h9,h10,h12,h13,hwf]
  refine⟨.string (keyBytes [.int .i64 n,.bool b]),?_⟩;unfold keyOf;simp only[hu,h1,Value.formed,h8];simp[Value.cells,hlits]
 refine⟨λw em v hv=>?_,λw x hx es hes=>?_,λw v hv=>?_⟩
 ·obtain⟨l,hl⟩:=key v hv;exact law.check w em hl
 ·obtain⟨l,hl⟩:=key x hx;exact law.find w hl es λe he=>key _ (hes e he)
 ·obtain⟨l,hl⟩:=key v hv;exact law.stays w hl
theorem zY3 {P:Program}{T:TypeId}{kz:KeyK×IV}(h:mapI P T=some kz):∃kt e,P.underlying T=some (.map kt e)/\yX3 P e=some kz.2/\KeyRun P kt kz.1:=by
 unfold mapI at h;split at h
 ·rename_i k e hT;split at h
  ·rename_i z hk hz;cases h;exact⟨k,e,hT,hz,.plain hk λv hv=>by cases v<;>simp[yZ1,MapKept.IsKey] at hv ⊢⟩
  ·rename_i i z hk hz;cases h;exact⟨k,e,hT,hz,.plain hk λv hv=>by cases v<;>simp[yZ1,MapKept.IsKey] at hv ⊢;exact hv.symm⟩
  ·rename_i fs z hk hz;split at h
   ·rename_i hs;cases h;exact⟨k,e,hT,hz,.ofSym hk hs⟩
   ·split at h
    ·rename_i hs;cases h;exact⟨k,e,hT,hz,.ofSg hk hs⟩
    ·split at h
     ·rename_i hs;cases h;exact⟨k,e,hT,hz,.ofPl hk hs⟩
     ·cases h
  ·cases h
 ·cases h
theorem zJh {kk:KeyK}{a b:Value}(ha:yZ1 kk a=true)(hb:yZ1 kk b=true):yKs a b=true↔a=b:=by
 cases kk with
 | sym =>
  obtain⟨s,n,rfl,_⟩:=zW9 ha;obtain⟨s',n',rfl,_⟩:=zW9 hb;simp[yKs,xYx]
 | sg =>
  obtain⟨s,n,rfl,_⟩:=xZa ha;obtain⟨s',n',rfl,_⟩:=xZa hb;simp[yKs,xYx]
 | pl =>
  obtain⟨s,n,rfl,_⟩:=xZi ha;obtain⟨s',n',rfl,_⟩:=xZi hb;simp[yKs,xYx]
 | _=>cases a<;>cases b<;>simp_all [yZ1,yKs]
theorem xJ8 {kk:KeyK}{key:Value}(hk:yZ1 kk key=true)(y:IV):∀(es:List (Value×IV)),(∀p∈es,yZ1 kk p.1=true)->(∀p∈es,p.1≠key)->yXl key es=none/\updI key y es=es++[(key,y)]
 | [],_,_=>⟨rfl,rfl⟩
 | (k,x)::es,hf,hn=>by
  have hne:yKs key k=false:=by
   cases hb:yKs key k with
   | false=>rfl
   | true=>exact absurd ((zJh hk (hf _ (.head _))).1 hb).symm (hn _ (.head _))
  obtain⟨h1,h2⟩:=xJ8 hk y es (λp hp=>hf p (.tail _ hp)) (λp hp=>hn p (.tail _ hp));exact⟨by simp only[yXl,hne,bFt,if_false,h1],by simp only[updI,hne,bFt,if_false,h2,List.cons_append]⟩
theorem xJ7 {kk:KeyK}{key:Value}(hk:yZ1 kk key=true)(y:IV):∀(es:List (Value×IV)) (j:Nat),(∀p∈es,yZ1 kk p.1=true)->(es.map (·.1)).Nodup->(es.map (·.1))[j]?=some key →
  ∃x,es[j]?=some (key,x)/\yXl key es=some x/\updI key y es=es.set j (key,y)
 | [],_,_,_,h=>by simp at h
 | (k,x)::es,0,hf,_,h=>by
  simp only[List.map_cons,List.getElem?_cons_zero,Option.some.injEq] at h;subst h;have hq:=(zJh hk hk).2 rfl;exact⟨x,rfl,by simp only[yXl,hq,if_true],by simp only[updI,hq,if_true,List.set_cons_zero]⟩
 | (k,x)::es,j+1,hf,hn,h=>by
  simp only[List.map_cons,List.getElem?_cons_succ] at h;rw[List.map_cons,List.nodup_cons] at hn;have hne:yKs key k=false:=by
   cases hb:yKs key k with
   | false=>rfl
   | true =>
    have:=(zJh hk (hf _ (.head _))).1 hb;grind
  obtain⟨z,h1,h2,h3⟩:=xJ7 hk y es j (λp hp=>hf p (.tail _ hp)) hn.2 h;exact⟨z,by simpa using h1,by simp only[yXl,hne,bFt,if_false,h2],by simp only[updI,hne,bFt,if_false,h3,List.set_cons_succ]⟩
theorem xQ2 {P:Program}{kt:TypeId}{kk:KeyK}(K:KeyRun P kt kk){key:Value}(hk:yZ1 kk key=true)(y:IV)(l:List MapEntry)(es:List (Value×IV))(w:World)
  (hm:l.map (·.key)=es.map (·.1)) (hf:∀p∈es,yZ1 kk p.1=true) (hn:(es.map (·.1)).Nodup) :
  ((Instr.findKey kt key l).run P w=.ok none w/\yXl key es=none/\updI key y es=es++[(key,y)]/\key ∉ es.map (·.1)) \/
  ∃j e x,(Instr.findKey kt key l).run P w=.ok (some (j,e.val)) w/\l[j]?=some e/\e.key=key/\es[j]?=some (key,x)/\yXl key es=some x/\updI key y es=es.set j (key,y):=by
 have hl:∀e∈l,yZ1 kk e.key=true:=λe he=>by
  have:e.key∈es.map (·.1):=hm▸List.mem_map_of_mem he;grind
 rcases K.find w hk l hl with⟨h1,h2⟩|⟨j,e,h1,h2,h3⟩
 ·have hno:key ∉ es.map (·.1):=λhc=>by
   grind
  obtain⟨h4,h5⟩:=xJ8 hk y es hf λp hp hq=>hno (hq▸List.mem_map_of_mem hp);grind
 ·obtain⟨x,h4,h5,h6⟩:=xJ7 hk y es j hf hn (by rw[<- hm,List.getElem?_map,h2,Option.map_some,h3]);grind
section
variable {C:Cx}{X0 X:WS}{N:Nat}{fr:Fr}{ds:List Dfd}{a:Act}{ad:Ad}{K:Kt}{ro:Option Nat}{n:Nat}{Q:Exit->Act->World->Prop}{o:Oper}
variable (hA:At C X0 N X fr ds a ad o.dst)
include hA
theorem zGm {T:TypeId}{x y:Operand}{ok:Bool}(ho:o.op=.lookup T x y ok)
  (h:yQ6 (mapI C.P T) λkz=>yQ6 (evV C.gl fr x) λx=>mapV x λm=>yQ6 (evV C.gl fr y) λi=>keyV i λkey=>zQa kz m key ok (finK o.dst K ad fr) X.st ds) :
  o.wpIn (yZ3 ro) n C.P a X.w (PK C X0 N K) Q:=by
 obtain⟨⟨kk,z⟩,hm,h1⟩:=yQ4.1 h;clear h;obtain⟨vx,hx,h2⟩:=yQ4.1 h1;clear h1;obtain⟨m,rfl,h3⟩:=zZy h2;clear h2;obtain⟨vy,hy,h4⟩:=yQ4.1 h3;clear h3;have h5:=xKs (hA.v hy).1 h4;obtain⟨hfit,h⟩:=h5;generalize hke:a.eval y=key at hfit h;clear h4;simp only at hfit h;have hnd:∀c,o.op≠.defer c:=by rw[ho];intro c hc;cases hc
 obtain⟨kt,e,hT,hz,hkey⟩:=zY3 hm;simp only at hz hkey;have ex:=V.raw_inv (hA.v hx).1;have ey:=hke;obtain⟨zv,hzrun,hzv,_⟩:=zXd hz X.w;cases m with
 | none =>
  have hnil:(Instr.findKey kt key #[].toList).run C.P X.w=.ok none X.w:=by
   rcases hkey.find X.w hfit [] (λe he=>by cases he) with⟨h1,_⟩|⟨j,e,_,h2,_⟩
   ·exact h1
   ·simp at h2
  obtain⟨r,hr,h⟩:=yQ4.1 h;simp only[zKi,Option.getD_none,Option.isSome_none,Option.some.injEq] at hr;have hrun:(execOp a.eval o).run C.P X.w=.ok (.value (if ok then .tuple #[zv,.bool false] else zv)) X.w:=by
   unfold execOp;rw[ho];simp only[ex,ey,Instr.lookup,Sem.run_bind,run_underlying hT,Result.andThen_ok,Sem.run_pure,hkey.check _ _ hfit,
    hnil,hzrun]
  refine yQd hrun hnd (hA.val ?_ h);subst hr;cases ok with
  | true=>exact (VL.cons (hzv _ _ _) (VL.cons (.raw (.bool false) trivial) VL.nil)).tup
  | false=>exact hzv _ _ _
 | some b =>
  obtain⟨ob,hob,g1⟩:=yQ4.1 h;clear h;obtain⟨kk',es,rfl,hkk,g2⟩:=xZl g1;clear g1;subst hkk;obtain⟨r,hr,h⟩:=yQ4.1 g2;clear g2;simp only[zKi,Option.some.injEq] at hr;obtain⟨_,hfits,hndk,ents,clock,hh,hkeys,hvals,_,_⟩:=hA.inv.good.ok b _ hob;rcases xQ2 hkey hfit (.raw key) ents.toList es X.w hkeys hfits hndk with⟨a1,a2,_⟩|⟨j,e',x',a1,a2,a3,a4,a5,_⟩
  ·rw[a2] at hr;simp only[Option.getD_none,Option.isSome_none] at hr;have hrun:(execOp a.eval o).run C.P X.w=.ok (.value (if ok then .tuple #[zv,.bool false] else zv)) X.w:=by
    unfold execOp;rw[ho];simp only[ex,ey,Instr.lookup,Sem.run_bind,run_underlying hT,MapKept.run_getObj_map hh,Result.andThen_ok,Sem.run_pure,hkey.check _ _ hfit,a1,hzrun]
   refine yQd hrun hnd (hA.val ?_ h);subst hr;cases ok with
   | true=>exact (VL.cons (hzv _ _ _) (VL.cons (.raw (.bool false) trivial) VL.nil)).tup
   | false=>exact hzv _ _ _
  ·rw[a5] at hr;simp only[Option.getD_some,Option.isSome_some] at hr;have hv:C.v X e'.val x':=hvals.2 j _ _ (by rw[List.getElem?_map,a2];rfl) (by rw[List.getElem?_map,a4];rfl);have hrun:(execOp a.eval o).run C.P X.w=.ok (.value (if ok then .tuple #[e'.val,.bool true] else e'.val)) X.w:=by
    unfold execOp;rw[ho];simp only[ex,ey,Instr.lookup,Sem.run_bind,run_underlying hT,MapKept.run_getObj_map hh,Result.andThen_ok,Sem.run_pure,hkey.check _ _ hfit,a1]
   refine yQd hrun hnd (hA.val ?_ h);subst hr;cases ok with
   | true=>exact (VL.cons hv (VL.cons (.raw (.bool true) trivial) VL.nil)).tup
   | false=>exact hv
theorem yYc {T:TypeId}{x y z:Operand}(ho:o.op=.mapUpdate T x y z\/o.op=.insert T x y z)
  (h:yQ6 (mapI C.P T) λkz=>yQ6 (evV C.gl fr x) λm=>mapV m λm=>yQ6 (evV C.gl fr y) λi=>keyV i λkey=>yQ6 (evV C.gl fr z) λy=>yYa kz m key y (finK o.dst K ad fr) X.st ds) :
  o.wpIn (yZ3 ro) n C.P a X.w (PK C X0 N K) Q:=by
 obtain⟨⟨kk,z0⟩,hm,h1⟩:=yQ4.1 h;clear h;obtain⟨vx,hx,h2⟩:=yQ4.1 h1;clear h1;obtain⟨m,rfl,h3⟩:=zZy h2;clear h2;obtain⟨vy,hy,h4⟩:=yQ4.1 h3;clear h3;have h5:=xKs (hA.v hy).1 h4;clear h4;generalize hke:a.eval y=key at h5;obtain⟨vz,hz,hfit,h⟩:=yQ4.1 h5;clear h5;simp only at hfit h;have hnd:∀c,o.op≠.defer c:=by intro c hc;rw[hc] at ho;rcases ho with ho|ho<;>cases ho
 obtain⟨kt,e,hT,_,hkey⟩:=zY3 hm;simp only at hkey;have ex:=V.raw_inv (hA.v hx).1;have ey:=hke;have hzv:=(hA.v hz).1;cases m with
 | none=>exact h.elim
 | some b =>
  obtain⟨ob,hob,h1⟩:=yQ4.1 h;clear h;obtain⟨kk',es,rfl,hkk,h⟩:=xZl h1;clear h1;subst hkk;obtain⟨hL,hfits,hndk,ents,clock,hh,hkeys,hvals,hborn,hpw⟩:=hA.inv.good.ok b _ hob;have hnc:∀c T f,Obj.map ents clock≠.cells c T f:=by intro c T f hc;cases hc
  have hnc':∀(e:Array MapEntry) (k:Nat),∀c T f,Obj.map e k≠.cells c T f:=by intro e k c T f hc;cases hc
  have fin:∀(ents':Array MapEntry) (clock':Nat) (es':List (Value×IV)),(Instr.mapUpdate T (.map (some b)) key (a.eval z)).run C.P X.w=.ok () { X.w with heap:=X.w.heap.setIfInBounds b (.map ents' clock') } →
    ents'.toList.map (·.key)=es'.map (·.1)->C.vl X (ents'.toList.map (·.val)) (es'.map (·.2))->(∀p∈es',yZ1 kk' p.1=true)->(es'.map (·.1)).Nodup->(∀e∈ents'.toList,e.born<clock') →
    ents'.toList.Pairwise (λe e'=>e.born<e'.born)->updI key vz es=es'->o.wpIn (yZ3 ro) n C.P a X.w (PK C X0 N K) Q:=by
   intro ents' clock' es' hrun h1 h2 h3 h3' h4 h5 h6;have hr:(execOp a.eval o).run C.P X.w=.ok .skip { X.w with heap:=X.w.heap.setIfInBounds b (.map ents' clock') }:=by
    unfold execOp;rcases ho with ho|ho<;>rw[ho]<;>simp only[ex,ey,hrun,Sem.run_bind,Result.andThen_ok,Sem.run_pure]
   refine xZk hr hnd ?_;have hI:=hA.inv.obj (o':=.map ents' clock') (so:=some (.map kk' es')) hh hnc (hnc' _ _) (by rw[hob];simp) (λi hi=>by
    cases hi;exact⟨hL,h3,h3',ents',clock',yVg hh,h1,⟨h2.1,λi r x hr hx=>zY0 hh hnc (hnc' _ _) (h2.2 i r x hr hx)⟩,h4,h5⟩)
   rw[h6] at h;exact vQ6 hI hA.ad h
  rcases xQ2 hkey hfit vz ents.toList es X.w hkeys hfits hndk with⟨a1,_,a3,a3'⟩|⟨j,e',x',a1,a2,a3,a4,_,a6⟩
  ·refine fin (ents.push { key,val:=a.eval z,born:=clock }) (clock+1) (es++[(key,vz)]) ?_ ?_ ?_ ?_ ?_ ?_ ?_ a3
   ·simp only[Instr.mapUpdate,Sem.run_bind,run_underlying hT,MapKept.run_getObj_map hh,Result.andThen_ok,hkey.check _ _ hfit,a1,MapKept.run_setObj_map _ hh]
   ·simp[hkeys]
   ·simp only[Array.toList_push,List.map_append,List.map_cons,List.map_nil];exact hvals.append (VL.cons hzv VL.nil)
   ·grind
   ·grind
   ·grind
   ·grind
  ·have hj:ents[j]?=some e':=by simpa using a2
   have hmod:(ents.modify j λe=>{ e with key:=key,val:=a.eval z }).toList=ents.toList.set j { e' with key:=key,val:=a.eval z }:=by
    apply List.ext_getElem?;grind
   refine fin (ents.modify j λe=>{ e with key:=key,val:=a.eval z }) clock (es.set j (key,vz)) ?_ ?_ ?_ ?_ ?_ ?_ ?_ a6
   ·simp only[Instr.mapUpdate,Sem.run_bind,run_underlying hT,MapKept.run_getObj_map hh,Result.andThen_ok,hkey.check _ _ hfit,a1,hj,Option.map_some,Option.getD_some,a3,hkey.stays _ hfit,MapKept.run_setObj_map _ hh]
   ·rw[hmod,List.map_set,List.map_set,hkeys]
   ·rw[hmod,List.map_set,List.map_set];exact hvals.set j hzv
   ·grind
   ·rw[List.map_set];have hjk:(es.map (·.1))[j]?=some key:=by rw[List.getElem?_map,a4];rfl
    rw[show (es.map (·.1)).set j key=es.map (·.1) from by
     apply List.ext_getElem?;intro i;rw[List.getElem?_set];split
     ·rename_i hij;subst hij;rw[if_pos (lGs hjk).1,hjk]
     ·rfl]
    exact hndk
   ·grind
   ·have hp:(ents.toList.map (·.born)).Pairwise (·<·):=List.pairwise_map.2 hpw;have:((ents.modify j λe=>{ e with key:=key,val:=a.eval z }).toList.map (·.born))=ents.toList.map (·.born):=by
     rw[hmod,List.map_set];apply List.ext_getElem?;grind
    grind
theorem zGk {T:TypeId}{x:Operand}(ho:o.op=.range T x)
  (h:yQ6 (mapI C.P T) λ_=>yQ6 (evV C.gl fr x) λx=>mapV x λm=>zV9 m (finK o.dst K ad fr) X.st ds) :
  o.wpIn (yZ3 ro) n C.P a X.w (PK C X0 N K) Q:=by
 obtain⟨kz,hm,h1⟩:=yQ4.1 h;clear h;obtain⟨vx,hx,h2⟩:=yQ4.1 h1;clear h1;obtain⟨m,rfl,h3⟩:=zZy h2;clear h2;have hnd:∀c,o.op≠.defer c:=by rw[ho];intro c hc;cases hc
 obtain⟨kt,e,hT,_,_⟩:=zY3 hm;have ex:=V.raw_inv (hA.v hx).1;cases m with
 | none=>exact h3.elim
 | some b =>
  obtain⟨ob,hob,h1⟩:=yQ4.1 h3;clear h3;obtain⟨ents,clock,rfl,h⟩:=xZp h1;clear h1;obtain⟨hL,hh⟩:=hA.inv.good.ok b _ hob;have hnone:X.st X.w.heap.size=none:=by
   cases hs:X.st X.w.heap.size with
   | none=>rfl
   | some o=>have:=hA.inv.good.lt hs;omega
  have hr:(execOp a.eval o).run C.P X.w=.ok (.value (.pointer (some ⟨X.w.heap.size,0,none⟩))) (X.w.alloc (.mapIter (some b) clock #[] clock)):=by
   unfold execOp;rw[ho];simp only[ex,run_range_map X.w T kt e b ents clock hT hh,Sem.run_bind,Result.andThen_ok,Sem.run_pure]
  have hI2:=hA.inv.new (.mapIter (some b) clock #[] clock) 0 (some (.iter b clock #[] clock)) (λi hi=>by
   cases hi;exact⟨by simp[WS.new],yQn _ _⟩)
  exact yQd hr hnd (yZx (dst:=o.dst) (K:=K) (x:=.raw (.pointer (some ⟨X.w.heap.size,0,none⟩))) hI2 hA.ad hA.hd (.raw _ trivial) (h X.w.heap.size hnone))
theorem xVw {x:Operand}(ho:o.op=.next x false)
  (h:yQ6 (evV C.gl fr x) λx=>adrV x λr=>xWg r (finK o.dst K ad fr) X.st ds) :
  o.wpIn (yZ3 ro) n C.P a X.w (PK C X0 N K) Q:=by
 obtain⟨vx,hx,h2⟩:=yQ4.1 h;clear h;obtain⟨r,rfl,h3⟩:=xVg h2;clear h2;obtain⟨ob,hob,h1⟩:=yQ4.1 h3;clear h3;obtain⟨m,since,seen,c0,rfl,h2⟩:=wQb h1;clear h1;obtain⟨om,hom,h1⟩:=yQ4.1 h2;clear h2;obtain⟨ents,clock,rfl,⟨hold,hsc⟩,hdone,hmore⟩:=xZp h1;clear h1;have hnd:∀c,o.op≠.defer c:=by rw[ho];intro c hc;cases hc
 have ex:=V.raw_inv (hA.v hx).1;obtain⟨hL,hr⟩:=hA.inv.good.ok r _ hob;obtain⟨_,hb⟩:=hA.inv.good.ok m _ hom;have hleft:yY9 ents seen=(leftOf ents seen).toList:=by simp[yY9,leftOf]
 rcases run_next_at (P:=C.P) X.w o.type r m since c0 seen ents clock hr hb (λe he=>(hold e he).1) hsc with⟨h0,hrun⟩|⟨e,he,w1,hw1,hrun⟩
 ·have hrun':(execOp a.eval o).run C.P X.w=.ok (.value (.tuple #[.bool false])) X.w:=by
   unfold execOp;rw[ho];simp only[ex,hrun,Sem.run_bind,Result.andThen_ok,Sem.run_pure]
  exact yQd hrun' hnd (hA.val (VL.cons (.raw (.bool false) trivial) VL.nil).tup (hdone (by rw[hleft];exact List.eq_nil_of_length_eq_zero (by simpa using h0))))
 ·have hrun':(execOp a.eval o).run C.P X.w=.ok (.value (.tuple #[.bool true,e.key,e.val])) (ChangeMaps.setBlock w1 r (.mapIter (some m) since (seen.push e.born) clock)):=by
   unfold execOp;rw[ho];simp only[ex,hrun,Sem.run_bind,Result.andThen_ok,Sem.run_pure]
  have hmem:e∈ents.toList:=by
   rw[<- hleft] at he;exact (List.mem_filter.1 he).1
  obtain⟨k,hk⟩:=Option.isSome_iff_exists.1 (hold e hmem).2;have hc:=hmore e (by rw[hleft];exact he) k hk;have fin:∀Y:WS,Y.w=w1->Y.st=X.st->Inv C X0 N Y fr ds a->Y.L=X.L->o.wpIn (yZ3 ro) n C.P a X.w (PK C X0 N K) Q:=by
   intro Y hYw hYs hI hYL;have hrY:Y.w.heap[r]?=some (.mapIter (some m) since seen c0):=by
    rw[hYw];rcases hw1 with rfl|rfl<;>exact hr
   have hI2:=hI.obj (o':=.mapIter (some m) since (seen.push e.born) clock) (so:=some (.iter m since (seen.push e.born) clock)) hrY (vJp _ _ _ _) (vJp _ _ _ _) (by rw[hYs,hob];simp) (λi hi=>by
    cases hi;exact⟨by show Y.L r=0;rw[hYL];exact hL,yVg hrY⟩)
   refine yQd hrun' hnd ?_;have hw2:(Y.obj r (.mapIter (some m) since (seen.push e.born) clock) (some (.iter m since (seen.push e.born) clock))).w=ChangeMaps.setBlock w1 r (.mapIter (some m) since (seen.push e.born) clock):=by
    rw[<- hYw];rfl
   have hf:=yZx (dst:=o.dst) (K:=K) (x:=.tup [.raw (.bool true),k,.junk]) (v:=.tuple #[.bool true,e.key,e.val]) hI2 hA.ad hA.hd (VL.cons (.raw (.bool true) trivial) (VL.cons (wWz hk _ _ _) (VL.cons (.junk _) VL.nil))).tup (by
    have:(Y.obj r (.mapIter (some m) since (seen.push e.born) clock) (some (.iter m since (seen.push e.born) clock))).st=X.st.put r (some (.iter m since (seen.push e.born) clock)):=by
     rw[<- hYs];rfl
    rw[this];exact hc)
   grind
  rcases hw1 with rfl|rfl
  ·exact fin X rfl rfl hA.inv rfl
  ·exact fin X.drew rfl rfl (hA.inv.ext' hA.inv.good.drew.1 hA.inv.good.drew.2) rfl
theorem xZ3 {x:Operand}(ho:o.op=.entry x)
  (h:yQ6 (evV C.gl fr x) λx=>adrV x λr=>zVw r (finK o.dst K ad fr) X.st ds) :
  o.wpIn (yZ3 ro) n C.P a X.w (PK C X0 N K) Q:=by
 obtain⟨vx,hx,h2⟩:=yQ4.1 h;clear h;obtain⟨r,rfl,h3⟩:=xVg h2;clear h2;obtain⟨ob,hob,h1⟩:=yQ4.1 h3;clear h3;obtain⟨m,since,seen,c0,rfl,h2⟩:=wQb h1;clear h1;obtain⟨om,hom,h1⟩:=yQ4.1 h2;clear h2;obtain⟨ents,clock,rfl,⟨rfl,hnodup⟩,h⟩:=xZp h1;clear h1;obtain⟨k,hk,hfin⟩:=yQ4.1 h;have hnd:∀c,o.op≠.defer c:=by rw[ho];intro c hc;cases hc
 have ex:=V.raw_inv (hA.v hx).1;obtain⟨hL,hr⟩:=hA.inv.good.ok r _ hob;obtain⟨_,hb⟩:=hA.inv.good.ok m _ hom;unfold wQ7 at hk;obtain⟨b,hb1,hk1⟩:=Option.bind_eq_some_iff.1 hk;obtain⟨e,he,hk2⟩:=Option.bind_eq_some_iff.1 hk1;have hem:=List.mem_of_find?_eq_some he;have hbe:e.born=b:=by simpa using List.find?_some he
 obtain⟨seen',hseen⟩:∃s:Array Nat,seen=s.push e.born:=by
  refine⟨seen.pop,?_⟩;grind
 subst hseen;have hrun:(execOp a.eval o).run C.P X.w=.ok (.value (.tuple #[e.key,e.val])) X.w:=by
  unfold execOp;rw[ho];simp only[ex,run_entry_at X.w r m since seen' ents c0 e hr hb hem hnodup,Sem.run_bind,Result.andThen_ok,Sem.run_pure]
 have hlw:xWp ents (seen'.push e.born)=valI e.val:=by
  unfold xWp;rw[hb1,Option.bind_some,he]
 rw[hlw] at hfin;have hvv:C.v X e.val (valI e.val):=by
  generalize e.val=v;cases v<;>first|exact .raw (.int _ _) trivial|exact .junk _
 exact yQd hrun hnd (hA.val (VL.cons (wWz hk2 _ _ _) (VL.cons hvv VL.nil)).tup hfin)
end
