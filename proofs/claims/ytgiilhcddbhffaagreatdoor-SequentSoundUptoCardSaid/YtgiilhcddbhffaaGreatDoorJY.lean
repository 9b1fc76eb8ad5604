/- Walks: Free, FreeTerm, Bound, Fresh. -/
import Derived.Test.YtgiilhcddbhffaaGreatDoorJX
set_option linter.all false
namespace Go.Proofs.Tryz
open Go Go.Iv
set_option maxRecDepth 4000
variable (gl:Nat→Option IV)
theorem wWt (G:Gt gl)(f:Fm)(x:IV)(hx:IsFm f x)(hs:f.size≤1099511627776)(hn:∀ s∈frF f,s.size≤281474976710656)(st:ISt) :
  ICall prog gl 121 [x] st (fun r st'=>∃ tg l,r=.sl tg (strI l)∧okEs tg 1∧zYy (frF f) l∧st'=st):=by
 have hnames:=fun st=>yWi gl f x hx st
 have hset:=fun st=>wJ8 gl 230 [.cptr x] (xXc f) st (by simp only[go_sem]) (fun I=>yVk gl f x hx (by omega) I)
 rw[zZt] at hset
 obtain⟨ks,hk1,hk2,hk3⟩:=wQ9 (frF f)
 have hfl:=zUn f
 obtain⟨o,n,us,sub⟩:=f
 obtain⟨t1,x1,t2,x2,rfl,_⟩:=hx.mk
 refine iI func121 rfl rfl (by kernel_rfl) ?_
 simp(config:=zzC)only[go_sem,fits]
 refine (hnames _).mono ?_
 rintro _ st ⟨rfl,rfl⟩
 simp(config:=zzC)only[go_sem,fits]
 refine (hset _).mono ?_
 rintro _ _ ⟨m,hm,rfl,rfl⟩
 simp(config:=zzC)only[go_sem,fits]
 refine (vKj gl m _).mono ?_
 rintro _ _ ⟨b,hb,rfl,rfl⟩
 have hbm:m≠b:=yXy (ISt.put_same st m _) hb
 have hc:=wV3 gl G m b _ ks hk1 (fun k h=>hn k ((hk2 k).1 h)) (by omega) _ (ISt.put_same (st.put m _) b _) (by rw[yQk hbm,ISt.put_same])
 unfold wGc at hc ⊢
 simp(config:=zzC)only[go_sem,fits]
 refine hc.mono ?_
 rintro _ _ ⟨tg,l,rfl,htg,hl,rfl⟩
 simp(config:=zzC)only[go_sem,fits]
 refine yQb (st':=st) ?_ ⟨tg,l,rfl,htg,⟨hl.1,fun y=>(hl.2 y).trans (hk2 y)⟩,rfl⟩
 exact (yQc hm).trans (yQc hb)
def addE (es:List (Value×IV))(l:List ByteArray):List (Value×IV):=l.foldl (fun es s=>updI (.string s) (.raw (.bool true)) es) es
theorem zK4 (es:List (Value×IV))(l m:List ByteArray):addE es (l++m)=addE (addE es l) m:=by simp[addE]
end Go.Proofs.Tryz
