/- From a row's reading to ideal values, part 8: for the Sequent seat: the tables; the world in which a law is called; what a law's call ends in. -/
import Derived.Test.YtckafgnkmnichaaGreatDoorQJ
import Derived.Test.YtckafgnkmnichaaGreatDoorJM
import Derived.Test.YtckafgnkmnichaaGreatDoorJW
import Derived.OpenShut
import Derived.WalkKit
import Derived.ProofKit
import Derived.Deep.DeepHandedRow
import Derived.Lib.LaidTab
import Derived.Carry
import Derived.RowKit
import Derived.RowKitTokens
import Derived.FnData
set_option linter.all false
namespace Go.Proofs.Tryz
open Go Go.Iv Go.ChangeShapes Go.RowKit
open Go.Proofs.YtckafgnkmnichaaGreatDoor
set_option maxRecDepth 8000

theorem uRow:prog.underlying 193 = some (.struct #[⟨ "right",4,0,false, "", "lyceum/syntax",0⟩,⟨ "schema",4,1,false, "", "lyceum/syntax",1⟩,⟨ "name",5,2,false, "", "lyceum/syntax",2⟩,⟨ "args",3,3,false, "", "lyceum/syntax",8⟩,⟨ "subs",3,4,false, "", "lyceum/syntax",16⟩]):=by kernel_rfl
theorem uRows:prog.underlying 194 = some (.array 17 193):=by kernel_rfl
theorem uInt:prog.underlying 3 = some (.int .i64):=by kernel_rfl
theorem nRow:prog.cellsOf 193 = 5:=by kernel_rfl
theorem nRows:prog.cellsOf 194 = 85:=by kernel_rfl
theorem nInt:prog.cellsOf 3 = 1:=by kernel_rfl
theorem gRows:prog.globalNamed "lyceum/syntax.rows" = some 0:=by kernel_rfl
theorem gRowsT:(prog.globals[0]?).map (·.type) = some 194:=by kernel_rfl
theorem gPow:prog.globalNamed "internal/strconv.uint64pow10" = some 2:=by kernel_rfl
theorem gPowT:(prog.globals[2]?).map (·.type) = some 320:=by kernel_rfl
theorem uPow:prog.underlying 320 = some (.array 20 246):=by kernel_rfl
theorem uU64:prog.underlying 246 = some (.int .u64):=by kernel_rfl
theorem nPow:prog.cellsOf 320 = 20:=by kernel_rfl
theorem nU64:prog.cellsOf 246 = 1:=by kernel_rfl

section
variable {H:Type} {enc:TypeId × Value → H} {w:World} {spare:Nat → Bool} {held:Bool}

def rowD (op:Nat):DataW H:=.agg [.lit (.bool (rowRight op)),.lit (.bool (rowSchema op)),.lit (.int .u8 (rowName op)),.lit (.int .i64 (rowArgs op)),.lit (.int .i64 (rowSubs op))]
def rowV (op:Nat):List Value:=[.bool (rowRight op),.bool (rowSchema op),.int .u8 (rowName op),.int .i64 (rowArgs op),.int .i64 (rowSubs op)]
theorem row_cells {fuel:Nat} {cs:List Value} {op:Nat} {p:List MemPlace} (h:DataW.trod enc prog w 0 spare held fuel 193 cs = some (rowD op,p)):cs = rowV op:=by
  obtain ⟨ys,n,rfl,he,hl,hlen,hf⟩:=DataW.trod_struct uRow h
  match ys,hlen with
  | [y0,y1,y2,y3,y4],_ =>
    rw [nRow] at hl
    match cs,hl with
    | [c0,c1,c2,c3,c4],_ =>
      have h0:=hf 0 _ rfl
      have h1:=hf 1 _ rfl
      have h2:=hf 2 _ rfl
      have h3:=hf 3 _ rfl
      have h4:=hf 4 _ rfl
      simp only [nBool,nU8,nInt,List.drop_zero,List.drop_succ_cons,List.take_succ_cons,List.take_zero,List.getElem?_cons_zero,List.getElem?_cons_succ] at h0 h1 h2 h3 h4
      obtain ⟨b0,e0,rfl⟩:=DataW.trod_bool uBool h0
      obtain ⟨b1,e1,rfl⟩:=DataW.trod_bool uBool h1
      obtain ⟨b2,e2,rfl,_⟩:=DataW.trod_int uU8 h2
      obtain ⟨b3,e3,rfl,_⟩:=DataW.trod_int uInt h3
      obtain ⟨b4,e4,rfl,_⟩:=DataW.trod_int uInt h4
      cases e0; cases e1; cases e2; cases e3; cases e4
      have he1:=congrArg Prod.fst he
      simp only [rowD,List.map_cons,List.map_nil,DataW.agg.injEq,List.cons.injEq,DataW.lit.injEq,Lit.bool.injEq,Lit.int.injEq,true_and,and_true] at he1
      obtain ⟨rfl,rfl,rfl,rfl,rfl⟩:=he1
      rfl
theorem rows_data:(Rows.laid_lyceum_syntax_rows:DataW H) = .agg ((List.range 17).map rowD):=by rfl
theorem rows_cells {fuel:Nat} {cs:List Value} {p:List MemPlace} (h:DataW.trod enc prog w 0 spare held fuel 194 cs = some (Rows.laid_lyceum_syntax_rows,p)) :
    cs.length = 85 ∧ ∀ op,op < 17 → (cs.drop (op * 5)).take 5 = rowV op:=by
  obtain ⟨ys,n,rfl,he,hl,hlen,hf⟩:=DataW.trod_array uRows h
  rw [nRows] at hl
  refine ⟨hl,fun op hop => ?_⟩
  have h1:=hf op hop
  rw [nRow] at h1
  have he1:=congrArg Prod.fst he
  rw [rows_data] at he1
  simp only [DataW.agg.injEq] at he1
  have h2:(ys.map (·.1))[op]? = some (rowD op):=by
    rw [← he1,List.getElem?_map,List.getElem?_range hop]; rfl
  rw [List.getElem?_map] at h2
  obtain ⟨y,hy,hy2⟩:=Option.map_eq_some_iff.1 h2
  rw [hy] at h1
  obtain ⟨y1,y2⟩:=y
  simp only at hy2
  subst hy2
  exact row_cells h1
end

def gl0:Nat → Option IV
  | 0 => some (.agg rowsL)
  | 2 => some (.agg pow10L)
  | _ => none
theorem G0:Gl gl0:=⟨rfl⟩
theorem T0:Gt gl0:=⟨rfl⟩
def X0 (w:World):WS:={ w:=w,L:=L0 w,st:=fun _ => none,d:=0 }

theorem rowsL_cells {cs:List Value} (hl:cs.length = 85) (h:∀ op,op < 17 → (cs.drop (op * 5)).take 5 = rowV op) (i:Nat) (r:Value) (c:IV) (hr:cs[i]? = some r) (hc:rowsL[i]? = some c):c = .raw r ∧ rawOk r:=by
  have hi:i < 85:=by have:=(List.getElem?_eq_some_iff.1 hr).1; omega
  have hop:i / 5 < 17:=by omega
  have e:i = i / 5 * 5 + i % 5:=by omega
  have hm:i % 5 < 5:=Nat.mod_lt _ (by decide)
  have h1:(rowV (i / 5))[i % 5]? = some r:=by
    rw [← h _ hop,List.getElem?_take,if_pos hm,List.getElem?_drop,← e]; exact hr
  have h2:(rowI (i / 5))[i % 5]? = some c:=by
    rw [← (rowsL_take _ hop).2,List.getElem?_take,if_pos hm,List.getElem?_drop,← e]; exact hc
  generalize i % 5 = k at h1 h2 hm
  match k,hm with
  | 0,_ => cases h1; cases h2; exact ⟨rfl,trivial⟩
  | 1,_ => cases h1; cases h2; exact ⟨rfl,trivial⟩
  | 2,_ => cases h1; cases h2; exact ⟨rfl,trivial⟩
  | 3,_ => cases h1; cases h2; exact ⟨rfl,trivial⟩
  | 4,_ => cases h1; cases h2; exact ⟨rfl,trivial⟩

theorem good0 {W:World} (hL:laidMetH prog Rows.sequentPartsUptoRow.laid W):Go.Iv.Good ⟨prog,gl0,0⟩ (X0 W):=by
  obtain ⟨ps,hlv,_⟩:=(show laidMet prog _ W from hL)
  obtain ⟨_,_,_,_,_,_,_,_,_,_,hlv,_⟩:=hlv
  obtain ⟨_,_,_,_,_,_,_,_,_,_,hlv,_⟩:=hlv
  obtain ⟨g1,t1,cs1,f1,p1,q1,hg1,ht1,hv1,hd1,hlv,_⟩:=hlv
  obtain ⟨g2,t2,cs2,f2,p2,q2,hg2,ht2,hv2,hd2,_,_⟩:=hlv
  obtain rfl:=Option.some.inj (gPow.symm.trans hg1)
  obtain rfl:=Option.some.inj (gPowT.symm.trans ht1)
  obtain rfl:=Option.some.inj (gRows.symm.trans hg2)
  obtain rfl:=Option.some.inj (gRowsT.symm.trans ht2)
  have hc1:=Lib.cells_of_tab (zs:=Lib.pow10Tab) uPow uU64 nU64 nPow hd1
  have hc2:=rows_cells hd2
  have hb:∀ (n:String) (g:Nat) (cs:Array Value),prog.globalNamed n = some g → W.var? prog n = some cs → ∃ T f,W.heap[g]? = some (.cells cs T f):=by
    intro n g cs hn hv
    unfold World.var? at hv
    rw [hn,Option.bind_some] at hv
    split at hv
    · rename_i c t f hh
      cases hv
      exact ⟨_,_,hh⟩
    · cases hv
  obtain ⟨T1,fr1,hh1⟩:=hb _ _ _ gPow hv1
  obtain ⟨T2,fr2,hh2⟩:=hb _ _ _ gRows hv2
  have row:∀ (g:Nat) (cs:Array Value) (T:TypeId) (f:Nat × Nat) (xs:List IV),W.heap[g]? = some (.cells cs T f) → cs.size = xs.length → (∀ (i:Nat) (r:Value) (c:IV),cs.toList[i]? = some r → xs[i]? = some c → c = .raw r ∧ rawOk r) →
      V 0 (L0 W) W (.pointer (some ⟨g,0,none⟩)) (.cptr (.agg xs)):=by
    intro g cs T f xs hh hl h
    refine .cptr _ _ cs.toList rfl (by simpa [IV.cells] using hl) ?_ (fun i r hr => ?_) (fun i r c hr hc => ?_)
    · show 0 + cs.toList.length ≤ L0 W g
      simp [L0,hh]
    · show W.cell? ⟨g,0 + i,none⟩ = some r
      simp only [World.cell?,hh,Nat.zero_add]
      simpa using hr
    · obtain ⟨rfl,hk⟩:=h i r c hr hc
      exact .raw _ hk
  have hp:∀ (i:Nat) (r:Value) (c:IV),cs1.toList[i]? = some r → pow10L[i]? = some c → c = .raw r ∧ rawOk r:=by
    intro i r c hr hc
    rw [hc1,List.getElem?_map] at hr
    unfold pow10L at hc
    rw [List.getElem?_map] at hc
    obtain ⟨z,hz,rfl⟩:=Option.map_eq_some_iff.1 hr
    rw [hz] at hc
    cases hc
    exact ⟨rfl,trivial⟩
  have hs1:cs1.size = pow10L.length:=by
    rw [← Array.length_toList,hc1]; simp [pow10L]
  have hs2:cs2.size = rowsL.length:=by
    rw [← Array.length_toList,hc2.1]; rfl
  refine ⟨fun b o h => (by cases h),fun g x hx => ?_,Nat.zero_le _,fun b hb => ?_,fun g x hx => ?_,fun _ => Nat.zero_le _⟩
  · match g,hx with
    | 0,hx => cases hx; exact row 0 cs2 T2 fr2 _ hh2 hs2 (fun i r c hr hc => rowsL_cells hc2.1 hc2.2 i r c hr hc)
    | 2,hx => cases hx; exact row 2 cs1 T1 fr1 _ hh1 hs1 hp
  · show L0 W b = 0
    unfold L0
    rw [Array.getElem?_eq_none (show W.heap.size ≤ b from hb)]
  · match g,hx with
    | 0,hx => cases hx; exact ⟨T2,fr2 == (0,0),by show shq W 0 = _; simp [shq,hh2,hs2,IV.cells]⟩
    | 2,hx => cases hx; exact ⟨T1,fr1 == (0,0),by show shq W 2 = _; simp [shq,hh1,hs1,IV.cells]⟩

theorem below_of_ext {W:World} {X':WS} (h:Ext (X0 W) X'):Below W.heap.size W X'.w :=
  ⟨h.os,h.tape,h.output,h.size,fun k hk => (h.keep k hk rfl).1⟩
theorem laidOut:laidOutB prog = true:=by kernel_rfl
theorem trodAll_below {H:Type} {enc:TypeId × Value → H} {W W':World} (hb:Below W.heap.size W W') (sp:Nat → Bool):∀ {ts:List TypeId} {vs:List Value} {ds:List (DataW H)} {ps:List MemPlace},
    (∀ t ∈ ts,prog.readableRec t = true ∧ t < prog.types.size) → DataW.TrodAll enc prog W 0 (fun _ => true) true ts vs ds ps → (∀ p ∈ ps,p.block < W.heap.size) → (∀ p ∈ ps,sp p.block = true) →
    DataW.TrodAll enc prog W' 0 sp true ts vs ds ps
  | [],vs,ds,ps,_,h,_,_ => by
    obtain ⟨rfl,rfl,rfl⟩:=trodAll_nil h
    rfl
  | t :: ts,vs,ds,ps,ht,h,hlt,hsp => by
    obtain ⟨v,vs1,d,ds1,a,b,rfl,rfl,rfl,h1,h2⟩:=trodAll_cons h
    refine ⟨a,b,WideElems.Trod_stays laidOut (ht t (by simp)).1 (ht t (by simp)).2 h1 (fun p hp => hb.same (hlt p (by simp [hp]))) (fun p hp => hsp p (by simp [hp])),?_,rfl⟩
    exact trodAll_below hb sp (fun t h => ht t (by simp [h])) h2 (fun p hp => hlt p (by simp [hp])) (fun p hp => hsp p (by simp [hp]))

theorem law_post {H:Type} {enc:TypeId × Value → H} {f:Func} {s:ChangeSpec} {fid:FuncId} {W:World} {args:Array Value} {ds gs:List (DataW H)} {before:List MemPlace} {ivs:List IV}
    (hvars:s.vars = []) (hW:DataW.Whole enc prog f.params.toList s.vars false W args.toList ds gs before) (hfn:s.fn H (ds ++ gs) = { results:=[.lit (.bool true)],args:=ds })
    (hres:f.resultTypes = #[4]) (hread:∀ t ∈ f.params.toList,prog.readableRec t = true ∧ t < prog.types.size) (hg:Go.Iv.Good ⟨prog,gl0,0⟩ (X0 W)) (hv:VL 0 (L0 W) W args.toList ivs)
    (hc:ICall prog gl0 fid ivs (fun _ => none) (fun r st' => r = .raw (.bool true) ∧ st' = fun _ => none)) :
    Calls prog fid args W fun e W' => ∃ v,e = .returned v ∧ s.post enc prog f false true false false W args v W':=by
  refine (hc 0 (X0 W) args.toList hg rfl hv).mono ?_
  rintro e W' ⟨v,rfl,X',x,rfl,hg',he,hx,rfl,_⟩
  obtain rfl:=V.raw_inv hx
  have hb:=below_of_ext he
  refine ⟨_,rfl,?_⟩
  have hW':=hW
  obtain ⟨p,q,hA,hV,rfl,hz,_⟩:=hW
  rw [hvars] at hV
  have hgs:gs = [] ∧ q = []:=by
    cases gs with
    | nil => exact ⟨rfl,hV⟩
    | cons _ _ => exact absurd hV (by simp [DataW.TrodVars])
  obtain ⟨rfl,rfl⟩:=hgs
  have hlt:∀ x ∈ p,x.block < W.heap.size:=fun x hx => by simpa using hW'.lt x (by simpa using hx)
  have hargs:∀ sp:Nat → Bool,(∀ x ∈ p,sp x.block = true) → DataW.TrodAll enc prog X'.w 0 sp true f.params.toList args.toList (s.fn H (ds ++ [])).args p:=fun sp hsp => by
    rw [hfn]
    exact trodAll_below hb sp hread hA hlt hsp
  have hr:∀ (b:Nat) (sp:Nat → Bool) (hd:Bool),DataW.TrodAll enc prog X'.w b sp hd f.resultTypes.toList ((Value.bool true).resultList f.resultTypes.size) (s.fn H (ds ++ [])).results []:=fun _ _ _ => by
    rw [hfn,hres]
    exact trodAll_cons_mk (shut_bool uBool _) trodAll_mk0
  have hvs:∀ sp:Nat → Bool,DataW.TrodVars enc prog X'.w sp s.vars (s.fn H (ds ++ [])).vars []:=fun _ => by
    rw [hvars,hfn]; rfl
  have hsz:∀ x ∈ p,(fun b => decide (b < W.heap.size)) x.block = true:=fun x hx => by simpa using hlt x hx
  refine ⟨ds,[],p ++ [],[],p,[],hW',hr _ _ _,hargs _ hsz,hvs _,World.keptBut_mono (fun x hx => ⟨hx,Or.inr (by simpa using hx)⟩) (hb.frame (· ∈ p ++ [])),fun _ => ⟨ok_one hres rfl (okWide_bool_mk uBool _),_,_,([] ++ p) ++ [],
    ⟨[] ++ p,[],trodAll_append (hargs _ (fun _ _ => rfl)) (hr _ _ _),hvs _,rfl,?_,fun h => by cases h⟩,fun x hx _ => by simpa using hx⟩⟩
  intro b off hp
  rw [hb.frozen (p:=⟨b,off,none⟩) (hlt (.cell b off) (by simpa using hp))]
  exact hz b off (by simpa using hp)

theorem form_val {W:World} {base:Nat} {v:Value} {f:Fm} {x:IV} (h:Value.okWide prog W .any base 27 v) (hx:VL 0 (L0 W) W v.cells.toList x.cells) (hf:IsFm f x):V 0 (L0 W) W v x:=by
  obtain ⟨cs,rfl,_⟩:=WideShapes.okWide_struct uForm h
  cases f with
  | mk op n us sub =>
    obtain ⟨tg,xs,tg',ys,rfl,_⟩:=IsFm.mk hf
    cases cs
    exact hx.agg
theorem tree_val {W:World} {base:Nat} {v:Value} {t:Tr} {x:IV} (h:Value.okWide prog W .any base 32 v) (hx:VL 0 (L0 W) W v.cells.toList x.cells) (hf:IsTr t x):V 0 (L0 W) W v x:=by
  obtain ⟨cs,rfl,_⟩:=WideShapes.okWide_struct uTree h
  obtain ⟨_,_,_,_,_,_,_,_,_,_,_,_,_,_,_,_,_,_,rfl⟩:=trAgg hf
  cases cs
  exact hx.agg
theorem byte_val {α:Prop} {W:World} {base:Nat} {v:Value} (h:Value.okWide prog W .any base 5 v) (_:α):∃ b:Nat,v = .int .u8 b ∧ V 0 (L0 W) W (.int .u8 b) (.raw (.int .u8 b)) ∧ b < 256:=by
  simp only [Value.okWide,uU8,Cell.okWide] at h
  cases v <;> simp_all [Cell.ok]
  rename_i k n
  obtain ⟨rfl,h1,h2⟩:=h
  have e1:IntKind.u8.min = 0:=by decide
  have e2:IntKind.u8.max = 255:=by decide
  rw [e1] at h1
  rw [e2] at h2
  refine ⟨n.toNat,?_,?_,?_⟩
  · omega
  · exact .raw _ trivial
  · omega
theorem bool_val {W:World} {base:Nat} {v:Value} (h:Value.okWide prog W .any base 4 v):∃ b:Bool,v = .bool b ∧ V 0 (L0 W) W (.bool b) (.raw (.bool b)):=by
  simp only [Value.okWide,uBool,Cell.okWide] at h
  cases v <;> simp_all [Cell.ok]
  exact .raw _ trivial

def tab32:List Int:=[0,1,28,2,29,14,24,3,30,22,20,15,25,17,4,8,31,27,13,23,21,19,16,7,26,12,18,6,11,5,10,9]
def tab64:List Int:=[0,1,56,2,57,49,28,3,61,58,42,50,38,29,17,4,62,47,59,36,45,43,51,22,53,39,33,30,24,18,12,5,63,55,48,27,60,41,37,16,46,35,44,21,52,32,23,11,54,26,40,15,34,20,31,10,25,14,19,9,13,8,7,6]
def lay (cs:List Value):Obj → Obj
  | .cells _ t frozen => .cells cs.toArray t frozen
  | o => o
noncomputable def laidWorld (os:Os):World :=
  { World.holding prog os ⟨#[],#[],[]⟩ with heap:=((((World.holding prog os ⟨#[],#[],[]⟩).heap.modify 0 (lay ((List.range 17).flatMap rowV))).modify 2 (lay (Lib.pow10Tab.map fun z => .int .u64 z))).modify 3 (lay (tab32.map fun z => .int .u8 z))).modify 4 (lay (tab64.map fun z => .int .u8 z)) }
theorem laid_met (os:Os) (args:Array Value):laidMet prog Rows.sequentPartsUptoRow.laid ((laidWorld os).forCall (fun _ _ => 0) ⟨#[],args,[]⟩).memory :=
  laidMet_of_run' 8 (by kernel_rfl) (by kernel_rfl)
end Go.Proofs.Tryz
