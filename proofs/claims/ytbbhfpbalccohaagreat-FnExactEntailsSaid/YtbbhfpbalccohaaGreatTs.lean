/- A law that only reads: from its contract to the statement's form. -/
import Derived.Test.YtbbhfpbalccohaaGreatTr
import Derived.ProofKit
namespace Go.Ve
open Go Go.ChangeShapes Go.WideShapes Go.RowKit
def aggU(P:Program)(t:TypeId):Bool:=match P.underlying t with
 |some (.struct _)=>true
 |_=>false
def parP(P:Program)(t:TypeId):Bool×Option Ty:=(aggU P t,(lvs P 12 t).map A9)
section
variable {H:Type} {enc:TypeId×Value->H} {P:Program} {W:World}
theorem Vo{l:List Ty}{cs:Array Value}(hone:(l.all fun t=>t.one)=true)(h:Mh W l cs.toList): ∃x:(A9 l).T,okT _ x/\∀R,Rel (fun b=>b<W.heap.size) W R (Ai (tyV (A9 l) 0 x)) (.agg cs) noF:=by
 obtain⟨ys,g1,g2,g3,g4⟩:=h;have hone':(ys.all fun y=>y.t.one)=true:=by rw [<-g1,List.all_map]at hone;exact hone
 obtain⟨x,k1,k2⟩:=OH ys hone' g4;subst g1;refine⟨x,k1,fun R=>⟨cs,fun _=>noF,rfl,?_,fun k hk=>?_,fun _ _ _ _ _ _ h=>h.elim,fun b=>⟨fun h=>h.elim,fun⟨_,_,h⟩=>h⟩⟩⟩
 ·rw [k2];simpa using g2
 ·rw [k2]at hk⊢
  have:=g3 k (by simpa using hk) R
  simpa [Array.getD_eq_getD_getElem?,gDE]using this
theorem Vm{l:List Ty}{v:Value}(h:Mh W l [v])(hone:(l.all fun t=>t.one)=true): ∃x:(A9 l).T,okT _ x/\(A9 l).one=true/\∀R,Rel (fun b=>b<W.heap.size) W R (cV (A9 l) 0 x) v noF:=by
 obtain⟨ys,g1,g2,g3,g4⟩:=h;cases ys with
 |nil=>subst g1;cases g2
 |cons y ys=>
  cases ys with
  |cons z zs=>subst g1;simp at g2
  |nil=>
   subst g1;have h0:y.t.one=true:=by simpa using hone
   refine⟨y.x,g4 y (List.mem_cons_self ..),h0,fun R=>?_⟩
   exact g3 0 (by simp) R
theorem NG{base:Nat}{t:TypeId}{v:Value}{d:DataW H}{p:List MemPlace}{ty:Ty}{b:Bool}(hp:parP P t=(b,some ty))(hv:Value.okWide P W .any base t v)(h:DataW.Trod enc P W 0 (fun _=>true) true t v d p):
  ∃x:ty.T,okT ty x/\∀R,Rel (fun b=>b<W.heap.size) W R (vOf b ty 0 x) v noF:=by
 unfold parP at hp;simp only [Prod.mk.injEq,Option.map_eq_some_iff]at hp;obtain⟨hb,l,hl,rfl⟩:=hp;obtain⟨fuel,hf⟩:=h;have hr:=HH 12 t l hl fuel _ _ hf;have hone:=Ot _ _ _ hl;cases b with
 |true=>
  unfold aggU at hb;split at hb
  case h_2=>cases hb
  rename_i fs hu;simp only [Value.okWide,hu]at hv;obtain⟨cs,rfl,_,_⟩:=hv;obtain⟨x,h1,h2⟩:=Vo hone hr;exact⟨x,h1,fun R=>h2 R⟩
 |false=>
  have hcell:v.cells= #[v]:=by
   have hl':=hl;unfold lvs at hl';unfold aggU at hb;split at hl'
   ·rename_i hu;obtain⟨b,rfl⟩:=okWide_bool hu hv;rfl
   ·rename_i hu
    simp only [Value.okWide,hu,Cell.okWide]at hv;cases v<;>simp_all [Cell.ok,Value.cells]
   ·rename_i hu
    simp only [Value.okWide,hu,Cell.okWide]at hv;cases v<;>simp_all [Cell.ok,Value.cells]
   ·rename_i hu
    simp only [Value.okWide,hu,Cell.okWide]at hv;cases v<;>simp_all [Cell.ok,Value.cells]
   ·rename_i hu;rw [hu]at hb;cases hb
   ·cases hl'
  rw [hcell]at hr;obtain⟨x,h1,h2,h3⟩:=Vm hr hone;exact⟨x,h1,fun R=>h3 R⟩
theorem KZ{base:Nat}: ∀ (ps:List (Bool×Ty)) (ts:List TypeId) (vs:List Value) (ds:List (DataW H)) (p:List MemPlace),ts.map (parP P)=ps.map (fun p=>(p.1,some p.2))->
  DataW.TrodAll enc P W 0 (fun _=>true) true ts vs ds p->(∀ (j:Nat) t v,ts[j]? =some t->vs[j]? =some v->Value.okWide P W .any base t v)->
  ∃x:(PT ps).T,okT (PT ps) x/\vs.length=(DJ ps x).length/\∀i,i<vs.length->∀R,Rel (fun b=>b<W.heap.size) W R ((DJ ps x).getD i .dead) (vs.getD i undef) noF
 | [],ts,vs,ds,p,hp,h,_=>by
  cases ts with
  |cons=>cases hp
  |nil=>
   obtain⟨rfl,rfl,rfl⟩:=trodAll_nil h;exact⟨(),trivial,rfl,fun i hi=>by simp at hi⟩
 | [q],ts,vs,ds,p,hp,h,hv=>by
  cases ts with
  |nil=>cases hp
  |cons t ts=>
   cases ts with
   |cons=>simp at hp
   |nil=>
    obtain⟨v,vs',d,ds',p1,p2,rfl,rfl,rfl,h1,h2⟩:=trodAll_cons h;obtain⟨rfl,rfl,rfl⟩:=trodAll_nil h2;simp only [List.map_cons,List.map_nil,List.cons.injEq,and_true]at hp;obtain⟨x,k1,k2⟩:=NG (base:=base) hp (hv 0 t v rfl rfl) h1;refine⟨x,k1,rfl,fun i hi R=>?_⟩
    obtain rfl:i=0:=by simpa using hi
    exact k2 R
 |q::q'::ps,ts,vs,ds,p,hp,h,hv=>by
  cases ts with
  |nil=>cases hp
  |cons t ts=>
   obtain⟨v,vs',d,ds',p1,p2,rfl,rfl,rfl,h1,h2⟩:=trodAll_cons h;rw [List.map_cons,List.map_cons,List.cons.injEq]at hp;obtain⟨x,k1,k2⟩:=NG (base:=base) hp.1 (hv 0 t v rfl rfl) h1;obtain⟨z,m1,m2,m3⟩:=KZ (base:=base) (q'::ps) ts vs' ds' p2 hp.2 h2 fun j t v h1 h2=>hv (j+1) t v h1 h2
   refine⟨(x,z),⟨k1,m1⟩,?_,fun i hi R=>?_⟩
   ·show _=(vOf q.1 q.2 0 x::DJ (q'::ps) z).length
    simp [m2]
   ·show Rel _ _ _ ((vOf q.1 q.2 0 x::DJ (q'::ps) z).getD i .dead) _ _
    cases i with
    |zero=>exact k2 R
    |succ i=>exact m3 i (by simpa using hi) R
theorem D9(hl:laidOutB P=true){W':World}{sp:Nat->Bool}: ∀ (ts:List TypeId) (vs:List Value) (ds:List (DataW H)) (p:List MemPlace),(ts.all fun t=>P.readableRec t&&decide (t<P.types.size))=true->
  DataW.TrodAll enc P W 0 (fun _=>true) true ts vs ds p->(∀x∈p,W.sameAt W' x)->(∀x∈p,sp x.block=true)->DataW.TrodAll enc P W' 0 sp true ts vs ds p
 | [],_,_,_,_,h,_,_=>by obtain⟨rfl,rfl,rfl⟩:=trodAll_nil h;exact h
 |t::ts,vs,ds,p,hr,h,h1,h2=>by
  obtain⟨v,vs',d,ds',p1,p2,rfl,rfl,rfl,g1,g2⟩:=trodAll_cons h;rw [List.all_cons,bAE,bAE,decide_eq_true_eq]at hr
  exact⟨p1,p2,WideElems.Trod_stays hl hr.1.1 hr.1.2 g1 (fun x hx=>h1 x (List.mem_append_left _ hx)) (fun x hx=>h2 x (List.mem_append_left _ hx)),
   D9 hl ts vs' ds' p2 hr.2 g2 (fun x hx=>h1 x (List.mem_append_right _ hx)) (fun x hx=>h2 x (List.mem_append_right _ hx)),rfl⟩
theorem V3{f:FuncId}{ps:List (Bool×Ty)}{g:(PT ps).T->Option Bool}(hc:FT P f ⟨ps,[(false,0,.bool)]⟩ g)(hg: ∀x,okT (PT ps) x->g x=some true){base:Nat}{ts:List TypeId}{args:Array Value}{ds:List (DataW H)}{p:List MemPlace}(hp:ts.map (parP P)=ps.map (fun p=>(p.1,some p.2)))
  (hA:DataW.TrodAll enc P W 0 (fun _=>true) true ts args.toList ds p) (hv: ∀ (j:Nat) t v,ts[j]? =some t->args[j]? =some v->Value.okWide P W .any base t v) (hk:Wok W):
  Calls P f args W fun e W'=>e= .returned (.bool true)/\RowKit.Below W.heap.size W W':=by
 obtain⟨x,h1,h2,h3⟩:=KZ (base:=base) ps ts args.toList ds p hp hA (fun j t v h h'=>hv j t v h (by simpa using h'))
 have:=hc x true (hg x h1) W (fun b=>b<W.heap.size) args hk (fun _ h=>h) (by simpa using h2) fun i hi=>by
  have:=h3 i (by rw [h2];exact hi) noR
  simpa [Array.getD_eq_getD_getElem?,gDE]using this
 refine this.mono fun e W'=>?_
 rintro ⟨cv,fp,D',rfl,hb,hr,_⟩
 have hr:Rel D' W' noR (.c (.bool true)) cv fp:=hr;rw [hr.1];exact⟨rfl,hb.row⟩
theorem X1{f:Func}{s:ChangeSpec}{HF fresh handsOn again:Bool}{W':World}{args:Array Value}{ds gs:List (DataW H)}{before:List MemPlace}{tb:TypeId}
  (hW:DataW.Whole enc P f.params.toList s.vars HF W args.toList ds gs before) (hs:s.vars= [])
  (hfn:s.fn H ds= {results:=[.lit (.bool true)],args:=ds}) (hres:f.resultTypes= #[tb]) (htb:P.underlying tb=some .bool)
  (hl:laidOutB P=true) (hr:(f.params.toList.all fun t=>P.readableRec t&&decide (t<P.types.size))=true) (hb:RowKit.Below W.heap.size W W'):
  s.post enc P f HF fresh handsOn again W args (.bool true) W':=by
 have hlt:=hW.lt;have hW':=hW;obtain⟨p,q,hA,hV,rfl,hz,hn⟩:=hW';rw [hs]at hV;obtain⟨rfl,rfl⟩:=trodVars_none hV;rw [List.append_nil]at hW hlt hz hn;have hfn':s.fn H (ds++ [])= {results:=[.lit (.bool true)],args:=ds}:=by rw [List.append_nil];exact hfn
 have hsame: ∀x∈p,W.sameAt W' x:=fun x hx=>hb.same (hlt x hx)
 have hres': ∀ (b:Nat) (sp:Nat->Bool) (hd:Bool),DataW.TrodAll enc P W' b sp hd f.resultTypes.toList ((Value.bool true).resultList f.resultTypes.size) (s.fn H (ds++ [])).results []:=fun b sp hd=>by
  rw [hfn',hres];exact trodAll_mk1 (shut_bool htb true)
 have hargs: ∀sp:Nat->Bool,(∀x∈p,sp x.block=true)->DataW.TrodAll enc P W' 0 sp true f.params.toList args.toList (s.fn H (ds++ [])).args p:=fun sp hsp=>by
  rw [hfn'];exact D9 hl _ _ _ _ hr hA hsame hsp
 have hvars: ∀sp:Nat->Bool,DataW.TrodVars enc P W' sp s.vars (s.fn H (ds++ [])).vars []:=fun sp=>by
  rw [hfn',hs];rfl
 have hold: ∀x∈p,(fun b=>decide (b<W.heap.size)) x.block=true:=fun x hx=>by simpa using hlt x hx
 have hok:=ok_one (P:=P) (W':=W') (f:=f) hres rfl (okWide_bool_mk htb true);refine⟨ds,[],p,[],p,[],hW,hres' _ _ _,hargs _ hold,hvars _,World.keptBut_mono (fun x hx=>⟨hx,?_⟩) (hb.frame (· ∈p)),fun _=>?_⟩
 ·exact Or.inr (by simpa using hx)
 ·refine⟨hok,_,_,([]++p)++ [],⟨[]++p,[],trodAll_append (hargs _ (fun _ _=>rfl)) (hres' _ _ _),hvars _,rfl,?_,?_⟩,?_⟩
  ·intro b off hx
   have hx:MemPlace.cell b off∈p:=by simpa using hx
   rw [hb.frozen (p:=⟨b,off,none⟩) (hlt _ hx)];exact hz b off hx
  ·intro ha
   have:=hn ha;simpa using this
  ·intro x hx _
   simpa using hx
end
end Go.Ve

