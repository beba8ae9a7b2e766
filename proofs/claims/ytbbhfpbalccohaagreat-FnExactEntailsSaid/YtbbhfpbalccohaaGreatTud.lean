/- The typed machine: contracts of functions that write their owned arguments. -/
import Derived.Test.YtbbhfpbalccohaaGreatTe
import Derived.Test.YtbbhfpbalccohaaGreatXa
namespace Go.Ve
def Ba(m:Nat):List Cl->List Cl×List Ae
 | []=>([],[])
 | .c (.sl u) (d+1) xs::l=>(.rf m []::(Ba (m+1) l).1,.arr false u d xs::(Ba (m+1) l).2)
 |y::l=>(y::(Ba m l).1,(Ba m l).2)
abbrev WP:=Bool×Bool×Ty
def Qb(p:WP)(x:p.2.2.T)(m:Nat):Sl×List Ae:=
 bif p.1 then(bif p.2.1 then .agg (Ba m (Au p.2.2 p.2.2.dep x)).1 else .one ((Ba m (Au p.2.2 p.2.2.dep x)).1.getD 0 .dead),(Ba m (Au p.2.2 p.2.2.dep x)).2)
 else(bif p.2.1 then .agg (Au p.2.2 0 x)else .one (.c p.2.2 0 x),[])
def PTW:List WP->Ty
 | []=>.unit
 | [p]=>p.2.2
 |p::q::l=>.pair p.2.2 (PTW (q::l))
def BE:(ps:List WP)->(PTW ps).T->Nat->List Sl×List Ae
 | [],_,_=>([],[])
 | [p],x,m=>([(Qb p x m).1],(Qb p x m).2)
 |p::q::l,x,m=>((Qb p x.1 m).1::(BE (q::l) x.2 (m+(Qb p x.1 m).2.length)).1,(Qb p x.1 m).2++(BE (q::l) x.2 (m+(Qb p x.1 m).2.length)).2)
def ZD:Ty->List Ty
 | .sl t=>[.sl t]
 | .pair a b=>ZD a++ZD b
 |_=>[]
def H7:List WP->List Ty
 | []=>[]
 |p::l=>(bif p.1 then ZD p.2.2 else [])++H7 l
structure Aa8 where
 ps:List WP
 rt:Ty
def Ty.sc:Ty->Bool
 | .int _=>true
 | .bool=>true
 | .str=>true
 |_=>false
def scV:(t:Ty)->t.T->Value
 | .int k,n=>.int k n
 | .bool,b=>.bool b
 | .str,s=>.string s
 |_,_=>undef
def wty:List Ty->Ty
 | []=>.unit
 | [t]=>t
 |t::u::l=>.pair t (wty (u::l))
def wOf:(tys:List Ty)->(wty tys).T->List (Σ t:Ty,t.T)
 | [],_=>[]
 | [t],x=>[⟨t,x⟩]
 |t::u::l,x=>⟨t,x.1⟩::wOf (u::l) x.2
def HX:Ae->(Σ t:Ty,t.T)->Ae
 | .arr ro u d _,⟨.sl u',xs⟩=>if h:u'=u then .arr ro u d (h▸xs)else .dead
 |_,_=>.dead
def B0:List Ae->List (Σ t:Ty,t.T)->List Ae
 |r::rs,y::ys=>HX r y::B0 rs ys
 |_,_=>[]
def FTW(P:Program)(f:FuncId)(S:Aa8)(g:(PTW S.ps).T->Option (S.rt.T×(wty (H7 S.ps)).T)):Prop:=
 ∀x u,g x=some u->S.rt.sc=true/\(wOf (H7 S.ps) u.2).length=(BE S.ps x 0).2.length/\(∀k,k<(BE S.ps x 0).2.length->(B0 (BE S.ps x 0).2 (wOf (H7 S.ps) u.2)).getD k .dead≠.dead)/\
  FCW P f ((BE S.ps x 0).1.map (Sl.v (BE S.ps x 0).2)) ((BE S.ps x 0).2.map Ae.v) (scV S.rt u.1) ((B0 (BE S.ps x 0).2 (wOf (H7 S.ps) u.2)).map Ae.v)
structure EnW where
 f:FuncId
 S:Aa8
 g:(PTW S.ps).T->Option (S.rt.T×(wty (H7 S.ps)).T)
def VU:List EnW->FuncId->Option EnW
 | [],_=>none
 |e::l,f=>bif Nat.beq e.f f then some e else VU l f
def EnW.OK(P:Program)(e:EnW):Prop:=Bi P e.f=true/\FTW P e.f e.S e.g
theorem PH{P:Program}{f:FuncId}{e:EnW}: ∀ {Γ:List EnW},(∀e∈Γ,e.OK P)->VU Γ f=some e->e.OK P/\e.f=f
 | [],_,h=>by cases h
 |a::l,hΓ,h=>by
  unfold VU at h;cases hb:Nat.beq a.f f with
  |true=>
   rw [hb]at h;cases h;exact⟨hΓ _ (List.mem_cons_self ..),bqE hb⟩
  |false=>rw [hb]at h;exact PH (fun e he=>hΓ e (mCM _ he)) h
end Go.Ve


namespace Go.Ve
def Nx(Θ:Tab)(t:TypeId):Option TI:=((Θ.look t).bind (·.elem)).bind Θ.look
def Pc(Θ:Tab)(s:St):Builtin->List Operand->List TypeId->Option TR
 | .len,[x],[t]=>tLen s (Θ.look t) (s.ev x)
 | .min,[x,y],_=>tMin (s.ev x) (s.ev y)
 | .max,[x,y],_=>tMax (s.ev x) (s.ev y)
 |_,_,_=>none
def Aat:Operand->Bool
 | .const (.slice none 0 0)=>true
 |_=>false
def Pa(s:St)(i:Option TI)(x:Operand):Option TR:=bif Aat x then(match i with
 |some j=>some (.ok (.one (.c (.sl j.ty) (j.sd+1) [])))
 |none=>none)else Zu (s.ev x)
theorem H9{P:Program}{s:St}{x:Operand}{i:Option TI}{op:Op}{a:TR}(ho:op= .move x\/op= .assign x)(h:Pa s i x=some a):QS P s op a.y:=by
 unfold Pa at h;cases hb:Aat x with
 |false=>rw [hb]at h;exact NU ho h
 |true=>
  rw [hb]at h;simp only [cond_true]at h;split at h
  case h_2=>cases h
  rename_i j;cases h;unfold Aat at hb;split at hb
  case h_2=>cases hb
  have:Vt (s.den.ev (.const (.slice none 0 0))) (SK s (.one (.c (.sl j.ty) (j.sd+1) []))):=⟨rfl,.inr ⟨rfl,_,_,_,rfl⟩⟩;rcases ho with rfl|rfl<;>exact this
def tq(Θ:Tab)(s:St)(ty:TypeId):Op->Option TR
 | .move x=>Pa s (Nx Θ ty) x
 | .assign x=>Pa s (Nx Θ ty) x
 | .pick c x y=>Zs (s.ev c) (s.ev x) (s.ev y)
 | .load t x=>UP s (Θ.look t) (s.ev x)
 | .fieldAddr t x k=>UR s (Θ.look t) k (s.ev x)
 | .indexAddr t x i=>HK s (Nx Θ t) (s.ev x) (s.ev i)
 | .index t x i=>UQ (Θ.look t) (s.ev x) (s.ev i)
 | .nilCheck x=>tNil (s.ev x)
 | .binOp op t x y _=>tBin (Θ.look t) op (s.ev x) (s.ev y)
 | .unOp op _ x=>tUn op (s.ev x)
 | .convert u v x=>Zw s.r (Θ.look u) (Θ.look v) (Nx Θ u) (Nx Θ v) (s.ev x)
 | .extract x k=>Lf k (s.ev x)
 | .build t ps=>UV (Θ.look t) (ps.toList.map fun p=>(p.1,s.ev p.2))
 | .buildSlice t n ps=>DN n (ps.toList.map fun p=>(p.1,s.ev p.2)) (Nx Θ t)
 | .alloc t=>UX (Θ.look t)
 | .box _ x=>tBox (s.ev x)
 | .makeSlice t l c=>Zv (Nx Θ t) (s.ev l) (s.ev c)
 | .slice t x lo hi mx=>match mx with
  |none=>UM s (Θ.look t) (Nx Θ t) (s.ev x) (J3 (lo.map s.ev)) (J3 (hi.map s.ev))
  |some _=>none
 | .call c=>match c.callee with
  | .builtin b=>Pc Θ s b c.args.toList c.argTypes.toList
  |_=>none
 | .makeFunc fn first caps=>tMkF s fn first.toList caps.toList
 | .makeInterface t x=>tMkI Θ s t x
 |_=>none
theorem O3{P:Program}{Θ:Tab}{s:St}(hΘ:Θ.OK P){ty:TypeId}{op:Op}{a:TR}(h:tq Θ s ty op=some a)(hp:a.p):QS P s op a.y:=by
 unfold tq at h;split at h
 case h_1=>exact H9 (.inl rfl) h
 case h_2=>exact H9 (.inr rfl) h
 case h_3=>exact NT h
 case h_4=>exact NW hΘ h hp
 case h_5=>exact MC hΘ h
 case h_6=>exact In hΘ h hp
 case h_7=>exact MA hΘ h hp
 case h_8=>exact Qk h
 case h_9=>exact Qs hΘ h hp
 case h_10=>exact UJ h
 case h_11=>exact NX hΘ h hp
 case h_12=>exact JP h
 case h_13=>exact MF hΘ h
 case h_14=>exact HL hΘ h
 case h_15=>exact MI hΘ h
 case h_16=>exact Qr h
 case h_17=>exact NV hΘ h hp
 case h_18=>
  split at h
  ·exact Mz hΘ h hp
  ·cases h
 case h_19 c=>
  obtain⟨callee,args,ats⟩:=c;split at h
  case h_2=>cases h
  rename_i b hb;have hb:callee= .builtin b:=hb;subst hb;unfold Pc at h;split at h
  case h_4=>cases h
  ·rename_i x t hx ht
   rw [XW (show args.toList= [x]from hx),XW (show ats.toList= [t]from ht)]
   exact Qp hΘ h
  ·rename_i x y hx
   have e:args= #[x,y]:=by have hx:args.toList= [x,y]:=hx;cases args;simp at hx;simp [hx]
   subst e;exact Qn h
  ·rename_i x y hx
   have e:args= #[x,y]:=by have hx:args.toList= [x,y]:=hx;cases args;simp at hx;simp [hx]
   subst e;exact Qo h
 case h_20=>exact Qm h
 case h_21=>exact Ql hΘ h
 case h_22=>cases h
def Ay:V->V->Prop
 | .many t n f,v'=>v'= .dead\/∃g,v'= .many t n g/\∀k,k<n->Ay (f k) (g k)
 |v,v'=>v'= .dead\/Sub v v'
theorem Ay.of: ∀ {v v':V},Sub v v'->Ay v v':=by
 intro v
 induction v with
 |many t n f ih=>intro v' h;obtain⟨g,rfl,h⟩:=h;exact .inr ⟨g,rfl,fun k hk=>ih k (h k hk)⟩
 |_=>intro v' h;exact .inr h
theorem Ay.refl(v:V):Ay v v:=Ay.of (Sub.refl v)
theorem Ay.dead: ∀ (v:V),Ay v .dead:=by
 intro v;cases v<;>exact .inl rfl
theorem Ay.mk{l m:List V}(hl:l.length=m.length)(h: ∀k,k<l.length->Ay (l.getD k .dead) (m.getD k .dead)):Ay (Ai l) (Ai m):=by
 unfold Ai;rw [<-hl];exact .inr ⟨_,rfl,h⟩
theorem Ay.tup{l m:List V}(hl:l.length=m.length)(h: ∀k,k<l.length->Ay (l.getD k .dead) (m.getD k .dead)):Ay (CP l) (CP m):=by
 unfold CP;rw [<-hl];exact .inr ⟨_,rfl,h⟩
theorem Ay.pk{t:Tg}{l m:List V}(hl:l.length=m.length)(h: ∀k,k<l.length->Ay (l.getD k .dead) (m.getD k .dead)):Ay (pkL t l) (pkL t m):=by
 unfold pkL;rw [<-hl];exact .inr ⟨_,rfl,h⟩
theorem Rel.subS{D:Nat->Prop}{w:World}{R:V->Value->Prop}: ∀ {v v':V} {cv:Value},Ay v v'->Rel D w R v cv noF->Rel D w R v' cv noF:=by
 intro v
 induction v with
 |many t n f ih=>
  intro v' cv h hr;rcases h with rfl|⟨g,rfl,h⟩
  ·exact fun _ h=>h
  obtain⟨cs,F,hcv,hn,hr,hd,hf⟩:=hr;have hF: ∀k,k<n->F k=noF:=fun k hk=>A0 fun b hb=>(hf b).2 ⟨k,hk,hb⟩
  exact⟨cs,fun _=>noF,hcv,hn,fun k hk=>ih k (h k hk) (by have:=hr k hk;rw [hF k hk]at this;exact this),fun _ _ _ _ _ _ h=>h.elim,fun b=>⟨fun h=>h.elim,fun⟨_,_,h⟩=>h⟩⟩
 |_=>
  intro v' cv h hr;rcases h with rfl|h
  ·exact fun _ h=>h
  ·exact Rel.sub h hr
theorem At.sub'{w:World}: ∀ {p:AP} {v v1:V} {cv:Value} {s:Bool} {sz n:Nat} {f:Nat->Nat->V} {c:Value},Sub v v1->At w p v cv (.nd s true sz n f) c->∃f',At w p v1 cv (.nd s true sz n f') c
 | [],v,v1,cv,s,sz,n,f,c,h,ha=>by
  obtain⟨rfl,rfl⟩:=ha;obtain⟨g,rfl,_⟩:=h;exact⟨g,rfl,rfl⟩
 |(i,k)::p,.nd s0 true sz0 n0 f0,v1,cv,s,sz,n,f,c,h,ha=>by
  obtain⟨g,rfl,h⟩:=h;obtain⟨h1,h2,b,o,cap,x,h3,h4,h5⟩:=ha;obtain⟨f',h'⟩:=At.sub' (h i k h1 h2) h5;exact⟨f',h1,h2,b,o,cap,x,h3,h4,h'⟩
 |_::_,.nd _ false _ _ _,_,_,_,_,_,_,_,_,ha=>ha.elim
 |_::_,.c _,_,_,_,_,_,_,_,_,ha=>ha.elim
 |_::_,.dead,_,_,_,_,_,_,_,_,ha=>ha.elim
 |_::_,.many ..,_,_,_,_,_,_,_,_,ha=>ha.elim
 |_::_,.rs ..,_,_,_,_,_,_,_,_,ha=>ha.elim
 |_::_,.rp ..,_,_,_,_,_,_,_,_,ha=>ha.elim
theorem An.sub{σ σ':List V}{ρ:Nat->Value}{w:World}(hl:σ'.length=σ.length)(hs: ∀i,i<σ.length->Sub (σ.getD i .dead) (σ'.getD i .dead)): ∀v cv,An σ ρ w v cv->An σ' ρ w v cv
 | .rs id p off len,cv,⟨hid,sz,n,f,cn,ha,r⟩=>by
  obtain⟨f',ha'⟩:=At.sub' (hs id hid) ha;exact⟨by rw [hl];exact hid,sz,n,f',cn,ha',r⟩
 | .rp id p i k,cv,⟨hid,s,sz,n,f,b,o,cap,ha,r⟩=>by
  obtain⟨f',ha'⟩:=At.sub' (hs id hid) ha;exact⟨by rw [hl];exact hid,s,sz,n,f',b,o,cap,ha',r⟩
 | .c _,_,h=>h.elim
 | .dead,_,h=>h.elim
 | .many ..,_,h=>h.elim
 | .nd ..,_,h=>h.elim
theorem CR.sub{C:Ctx}{σ σ' ts ts':List V}{cts:Array Value}{w:World}{D:Nat->Prop}{ρ:Nat->Value}{F:Nat->Nat->Prop}(h:CR C σ ts cts w D ρ F)(hl:σ'.length=σ.length)(hs: ∀i,i<σ.length->Sub (σ.getD i .dead) (σ'.getD i .dead))
  (htl:ts'.length=ts.length) (ht: ∀i,i<ts.length->Ay (ts.getD i .dead) (ts'.getD i .dead)):CR C σ' ts' cts w D ρ F:=by
 refine⟨⟨fun i hi=>Rel.sub (hs i (by omega)) (h.wr.rel i (by omega)),h.wr.disj,h.wr.dD,h.wr.Dlt,fun i b hi=>h.wr.out i b (by omega)⟩,by rw [h.sz,htl],fun t ht'=>?_,h.fr,h.Fn,h.D1,h.D2,h.rt,by rw [hl];exact h.ml⟩
 exact Rel.subS (ht t (by omega)) (Rel.mono (fun _ h=>h) (An.sub hl hs) _ _ _ (fun _ _=>rfl) (h.tm t (by omega)))
theorem AT.sub{C:Ctx}{N:Nat}{S S':Ms}{a:Act}{w:World}(h:AT C N S a w)(hl:S'.σ.length=S.σ.length)(hs: ∀i,i<S.σ.length->Sub (S.σ.getD i .dead) (S'.σ.getD i .dead))(ht: ∀i,Ay (S.t i) (S'.t i)):AT C N S' a w:=by
 obtain⟨hd,hdd,D,ρ,F,hcr⟩:=h;refine⟨hd,fun x hx=>?_,D,ρ,F,hcr.sub hl hs (by simp) fun i hi=>?_⟩
 ·have:=ht x
  rw [hdd x hx]at this;rcases this with h|h
  ·exact h
  ·exact h
 ·have hi:i<N:=by simpa using hi
  rw [AN hi,AN hi];exact ht i
def Cl.frz:Cl->Cl
 | .c t _ x=>.c t 0 x
 |y=>y
def Sl.frz:Sl->Option Sl
 | .one y=>some (.one y.frz)
 | .new l=>match JT l with
  |some ⟨t,x⟩=>some (.one (.c (.ptr t) 0 x))
  |none=>none
 | .agg l=>some (.agg (l.map Cl.frz))
 | .pk t l=>some (.pk t (l.map Cl.frz))
 | .tup l=>some (.tup (l.map fun p=>(p.1,p.2.map Cl.frz)))
theorem Cl.frz_v{r:List Ae}(y:Cl):Go.Ve.frz (y.v r)=y.frz.v r:=by
 cases y with
 |c t d x=>
  cases ho:t.one with
  |true=>exact Wi ho d x
  |false=>cases t<;>first|rfl|cases ho
 |_=>rfl
theorem P7{r:List Ae}(l:List Cl):Go.Ve.frz (Ai (l.map (Cl.v r)))=Ai ((l.map Cl.frz).map (Cl.v r)):=by
 rw [frz_mk,List.map_map,List.map_map]
 congr 1
 exact List.map_congr_left fun y _=>Cl.frz_v y
theorem Sl.frz_v{r:List Ae}{y y':Sl}(h:y.frz=some y'):Go.Ve.frz (y.v r)=y'.v r:=by
 cases y with
 |one c=>cases h;exact Cl.frz_v c
 |new l=>
  unfold Sl.frz at h;simp only at h;split at h
  ·rename_i t x hf
   cases h;show Go.Ve.frz (Bj true (l.map Cl.v0))=Bj false (tyV t 0 x);rw [L7,DX _ _ hf]
  ·cases h
 |agg l=>cases h;exact P7 l
 |pk t l=>
  cases h;show Go.Ve.frz (pkL t (l.map (Cl.v r)))=pkL t ((l.map Cl.frz).map (Cl.v r));rw [frz_pk,List.map_map,List.map_map]
  congr 1
  exact List.map_congr_left fun y _=>Cl.frz_v y
 |tup l=>
  cases h;show Go.Ve.frz (CP _)=CP _;rw [AaC,List.map_map,List.map_map]
  congr 1
  refine List.map_congr_left fun p _=>?_
  obtain⟨b,l⟩:=p;cases b with
  |true=>exact P7 l
  |false=>
   show Go.Ve.frz ((l.map (Cl.v r)).getD 0 .dead)=((l.map Cl.frz).map (Cl.v r)).getD 0 .dead;rw [Aw (f:=Cl.v r) (a:=.dead) rfl,Aw (f:=Cl.v r) (a:=.dead) rfl,Cl.frz_v]
   congr 1
   simp only [gDE,List.getElem?_map];cases l[0]? <;>rfl
def Cl.chk(m:Nat):Cl->Cl
 | .rf id p=>bif Nat.blt id m then .rf id p else .dead
 | .rs id p off len=>bif Nat.blt id m then .rs id p off len else .dead
 | .rp id p i k=>bif Nat.blt id m then .rp id p i k else .dead
 |y=>y
def Sl.chk(m:Nat):Sl->Sl
 | .one y=>.one (y.chk m)
 | .new l=>.new l
 | .agg l=>.agg (l.map (Cl.chk m))
 | .pk t l=>.pk t (l.map (Cl.chk m))
 | .tup l=>.tup (l.map fun p=>(p.1,p.2.map (Cl.chk m)))
theorem Cl.chk_v{r r':List Ae}(hr: ∀id,id<r.length->r'.getD id .dead=r.getD id .dead)(y:Cl):Ay (y.v r) ((y.chk r.length).v r'):=by
 cases y with
 |rf id p=>
  show Ay _ ((bif Nat.blt id r.length then Cl.rf id p else .dead).v r');cases hb:Nat.blt id r.length with
  |false=>exact Ay.dead _
  |true=>
   have hb:id<r.length:=blE hb;show Ay (V.rs id p 0 (Af r id p).len) (V.rs id p 0 (Af r' id p).len);unfold Af;rw [hr id hb];exact Ay.refl _
 |rs id p off len=>
  show Ay _ ((bif Nat.blt id r.length then Cl.rs id p off len else .dead).v r');cases hb:Nat.blt id r.length with
  |false=>exact Ay.dead _
  |true=>exact Ay.refl _
 |rp id p off len=>
  show Ay _ ((bif Nat.blt id r.length then Cl.rp id p off len else .dead).v r');cases hb:Nat.blt id r.length with
  |false=>exact Ay.dead _
  |true=>exact Ay.refl _
 |_=>exact Ay.refl _
theorem B3{l:List Cl}{f g:Cl->V}(hf:f .dead= .dead)(hg:g .dead= .dead)(h: ∀y,Ay (f y) (g y))(k:Nat):Ay ((l.map f).getD k .dead) ((l.map g).getD k .dead):=by
 rw [Aw (f:=f) (a:=.dead) hf,Aw (f:=g) (a:=.dead) hg];exact h _
theorem Sl.chk_v{r r':List Ae}(hr: ∀id,id<r.length->r'.getD id .dead=r.getD id .dead)(y:Sl):Ay (y.v r) ((y.chk r.length).v r'):=by
 have agg: ∀l:List Cl,Ay (Ai (l.map (Cl.v r))) (Ai ((l.map (Cl.chk r.length)).map (Cl.v r'))):=by
  intro l;refine Ay.mk (by simp) fun k _=>?_
  rw [List.map_map];exact B3 rfl rfl (fun y=>Cl.chk_v hr y) k
 cases y with
 |one c=>exact Cl.chk_v hr c
 |new l=>exact Ay.refl _
 |agg l=>exact agg l
 |pk t l=>
  show Ay (pkL t (l.map (Cl.v r))) (pkL t ((l.map (Cl.chk r.length)).map (Cl.v r')));refine Ay.pk (by simp) fun k _=>?_
  rw [List.map_map];exact B3 rfl rfl (fun y=>Cl.chk_v hr y) k
 |tup l=>
  refine Ay.tup (by simp) fun k hk=>?_
  have hk:k<l.length:=by simpa using hk
  simp only [gDE,List.getElem?_map,gEE hk,Option.map_some,Option.getD_some];generalize l[k]=p;obtain⟨b,m⟩:=p;cases b with
  |true=>exact agg m
  |false=>
   have:=B3 (l:=m) (f:=Cl.v r) (g:=fun y=>(y.chk r.length).v r') rfl rfl (fun y=>Cl.chk_v hr y) 0
   have e:(m.map fun y=>(y.chk r.length).v r')=(m.map (Cl.chk r.length)).map (Cl.v r'):=by rw [List.map_map];rfl
   rw [e]at this;simpa using this
end Go.Ve

