/- The typed machine: contracts of functions that write their owned arguments. -/
import Derived.Test.YtbbhfpbalccohaaGreatTe
import Derived.Test.YtbbhfpbalccohaaGreatXa
namespace Go.Ve
def A9(m:Nat):List Cl->List Cl×List Ad
 | []=>([],[])
 | .c (.sl u) (d+1) xs::l=>(.rf m []::(A9 (m+1) l).1,.arr false u d xs::(A9 (m+1) l).2)
 |y::l=>(y::(A9 m l).1,(A9 m l).2)
abbrev WP:=Bool×Bool×Ty
def P6(p:WP)(x:p.2.2.T)(m:Nat):Sl×List Ad:=
 bif p.1 then(bif p.2.1 then .agg (A9 m (As p.2.2 p.2.2.dep x)).1 else .one ((A9 m (As p.2.2 p.2.2.dep x)).1.getD 0 .dead),(A9 m (As p.2.2 p.2.2.dep x)).2)
 else(bif p.2.1 then .agg (As p.2.2 0 x)else .one (.c p.2.2 0 x),[])
def PTW:List WP->Ty
 | []=>.unit
 | [p]=>p.2.2
 |p::q::l=>.pair p.2.2 (PTW (q::l))
def BC:(ps:List WP)->(PTW ps).T->Nat->List Sl×List Ad
 | [],_,_=>([],[])
 | [p],x,m=>([(P6 p x m).1],(P6 p x m).2)
 |p::q::l,x,m=>((P6 p x.1 m).1::(BC (q::l) x.2 (m+(P6 p x.1 m).2.length)).1,(P6 p x.1 m).2++(BC (q::l) x.2 (m+(P6 p x.1 m).2.length)).2)
def Zq:Ty->List Ty
 | .sl t=>[.sl t]
 | .pair a b=>Zq a++Zq b
 |_=>[]
def H4:List WP->List Ty
 | []=>[]
 |p::l=>(bif p.1 then Zq p.2.2 else [])++H4 l
structure SigW where
 ps:List WP
 rt:Ty
def Ty.sc:Ty->Bool
 | .int _=>true
 | .bool=>true
 | .str=>true
 |_=>false
def scV:(t:Ty)->t.T->Value
 | .int k,n=>.int k n
 | .bool,b=>.bool b
 | .str,s=>.string s
 |_,_=>undef
def wty:List Ty->Ty
 | []=>.unit
 | [t]=>t
 |t::u::l=>.pair t (wty (u::l))
def wOf:(tys:List Ty)->(wty tys).T->List (Σ t:Ty,t.T)
 | [],_=>[]
 | [t],x=>[⟨t,x⟩]
 |t::u::l,x=>⟨t,x.1⟩::wOf (u::l) x.2
def HT:Ad->(Σ t:Ty,t.T)->Ad
 | .arr ro u d _,⟨.sl u',xs⟩=>if h:u'=u then .arr ro u d (h▸xs)else .dead
 |_,_=>.dead
def BX:List Ad->List (Σ t:Ty,t.T)->List Ad
 |r::rs,y::ys=>HT r y::BX rs ys
 |_,_=>[]
def FTW(P:Program)(f:FuncId)(S:SigW)(g:(PTW S.ps).T->Option (S.rt.T×(wty (H4 S.ps)).T)):Prop:=
 ∀x u,g x=some u->S.rt.sc=true/\(wOf (H4 S.ps) u.2).length=(BC S.ps x 0).2.length/\(∀k,k<(BC S.ps x 0).2.length->(BX (BC S.ps x 0).2 (wOf (H4 S.ps) u.2)).getD k .dead≠.dead)/\
  FCW P f ((BC S.ps x 0).1.map (Sl.v (BC S.ps x 0).2)) ((BC S.ps x 0).2.map Ad.v) (scV S.rt u.1) ((BX (BC S.ps x 0).2 (wOf (H4 S.ps) u.2)).map Ad.v)
structure EnW where
 f:FuncId
 S:SigW
 g:(PTW S.ps).T->Option (S.rt.T×(wty (H4 S.ps)).T)
def VK:List EnW->FuncId->Option EnW
 | [],_=>none
 |e::l,f=>bif Nat.beq e.f f then some e else VK l f
def EnW.OK(P:Program)(e:EnW):Prop:=Bh P e.f=true/\FTW P e.f e.S e.g
theorem Py{P:Program}{f:FuncId}{e:EnW}: ∀ {Γ:List EnW},(∀e∈Γ,e.OK P)->VK Γ f=some e->e.OK P/\e.f=f
 | [],_,h=>by cases h
 |a::l,hΓ,h=>by
  unfold VK at h;cases hb:Nat.beq a.f f with
  |true=>
   rw [hb]at h;cases h;exact⟨hΓ _ (List.mem_cons_self ..),bqE hb⟩
  |false=>rw [hb]at h;exact Py (fun e he=>hΓ e (mCM _ he)) h
end Go.Ve


namespace Go.Ve
def Nq(Θ:Tab)(t:TypeId):Option TI:=((Θ.look t).bind (·.elem)).bind Θ.look
def O4(Θ:Tab)(s:St):Builtin->List Operand->List TypeId->Option TR
 | .len,[x],[t]=>tLen s (Θ.look t) (s.ev x)
 | .min,[x,y],_=>tMin (s.ev x) (s.ev y)
 | .max,[x,y],_=>tMax (s.ev x) (s.ev y)
 |_,_,_=>none
def Aae:Operand->Bool
 | .const (.slice none 0 0)=>true
 |_=>false
def O2(s:St)(i:Option TI)(x:Operand):Option TR:=bif Aae x then(match i with
 |some j=>some (.ok (.one (.c (.sl j.ty) (j.sd+1) [])))
 |none=>none)else Zi (s.ev x)
theorem H6{P:Program}{s:St}{x:Operand}{i:Option TI}{op:Op}{a:TR}(ho:op= .move x\/op= .assign x)(h:O2 s i x=some a):QS P s op a.y:=by
 unfold O2 at h;cases hb:Aae x with
 |false=>rw [hb]at h;exact NM ho h
 |true=>
  rw [hb]at h;simp only [cond_true]at h;split at h
  case h_2=>cases h
  rename_i j;cases h;unfold Aae at hb;split at hb
  case h_2=>cases hb
  have:Vm (s.den.ev (.const (.slice none 0 0))) (SK s (.one (.c (.sl j.ty) (j.sd+1) []))):=⟨rfl,.inr ⟨rfl,_,_,_,rfl⟩⟩;rcases ho with rfl|rfl<;>exact this
def tq(Θ:Tab)(s:St)(ty:TypeId):Op->Option TR
 | .move x=>O2 s (Nq Θ ty) x
 | .assign x=>O2 s (Nq Θ ty) x
 | .pick c x y=>Zg (s.ev c) (s.ev x) (s.ev y)
 | .load t x=>UK s (Θ.look t) (s.ev x)
 | .fieldAddr t x k=>UM s (Θ.look t) k (s.ev x)
 | .indexAddr t x i=>HG s (Nq Θ t) (s.ev x) (s.ev i)
 | .index t x i=>UL (Θ.look t) (s.ev x) (s.ev i)
 | .nilCheck x=>tNil (s.ev x)
 | .binOp op t x y _=>tBin (Θ.look t) op (s.ev x) (s.ev y)
 | .unOp op _ x=>tUn op (s.ev x)
 | .convert u v x=>Zk s.r (Θ.look u) (Θ.look v) (Nq Θ u) (Nq Θ v) (s.ev x)
 | .extract x k=>K8 k (s.ev x)
 | .build t ps=>UQ (Θ.look t) (ps.toList.map fun p=>(p.1,s.ev p.2))
 | .buildSlice t n ps=>DK n (ps.toList.map fun p=>(p.1,s.ev p.2)) (Nq Θ t)
 | .alloc t=>US (Θ.look t)
 | .box _ x=>tBox (s.ev x)
 | .makeSlice t l c=>Zj (Nq Θ t) (s.ev l) (s.ev c)
 | .slice t x lo hi mx=>match mx with
  |none=>UH s (Θ.look t) (Nq Θ t) (s.ev x) (JX (lo.map s.ev)) (JX (hi.map s.ev))
  |some _=>none
 | .call c=>match c.callee with
  | .builtin b=>O4 Θ s b c.args.toList c.argTypes.toList
  |_=>none
 | .makeFunc fn first caps=>tMkF s fn first.toList caps.toList
 | .makeInterface t x=>tMkI Θ s t x
 |_=>none
theorem OW{P:Program}{Θ:Tab}{s:St}(hΘ:Θ.OK P){ty:TypeId}{op:Op}{a:TR}(h:tq Θ s ty op=some a)(hp:a.p):QS P s op a.y:=by
 unfold tq at h;split at h
 case h_1=>exact H6 (.inl rfl) h
 case h_2=>exact H6 (.inr rfl) h
 case h_3=>exact NL h
 case h_4=>exact NO hΘ h hp
 case h_5=>exact Mt hΘ h
 case h_6=>exact Ij hΘ h hp
 case h_7=>exact Mq hΘ h hp
 case h_8=>exact Qf h
 case h_9=>exact Qn hΘ h hp
 case h_10=>exact UE h
 case h_11=>exact NP hΘ h hp
 case h_12=>exact JI h
 case h_13=>exact Mx hΘ h
 case h_14=>exact HH hΘ h
 case h_15=>exact MA hΘ h
 case h_16=>exact Qm h
 case h_17=>exact NN hΘ h hp
 case h_18=>
  split at h
  ·exact Mp hΘ h hp
  ·cases h
 case h_19 c=>
  obtain⟨callee,args,ats⟩:=c;split at h
  case h_2=>cases h
  rename_i b hb;have hb:callee= .builtin b:=hb;subst hb;unfold O4 at h;split at h
  case h_4=>cases h
  ·rename_i x t hx ht
   rw [XN (show args.toList= [x]from hx),XN (show ats.toList= [t]from ht)]
   exact Qk hΘ h
  ·rename_i x y hx
   have e:args= #[x,y]:=by have hx:args.toList= [x,y]:=hx;cases args;simp at hx;simp [hx]
   subst e;exact Qi h
  ·rename_i x y hx
   have e:args= #[x,y]:=by have hx:args.toList= [x,y]:=hx;cases args;simp at hx;simp [hx]
   subst e;exact Qj h
 case h_20=>exact Qh h
 case h_21=>exact Qg hΘ h
 case h_22=>cases h
def Aw:V->V->Prop
 | .many t n f,v'=>v'= .dead\/∃g,v'= .many t n g/\∀k,k<n->Aw (f k) (g k)
 |v,v'=>v'= .dead\/Sub v v'
theorem Aw.of: ∀ {v v':V},Sub v v'->Aw v v':=by
 intro v
 induction v with
 |many t n f ih=>intro v' h;obtain⟨g,rfl,h⟩:=h;exact .inr ⟨g,rfl,fun k hk=>ih k (h k hk)⟩
 |_=>intro v' h;exact .inr h
theorem Aw.refl(v:V):Aw v v:=Aw.of (Sub.refl v)
theorem Aw.dead: ∀ (v:V),Aw v .dead:=by
 intro v;cases v<;>exact .inl rfl
theorem Aw.mk{l m:List V}(hl:l.length=m.length)(h: ∀k,k<l.length->Aw (l.getD k .dead) (m.getD k .dead)):Aw (Ah l) (Ah m):=by
 unfold Ah;rw [<-hl];exact .inr ⟨_,rfl,h⟩
theorem Aw.tup{l m:List V}(hl:l.length=m.length)(h: ∀k,k<l.length->Aw (l.getD k .dead) (m.getD k .dead)):Aw (CO l) (CO m):=by
 unfold CO;rw [<-hl];exact .inr ⟨_,rfl,h⟩
theorem Aw.pk{t:Tg}{l m:List V}(hl:l.length=m.length)(h: ∀k,k<l.length->Aw (l.getD k .dead) (m.getD k .dead)):Aw (pkL t l) (pkL t m):=by
 unfold pkL;rw [<-hl];exact .inr ⟨_,rfl,h⟩
theorem Rel.subS{D:Nat->Prop}{w:World}{R:V->Value->Prop}: ∀ {v v':V} {cv:Value},Aw v v'->Rel D w R v cv noF->Rel D w R v' cv noF:=by
 intro v
 induction v with
 |many t n f ih=>
  intro v' cv h hr;rcases h with rfl|⟨g,rfl,h⟩
  ·exact fun _ h=>h
  obtain⟨cs,F,hcv,hn,hr,hd,hf⟩:=hr;have hF: ∀k,k<n->F k=noF:=fun k hk=>A0 fun b hb=>(hf b).2 ⟨k,hk,hb⟩
  exact⟨cs,fun _=>noF,hcv,hn,fun k hk=>ih k (h k hk) (by have:=hr k hk;rw [hF k hk]at this;exact this),fun _ _ _ _ _ _ h=>h.elim,fun b=>⟨fun h=>h.elim,fun⟨_,_,h⟩=>h⟩⟩
 |_=>
  intro v' cv h hr;rcases h with rfl|h
  ·exact fun _ h=>h
  ·exact Rel.sub h hr
theorem At.sub'{w:World}: ∀ {p:AM} {v v1:V} {cv:Value} {s:Bool} {sz n:Nat} {f:Nat->Nat->V} {c:Value},Sub v v1->At w p v cv (.nd s true sz n f) c->∃f',At w p v1 cv (.nd s true sz n f') c
 | [],v,v1,cv,s,sz,n,f,c,h,ha=>by
  obtain⟨rfl,rfl⟩:=ha;obtain⟨g,rfl,_⟩:=h;exact⟨g,rfl,rfl⟩
 |(i,k)::p,.nd s0 true sz0 n0 f0,v1,cv,s,sz,n,f,c,h,ha=>by
  obtain⟨g,rfl,h⟩:=h;obtain⟨h1,h2,b,o,cap,x,h3,h4,h5⟩:=ha;obtain⟨f',h'⟩:=At.sub' (h i k h1 h2) h5;exact⟨f',h1,h2,b,o,cap,x,h3,h4,h'⟩
 |_::_,.nd _ false _ _ _,_,_,_,_,_,_,_,_,ha=>ha.elim
 |_::_,.c _,_,_,_,_,_,_,_,_,ha=>ha.elim
 |_::_,.dead,_,_,_,_,_,_,_,_,ha=>ha.elim
 |_::_,.many ..,_,_,_,_,_,_,_,_,ha=>ha.elim
 |_::_,.rs ..,_,_,_,_,_,_,_,_,ha=>ha.elim
 |_::_,.rp ..,_,_,_,_,_,_,_,_,ha=>ha.elim
theorem Al.sub{σ σ':List V}{ρ:Nat->Value}{w:World}(hl:σ'.length=σ.length)(hs: ∀i,i<σ.length->Sub (σ.getD i .dead) (σ'.getD i .dead)): ∀v cv,Al σ ρ w v cv->Al σ' ρ w v cv
 | .rs id p off len,cv,⟨hid,sz,n,f,cn,ha,r⟩=>by
  obtain⟨f',ha'⟩:=At.sub' (hs id hid) ha;exact⟨by rw [hl];exact hid,sz,n,f',cn,ha',r⟩
 | .rp id p i k,cv,⟨hid,s,sz,n,f,b,o,cap,ha,r⟩=>by
  obtain⟨f',ha'⟩:=At.sub' (hs id hid) ha;exact⟨by rw [hl];exact hid,s,sz,n,f',b,o,cap,ha',r⟩
 | .c _,_,h=>h.elim
 | .dead,_,h=>h.elim
 | .many ..,_,h=>h.elim
 | .nd ..,_,h=>h.elim
theorem CR.sub{C:Ctx}{σ σ' ts ts':List V}{cts:Array Value}{w:World}{D:Nat->Prop}{ρ:Nat->Value}{F:Nat->Nat->Prop}(h:CR C σ ts cts w D ρ F)(hl:σ'.length=σ.length)(hs: ∀i,i<σ.length->Sub (σ.getD i .dead) (σ'.getD i .dead))
  (htl:ts'.length=ts.length) (ht: ∀i,i<ts.length->Aw (ts.getD i .dead) (ts'.getD i .dead)):CR C σ' ts' cts w D ρ F:=by
 refine⟨⟨fun i hi=>Rel.sub (hs i (by omega)) (h.wr.rel i (by omega)),h.wr.disj,h.wr.dD,h.wr.Dlt,fun i b hi=>h.wr.out i b (by omega)⟩,by rw [h.sz,htl],fun t ht'=>?_,h.fr,h.Fn,h.D1,h.D2,h.rt,by rw [hl];exact h.ml⟩
 exact Rel.subS (ht t (by omega)) (Rel.mono (fun _ h=>h) (Al.sub hl hs) _ _ _ (fun _ _=>rfl) (h.tm t (by omega)))
theorem AR.sub{C:Ctx}{N:Nat}{S S':Ms}{a:Act}{w:World}(h:AR C N S a w)(hl:S'.σ.length=S.σ.length)(hs: ∀i,i<S.σ.length->Sub (S.σ.getD i .dead) (S'.σ.getD i .dead))(ht: ∀i,Aw (S.t i) (S'.t i)):AR C N S' a w:=by
 obtain⟨hd,hdd,D,ρ,F,hcr⟩:=h;refine⟨hd,fun x hx=>?_,D,ρ,F,hcr.sub hl hs (by simp) fun i hi=>?_⟩
 ·have:=ht x
  rw [hdd x hx]at this;rcases this with h|h
  ·exact h
  ·exact h
 ·have hi:i<N:=by simpa using hi
  rw [AL hi,AL hi];exact ht i
def Cl.frz:Cl->Cl
 | .c t _ x=>.c t 0 x
 |y=>y
def Sl.frz:Sl->Option Sl
 | .one y=>some (.one y.frz)
 | .new l=>match JL l with
  |some ⟨t,x⟩=>some (.one (.c (.ptr t) 0 x))
  |none=>none
 | .agg l=>some (.agg (l.map Cl.frz))
 | .pk t l=>some (.pk t (l.map Cl.frz))
 | .tup l=>some (.tup (l.map fun p=>(p.1,p.2.map Cl.frz)))
theorem Cl.frz_v{r:List Ad}(y:Cl):Go.Ve.frz (y.v r)=y.frz.v r:=by
 cases y with
 |c t d x=>
  cases ho:t.one with
  |true=>exact V8 ho d x
  |false=>cases t<;>first|rfl|cases ho
 |_=>rfl
theorem P2{r:List Ad}(l:List Cl):Go.Ve.frz (Ah (l.map (Cl.v r)))=Ah ((l.map Cl.frz).map (Cl.v r)):=by
 rw [frz_mk,List.map_map,List.map_map]
 congr 1
 exact List.map_congr_left fun y _=>Cl.frz_v y
theorem Sl.frz_v{r:List Ad}{y y':Sl}(h:y.frz=some y'):Go.Ve.frz (y.v r)=y'.v r:=by
 cases y with
 |one c=>cases h;exact Cl.frz_v c
 |new l=>
  unfold Sl.frz at h;simp only at h;split at h
  ·rename_i t x hf
   cases h;show Go.Ve.frz (Bi true (l.map Cl.v0))=Bi false (tyV t 0 x);rw [LZ,DU _ _ hf]
  ·cases h
 |agg l=>cases h;exact P2 l
 |pk t l=>
  cases h;show Go.Ve.frz (pkL t (l.map (Cl.v r)))=pkL t ((l.map Cl.frz).map (Cl.v r));rw [frz_pk,List.map_map,List.map_map]
  congr 1
  exact List.map_congr_left fun y _=>Cl.frz_v y
 |tup l=>
  cases h;show Go.Ve.frz (CO _)=CO _;rw [Aan,List.map_map,List.map_map]
  congr 1
  refine List.map_congr_left fun p _=>?_
  obtain⟨b,l⟩:=p;cases b with
  |true=>exact P2 l
  |false=>
   show Go.Ve.frz ((l.map (Cl.v r)).getD 0 .dead)=((l.map Cl.frz).map (Cl.v r)).getD 0 .dead;rw [Av (f:=Cl.v r) (a:=.dead) rfl,Av (f:=Cl.v r) (a:=.dead) rfl,Cl.frz_v]
   congr 1
   simp only [gDE,List.getElem?_map];cases l[0]? <;>rfl
def Cl.chk(m:Nat):Cl->Cl
 | .rf id p=>bif Nat.blt id m then .rf id p else .dead
 | .rs id p off len=>bif Nat.blt id m then .rs id p off len else .dead
 | .rp id p i k=>bif Nat.blt id m then .rp id p i k else .dead
 |y=>y
def Sl.chk(m:Nat):Sl->Sl
 | .one y=>.one (y.chk m)
 | .new l=>.new l
 | .agg l=>.agg (l.map (Cl.chk m))
 | .pk t l=>.pk t (l.map (Cl.chk m))
 | .tup l=>.tup (l.map fun p=>(p.1,p.2.map (Cl.chk m)))
theorem Cl.chk_v{r r':List Ad}(hr: ∀id,id<r.length->r'.getD id .dead=r.getD id .dead)(y:Cl):Aw (y.v r) ((y.chk r.length).v r'):=by
 cases y with
 |rf id p=>
  show Aw _ ((bif Nat.blt id r.length then Cl.rf id p else .dead).v r');cases hb:Nat.blt id r.length with
  |false=>exact Aw.dead _
  |true=>
   have hb:id<r.length:=blE hb;show Aw (V.rs id p 0 (Af r id p).len) (V.rs id p 0 (Af r' id p).len);unfold Af;rw [hr id hb];exact Aw.refl _
 |rs id p off len=>
  show Aw _ ((bif Nat.blt id r.length then Cl.rs id p off len else .dead).v r');cases hb:Nat.blt id r.length with
  |false=>exact Aw.dead _
  |true=>exact Aw.refl _
 |rp id p off len=>
  show Aw _ ((bif Nat.blt id r.length then Cl.rp id p off len else .dead).v r');cases hb:Nat.blt id r.length with
  |false=>exact Aw.dead _
  |true=>exact Aw.refl _
 |_=>exact Aw.refl _
theorem B0{l:List Cl}{f g:Cl->V}(hf:f .dead= .dead)(hg:g .dead= .dead)(h: ∀y,Aw (f y) (g y))(k:Nat):Aw ((l.map f).getD k .dead) ((l.map g).getD k .dead):=by
 rw [Av (f:=f) (a:=.dead) hf,Av (f:=g) (a:=.dead) hg];exact h _
theorem Sl.chk_v{r r':List Ad}(hr: ∀id,id<r.length->r'.getD id .dead=r.getD id .dead)(y:Sl):Aw (y.v r) ((y.chk r.length).v r'):=by
 have agg: ∀l:List Cl,Aw (Ah (l.map (Cl.v r))) (Ah ((l.map (Cl.chk r.length)).map (Cl.v r'))):=by
  intro l;refine Aw.mk (by simp) fun k _=>?_
  rw [List.map_map];exact B0 rfl rfl (fun y=>Cl.chk_v hr y) k
 cases y with
 |one c=>exact Cl.chk_v hr c
 |new l=>exact Aw.refl _
 |agg l=>exact agg l
 |pk t l=>
  show Aw (pkL t (l.map (Cl.v r))) (pkL t ((l.map (Cl.chk r.length)).map (Cl.v r')));refine Aw.pk (by simp) fun k _=>?_
  rw [List.map_map];exact B0 rfl rfl (fun y=>Cl.chk_v hr y) k
 |tup l=>
  refine Aw.tup (by simp) fun k hk=>?_
  have hk:k<l.length:=by simpa using hk
  simp only [gDE,List.getElem?_map,gEE hk,Option.map_some,Option.getD_some];generalize l[k]=p;obtain⟨b,m⟩:=p;cases b with
  |true=>exact agg m
  |false=>
   have:=B0 (l:=m) (f:=Cl.v r) (g:=fun y=>(y.chk r.length).v r') rfl rfl (fun y=>Cl.chk_v hr y) 0
   have e:(m.map fun y=>(y.chk r.length).v r')=(m.map (Cl.chk r.length)).map (Cl.v r'):=by rw [List.map_map];rfl
   rw [e]at this;simpa using this
end Go.Ve

