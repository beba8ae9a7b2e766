/- The typed machine: append. -/
import Derived.Test.YtojjlnbnneemaaaTj
import Derived.Test.YtojjlnbnneemaaaTg
import Derived.Test.YtojjlnbnneemaaaVy
open Nat(beq beq_refl blt)
open List(range map_set getElem?_eq_none)
set_option linter.all false
namespace Go.Ve
variable{Q q:AX}{a:Act}{r1:Ae}{cts:Array Value}{z:Cl}{C:Ctx}{h:Cy}{r r':List Ae}{N d id j m:Nat}{F:Nat->Nat->Prop}{D:Nat->Prop}{ρ:Nat->Value}{x:Operand}{s s':St}{t:Ty}{w:World}
def Cl.kH(r:List Ae)(j:Nat):Cl->Cl
 |.rf id q=>bif beq id j then .c (.sl .unit) 0 (ZK (Ag r id q).len ())else .rf id q
 |.rs id q off len=>bif beq id j then .c (.sl .unit) 0 (ZK len ())else .rs id q off len
 |y=>y.kill j [] []
def Sl.kH(r:List Ae)(j:Nat):Sl->Sl
 |.one y=>.one (y.kH r j)
 |y=>y.kill j [] []
def AaC(n:Nat):V.nd true false 0 n (λ_ _=>.dead)=cV (.sl .unit) 0 (ZK n ()):=by
 show V.nd true false 0 n (λ_ _=>.dead)=V.nd true false 0 (List.replicate n ()).length λi k=>([].getD k .dead)
 simp
theorem Sl.kH_v(y:Sl):Ay (hdK j (y.v r)) ((y.kH r j).v (r.set j .dead)):=by
 have g:=GOK.kill (id:=j) (P:=[])
 have J:=Sl.kill_v (r:=r) (r':=r.set j .dead) g (λid' q E=>by
  have A:id'≠j:=by
   rintro rfl
   simp[hit,pre]at E
  rw[Bn A]) y
 have u:∀(id off len:Nat) (q:AX) (z:Cl),(id≠j->z.v (r.set j .dead)=.rs id q off len)->Ay (if id=j then V.nd true false 0 len (λ_ _=>.dead)else .rs id q off len) ((bif beq id j then Cl.c (.sl .unit) 0 (ZK len ())else z).v (r.set j .dead)):=by
  intro id off len q z B;by_cases h:id=j
  .subst h
   rw[if_pos rfl,beq_refl];show Ay _ (cV (.sl .unit) 0 (ZK len ()));rw[<-AaC];exact Ay.refl _
  .rw[if_neg h,BK h]
   show Ay _ (z.v _);rw[B h];exact Ay.refl _
 cases y with
 |one c=>
  cases c with
  |rf id q=>
   refine u id 0 (Ag r id q).len q (.rf id q) λh=>?_
   show V.rs id q 0 (Ag (r.set j .dead) id q).len=_;rw[Bn h]
  |rs id q off len=>exact u id off len q (.rs id q off len) λh=>rfl
  |c t d x=>
   have e:hdK j (cV t d x)=AJ j [] (cV t d x):=by cases t<;>first|rfl|(cases x<;>rfl)
   show Ay (hdK j (cV t d x)) _;rw[e];trivial
  |_=>trivial
 |_=>trivial
def HV(j:Nat)(s:St):St:=⟨λi=>(s.t i).kH s.r j,s.r.set j .dead⟩
def Ap:List Nat->St->St
 |[],s=>s
 |j::js,s=>Ap js (HV j s)
theorem QF(h:CR C s.den.σ ((range N).map s.den.t) cts w D ρ F)(B:j<s.r.length):
  CR C (HV j s).den.σ ((range N).map (HV j s).den.t) cts w D ρ (λi=>if i=j then noF else F i):=by
 have E:=h.dropH (by simpa [St.den]using B)
 have J:(HV j s).den.σ=s.den.σ.set j .dead:=by
  show(s.r.set j .dead).map Ae.v=(s.r.map Ae.v).set j .dead;rw[map_set];rfl
 refine E.sub (by grind) (λi _=>by rw[J];exact Sub.refl _) (by simp) λi u=>?_
 have u:i<N:=by grind
 have A:=Sl.kH_v (r:=s.r) (j:=j) (s.t i);simpa [u,St.den,HV]using A
def JU:(HV j s).r.length=s.r.length:=by simp[HV]
def Iq:∀(js:List Nat) (s:St),(Ap js s).r.length=s.r.length
 |[],_=>rfl
 |j::js,s=>by show(Ap js (HV j s)).r.length=_;rw[Iq js,JU]
theorem CP{C:Ctx}{N:Nat}{cts:Array Value}{w:World}{D:Nat->Prop}{ρ:Nat->Value}:∀(js:List Nat) {s:St}{F:Nat->Nat->Prop},CR C s.den.σ ((range N).map s.den.t) cts w D ρ F->(∀j∈js,j<s.r.length)->
  ∃F',CR C (Ap js s).den.σ ((range N).map (Ap js s).den.t) cts w D ρ F'/\∀i b,F' i b->F i b/\i∉js
 |[],s,F,h,_=>⟨F,h,λi b u=>⟨u,by simp⟩⟩
 |j::js,s,F,h,hj=>by
  obtain⟨F',E,B⟩:=CP js (QF h (hj j (List.mem_cons_self ..))) (λi J=>by rw[JU];grind)
  refine⟨F',E,λi b u=>?_⟩
  obtain⟨A,O⟩:=B i b u;split at A
  .trivial
  grind
theorem BZ{N:Nat}:∀(js:List Nat) {s:St},(∀x,N<=x->s.den.t x=.dead)->∀x,N<=x->(Ap js s).den.t x=.dead
 |[],s,h=>h
 |j::js,s,h=>by
  refine BZ js λx B=>?_
  have A:(s.t x).v s.r=.dead:=h x B;show((s.t x).kH s.r j).v (s.r.set j .dead)=.dead;cases u:s.t x with
  |one y=>
   rw[u]at A;cases y with
   |dead=>rfl
   |c t d z=>trivial
   |nil=>trivial
   |nilp=>trivial
   |nilf=>trivial
   |nilm=>trivial
   |rf=>trivial
   |rs=>trivial
   |rp=>trivial
   |rm=>trivial
  |new l=>rw[u]at A;trivial
  |agg l=>rw[u]at A;trivial
  |tup l=>rw[u]at A;trivial
  |pk t l=>rw[u]at A;trivial
theorem CR.give{σ ts:List V}(h:CR C σ ts cts w D ρ F)(hj:j<σ.length){l:List V}(ho:σ.getD j .dead=Bp true l){ts':List V}(hl:ts'.length=ts.length)
  (U:∀i,i<ts.length->Ay (hdK j (ts.getD i .dead)) (ts'.getD i .dead)\/(ts.getD i .dead=.rp j [] 0 0/\ts'.getD i .dead=Go.Ve.frz (Bp true l))):
  CR C (σ.set j .dead) ts' cts w (λb=>D b\/F j b) ρ (λi=>if i=j then noF else F i):=by
 have J:=h.dropH hj
 have hF:∀i b,(if i=j then noF else F i) b->F i b/\i≠j:=by
  intro i b u;split at u
  .exact u.elim
  .exact⟨u,by assumption⟩
 refine⟨⟨λi hi=>?_,J.wr.disj,λi b u=>?_,λb u=>?_,J.wr.out⟩,by rw[hl];exact h.sz,λt B=>?_,h.fr,J.Fn,λb u=>.inl (h.D1 b u),λb u E=>?_,h.rt,by simpa using h.ml⟩
 .exact Rel.mono (λ_ h=>.inl h) (λ_ _ h=>h) _ _ _ (λ_ _=>rfl) (J.wr.rel i hi)
 .obtain⟨A,Z⟩:=hF i b u
  exact λhd=>hd.elim (h.wr.dD i b A) (h.wr.disj i j b Z A)
 .exact u.elim (h.wr.Dlt b) (h.wr.lt j b)
 .have B:t<ts.length:=by omega
  rcases U t B with A|⟨A,Z⟩
  .have h3:=J.tm t (by simpa using B)
   have O:(ts.map (hdK j)).getD t .dead=hdK j (ts.getD t .dead):=by simp[B]
   rw[O]at h3;exact Rel.mono (λ_ h=>.inl h) (λ_ _ h=>h) _ _ _ (λ_ _=>rfl) (Rel.subS A h3)
  .have e4:=h.tm t B
   rw[A]at e4;obtain⟨⟨hid,s,sz,n,f,b,o,cap,ha,hi,hk,Y⟩,_⟩:=e4;obtain⟨O,e2⟩:=ha;rw[ho]at O;have hs:s=false:=by injection O
   subst hs;have hr:=Rel.frz' _ _ _ _ (h.wr.rel j hj);rw[ho,<-e2]at hr;rw[Z,Y];have e3:AC false b o n cap=.pointer (some ⟨b,o+0*sz+0,none⟩):=by simp[AC]
   rw[<-e3]
   trivial
 .rcases u with u|u
  .exact h.D2 b u E
  .exact(h.Fn j b u).elim .inr λW=>absurd E (Nat.not_lt.2 W)
def Sl.gv(r:List Ae)(j:Nat)(z:Cl):Sl->Sl
 |.one (.rp id [] 0 0)=>bif beq id j then .one z else .one (.rp id [] 0 0)
 |y=>y.kH r j
theorem Sl.gv_v(y:Sl):Ay (hdK j (y.v r)) ((y.gv r j z).v (r.set j .dead))\/(y.v r=.rp j [] 0 0/\y.gv r j z=.one z):=by
 unfold Sl.gv;split
 .rename_i id
  by_cases h:id=j
  .subst h
   rw[beq_refl];exact .inr ⟨rfl,rfl⟩
  .rw[BK h]
   refine .inl ?_;have e:hdK j (V.rp id [] 0 0)=.rp id [] 0 0:=if_neg λu=>h u.1
   show Ay (hdK j (V.rp id [] 0 0)) (.rp id [] 0 0);rw[e];exact Ay.refl _
 .exact .inl (Sl.kH_v y)
def Xi(j:Nat)(s:St):Option St:=match s.r.getD j .dead with
 |.obj false l=>match DO l with
  |some ⟨t,x⟩=>some ⟨λi=>(s.t i).gv s.r j (.c (.ptr t) 0 x),s.r.set j .dead⟩
  |none=>none
 |_=>none
theorem K3(h:Xi j s=some s'):∃(l:List Cl) (t:Ty) (x:t.T),j<s.r.length/\s.r.getD j .dead=.obj false l/\(l.map Cl.v0).map Go.Ve.frz=tyV t 0 x/\s'=⟨λi=>(s.t i).gv s.r j (.c (.ptr t) 0 x),s.r.set j .dead⟩:=by
 unfold Xi at h;split at h
 case h_2=>grind
 rename_i l u;split at h
 case h_2=>grind
 rename_i t x A;cases h;refine⟨l,t,x,?_,u,(Hd _ _ A).symm,rfl⟩
 grind
theorem Sl.gv_dead{y:Sl}(u:y.v r=.dead):(y.gv r j z).v r'=.dead:=by
 cases y with
 |one y=>
  cases y with
  |dead=>rfl
  |c t d z=>trivial
  |nil=>trivial
  |nilp=>trivial
  |nilf=>trivial
  |nilm=>trivial
  |rf=>trivial
  |rs=>trivial
  |rp=>trivial
  |rm=>trivial
 |new l=>trivial
 |agg l=>trivial
 |tup l=>trivial
 |pk t l=>trivial
theorem Y6(h:Xi j s=some s')(W:AQ C N s.den a w):AQ C N s'.den a w:=by
 obtain⟨l,t,x,O,u,Z,rfl⟩:=K3 h;obtain⟨hd,E,D,ρ,F,J⟩:=W;refine⟨hd,λi A=>Sl.gv_dead (E i A),λb=>D b\/F j b,ρ,λi=>if i=j then noF else F i,?_⟩
 have Y:s.den.σ.getD j .dead=Bp true (l.map Cl.v0):=by
  show(s.r.map Ae.v).getD j .dead=_;simp only[gDE]at u;rw[gDE,List.getElem?_map];rw[gEE O]at u⊢;have u:s.r[j]=.obj false l:=u;rw[u];rfl
 have h1:=J.give (by simpa [St.den]using O) Y (ts':=(range N).map λi=>((s.t i).gv s.r j (.c (.ptr t) 0 x)).v (s.r.set j .dead)) (by simp) λi A=>by
  have A:i<N:=by grind
  rw[AY A,AY A];rcases Sl.gv_v (s.t i)with B|⟨B,U⟩
  .exact .inl B
  .refine .inr ⟨B,?_⟩
   rw[U,Mr,Z];rfl
 have e1:(s.r.set j .dead).map Ae.v=s.den.σ.set j .dead:=by
  rw[map_set];rfl
 show CR C ((s.r.set j .dead).map Ae.v) _ a.tmps w _ ρ _;rw[e1];exact h1
def N4:List Operand->St->Option St
 |[],s=>some s
 |x::xs,s=>match s.ev x with
  |some (.one (.rp j [] 0 0))=>match Xi j s with
   |some s'=>N4 xs s'
   |none=>none
  |_=>N4 xs s
def I2{C:Ctx}{N:Nat}{a:Act}{w:World}:∀(xs:List Operand) {s s':St},N4 xs s=some s'->AQ C N s.den a w->AQ C N s'.den a w
 |[],s,s',h,hs=>by cases h;grind
 |x::xs,s,s',h,hs=>by
  unfold N4 at h;split at h
  .split at h
   case h_2=>grind
   rename_i u;exact I2 xs h (Y6 u hs)
  .exact I2 xs h hs
structure LR where
 p:Prop
 dec:Decidable p
 js:List Nat
 y:Cl
def Jg(s:St)(i:Option TI)(x y:Option Sl):Option LR:=match i with
 |none=>none
 |some i=>bif blt 0 i.bytes&&blt 0 i.ty.w then(match x with
  |some (.one .nil)=>(match U5 s i.ty s.r.length y with
   |some (d,ys,js)=>some ⟨HL ys<=NV i.bytes,inferInstance,js,.c (.sl i.ty) (d+1) ys⟩
   |none=>none)
  |some (.one (.rf id []))=>(match s.r.getD id .dead with
   |.arr false t d xs=>if h:t=i.ty then(match U5 s i.ty id y with
     |some (d',ys,js)=>bif dOK i.ty d' d then some ⟨HL xs+HL ys<=NV i.bytes,inferInstance,id::js,.c (.sl i.ty) (d+1) (Acc (h▸xs) ys)⟩else none
     |none=>none)else none
   |_=>none)
  |_=>none)else none
section sound
variable {P:Program}{Θ:Tab}
theorem WC{C:Ctx}{y:Cl}{w':World}{v':Value}(hd:a.defers=[])(E:∀x,h.n<=x->s.den.t x=.dead)(A:h.fz.contains d=false)(B:s.put h (some d) (.one y)=some s')
  (J:XX C (s.den.σ++(prom (y.v s.r) s.den.σ.length).2) (((range h.n).map s.den.t).set d (prom (y.v s.r) s.den.σ.length).1) (a.tmps.setIfInBounds d v') w'):AQ C h.n s'.den (a.put (some d) v') w':=by
 have u:d<h.n:=by
  unfold St.put at B;cases U:blt d h.n with
  |false=>grind
  |true=>simp_all
 refine AQ.put B ?_
 have e:s.den.res h (some d) ((Sl.one y).v s.r)=⟨AI s.den.t d (prom (y.v s.r) s.den.σ.length).1,s.den.σ++(prom (y.v s.r) s.den.σ.length).2⟩:=by
  unfold Ms.res;simp only[u,if_true,A];rfl
 rw[e];refine⟨hd,λx O=>?_,?_⟩
 .unfold AI
  grind
 .rw[Db u]at J
  trivial
theorem Uf(hΘ:Θ.OK P){C:Ctx}{h:Cy}{s s':St}{o:Oper}{t:TypeId}{x y:Operand}{a:Act}{w:World}{A:LR}{d:Nat}{next:Act->World->Prop}{Q:Exit->Act->World->Prop}
  (ho:o.op=.call ⟨.builtin .append,#[x,y],#[t,t]⟩) (hdst:o.dst=some d) (hfz:h.fz.contains d=false) (O:Jg s (((Θ.look t).bind (·.elem)).bind Θ.look) (s.ev x) (s.ev y)=some A) (hA:A.p) (hp:(Ap A.js s).put h (some d) (.one A.y)=some s')
  (hs:AQ C h.n s.den a w) (hn:∀a' w',AQ C h.n s'.den a' w'->next a' w'):o.wp P a w next Q:=by
 obtain⟨hdf,hdd,D,ρ,F,u⟩:=hs
 -- the run, and what follows
 have key:∀(E:TI) (e:TypeId),slI P t=some ⟨e,E.ty.w,E.bytes,B2 E.ty⟩->0<E.bytes->0<E.ty.w->∀(xs:List E.ty.T) (dx:Nat) (ys:List E.ty.T) (js:List Nat) (fpx:Nat->Prop) (id:Nat),
   Rel D w noR (cV (.sl E.ty) (dx+1) xs) (a.eval x) fpx->(∀c,fpx c->∃j∈A.js,F j c)->(∀c,fpx c->F id c)->YOK s E.ty id y a w D F dx ys js->(∀j∈js,j∈A.js)->(∀j∈A.js,j<s.r.length)->
   xs.length+ys.length<=NV E.bytes->A.y=.c (.sl E.ty) (dx+1) (xs++ys)->o.wp P a w next Q:=by
  intro E e hsl Y hw xs dx ys js fpx id J hfA hfid hY hjs hjl hlim hAy;obtain⟨⟨Fy,hrd,hFy,hFd⟩,hjs2⟩:=hY
  have U:(xs.length+ys.length)*E.bytes<=140737488355328:=by
   rw[Nat.mul_comm];exact(Nat.mul_comm _ _▸(Nat.le_div_iff_mul_le Y).1 hlim)
  have h63:xs.length+ys.length<=maxLen:=by
   have:xs.length+ys.length<=(xs.length+ys.length)*E.bytes:=Nat.le_mul_of_pos_right _ Y;simp only[maxLen];omega
  obtain⟨v',w',fp,hrun,hos,htp,hout,hdr,hsz,hbl,hr',hfp⟩:=Rel.append (P:=P) (ty:=o.type) (f:=λi k=>(tyV E.ty dx (xs.getD i E.ty.dflt)).getD k .dead) hsl hw J (λb U h=>by obtain⟨j,_,W⟩:=hfA b h;exact u.wr.dD j b W U) u.wr.Dlt hrd
   (λi k c hi hk hF=>by
    obtain⟨j,W,B⟩:=hFy i k c hi hk hF;refine⟨u.wr.dD j c B,λhx=>?_⟩
    exact u.wr.disj j id c (hjs2 j W).2 B (hfid c hx)) hFd h63 U
  obtain⟨F',hcr',hF'⟩:=CP A.js u hjl
  have hr2:Rel D w' noR (A.y.v (Ap A.js s).r) v' fp:=by
   rw[hAy];exact Rel.sub (MG rfl rfl (λ_ _ _=>rfl) (λ_ _ _=>rfl)) hr'
  have hfpG:∀b,fp b->(∃j∈A.js,F j b)\/w.heap.size<=b:=by
   intro b U;rcases hfp b U with Z|⟨i,k,hi,hk,Z⟩|Z
   .exact .inl (hfA b Z)
   .obtain⟨j,W,B⟩:=hFy i k b hi hk Z
    exact .inl ⟨j,hjs j W,B⟩
   .exact .inr Z
  have hc:=CR.own hcr' (G:=λb=>∃j∈A.js,F j b) (D':=D) (λi b U ⟨j,W,B⟩=>by
    obtain⟨Z,h2⟩:=hF' i b U;exact u.wr.disj i j b (λe=>h2 (e▸W)) Z B) (λb U ⟨j,_,B⟩=>u.wr.dD j b B U) (λb ⟨j,_,B⟩=>u.Fn j b B) hos htp hout hdr hsz (λc hc hG=>hbl c hc λh=>hG (hfA c h)) hr2 hfpG
   (λ_ h=>h) (λ_ h=>.inl h) (λb U=>⟨Nat.lt_of_lt_of_le (u.wr.Dlt b U) hsz,λh=>by
    rcases hfpG b h with⟨j,_,B⟩|h2
    .exact u.wr.dD j b B U
    .have:=u.wr.Dlt b U;omega⟩) d
  have hs':=WC (h:=h) hdf (BZ A.js hdd) hfz hp hc;unfold Oper.wp execOp;simp only[ho,resolve,invoke,builtin,Sem.run_bind,Sem.run_pure,Result.andThen_ok,List.map_toArray,List.map_cons,List.map_nil,hrun,hdst];show next (a.put o.dst v') w'
  rw[hdst];exact hn _ _ hs'
 unfold Jg at O;split at O
 .cases O
 rename_i E hti;obtain⟨e,hsl,_⟩:=Dz hΘ hti;obtain⟨U,O⟩:=Bc O;simp only[bAE]at U;have Y:=Lk U.1;have hw:=Lk U.2;have J:=BE u hdd x;split at O
 case h_3=>cases O
 .rename_i hx
  rw[Bf hx]at J;split at O
  case h_2=>cases O
  rename_i d' ys js hy;cases O;have hY:=Iv u hdd hy;refine key E e hsl Y hw [] d' ys js noF s.r.length ?_ (λ_ h=>h.elim) (λ_ h=>h.elim) hY (λ_ h=>h) (λj W=>(hY.js j W).1) (by simpa [HL]using hA) (by simp)
  exact .inl ⟨rfl,rfl,.inl J.1,λ_ h=>h⟩
 .rename_i id hx
  rw[Bf hx]at J;split at O
  case h_2=>cases O
  rename_i t' dx xs hr;split at O
  case isFalse=>cases O
  rename_i ht;subst ht;split at O
  case h_2=>cases O
  rename_i d' ys js hy;obtain⟨hdk,O⟩:=Bc O;cases O;have hY:=Iv u hdd hy
  have hlen:(Ag s.r id []).len=xs.length:=by
   show(s.r.getD id .dead).len=_;rw[hr];rfl
  have J:Rel D w (Aq s.den.σ ρ w) (.rs id [] 0 (Ag s.r id []).len) (a.eval x) noF:=J;rw[hlen]at J
  have hσ:s.den.σ.getD id .dead=.nd true true E.ty.w xs.length (λi k=>(tyV E.ty dx (xs.getD i E.ty.dflt)).getD k .dead):=by
   show(s.r.map Ae.v).getD id .dead=_;rw[Ax,hr];rfl
  obtain⟨_,hrr⟩:=P0 u.wr hσ J.1;have hid:id<s.r.length:=by simpa [St.den]using J.1.1
  refine key E e hsl Y hw xs dx ys js (F id) id hrr (λc hc=>⟨id,by simp,hc⟩) (λ_ h=>h) ?_ (λj W=>mCM _ W) (λj W=>?_) hA rfl
  .have ee:tyV E.ty d'=tyV E.ty dx:=funext λz=>Dl _ _ _ z (Mx hdk)
   obtain⟨⟨Fy,Z,h2⟩,h3⟩:=hY;rw[ee]at Z;exact⟨⟨Fy,Z,h2⟩,h3⟩
  .rcases List.mem_cons.1 W with rfl|W
   .exact hid
   .exact(hY.js j W).1
def peq:AX->AX->Bool
 |[],[]=>true
 |(i,k)::p,(j,l)::q=>beq i j&&beq k l&&peq p q
 |_,_=>false
def WA:∀{p q:AX},peq p q=true->p=q
 |[],[],_=>rfl
 |(i,k)::p,(j,l)::q,h=>by
  simp only[peq,bAE]at h;rw[bqE h.1.1,bqE h.1.2,WA h.2]
 |[],_::_,h=>by cases h
 |_::_,[],h=>by cases h
def Mm:∀q:AX,AT q q=true
 |[]=>rfl
 |(i,k)::q=>by simp[AT,Mm q]
def rrk(id:Nat)(q:AX)(m:Nat)(id':Nat)(u:AX)(keep new:Cl):Cl:=bif beq id' m then .dead else bif beq id' id then(bif peq q u then new else bif pre (q.map (·.2)) u then .dead else keep)else keep
def Cl.rr(id:Nat)(q:AX)(m:Nat):Cl->Cl
 |.rf id' u=>rrk id q m id' u (.rf id' u) (.rf m [])
 |.rs id' u off len=>rrk id q m id' u (.rs id' u off len) (.rs m [] off len)
 |.rp id' u i k=>rrk id q m id' u (.rp id' u i k) (.rp m [] i k)
 |.rm id' u=>rrk id q m id' u (.rm id' u) (.rm m [])
 |y=>y
def Sl.mapC(K:Cl->Cl):Sl->Sl
 |.one y=>.one (K y)
 |.new l=>.new l
 |.agg l=>.agg (l.map K)
 |.pk t l=>.pk t (l.map K)
 |.tup l=>.tup (l.map λp=>(p.1,p.2.map K))
theorem Sl.mapC_v{G:V->V}{K:Cl->Cl}(u:Bb G)(hd:K .dead=.dead)(B:∀y:Cl,Ay (G (y.v r)) ((K y).v r'))(y:Sl):Ay (G (y.v r)) ((y.mapC K).v r'):=by
 have agg:∀l:List Cl,Ay (G (Am (l.map (Cl.v r)))) (Am ((l.map K).map (Cl.v r'))):=by
  intro l;rw[G_mk u];refine Ay.mk (by simp) λk _=>?_
  simp_all
 cases y with
 |one c=>exact B c
 |new l=>show Ay (G (Bp true _)) (Bp true _);rw[show G (Bp true (l.map Cl.v0))=Bp true (l.map Cl.v0)from u.nd _ _ _ _ _];exact Ay.refl _
 |agg l=>exact agg l
 |pk t l=>
  show Ay (G (pkL t (l.map (Cl.v r)))) (pkL t ((l.map K).map (Cl.v r')));rw[G_pk u];refine Ay.pk (by simp) λk _=>?_
  simp_all
 |tup l=>
  show Ay (G (DC _)) (DC _);rw[G_tup u];refine Ay.tup (by simp) λk A=>?_
  have A:k<l.length:=by simpa using A
  simp only[gDE,List.getElem?_map,gEE A,Option.getD_some];generalize l[k]=p;obtain⟨b,m⟩:=p;cases b with
  |true=>exact agg m
  |false=>
   cases m with
   |nil=>exact Ay.dead _
   |cons y m=>exact B y
def Aal(s:St):Option Sl->Option St
 |some (.one (.rf id (a::q)))=>match MB (s.r.getD id .dead) (a::q),Ag s.r id (a::q)with
  |some r1,.arr false t d xs=>some ⟨λi=>(s.t i).mapC (Cl.rr id (a::q) s.r.length),s.r.set id r1++[Ae.arr false t d xs]⟩
  |_,_=>some s
 |_=>some s
theorem V8{d:Nat}{xs:List t.T}(hm:m=s.r.length)(hidr:id<s.r.length)(hcl:∀u,pre (Q.map (·.2)) u=false->(r1.at' u).len=((s.r.getD id .dead).at' u).len)(Z:(Ag s.r id Q).len=xs.length):
  ∀y:Cl,Ay (rrV id Q m (y.v s.r)) ((y.rr id Q m).v (s.r.set id r1++[Ae.arr false t d xs])):=by
 have key:∀(id':Nat) (u:AX) (keep new:Cl) (v v':V),(id'=id/\AT Q u=true->rrV id Q m v=v')->(¬ (id'=id/\AT Q u=true)->rrV id Q m v=v)->
   (id'≠m->¬ (id'=id/\AT Q u=true)->¬ (id'=id/\pre (Q.map (·.2)) u=true)->keep.v (s.r.set id r1++[Ae.arr false t d xs])=v)->(id'=id->u=Q->new.v (s.r.set id r1++[Ae.arr false t d xs])=v')->
   Ay (rrV id Q m v) ((rrk id Q m id' u keep new).v (s.r.set id r1++[Ae.arr false t d xs])):=by
  intro id' u keep new v v' h1 h2 h3 h4;unfold rrk;cases hb:beq id' m with
  |true=>exact Ay.dead _
  |false=>
   have B:id'≠m:=λe=>by rw[e,beq_refl]at hb;cases hb
   cases J:beq id' id with
   |false=>
    have E:id'≠id:=λe=>by rw[e,beq_refl]at J;cases J
    show Ay _ (keep.v _);rw[h2 (λh=>E h.1),h3 B (λh=>E h.1) (λh=>E h.1)]
    exact Ay.refl _
   |true=>
    have e:=bqE J;cases W:peq Q u with
    |true=>
     have eq:=(WA W).symm;show Ay _ (new.v _);rw[h1 ⟨e,by rw[eq];exact Mm Q⟩,h4 e eq]
     exact Ay.refl _
    |false=>
     cases A:pre (Q.map (·.2)) u with
     |true=>exact Ay.dead _
     |false=>
      have n1:¬ (id'=id/\AT Q u=true):=λh=>by rw[NI h.2]at A;cases A
      show Ay _ (keep.v _);rw[h2 n1,h3 B n1 (λh=>by rw[h.2]at A;cases A)]
      exact Ay.refl _
 intro y;cases y with
 |rf id' u=>
  refine key id' u _ _ (.rs id' u 0 (Ag s.r id' u).len) (.rs m (u.drop Q.length) 0 (Ag s.r id' u).len) (λh=>by simp only[rrV,if_pos h]) (λh=>by simp only[rrV,if_neg h]) (λB _ Y=>?_) (λe O=>?_)
  .show V.rs id' u 0 (Ag (s.r.set id r1++[Ae.arr false t d xs]) id' u).len=_
   congr 1
   by_cases U:id'<s.r.length
   .have e1:Ag (s.r.set id r1++[Ae.arr false t d xs]) id' u=Ag (s.r.set id r1) id' u:=by
     unfold Ag;rw[gDE,gAL (by simpa using U),<-gDE]
    rw[e1];by_cases he:id'=id
    .subst he
     rw[BR U]
     exact hcl u (by cases W:pre (Q.map (·.2)) u with
      |false=>rfl
      |true=>exact absurd ⟨rfl,W⟩ Y)
    .rw[Bn he]
   .unfold Ag
    rw[gDE,getElem?_eq_none (by simp;omega),gDE,getElem?_eq_none (by omega)]
  .subst e;subst O
   show V.rs m [] 0 (Ag (s.r.set id' r1++[Ae.arr false t d xs]) m []).len=_
   have e1:Ag (s.r.set id' r1++[Ae.arr false t d xs]) m []=Ae.arr false t d xs:=by
    unfold Ag;rw[hm,gDE,gAR (by simp)]
    simp[Ae.at']
   rw[e1,Z];simp[Ae.len]
 |rs id' u off len=>
  exact key id' u _ _ (.rs id' u off len) (.rs m (u.drop Q.length) off len) (λh=>by simp only[rrV,if_pos h]) (λh=>by simp only[rrV,if_neg h]) (λ_ _ _=>rfl) (λe O=>by subst O;simp[Cl.v])
 |rp id' u i k=>
  exact key id' u _ _ (.rp id' u i k) (.rp m (u.drop Q.length) i k) (λh=>by simp only[rrV,if_pos h]) (λh=>by simp only[rrV,if_neg h]) (λ_ _ _=>rfl) (λe O=>by subst O;simp[Cl.v])
 |rm id' u=>
  exact key id' u _ _ (.rm id' u) (.rm m (u.drop Q.length)) (λh=>by simp only[rrV,if_pos h]) (λh=>by simp only[rrV,if_neg h]) (λ_ _ _=>rfl) (λe O=>by subst O;simp[Cl.v])
 |dead=>exact Ay.dead _
 |nil=>exact Ay.refl (.c _)
 |nilp=>exact Ay.refl (.c _)
 |nilf=>exact Ay.refl (.c _)
 |nilm=>exact Ay.refl (.c _)
 |c t d x=>
  show Ay (rrV id Q m (cV t d x)) (cV t d x);have:rrV id Q m (cV t d x)=cV t d x:=by cases t<;>first|rfl|exact(Do _ _ _).osl|exact(Do _ _ _).clo
  rw[this];exact Ay.refl _
def rkk(id:Nat)(q:AX)(m:Nat)(id':Nat)(u:AX)(keep:Cl):Cl:=bif beq id' m then .dead else bif beq id' id then(bif pre (q.map (·.2)) u then .dead else keep)else keep
def Cl.rk(id:Nat)(q:AX)(m:Nat):Cl->Cl
 |.rf id' u=>rkk id q m id' u (.rf id' u)
 |.rs id' u off len=>rkk id q m id' u (.rs id' u off len)
 |.rp id' u i k=>rkk id q m id' u (.rp id' u i k)
 |.rm id' u=>rkk id q m id' u (.rm id' u)
 |y=>y
theorem P4{id':Nat}{u:AX}{keep new:Cl}:rkk id q m id' u keep=.dead\/rkk id q m id' u keep=rrk id q m id' u keep new:=by
 unfold rkk rrk;cases beq id' m with
 |true=>simp
 |false=>
  cases beq id' id with
  |false=>simp
  |true=>
   cases A:pre (q.map (·.2)) u with
   |true=>simp
   |false=>
    cases B:peq q u with
    |true=>
     have:=WA B;subst this;rw[NI (Mm q)]at A;grind
    |false=>simp
def rk_or(y:Cl):y.rk id q m=.dead\/y.rk id q m=y.rr id q m:=by
 cases y with
 |rf=>exact P4
 |rs=>exact P4
 |rp=>exact P4
 |rm=>exact P4
 |_=>exact .inr rfl
theorem rk_sub{d:Nat}{xs:List t.T}(J:m=s.r.length)(u:id<s.r.length)(E:∀A,pre (Q.map (·.2)) A=false->(r1.at' A).len=((s.r.getD id .dead).at' A).len)(B:(Ag s.r id Q).len=xs.length)
  (y:Cl):Ay (rrV id Q m (y.v s.r)) ((y.rk id Q m).v (s.r.set id r1++[Ae.arr false t d xs])):=by
 rcases rk_or y with h|h
 .rw[h];exact Ay.dead _
 .rw[h];exact V8 J u E B y
theorem Ay.of_dead{v:V}(h:Ay .dead v):v=.dead:=by
 rcases h with h|h
 .grind
 trivial
theorem QI{C:Ctx}{N:Nat}{a:Act}{w:World}{d:Nat}{xs:List t.T}(hx:s.ev x=some (.one (.rf id Q)))(hcut:MB (s.r.getD id .dead) Q=some r1)(hne:Ag s.r id Q≠.dead)
  (hnv:(Ag s.r id Q).v=arr true t.w (tyV t d) t.dflt xs) (hnl:(Ag s.r id Q).len=xs.length) (hs:AQ C N s.den a w) {f:Nat->Sl} (hf:∀i,Ay (rrV id Q s.r.length ((s.t i).v s.r)) ((f i).v (s.r.set id r1++[Ae.arr false t d xs]))):AQ C N (⟨f,s.r.set id r1++[Ae.arr false t d xs]⟩:St).den a w:=by
 obtain⟨hdf,Y,D,ρ,F,hcr⟩:=hs;have hr:=BE hcr Y x;rw[Bf hx]at hr;have hr:Rel D w (Aq s.den.σ ρ w) (.rs id Q 0 (Ag s.r id Q).len) (a.eval x) noF:=hr;obtain⟨⟨U,sz,n,f,cn,hat,hle,hcv⟩,_⟩:=hr;obtain⟨ρ',F',E,_⟩:=CR.reroot hcr U hat;have hidr:id<s.r.length:=by simpa [St.den]using U
 obtain⟨Z,hcl⟩:=JX hcut;have u:sub Q (s.den.σ.getD id .dead)=arr true t.w (tyV t d) t.dflt xs:=(AV hne).trans hnv;have O:s.den.σ.length=s.r.length:=by simp[St.den]
 obtain⟨m,hm⟩:∃m,m=s.r.length:=⟨_,rfl⟩;rw[<-hm]at hf;rw[O,<-hm]at E;refine⟨hdf,λx hx=>?_,D,ρ',F',?_⟩
 .have h0:(s.t x).v s.r=.dead:=Y x hx
  have h1:=hf x;rw[h0]at h1;exact Ay.of_dead h1
 .have J:s.den.σ=s.r.map Ae.v:=rfl
  have hm':(s.r.map Ae.v).length=m:=by simp[hm]
  refine E.sub (by simp[St.den]) (λi _=>?_) (by simp) λi B=>?_
  .show Sub _ (((s.r.set id r1++[Ae.arr false t d xs]).map Ae.v).getD i .dead)
   rw[List.map_append,map_set,J];by_cases B:i<s.r.length
   .rw[AD (by simpa using B),AD (by simpa using B)]
    by_cases W:id=i
    .subst W
     rw[Aj (by simpa using B),Aj (by simpa using B),Ax]
     exact Z
    .rw[Ai W,Ai W];exact Sub.refl _
   .by_cases W:i=s.r.length
    .subst W
     have e1:∀(A:List V) (v:V),A.length=s.r.length->(A++[v]).getD s.r.length .dead=v:=by
      intro A v hA;rw[<-hA,gDE,gAR (by simp)];simp
     rw[e1 _ _ (by simp),show([Ae.arr false t d xs].map Ae.v)=[arr true t.w (tyV t d) t.dflt xs]from rfl,e1 _ _ (by simp)]
     rw[J]at u;rw[u];exact Sub.refl _
    .have e1:∀(A:List V) (v:V),A.length=s.r.length->(A++[v]).getD i .dead=.dead:=by
      intro A v hA;rw[gDE,getElem?_eq_none (by simp;omega)];rfl
     rw[e1 _ _ (by simp),show([Ae.arr false t d xs].map Ae.v)=[arr true t.w (tyV t d) t.dflt xs]from rfl,e1 _ _ (by simp)]
     exact Sub.refl _
  .have B:i<N:=by simpa using B
   have hk:=hf i;simpa [B,St.den]using hk
theorem My(h:Aal s (s.ev x)=some s')(O:AQ C N s.den a w):AQ C N s'.den a w:=by
 unfold Aal at h;split at h
 case h_2=>grind
 rename_i id b E J;split at h
 case h_2=>grind
 rename_i r1 t d xs u A;cases h;have B:id<s.r.length:=by
  rcases Nat.lt_or_ge id s.r.length with h|h
  .omega
  .unfold Ag at A
   rw[gDE,getElem?_eq_none h]at A;rw[show(none:Option Ae).getD .dead=.dead from rfl,CQ]at A;grind
 exact QI J u (by grind) (by rw[A];rfl) (by rw[A];rfl) O λi=>Sl.mapC_v (Do id (b::E) s.r.length) rfl (V8 rfl B (JX u).2 (by rw[A];rfl)) (s.t i)
def cutO(s:St)(x:Operand):Option St:=match x with
 |.tmp y=>match s.t y with
  |.one (.rf id (a::q))=>match MB (s.r.getD id .dead) (a::q),Ag s.r id (a::q)with
   |some r1,.opt false t d v=>some ⟨λi=>bif beq i y then .one (.rf s.r.length [])else(s.t i).mapC (Cl.rk id (a::q) s.r.length),s.r.set id r1++[Ae.arr false t d (getO v)]⟩
   |_,_=>Aal s (s.ev x)
  |_=>Aal s (s.ev x)
 |_=>Aal s (s.ev x)
theorem Ab8(h:cutO s x=some s')(O:AQ C N s.den a w):AQ C N s'.den a w:=by
 unfold cutO at h;split at h
 case h_2=>exact My h O
 rename_i y;split at h
 case h_2=>exact My h O
 rename_i id b A hy;split at h
 case h_2=>exact My h O
 rename_i r1 t d v u U;cases h;have hx:s.ev (.tmp y)=some (.one (.rf id (b::A))):=by show some (s.t y)=_;rw[hy]
 have J:Ag s.r id (b::A)≠.dead:=by rw[U];simp
 have B:id<s.r.length:=by
  rcases Nat.lt_or_ge id s.r.length with h|h
  .exact h
  .exfalso
   apply J;unfold Ag;rw[gDE,getElem?_eq_none h];exact CQ _
 obtain⟨ys,rfl⟩:∃ys,v=some ys:=by
  obtain⟨hdf,W,D,ρ,F,Y⟩:=O;have hr:=BE Y W (.tmp y);rw[Bf hx]at hr;obtain⟨⟨hid,sz,n,f,cn,Z,hle,hcv⟩,_⟩:=hr;have e:=At.sub Z;have e2:sub (b::A) (s.den.σ.getD id .dead)=Abk true t.w (tyV t d) t.dflt v:=(AV J).trans (by rw[U];rfl)
  rw[e2]at e;cases v with
  |none=>cases e
  |some ys=>exact⟨ys,rfl⟩
 have E:(Ag s.r id (b::A)).len=ys.length:=by rw[U];rfl
 refine QI (xs:=ys) hx u J (by rw[U];rfl) E O λi=>?_
 cases hi:beq i y with
 |false=>exact Sl.mapC_v (Do id (b::A) s.r.length) rfl (rk_sub rfl B (JX u).2 E) (s.t i)
 |true=>
  have e:=bqE hi;subst e;rw[hy];have:=V8 (xs:=ys) (d:=d) (t:=t) (m:=s.r.length) rfl B (JX u).2 E (.rf id (b::A))
  have e1:(Cl.rf id (b::A)).rr id (b::A) s.r.length=.rf s.r.length []:=by
   have p:∀q:AX,peq q q=true:=by
    intro q
    induction q with
    |nil=>rfl
    |cons a q ih=>obtain⟨i,k⟩:=a;simp[peq,beq_refl,ih]
   show rrk id (b::A) s.r.length id (b::A) _ _=_;unfold rrk;have h0:beq id s.r.length=false:=by
    cases hb:beq id s.r.length with
    |false=>rfl
    |true=>have:=bqE hb;omega
   rw[h0,beq_refl,p];rfl
  rw[e1]at this;exact this
end sound
end Go.Ve

