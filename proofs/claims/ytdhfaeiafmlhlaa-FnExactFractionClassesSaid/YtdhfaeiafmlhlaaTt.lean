/- The typed machine: append. -/
import Derived.Test.YtdhfaeiafmlhlaaTj
import Derived.Test.YtdhfaeiafmlhlaaTg
import Derived.Test.YtdhfaeiafmlhlaaVy
set_option linter.all false
namespace Go.Ve
variable{Q q:AX}{r1:Ab}{a:Act}{cts:Array Value}{z:Cl}{C:Ctx}{h:Cw}{r r':List Ab}{N d id j m:Nat}{F:Nat->Nat->Prop}{D:Nat->Prop}{ρ:Nat->Value}{x:Operand}{s s':St}{t:Ty}{w:World}
def Cl.kH(r:List Ab)(j:Nat):Cl->Cl
 |.rf id q=>bif Nat.beq id j then .c (.sl .unit) 0 (AaZ (Af r id q).len ())else .rf id q
 |.rs id q off len=>bif Nat.beq id j then .c (.sl .unit) 0 (AaZ len ())else .rs id q off len
 |y=>y.kill j [] []
def Sl.kH(r:List Ab)(j:Nat):Sl->Sl
 |.one y=>.one (y.kH r j)
 |y=>y.kill j [] []
def AbL(n:Nat):V.nd true false 0 n (λ_ _=>.dead)=cV (.sl .unit) 0 (AaZ n ()):=by
 show V.nd true false 0 n (λ_ _=>.dead)=V.nd true false 0 (List.replicate n ()).length λi k=>([].getD k .dead)
 simp
theorem Sl.kH_v(y:Sl):Ax (hdK j (y.v r)) ((y.kH r j).v (r.set j .dead)):=by
 have g:=GOK.kill (id:=j) (P:=[])
 have O:=Sl.kill_v (r:=r) (r':=r.set j .dead) g (λid' q J=>by
  have B:id'≠j:=by
   rintro rfl
   simp[hit,pre]at J
  rw[Bq B]) y
 have A:∀(id off len:Nat) (q:AX) (z:Cl),(id≠j->z.v (r.set j .dead)=.rs id q off len)->Ax (if id=j then V.nd true false 0 len (λ_ _=>.dead)else .rs id q off len) ((bif Nat.beq id j then Cl.c (.sl .unit) 0 (AaZ len ())else z).v (r.set j .dead)):=by
  intro id off len q z E;by_cases h:id=j
  .subst h
   rw[if_pos rfl,Nat.beq_refl];show Ax _ (cV (.sl .unit) 0 (AaZ len ()));rw[<-AbL];exact Ax.refl _
  .rw[if_neg h,BB h]
   show Ax _ (z.v _);rw[E h];exact Ax.refl _
 cases y with
 |one c=>
  cases c with
  |rf id q=>
   refine A id 0 (Af r id q).len q (.rf id q) λh=>?_
   show V.rs id q 0 (Af (r.set j .dead) id q).len=_;rw[Bq h]
  |rs id q off len=>exact A id off len q (.rs id q off len) λh=>rfl
  |c t d x=>
   have e:hdK j (cV t d x)=AJ j [] (cV t d x):=by cases t<;>first|rfl|(cases x<;>rfl)
   show Ax (hdK j (cV t d x)) _;rw[e];trivial
  |_=>trivial
 |_=>trivial
def H8(j:Nat)(s:St):St:=⟨λi=>(s.t i).kH s.r j,s.r.set j .dead⟩
def Ap:List Nat->St->St
 |[],s=>s
 |j::js,s=>Ap js (H8 j s)
theorem UG(h:CR C s.den.σ ((List.range N).map s.den.t) cts w D ρ F)(hj:j<s.r.length):
  CR C (H8 j s).den.σ ((List.range N).map (H8 j s).den.t) cts w D ρ (λi=>if i=j then noF else F i):=by
 have A:=h.dropH (by simpa [St.den]using hj)
 have B:(H8 j s).den.σ=s.den.σ.set j .dead:=by
  show(s.r.set j .dead).map Ab.v=(s.r.map Ab.v).set j .dead;rw[List.map_set];rfl
 refine A.sub (by grind) (λi _=>by rw[B];exact Sub.refl _) (by simp) λi hi=>?_
 have hi:i<N:=by grind
 have e:=Sl.kH_v (r:=s.r) (j:=j) (s.t i);simpa [hi,St.den,H8]using e
def Kx:(H8 j s).r.length=s.r.length:=by simp[H8]
def IM:∀(js:List Nat) (s:St),(Ap js s).r.length=s.r.length
 |[],_=>rfl
 |j::js,s=>by show(Ap js (H8 j s)).r.length=_;rw[IM js,Kx]
theorem CH{C:Ctx}{N:Nat}{cts:Array Value}{w:World}{D:Nat->Prop}{ρ:Nat->Value}:∀(js:List Nat) {s:St}{F:Nat->Nat->Prop},CR C s.den.σ ((List.range N).map s.den.t) cts w D ρ F->(∀j∈js,j<s.r.length)->
  ∃F',CR C (Ap js s).den.σ ((List.range N).map (Ap js s).den.t) cts w D ρ F'/\∀i b,F' i b->F i b/\i∉js
 |[],s,F,h,_=>⟨F,h,λi b e=>⟨e,by simp⟩⟩
 |j::js,s,F,h,hj=>by
  obtain⟨F',E,B⟩:=CH js (UG h (hj j (List.mem_cons_self ..))) (λi hi=>by rw[Kx];grind)
  refine⟨F',E,λi b e=>?_⟩
  obtain⟨A,J⟩:=B i b e;split at A
  .trivial
  grind
theorem BX{N:Nat}:∀(js:List Nat) {s:St},(∀x,N<=x->s.den.t x=.dead)->∀x,N<=x->(Ap js s).den.t x=.dead
 |[],s,h=>h
 |j::js,s,h=>by
  refine BX js λx B=>?_
  have A:(s.t x).v s.r=.dead:=h x B;show((s.t x).kH s.r j).v (s.r.set j .dead)=.dead;cases e:s.t x with
  |one y=>
   rw[e]at A;cases y with
   |dead=>rfl
   |c t d z=>trivial
   |nil=>trivial
   |nilp=>trivial
   |nilf=>trivial
   |nilm=>trivial
   |rf=>trivial
   |rs=>trivial
   |rp=>trivial
   |rm=>trivial
  |new l=>rw[e]at A;trivial
  |agg l=>rw[e]at A;trivial
  |tup l=>rw[e]at A;trivial
  |pk t l=>rw[e]at A;trivial
theorem CR.give{σ ts:List V}(h:CR C σ ts cts w D ρ F)(hj:j<σ.length){l:List V}(ho:σ.getD j .dead=Be true l){ts':List V}(hl:ts'.length=ts.length)
  (U:∀i,i<ts.length->Ax (hdK j (ts.getD i .dead)) (ts'.getD i .dead)\/(ts.getD i .dead=.rp j [] 0 0/\ts'.getD i .dead=Go.Ve.frz (Be true l))):
  CR C (σ.set j .dead) ts' cts w (λb=>D b\/F j b) ρ (λi=>if i=j then noF else F i):=by
 have J:=h.dropH hj
 have hF:∀i b,(if i=j then noF else F i) b->F i b/\i≠j:=by
  intro i b e;split at e
  .exact e.elim
  .exact⟨e,by assumption⟩
 refine⟨⟨λi hi=>?_,J.wr.disj,λi b e=>?_,λb e=>?_,J.wr.out⟩,by rw[hl];exact h.sz,λt B=>?_,h.fr,J.Fn,λb e=>.inl (h.D1 b e),λb e E=>?_,h.rt,by simpa using h.ml⟩
 .exact Rel.mono (λ_ h=>.inl h) (λ_ _ h=>h) _ _ _ (λ_ _=>rfl) (J.wr.rel i hi)
 .obtain⟨A,Z⟩:=hF i b e
  exact λhd=>hd.elim (h.wr.dD i b A) (h.wr.disj i j b Z A)
 .exact e.elim (h.wr.Dlt b) (h.wr.lt j b)
 .have B:t<ts.length:=by omega
  rcases U t B with A|⟨A,Z⟩
  .have h3:=J.tm t (by simpa using B)
   have O:(ts.map (hdK j)).getD t .dead=hdK j (ts.getD t .dead):=by simp[B]
   rw[O]at h3;exact Rel.mono (λ_ h=>.inl h) (λ_ _ h=>h) _ _ _ (λ_ _=>rfl) (Rel.subS A h3)
  .have e4:=h.tm t B
   rw[A]at e4;obtain⟨⟨hid,s,sz,n,f,b,o,cap,ha,hi,hk,Y⟩,_⟩:=e4;obtain⟨O,e2⟩:=ha;rw[ho]at O;have hs:s=false:=by injection O
   subst hs;have hr:=Rel.frz' _ _ _ _ (h.wr.rel j hj);rw[ho,<-e2]at hr;rw[Z,Y];have e3:AA false b o n cap=.pointer (some ⟨b,o+0*sz+0,none⟩):=by simp[AA]
   rw[<-e3]
   trivial
 .rcases e with e|e
  .exact h.D2 b e E
  .exact(h.Fn j b e).elim .inr λW=>absurd E (Nat.not_lt.2 W)
def Sl.gv(r:List Ab)(j:Nat)(z:Cl):Sl->Sl
 |.one (.rp id [] 0 0)=>bif Nat.beq id j then .one z else .one (.rp id [] 0 0)
 |y=>y.kH r j
theorem Sl.gv_v(y:Sl):Ax (hdK j (y.v r)) ((y.gv r j z).v (r.set j .dead))\/(y.v r=.rp j [] 0 0/\y.gv r j z=.one z):=by
 unfold Sl.gv;split
 .rename_i id
  by_cases h:id=j
  .subst h
   rw[Nat.beq_refl];exact .inr ⟨rfl,rfl⟩
  .rw[BB h]
   refine .inl ?_;have e:hdK j (V.rp id [] 0 0)=.rp id [] 0 0:=if_neg λA=>h A.1
   show Ax (hdK j (V.rp id [] 0 0)) (.rp id [] 0 0);rw[e];exact Ax.refl _
 .exact .inl (Sl.kH_v y)
def Yp(j:Nat)(s:St):Option St:=match s.r.getD j .dead with
 |.obj false l=>match DD l with
  |some ⟨t,x⟩=>some ⟨λi=>(s.t i).gv s.r j (.c (.ptr t) 0 x),s.r.set j .dead⟩
  |none=>none
 |_=>none
theorem LT(h:Yp j s=some s'):∃(l:List Cl) (t:Ty) (x:t.T),j<s.r.length/\s.r.getD j .dead=.obj false l/\(l.map Cl.v0).map Go.Ve.frz=tyV t 0 x/\s'=⟨λi=>(s.t i).gv s.r j (.c (.ptr t) 0 x),s.r.set j .dead⟩:=by
 unfold Yp at h;split at h
 case h_2=>grind
 rename_i l e;split at h
 case h_2=>grind
 rename_i t x A;cases h;refine⟨l,t,x,?_,e,(DX _ _ A).symm,rfl⟩
 grind
theorem Sl.gv_dead{y:Sl}(e:y.v r=.dead):(y.gv r j z).v r'=.dead:=by
 cases y with
 |one y=>
  cases y with
  |dead=>rfl
  |c t d z=>trivial
  |nil=>trivial
  |nilp=>trivial
  |nilf=>trivial
  |nilm=>trivial
  |rf=>trivial
  |rs=>trivial
  |rp=>trivial
  |rm=>trivial
 |new l=>trivial
 |agg l=>trivial
 |tup l=>trivial
 |pk t l=>trivial
theorem Aaj(h:Yp j s=some s')(O:AQ C N s.den a w):AQ C N s'.den a w:=by
 obtain⟨l,t,x,hj,e,W,rfl⟩:=LT h;obtain⟨hd,B,D,ρ,F,E⟩:=O;refine⟨hd,λi hi=>Sl.gv_dead (B i hi),λb=>D b\/F j b,ρ,λi=>if i=j then noF else F i,?_⟩
 have U:s.den.σ.getD j .dead=Be true (l.map Cl.v0):=by
  show(s.r.map Ab.v).getD j .dead=_;simp only[gDE]at e;rw[gDE,List.getElem?_map];rw[gEE hj]at e⊢;have e:s.r[j]=.obj false l:=e;rw[e];rfl
 have Y:=E.give (by simpa [St.den]using hj) U (ts':=(List.range N).map λi=>((s.t i).gv s.r j (.c (.ptr t) 0 x)).v (s.r.set j .dead)) (by simp) λi hi=>by
  have hi:i<N:=by grind
  rw[AY hi,AY hi];rcases Sl.gv_v (s.t i)with A|⟨A,J⟩
  .exact .inl A
  .refine .inr ⟨A,?_⟩
   rw[J,Nf,W];rfl
 have Z:(s.r.set j .dead).map Ab.v=s.den.σ.set j .dead:=by
  rw[List.map_set];rfl
 show CR C ((s.r.set j .dead).map Ab.v) _ a.tmps w _ ρ _;rw[Z];exact Y
def OW:List Operand->St->Option St
 |[],s=>some s
 |x::xs,s=>match s.ev x with
  |some (.one (.rp j [] 0 0))=>match Yp j s with
   |some s'=>OW xs s'
   |none=>none
  |_=>OW xs s
def Jt{C:Ctx}{N:Nat}{a:Act}{w:World}:∀(xs:List Operand) {s s':St},OW xs s=some s'->AQ C N s.den a w->AQ C N s'.den a w
 |[],s,s',h,hs=>by cases h;grind
 |x::xs,s,s',h,hs=>by
  unfold OW at h;split at h
  .split at h
   case h_2=>grind
   rename_i e;exact Jt xs h (Aaj e hs)
  .exact Jt xs h hs
structure LR where
 p:Prop
 dec:Decidable p
 js:List Nat
 y:Cl
def JK(s:St)(i:Option TI)(x y:Option Sl):Option LR:=match i with
 |none=>none
 |some i=>bif Nat.blt 0 i.bytes&&Nat.blt 0 i.ty.w then(match x with
  |some (.one .nil)=>(match Wh s i.ty s.r.length y with
   |some (d,ys,js)=>some ⟨HZ ys<=OM i.bytes,inferInstance,js,.c (.sl i.ty) (d+1) ys⟩
   |none=>none)
  |some (.one (.rf id []))=>(match s.r.getD id .dead with
   |.arr false t d xs=>if h:t=i.ty then(match Wh s i.ty id y with
     |some (d',ys,js)=>bif dOK i.ty d' d then some ⟨HZ xs+HZ ys<=OM i.bytes,inferInstance,id::js,.c (.sl i.ty) (d+1) (Adf (h▸xs) ys)⟩else none
     |none=>none)else none
   |_=>none)
  |_=>none)else none
section sound
variable {P:Program}{Θ:Tab}
theorem XO{C:Ctx}{y:Cl}{w':World}{v':Value}(hd:a.defers=[])(J:∀x,h.n<=x->s.den.t x=.dead)(B:h.fz.contains d=false)(E:s.put h (some d) (.one y)=some s')
  (O:Wt C (s.den.σ++(prom (y.v s.r) s.den.σ.length).2) (((List.range h.n).map s.den.t).set d (prom (y.v s.r) s.den.σ.length).1) (a.tmps.setIfInBounds d v') w'):AQ C h.n s'.den (a.put (some d) v') w':=by
 have A:d<h.n:=by
  unfold St.put at E;cases W:Nat.blt d h.n with
  |false=>grind
  |true=>simp_all
 refine AQ.put E ?_
 have e:s.den.res h (some d) ((Sl.one y).v s.r)=⟨AF s.den.t d (prom (y.v s.r) s.den.σ.length).1,s.den.σ++(prom (y.v s.r) s.den.σ.length).2⟩:=by
  unfold Ms.res;simp only[A,if_true,B];rfl
 rw[e];refine⟨hd,λx U=>?_,?_⟩
 .unfold AF
  grind
 .rw[CA A]at O
  trivial
theorem Vk(hΘ:Θ.OK P){C:Ctx}{h:Cw}{s s':St}{o:Oper}{t:TypeId}{x y:Operand}{a:Act}{w:World}{A:LR}{d:Nat}{next:Act->World->Prop}{Q:Exit->Act->World->Prop}
  (ho:o.op=.call ⟨.builtin .append,#[x,y],#[t,t]⟩) (hdst:o.dst=some d) (hfz:h.fz.contains d=false) (U:JK s (((Θ.look t).bind (·.elem)).bind Θ.look) (s.ev x) (s.ev y)=some A) (hA:A.p) (hp:(Ap A.js s).put h (some d) (.one A.y)=some s')
  (hs:AQ C h.n s.den a w) (hn:∀a' w',AQ C h.n s'.den a' w'->next a' w'):o.wp P a w next Q:=by
 obtain⟨hdf,hdd,D,ρ,F,B⟩:=hs
 -- the run, and what follows
 have key:∀(J:TI) (e:TypeId),slI P t=some ⟨e,J.ty.w,J.bytes,B0 J.ty⟩->0<J.bytes->0<J.ty.w->∀(xs:List J.ty.T) (dx:Nat) (ys:List J.ty.T) (js:List Nat) (fpx:Nat->Prop) (id:Nat),
   Rel D w noR (cV (.sl J.ty) (dx+1) xs) (a.eval x) fpx->(∀c,fpx c->∃j∈A.js,F j c)->(∀c,fpx c->F id c)->YOK s J.ty id y a w D F dx ys js->(∀j∈js,j∈A.js)->(∀j∈A.js,j<s.r.length)->
   xs.length+ys.length<=OM J.bytes->A.y=.c (.sl J.ty) (dx+1) (xs++ys)->o.wp P a w next Q:=by
  intro J e hsl Y hw xs dx ys js fpx id O hfA hfid hY hjs hjl hlim hAy;obtain⟨⟨Fy,hrd,hFy,hFd⟩,hjs2⟩:=hY
  have W:(xs.length+ys.length)*J.bytes<=140737488355328:=by
   rw[Nat.mul_comm];exact(Nat.mul_comm _ _▸(Nat.le_div_iff_mul_le Y).1 hlim)
  have h63:xs.length+ys.length<=maxLen:=by
   have:xs.length+ys.length<=(xs.length+ys.length)*J.bytes:=Nat.le_mul_of_pos_right _ Y;simp only[maxLen];omega
  obtain⟨v',w',fp,hrun,hos,htp,hout,hdr,hsz,hbl,hr',hfp⟩:=Rel.append (P:=P) (ty:=o.type) (f:=λi k=>(tyV J.ty dx (xs.getD i J.ty.dflt)).getD k .dead) hsl hw O (λb W h=>by obtain⟨j,_,hj⟩:=hfA b h;exact B.wr.dD j b hj W) B.wr.Dlt hrd
   (λi k c hi hk hF=>by
    obtain⟨j,hj,E⟩:=hFy i k c hi hk hF;refine⟨B.wr.dD j c E,λhx=>?_⟩
    exact B.wr.disj j id c (hjs2 j hj).2 E (hfid c hx)) hFd h63 W
  obtain⟨F',hcr',hF'⟩:=CH A.js B hjl
  have hr2:Rel D w' noR (A.y.v (Ap A.js s).r) v' fp:=by
   rw[hAy];exact Rel.sub (Nq rfl rfl (λ_ _ _=>rfl) (λ_ _ _=>rfl)) hr'
  have hfpG:∀b,fp b->(∃j∈A.js,F j b)\/w.heap.size<=b:=by
   intro b W;rcases hfp b W with Z|⟨i,k,hi,hk,Z⟩|Z
   .exact .inl (hfA b Z)
   .obtain⟨j,hj,E⟩:=hFy i k b hi hk Z
    exact .inl ⟨j,hjs j hj,E⟩
   .exact .inr Z
  have hc:=CR.own hcr' (G:=λb=>∃j∈A.js,F j b) (D':=D) (λi b W ⟨j,hj,E⟩=>by
    obtain⟨Z,h2⟩:=hF' i b W;exact B.wr.disj i j b (λe=>h2 (e▸hj)) Z E) (λb W ⟨j,_,E⟩=>B.wr.dD j b E W) (λb ⟨j,_,E⟩=>B.Fn j b E) hos htp hout hdr hsz (λc hc hG=>hbl c hc λh=>hG (hfA c h)) hr2 hfpG
   (λ_ h=>h) (λ_ h=>.inl h) (λb W=>⟨Nat.lt_of_lt_of_le (B.wr.Dlt b W) hsz,λh=>by
    rcases hfpG b h with⟨j,_,E⟩|h2
    .exact B.wr.dD j b E W
    .have:=B.wr.Dlt b W;omega⟩) d
  have hs':=XO (h:=h) hdf (BX A.js hdd) hfz hp hc;unfold Oper.wp execOp;simp only[ho,resolve,invoke,builtin,Sem.run_bind,Sem.run_pure,Result.andThen_ok,List.map_toArray,List.map_cons,List.map_nil,hrun,hdst];show next (a.put o.dst v') w'
  rw[hdst];exact hn _ _ hs'
 unfold JK at U;split at U
 .cases U
 rename_i J hti;obtain⟨e,hsl,_⟩:=Dh hΘ hti;obtain⟨W,U⟩:=A9 U;simp only[bAE]at W;have Y:=La W.1;have hw:=La W.2;have O:=By B hdd x;split at U
 case h_3=>cases U
 .rename_i hx
  rw[A7 hx]at O;split at U
  case h_2=>cases U
  rename_i d' ys js hy;cases U;have hY:=IS B hdd hy;refine key J e hsl Y hw [] d' ys js noF s.r.length ?_ (λ_ h=>h.elim) (λ_ h=>h.elim) hY (λ_ h=>h) (λj hj=>(hY.js j hj).1) (by simpa [HZ]using hA) (by simp)
  exact .inl ⟨rfl,rfl,.inl O.1,λ_ h=>h⟩
 .rename_i id hx
  rw[A7 hx]at O;split at U
  case h_2=>cases U
  rename_i t' dx xs hr;split at U
  case isFalse=>cases U
  rename_i ht;subst ht;split at U
  case h_2=>cases U
  rename_i d' ys js hy;obtain⟨hdk,U⟩:=A9 U;cases U;have hY:=IS B hdd hy
  have hlen:(Af s.r id []).len=xs.length:=by
   show(s.r.getD id .dead).len=_;rw[hr];rfl
  have O:Rel D w (Ak s.den.σ ρ w) (.rs id [] 0 (Af s.r id []).len) (a.eval x) noF:=O;rw[hlen]at O
  have hσ:s.den.σ.getD id .dead=.nd true true J.ty.w xs.length (λi k=>(tyV J.ty dx (xs.getD i J.ty.dflt)).getD k .dead):=by
   show(s.r.map Ab.v).getD id .dead=_;rw[Aw,hr];rfl
  obtain⟨_,hrr⟩:=QX B.wr hσ O.1;have hid:id<s.r.length:=by simpa [St.den]using O.1.1
  refine key J e hsl Y hw xs dx ys js (F id) id hrr (λc hc=>⟨id,by simp,hc⟩) (λ_ h=>h) ?_ (λj hj=>mCM _ hj) (λj hj=>?_) hA rfl
  .have ee:tyV J.ty d'=tyV J.ty dx:=funext λz=>C0 _ _ _ z (Kz hdk)
   obtain⟨⟨Fy,Z,h2⟩,h3⟩:=hY;rw[ee]at Z;exact⟨⟨Fy,Z,h2⟩,h3⟩
  .rcases List.mem_cons.1 hj with rfl|hj
   .exact hid
   .exact(hY.js j hj).1
def peq:AX->AX->Bool
 |[],[]=>true
 |(i,k)::p,(j,l)::q=>Nat.beq i j&&Nat.beq k l&&peq p q
 |_,_=>false
def XL:∀{p q:AX},peq p q=true->p=q
 |[],[],_=>rfl
 |(i,k)::p,(j,l)::q,h=>by
  simp only[peq,bAE]at h;rw[bqE h.1.1,bqE h.1.2,XL h.2]
 |[],_::_,h=>by cases h
 |_::_,[],h=>by cases h
def Na:∀q:AX,AT q q=true
 |[]=>rfl
 |(i,k)::q=>by simp[AT,Na q]
def rrk(id:Nat)(q:AX)(m:Nat)(id':Nat)(e:AX)(keep new:Cl):Cl:=bif Nat.beq id' m then .dead else bif Nat.beq id' id then(bif peq q e then new else bif pre (q.map (·.2)) e then .dead else keep)else keep
def Cl.rr(id:Nat)(q:AX)(m:Nat):Cl->Cl
 |.rf id' e=>rrk id q m id' e (.rf id' e) (.rf m [])
 |.rs id' e off len=>rrk id q m id' e (.rs id' e off len) (.rs m [] off len)
 |.rp id' e i k=>rrk id q m id' e (.rp id' e i k) (.rp m [] i k)
 |.rm id' e=>rrk id q m id' e (.rm id' e) (.rm m [])
 |y=>y
def Sl.mapC(K:Cl->Cl):Sl->Sl
 |.one y=>.one (K y)
 |.new l=>.new l
 |.agg l=>.agg (l.map K)
 |.pk t l=>.pk t (l.map K)
 |.tup l=>.tup (l.map λp=>(p.1,p.2.map K))
theorem Sl.mapC_v{G:V->V}{K:Cl->Cl}(e:Bb G)(hd:K .dead=.dead)(B:∀y:Cl,Ax (G (y.v r)) ((K y).v r'))(y:Sl):Ax (G (y.v r)) ((y.mapC K).v r'):=by
 have agg:∀l:List Cl,Ax (G (Ai (l.map (Cl.v r)))) (Ai ((l.map K).map (Cl.v r'))):=by
  intro l;rw[G_mk e];refine Ax.mk (by simp) λk _=>?_
  simp_all
 cases y with
 |one c=>exact B c
 |new l=>show Ax (G (Be true _)) (Be true _);rw[show G (Be true (l.map Cl.v0))=Be true (l.map Cl.v0)from e.nd _ _ _ _ _];exact Ax.refl _
 |agg l=>exact agg l
 |pk t l=>
  show Ax (G (pkL t (l.map (Cl.v r)))) (pkL t ((l.map K).map (Cl.v r')));rw[G_pk e];refine Ax.pk (by simp) λk _=>?_
  simp_all
 |tup l=>
  show Ax (G (Dw _)) (Dw _);rw[Adk e];refine Ax.tup (by simp) λk A=>?_
  have A:k<l.length:=by simpa using A
  simp only[gDE,List.getElem?_map,gEE A,Option.getD_some];generalize l[k]=p;obtain⟨b,m⟩:=p;cases b with
  |true=>exact agg m
  |false=>
   cases m with
   |nil=>exact Ax.dead _
   |cons y m=>exact B y
def Abu(s:St):Option Sl->Option St
 |some (.one (.rf id (a::q)))=>match Nl (s.r.getD id .dead) (a::q),Af s.r id (a::q)with
  |some r1,.arr false t d xs=>some ⟨λi=>(s.t i).mapC (Cl.rr id (a::q) s.r.length),s.r.set id r1++[Ab.arr false t d xs]⟩
  |_,_=>some s
 |_=>some s
theorem Xj{d:Nat}{xs:List t.T}(hm:m=s.r.length)(hidr:id<s.r.length)(hcl:∀A,pre (Q.map (·.2)) A=false->(r1.at' A).len=((s.r.getD id .dead).at' A).len)(hnl:(Af s.r id Q).len=xs.length):
  ∀y:Cl,Ax (rrV id Q m (y.v s.r)) ((y.rr id Q m).v (s.r.set id r1++[Ab.arr false t d xs])):=by
 have key:∀(id':Nat) (A:AX) (keep new:Cl) (v v':V),(id'=id/\AT Q A=true->rrV id Q m v=v')->(¬ (id'=id/\AT Q A=true)->rrV id Q m v=v)->
   (id'≠m->¬ (id'=id/\AT Q A=true)->¬ (id'=id/\pre (Q.map (·.2)) A=true)->keep.v (s.r.set id r1++[Ab.arr false t d xs])=v)->(id'=id->A=Q->new.v (s.r.set id r1++[Ab.arr false t d xs])=v')->
   Ax (rrV id Q m v) ((rrk id Q m id' A keep new).v (s.r.set id r1++[Ab.arr false t d xs])):=by
  intro id' A keep new v v' h1 h2 h3 h4;unfold rrk;cases hb:Nat.beq id' m with
  |true=>exact Ax.dead _
  |false=>
   have E:id'≠m:=λe=>by rw[e,Nat.beq_refl]at hb;cases hb
   cases O:Nat.beq id' id with
   |false=>
    have J:id'≠id:=λe=>by rw[e,Nat.beq_refl]at O;cases O
    show Ax _ (keep.v _);rw[h2 (λh=>J h.1),h3 E (λh=>J h.1) (λh=>J h.1)]
    exact Ax.refl _
   |true=>
    have e:=bqE O;cases Y:peq Q A with
    |true=>
     have eq:=(XL Y).symm;show Ax _ (new.v _);rw[h1 ⟨e,by rw[eq];exact Na Q⟩,h4 e eq]
     exact Ax.refl _
    |false=>
     cases B:pre (Q.map (·.2)) A with
     |true=>exact Ax.dead _
     |false=>
      have n1:¬ (id'=id/\AT Q A=true):=λh=>by rw[Ly h.2]at B;cases B
      show Ax _ (keep.v _);rw[h2 n1,h3 E n1 (λh=>by rw[h.2]at B;cases B)]
      exact Ax.refl _
 intro y;cases y with
 |rf id' A=>
  refine key id' A _ _ (.rs id' A 0 (Af s.r id' A).len) (.rs m (A.drop Q.length) 0 (Af s.r id' A).len) (λh=>by simp only[rrV,if_pos h]) (λh=>by simp only[rrV,if_neg h]) (λE _ Z=>?_) (λe U=>?_)
  .show V.rs id' A 0 (Af (s.r.set id r1++[Ab.arr false t d xs]) id' A).len=_
   congr 1
   by_cases W:id'<s.r.length
   .have e1:Af (s.r.set id r1++[Ab.arr false t d xs]) id' A=Af (s.r.set id r1) id' A:=by
     unfold Af;rw[gDE,gAL (by simpa using W),<-gDE]
    rw[e1];by_cases he:id'=id
    .subst he
     rw[BP W]
     exact hcl A (by cases Y:pre (Q.map (·.2)) A with
      |false=>rfl
      |true=>exact absurd ⟨rfl,Y⟩ Z)
    .rw[Bq he]
   .unfold Af
    rw[gDE,List.getElem?_eq_none (by simp;omega),gDE,List.getElem?_eq_none (by omega)]
  .subst e;subst U
   show V.rs m [] 0 (Af (s.r.set id' r1++[Ab.arr false t d xs]) m []).len=_
   have e1:Af (s.r.set id' r1++[Ab.arr false t d xs]) m []=Ab.arr false t d xs:=by
    unfold Af;rw[hm,gDE,gAR (by simp)]
    simp[Ab.at']
   rw[e1,hnl];simp[Ab.len]
 |rs id' A off len=>
  exact key id' A _ _ (.rs id' A off len) (.rs m (A.drop Q.length) off len) (λh=>by simp only[rrV,if_pos h]) (λh=>by simp only[rrV,if_neg h]) (λ_ _ _=>rfl) (λe U=>by subst U;simp[Cl.v])
 |rp id' A i k=>
  exact key id' A _ _ (.rp id' A i k) (.rp m (A.drop Q.length) i k) (λh=>by simp only[rrV,if_pos h]) (λh=>by simp only[rrV,if_neg h]) (λ_ _ _=>rfl) (λe U=>by subst U;simp[Cl.v])
 |rm id' A=>
  exact key id' A _ _ (.rm id' A) (.rm m (A.drop Q.length)) (λh=>by simp only[rrV,if_pos h]) (λh=>by simp only[rrV,if_neg h]) (λ_ _ _=>rfl) (λe U=>by subst U;simp[Cl.v])
 |dead=>exact Ax.dead _
 |nil=>exact Ax.refl (.c _)
 |nilp=>exact Ax.refl (.c _)
 |nilf=>exact Ax.refl (.c _)
 |nilm=>exact Ax.refl (.c _)
 |c t d x=>
  show Ax (rrV id Q m (cV t d x)) (cV t d x);have:rrV id Q m (cV t d x)=cV t d x:=by cases t<;>first|rfl|exact(C2 _ _ _).osl|exact(C2 _ _ _).clo
  rw[this];exact Ax.refl _
def rkk(id:Nat)(q:AX)(m:Nat)(id':Nat)(e:AX)(keep:Cl):Cl:=bif Nat.beq id' m then .dead else bif Nat.beq id' id then(bif pre (q.map (·.2)) e then .dead else keep)else keep
def Cl.rk(id:Nat)(q:AX)(m:Nat):Cl->Cl
 |.rf id' e=>rkk id q m id' e (.rf id' e)
 |.rs id' e off len=>rkk id q m id' e (.rs id' e off len)
 |.rp id' e i k=>rkk id q m id' e (.rp id' e i k)
 |.rm id' e=>rkk id q m id' e (.rm id' e)
 |y=>y
theorem QY{id':Nat}{e:AX}{keep new:Cl}:rkk id q m id' e keep=.dead\/rkk id q m id' e keep=rrk id q m id' e keep new:=by
 unfold rkk rrk;cases Nat.beq id' m with
 |true=>simp
 |false=>
  cases Nat.beq id' id with
  |false=>simp
  |true=>
   cases A:pre (q.map (·.2)) e with
   |true=>simp
   |false=>
    cases B:peq q e with
    |true=>
     have:=XL B;subst this;rw[Ly (Na q)]at A;grind
    |false=>simp
def rk_or(y:Cl):y.rk id q m=.dead\/y.rk id q m=y.rr id q m:=by
 cases y with
 |rf=>exact QY
 |rs=>exact QY
 |rp=>exact QY
 |rm=>exact QY
 |_=>exact .inr rfl
theorem rk_sub{d:Nat}{xs:List t.T}(J:m=s.r.length)(e:id<s.r.length)(E:∀A,pre (Q.map (·.2)) A=false->(r1.at' A).len=((s.r.getD id .dead).at' A).len)(B:(Af s.r id Q).len=xs.length)
  (y:Cl):Ax (rrV id Q m (y.v s.r)) ((y.rk id Q m).v (s.r.set id r1++[Ab.arr false t d xs])):=by
 rcases rk_or y with h|h
 .rw[h];exact Ax.dead _
 .rw[h];exact Xj J e E B y
theorem Ax.of_dead{v:V}(h:Ax .dead v):v=.dead:=by
 rcases h with h|h
 .grind
 trivial
theorem UK{C:Ctx}{N:Nat}{a:Act}{w:World}{d:Nat}{xs:List t.T}(hx:s.ev x=some (.one (.rf id Q)))(Z:Nl (s.r.getD id .dead) Q=some r1)(hne:Af s.r id Q≠.dead)
  (hnv:(Af s.r id Q).v=arr true t.w (tyV t d) t.dflt xs) (hnl:(Af s.r id Q).len=xs.length) (hs:AQ C N s.den a w) {f:Nat->Sl} (hf:∀i,Ax (rrV id Q s.r.length ((s.t i).v s.r)) ((f i).v (s.r.set id r1++[Ab.arr false t d xs]))):AQ C N (⟨f,s.r.set id r1++[Ab.arr false t d xs]⟩:St).den a w:=by
 obtain⟨hdf,W,D,ρ,F,hcr⟩:=hs;have hr:=By hcr W x;rw[A7 hx]at hr;have hr:Rel D w (Ak s.den.σ ρ w) (.rs id Q 0 (Af s.r id Q).len) (a.eval x) noF:=hr;obtain⟨⟨O,sz,n,f,cn,hat,hle,hcv⟩,_⟩:=hr;obtain⟨ρ',F',B,_⟩:=CR.reroot hcr O hat;have hidr:id<s.r.length:=by simpa [St.den]using O
 obtain⟨Y,hcl⟩:=KB Z;have e:sub Q (s.den.σ.getD id .dead)=arr true t.w (tyV t d) t.dflt xs:=(AV hne).trans hnv;have J:s.den.σ.length=s.r.length:=by simp[St.den]
 obtain⟨m,hm⟩:∃m,m=s.r.length:=⟨_,rfl⟩;rw[<-hm]at hf;rw[J,<-hm]at B;refine⟨hdf,λx hx=>?_,D,ρ',F',?_⟩
 .have h0:(s.t x).v s.r=.dead:=W x hx
  have h1:=hf x;rw[h0]at h1;exact Ax.of_dead h1
 .have E:s.den.σ=s.r.map Ab.v:=rfl
  have hm':(s.r.map Ab.v).length=m:=by simp[hm]
  refine B.sub (by simp[St.den]) (λi _=>?_) (by simp) λi hi=>?_
  .show Sub _ (((s.r.set id r1++[Ab.arr false t d xs]).map Ab.v).getD i .dead)
   rw[List.map_append,List.map_set,E];by_cases hi:i<s.r.length
   .rw[AD (by simpa using hi),AD (by simpa using hi)]
    by_cases U:id=i
    .subst U
     rw[Ah (by simpa using hi),Ah (by simpa using hi),Aw]
     exact Y
    .rw[Ag U,Ag U];exact Sub.refl _
   .by_cases U:i=s.r.length
    .subst U
     have e1:∀(A:List V) (v:V),A.length=s.r.length->(A++[v]).getD s.r.length .dead=v:=by
      intro A v hA;rw[<-hA,gDE,gAR (by simp)];simp
     rw[e1 _ _ (by simp),show([Ab.arr false t d xs].map Ab.v)=[arr true t.w (tyV t d) t.dflt xs]from rfl,e1 _ _ (by simp)]
     rw[E]at e;rw[e];exact Sub.refl _
    .have e1:∀(A:List V) (v:V),A.length=s.r.length->(A++[v]).getD i .dead=.dead:=by
      intro A v hA;rw[gDE,List.getElem?_eq_none (by simp;omega)];rfl
     rw[e1 _ _ (by simp),show([Ab.arr false t d xs].map Ab.v)=[arr true t.w (tyV t d) t.dflt xs]from rfl,e1 _ _ (by simp)]
     exact Sub.refl _
  .have hi:i<N:=by simpa using hi
   have hk:=hf i;simpa [hi,St.den]using hk
theorem Ni(h:Abu s (s.ev x)=some s')(O:AQ C N s.den a w):AQ C N s'.den a w:=by
 unfold Abu at h;split at h
 case h_2=>grind
 rename_i id b E J;split at h
 case h_2=>grind
 rename_i r1 t d xs e A;cases h;have B:id<s.r.length:=by
  rcases Nat.lt_or_ge id s.r.length with h|h
  .omega
  .unfold Af at A
   rw[gDE,List.getElem?_eq_none h]at A;rw[show(none:Option Ab).getD .dead=.dead from rfl,C8]at A;grind
 exact UK J e (by grind) (by rw[A];rfl) (by rw[A];rfl) O λi=>Sl.mapC_v (C2 id (b::E) s.r.length) rfl (Xj rfl B (KB e).2 (by rw[A];rfl)) (s.t i)
def cutO(s:St)(x:Operand):Option St:=match x with
 |.tmp y=>match s.t y with
  |.one (.rf id (a::q))=>match Nl (s.r.getD id .dead) (a::q),Af s.r id (a::q)with
   |some r1,.opt false t d v=>some ⟨λi=>bif Nat.beq i y then .one (.rf s.r.length [])else(s.t i).mapC (Cl.rk id (a::q) s.r.length),s.r.set id r1++[Ab.arr false t d (getO v)]⟩
   |_,_=>Abu s (s.ev x)
  |_=>Abu s (s.ev x)
 |_=>Abu s (s.ev x)
theorem Adc(h:cutO s x=some s')(U:AQ C N s.den a w):AQ C N s'.den a w:=by
 unfold cutO at h;split at h
 case h_2=>exact Ni h U
 rename_i y;split at h
 case h_2=>exact Ni h U
 rename_i id b B hy;split at h
 case h_2=>exact Ni h U
 rename_i r1 t d v A W;cases h;have hx:s.ev (.tmp y)=some (.one (.rf id (b::B))):=by show some (s.t y)=_;rw[hy]
 have O:Af s.r id (b::B)≠.dead:=by rw[W];simp
 have E:id<s.r.length:=by
  rcases Nat.lt_or_ge id s.r.length with h|h
  .exact h
  .exfalso
   apply O;unfold Af;rw[gDE,List.getElem?_eq_none h];exact C8 _
 obtain⟨ys,rfl⟩:∃ys,v=some ys:=by
  obtain⟨hdf,Y,D,ρ,F,Z⟩:=U;have hr:=By Z Y (.tmp y);rw[A7 hx]at hr;obtain⟨⟨hid,sz,n,f,cn,hat,hle,hcv⟩,_⟩:=hr;have e:=At.sub hat;have e2:sub (b::B) (s.den.σ.getD id .dead)=Acy true t.w (tyV t d) t.dflt v:=(AV O).trans (by rw[W];rfl)
  rw[e2]at e;cases v with
  |none=>cases e
  |some ys=>exact⟨ys,rfl⟩
 have J:(Af s.r id (b::B)).len=ys.length:=by rw[W];rfl
 refine UK (xs:=ys) hx A O (by rw[W];rfl) J U λi=>?_
 cases hi:Nat.beq i y with
 |false=>exact Sl.mapC_v (C2 id (b::B) s.r.length) rfl (rk_sub rfl E (KB A).2 J) (s.t i)
 |true=>
  have e:=bqE hi;subst e;rw[hy];have:=Xj (xs:=ys) (d:=d) (t:=t) (m:=s.r.length) rfl E (KB A).2 J (.rf id (b::B))
  have e1:(Cl.rf id (b::B)).rr id (b::B) s.r.length=.rf s.r.length []:=by
   have p:∀q:AX,peq q q=true:=by
    intro q
    induction q with
    |nil=>rfl
    |cons a q ih=>obtain⟨i,k⟩:=a;simp[peq,Nat.beq_refl,ih]
   show rrk id (b::B) s.r.length id (b::B) _ _=_;unfold rrk;have h0:Nat.beq id s.r.length=false:=by
    cases hb:Nat.beq id s.r.length with
    |false=>rfl
    |true=>have:=bqE hb;omega
   rw[h0,Nat.beq_refl,p];rfl
  rw[e1]at this;exact this
end sound
end Go.Ve

