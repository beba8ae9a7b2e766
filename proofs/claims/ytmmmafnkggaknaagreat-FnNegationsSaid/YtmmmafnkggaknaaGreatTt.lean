/- The typed machine: append. -/
import Derived.Test.YtmmmafnkggaknaaGreatTj
import Derived.Test.YtmmmafnkggaknaaGreatTg
import Derived.Test.YtmmmafnkggaknaaGreatVy
set_option linter.all false
namespace Go.Ve
variable{Q q:AZ}{a:Act}{r1:Af}{cts:Array Value}{z:Cl}{h:Cs}{C:Ctx}{r r':List Af}{N d id j m:Nat}{F:Nat->Nat->Prop}{D:Nat->Prop}{ρ:Nat->Value}{x:Operand}{s s':St}{t:Ty}{w:World}
def Cl.kH(r:List Af)(j:Nat):Cl->Cl
 |.rf id q=>bif Nat.beq id j then .c (.sl .unit) 0 (Yf (Ai r id q).len ())else .rf id q
 |.rs id q off len=>bif Nat.beq id j then .c (.sl .unit) 0 (Yf len ())else .rs id q off len
 |y=>y.kill j [] []
def Sl.kH(r:List Af)(j:Nat):Sl->Sl
 |.one y=>.one (y.kH r j)
 |y=>y.kill j [] []
def YU(n:Nat):V.nd true false 0 n (λ_ _=>.dead)=cV (.sl .unit) 0 (Yf n ()):=by
 show V.nd true false 0 n (λ_ _=>.dead)=V.nd true false 0 (List.replicate n ()).length λi k=>([].getD k .dead)
 simp
theorem Sl.kH_v(y:Sl):Ax (hdK j (y.v r)) ((y.kH r j).v (r.set j .dead)):=by
 have g:=GOK.kill (id:=j) (P:=[])
 have J:=Sl.kill_v (r:=r) (r':=r.set j .dead) g (λid' q E=>by
  have A:id'≠j:=by
   rintro rfl
   simp[hit,pre]at E
  rw[Bs A]) y
 have u:∀(id off len:Nat) (q:AZ) (z:Cl),(id≠j->z.v (r.set j .dead)=.rs id q off len)->Ax (if id=j then V.nd true false 0 len (λ_ _=>.dead)else .rs id q off len) ((bif Nat.beq id j then Cl.c (.sl .unit) 0 (Yf len ())else z).v (r.set j .dead)):=by
  intro id off len q z B;by_cases h:id=j
  .subst h
   rw[if_pos rfl,Nat.beq_refl];show Ax _ (cV (.sl .unit) 0 (Yf len ()));rw[<-YU];exact Ax.refl _
  .rw[if_neg h,BI h]
   show Ax _ (z.v _);rw[B h];exact Ax.refl _
 cases y with
 |one c=>
  cases c with
  |rf id q=>
   refine u id 0 (Ai r id q).len q (.rf id q) λh=>?_
   show V.rs id q 0 (Ai (r.set j .dead) id q).len=_;rw[Bs h]
  |rs id q off len=>exact u id off len q (.rs id q off len) λh=>rfl
  |c t d x=>
   have e:hdK j (cV t d x)=AQ j [] (cV t d x):=by cases t<;>first|rfl|(cases x<;>rfl)
   show Ax (hdK j (cV t d x)) _;rw[e];trivial
  |_=>trivial
 |_=>trivial
def HL(j:Nat)(s:St):St:=⟨λi=>(s.t i).kH s.r j,s.r.set j .dead⟩
def Ap:List Nat->St->St
 |[],s=>s
 |j::js,s=>Ap js (HL j s)
theorem Py(h:CR C s.den.σ ((List.range N).map s.den.t) cts w D ρ F)(A:j<s.r.length):
  CR C (HL j s).den.σ ((List.range N).map (HL j s).den.t) cts w D ρ (λi=>if i=j then noF else F i):=by
 have B:=h.dropH (by simpa [St.den]using A)
 have E:(HL j s).den.σ=s.den.σ.set j .dead:=by
  show(s.r.set j .dead).map Af.v=(s.r.map Af.v).set j .dead;rw[List.map_set];rfl
 refine B.sub (by grind) (λi _=>by rw[E];exact Sub.refl _) (by simp) λi e=>?_
 have e:i<N:=by grind
 have u:=Sl.kH_v (r:=s.r) (j:=j) (s.t i);simpa [e,St.den,HL]using u
def JG:(HL j s).r.length=s.r.length:=by simp[HL]
def Ih:∀(js:List Nat) (s:St),(Ap js s).r.length=s.r.length
 |[],_=>rfl
 |j::js,s=>by show(Ap js (HL j s)).r.length=_;rw[Ih js,JG]
theorem CJ{C:Ctx}{N:Nat}{cts:Array Value}{w:World}{D:Nat->Prop}{ρ:Nat->Value}:∀(js:List Nat) {s:St}{F:Nat->Nat->Prop},CR C s.den.σ ((List.range N).map s.den.t) cts w D ρ F->(∀j∈js,j<s.r.length)->
  ∃F',CR C (Ap js s).den.σ ((List.range N).map (Ap js s).den.t) cts w D ρ F'/\∀i b,F' i b->F i b/\i∉js
 |[],s,F,h,_=>⟨F,h,λi b e=>⟨e,by simp⟩⟩
 |j::js,s,F,h,hj=>by
  obtain⟨F',B,A⟩:=CJ js (Py h (hj j (List.mem_cons_self ..))) (λi E=>by rw[JG];grind)
  refine⟨F',B,λi b e=>?_⟩
  obtain⟨u,J⟩:=A i b e;split at u
  .trivial
  grind
theorem BZ{N:Nat}:∀(js:List Nat) {s:St},(∀x,N<=x->s.den.t x=.dead)->∀x,N<=x->(Ap js s).den.t x=.dead
 |[],s,h=>h
 |j::js,s,h=>by
  refine BZ js λx A=>?_
  have u:(s.t x).v s.r=.dead:=h x A;show((s.t x).kH s.r j).v (s.r.set j .dead)=.dead;cases e:s.t x with
  |one y=>
   rw[e]at u;cases y with
   |dead=>rfl
   |c t d z=>trivial
   |nil=>trivial
   |nilp=>trivial
   |nilf=>trivial
   |rf=>trivial
   |rs=>trivial
   |rp=>trivial
  |new l=>rw[e]at u;trivial
  |agg l=>rw[e]at u;trivial
  |tup l=>rw[e]at u;trivial
  |pk t l=>rw[e]at u;trivial
theorem CR.give{σ ts:List V}(h:CR C σ ts cts w D ρ F)(hj:j<σ.length){l:List V}(ho:σ.getD j .dead=Bj true l){ts':List V}(hl:ts'.length=ts.length)
  (U:∀i,i<ts.length->Ax (hdK j (ts.getD i .dead)) (ts'.getD i .dead)\/(ts.getD i .dead=.rp j [] 0 0/\ts'.getD i .dead=Go.Ve.frz (Bj true l))):
  CR C (σ.set j .dead) ts' cts w (λb=>D b\/F j b) ρ (λi=>if i=j then noF else F i):=by
 have E:=h.dropH hj
 have hF:∀i b,(if i=j then noF else F i) b->F i b/\i≠j:=by
  intro i b e;split at e
  .exact e.elim
  .exact⟨e,by assumption⟩
 refine⟨⟨λi hi=>?_,E.wr.disj,λi b e=>?_,λb e=>?_,E.wr.out⟩,by rw[hl];exact h.sz,λt A=>?_,h.fr,E.Fn,λb e=>.inl (h.D1 b e),λb e B=>?_,h.rt,by simpa using h.ml⟩
 .exact Rel.mono (λ_ h=>.inl h) (λ_ _ h=>h) _ _ _ (λ_ _=>rfl) (E.wr.rel i hi)
 .obtain⟨u,h2⟩:=hF i b e
  exact λhd=>hd.elim (h.wr.dD i b u) (h.wr.disj i j b h2 u)
 .exact e.elim (h.wr.Dlt b) (h.wr.lt j b)
 .have A:t<ts.length:=by omega
  rcases U t A with u|⟨u,h2⟩
  .have h3:=E.tm t (by simpa using A)
   have J:(ts.map (hdK j)).getD t .dead=hdK j (ts.getD t .dead):=by simp[A]
   rw[J]at h3;exact Rel.mono (λ_ h=>.inl h) (λ_ _ h=>h) _ _ _ (λ_ _=>rfl) (Rel.subS u h3)
  .have e4:=h.tm t A
   rw[u]at e4;obtain⟨⟨hid,s,sz,n,f,b,o,cap,ha,hi,hk,Z⟩,_⟩:=e4;obtain⟨J,e2⟩:=ha;rw[ho]at J;have hs:s=false:=by injection J
   subst hs;have hr:=Rel.frz' _ _ _ _ (h.wr.rel j hj);rw[ho,<-e2]at hr;rw[h2,Z];have e3:AC false b o n cap=.pointer (some ⟨b,o+0*sz+0,none⟩):=by simp[AC]
   rw[<-e3]
   trivial
 .rcases e with e|e
  .exact h.D2 b e B
  .exact(h.Fn j b e).elim .inr λW=>absurd B (Nat.not_lt.2 W)
def Sl.gv(r:List Af)(j:Nat)(z:Cl):Sl->Sl
 |.one (.rp id [] 0 0)=>bif Nat.beq id j then .one z else .one (.rp id [] 0 0)
 |y=>y.kH r j
theorem Sl.gv_v(y:Sl):Ax (hdK j (y.v r)) ((y.gv r j z).v (r.set j .dead))\/(y.v r=.rp j [] 0 0/\y.gv r j z=.one z):=by
 unfold Sl.gv;split
 .rename_i id
  by_cases h:id=j
  .subst h
   rw[Nat.beq_refl];exact .inr ⟨rfl,rfl⟩
  .rw[BI h]
   refine .inl ?_;have e:hdK j (V.rp id [] 0 0)=.rp id [] 0 0:=if_neg λu=>h u.1
   show Ax (hdK j (V.rp id [] 0 0)) (.rp id [] 0 0);rw[e];exact Ax.refl _
 .exact .inl (Sl.kH_v y)
def VT(j:Nat)(s:St):Option St:=match s.r.getD j .dead with
 |.obj false l=>match Ha l with
  |some ⟨t,x⟩=>some ⟨λi=>(s.t i).gv s.r j (.c (.ptr t) 0 x),s.r.set j .dead⟩
  |none=>none
 |_=>none
theorem Kz(h:VT j s=some s'):∃(l:List Cl) (t:Ty) (x:t.T),j<s.r.length/\s.r.getD j .dead=.obj false l/\(l.map Cl.v0).map Go.Ve.frz=tyV t 0 x/\s'=⟨λi=>(s.t i).gv s.r j (.c (.ptr t) 0 x),s.r.set j .dead⟩:=by
 unfold VT at h;split at h
 case h_2=>grind
 rename_i l e;split at h
 case h_2=>grind
 rename_i t x u;cases h;refine⟨l,t,x,?_,e,(DG _ _ u).symm,rfl⟩
 grind
theorem Sl.gv_dead{y:Sl}(e:y.v r=.dead):(y.gv r j z).v r'=.dead:=by
 cases y with
 |one y=>
  cases y with
  |dead=>rfl
  |c t d z=>trivial
  |nil=>trivial
  |nilp=>trivial
  |nilf=>trivial
  |rf=>trivial
  |rs=>trivial
  |rp=>trivial
 |new l=>trivial
 |agg l=>trivial
 |tup l=>trivial
 |pk t l=>trivial
theorem XD(h:VT j s=some s')(hs:AR C N s.den a w):AR C N s'.den a w:=by
 obtain⟨l,t,x,J,e,Z,rfl⟩:=Kz h;obtain⟨hd,B,D,ρ,F,E⟩:=hs;refine⟨hd,λi u=>Sl.gv_dead (B i u),λb=>D b\/F j b,ρ,λi=>if i=j then noF else F i,?_⟩
 have W:s.den.σ.getD j .dead=Bj true (l.map Cl.v0):=by
  show(s.r.map Af.v).getD j .dead=_;simp only[gDE]at e;rw[gDE,List.getElem?_map];rw[gEE J]at e⊢;have e:s.r[j]=.obj false l:=e;rw[e];rfl
 have h1:=E.give (by simpa [St.den]using J) W (ts':=(List.range N).map λi=>((s.t i).gv s.r j (.c (.ptr t) 0 x)).v (s.r.set j .dead)) (by simp) λi u=>by
  have u:i<N:=by grind
  rw[AV u,AV u];rcases Sl.gv_v (s.t i)with A|⟨A,U⟩
  .exact .inl A
  .refine .inr ⟨A,?_⟩
   rw[U,LF,Z];rfl
 have e1:(s.r.set j .dead).map Af.v=s.den.σ.set j .dead:=by
  rw[List.map_set];rfl
 show CR C ((s.r.set j .dead).map Af.v) _ a.tmps w _ ρ _;rw[e1];exact h1
def Nj:List Operand->St->Option St
 |[],s=>some s
 |x::xs,s=>match s.ev x with
  |some (.one (.rp j [] 0 0))=>match VT j s with
   |some s'=>Nj xs s'
   |none=>none
  |_=>Nj xs s
def IU{C:Ctx}{N:Nat}{a:Act}{w:World}:∀(xs:List Operand) {s s':St},Nj xs s=some s'->AR C N s.den a w->AR C N s'.den a w
 |[],s,s',h,hs=>by cases h;grind
 |x::xs,s,s',h,hs=>by
  unfold Nj at h;split at h
  .split at h
   case h_2=>grind
   rename_i e;exact IU xs h (XD e hs)
  .exact IU xs h hs
structure LR where
 p:Prop
 dec:Decidable p
 js:List Nat
 y:Cl
def I9(s:St)(i:Option TI)(x y:Option Sl):Option LR:=match i with
 |none=>none
 |some i=>bif Nat.blt 0 i.bytes&&Nat.blt 0 i.ty.w then(match x with
  |some (.one .nil)=>(match QX s i.ty s.r.length y with
   |some (d,ys,js)=>some ⟨Ib ys<=Nb i.bytes,inferInstance,js,.c (.sl i.ty) (d+1) ys⟩
   |none=>none)
  |some (.one (.rf id []))=>(match s.r.getD id .dead with
   |.arr false t d xs=>if h:t=i.ty then(match QX s i.ty id y with
     |some (d',ys,js)=>bif dOK i.ty d' d then some ⟨Ib xs+Ib ys<=Nb i.bytes,inferInstance,id::js,.c (.sl i.ty) (d+1) (Aaq (h▸xs) ys)⟩else none
     |none=>none)else none
   |_=>none)
  |_=>none)else none
section sound
variable {P:Program}{Θ:Tab}
theorem Vo{C:Ctx}{y:Cl}{w':World}{v':Value}(hd:a.defers=[])(E:∀x,h.n<=x->s.den.t x=.dead)(A:h.fz.contains d=false)(B:s.put h (some d) (.one y)=some s')
  (J:Wy C (s.den.σ++(prom (y.v s.r) s.den.σ.length).2) (((List.range h.n).map s.den.t).set d (prom (y.v s.r) s.den.σ.length).1) (a.tmps.setIfInBounds d v') w'):AR C h.n s'.den (a.put (some d) v') w':=by
 have u:d<h.n:=by
  unfold St.put at B;cases W:Nat.blt d h.n with
  |false=>grind
  |true=>simp_all
 refine AR.put B ?_
 have e:s.den.res h (some d) ((Sl.one y).v s.r)=⟨AI s.den.t d (prom (y.v s.r) s.den.σ.length).1,s.den.σ++(prom (y.v s.r) s.den.σ.length).2⟩:=by
  unfold Ms.res;simp only[u,if_true,A];rfl
 rw[e];refine⟨hd,λx U=>?_,?_⟩
 .unfold AI
  grind
 .rw[C0 u]at J
  trivial
theorem P9(hΘ:Θ.OK P){C:Ctx}{h:Cs}{s s':St}{o:Oper}{t:TypeId}{x y:Operand}{a:Act}{w:World}{A:LR}{d:Nat}{next:Act->World->Prop}{Q:Exit->Act->World->Prop}
  (ho:o.op=.call ⟨.builtin .append,#[x,y],#[t,t]⟩) (hdst:o.dst=some d) (hfz:h.fz.contains d=false) (U:I9 s (((Θ.look t).bind (·.elem)).bind Θ.look) (s.ev x) (s.ev y)=some A) (hA:A.p) (hp:(Ap A.js s).put h (some d) (.one A.y)=some s')
  (hs:AR C h.n s.den a w) (hn:∀a' w',AR C h.n s'.den a' w'->next a' w'):o.wp P a w next Q:=by
 obtain⟨hdf,hdd,D,ρ,F,u⟩:=hs
 -- the run, and what follows
 have key:∀(E:TI) (e:TypeId),slI P t=some ⟨e,E.ty.w,E.bytes,B1 E.ty⟩->0<E.bytes->0<E.ty.w->∀(xs:List E.ty.T) (dx:Nat) (ys:List E.ty.T) (js:List Nat) (fpx:Nat->Prop) (id:Nat),
   Rel D w noR (cV (.sl E.ty) (dx+1) xs) (a.eval x) fpx->(∀c,fpx c->∃j∈A.js,F j c)->(∀c,fpx c->F id c)->YOK s E.ty id y a w D F dx ys js->(∀j∈js,j∈A.js)->(∀j∈A.js,j<s.r.length)->
   xs.length+ys.length<=Nb E.bytes->A.y=.c (.sl E.ty) (dx+1) (xs++ys)->o.wp P a w next Q:=by
  intro E e hsl hby hw xs dx ys js fpx id J hfA hfid hY hjs hjl hlim hAy;obtain⟨⟨Fy,hrd,hFy,hFd⟩,hjs2⟩:=hY
  have W:(xs.length+ys.length)*E.bytes<=140737488355328:=by
   rw[Nat.mul_comm];exact(Nat.mul_comm _ _▸(Nat.le_div_iff_mul_le hby).1 hlim)
  have h63:xs.length+ys.length<=maxLen:=by
   have:xs.length+ys.length<=(xs.length+ys.length)*E.bytes:=Nat.le_mul_of_pos_right _ hby;simp only[maxLen];omega
  obtain⟨v',w',fp,hrun,hos,htp,hout,hdr,hsz,hbl,hr',hfp⟩:=Rel.append (P:=P) (ty:=o.type) (f:=λi k=>(tyV E.ty dx (xs.getD i E.ty.dflt)).getD k .dead) hsl hw J (λb W h=>by obtain⟨j,_,Z⟩:=hfA b h;exact u.wr.dD j b Z W) u.wr.Dlt hrd
   (λi k c hi hk hF=>by
    obtain⟨j,Z,B⟩:=hFy i k c hi hk hF;refine⟨u.wr.dD j c B,λhx=>?_⟩
    exact u.wr.disj j id c (hjs2 j Z).2 B (hfid c hx)) hFd h63 W
  obtain⟨F',hcr',hF'⟩:=CJ A.js u hjl
  have hr2:Rel D w' noR (A.y.v (Ap A.js s).r) v' fp:=by
   rw[hAy];exact Rel.sub (LT rfl rfl (λ_ _ _=>rfl) (λ_ _ _=>rfl)) hr'
  have hfpG:∀b,fp b->(∃j∈A.js,F j b)\/w.heap.size<=b:=by
   intro b W;rcases hfp b W with h1|⟨i,k,hi,hk,h1⟩|h1
   .exact .inl (hfA b h1)
   .obtain⟨j,Z,B⟩:=hFy i k b hi hk h1
    exact .inl ⟨j,hjs j Z,B⟩
   .exact .inr h1
  have hc:=CR.own hcr' (G:=λb=>∃j∈A.js,F j b) (D':=D) (λi b W ⟨j,Z,B⟩=>by
    obtain⟨h1,h2⟩:=hF' i b W;exact u.wr.disj i j b (λe=>h2 (e▸Z)) h1 B) (λb W ⟨j,_,B⟩=>u.wr.dD j b B W) (λb ⟨j,_,B⟩=>u.Fn j b B) hos htp hout hdr hsz (λc hc hG=>hbl c hc λh=>hG (hfA c h)) hr2 hfpG
   (λ_ h=>h) (λ_ h=>.inl h) (λb W=>⟨Nat.lt_of_lt_of_le (u.wr.Dlt b W) hsz,λh=>by
    rcases hfpG b h with⟨j,_,B⟩|h2
    .exact u.wr.dD j b B W
    .have:=u.wr.Dlt b W;omega⟩) d
  have hs':=Vo (h:=h) hdf (BZ A.js hdd) hfz hp hc;unfold Oper.wp execOp;simp only[ho,resolve,invoke,builtin,Sem.run_bind,Sem.run_pure,Result.andThen_ok,List.map_toArray,List.map_cons,List.map_nil,hrun,hdst];show next (a.put o.dst v') w'
  rw[hdst];exact hn _ _ hs'
 unfold I9 at U;split at U
 .cases U
 rename_i E hti;obtain⟨e,hsl,_⟩:=DH hΘ hti;obtain⟨W,U⟩:=Bb U;simp only[bAE]at W;have hby:=KP W.1;have hw:=KP W.2;have J:=BY u hdd x;split at U
 case h_3=>cases U
 .rename_i hx
  rw[Bh hx]at J;split at U
  case h_2=>cases U
  rename_i d' ys js hy;cases U;have hY:=Il u hdd hy;refine key E e hsl hby hw [] d' ys js noF s.r.length ?_ (λ_ h=>h.elim) (λ_ h=>h.elim) hY (λ_ h=>h) (λj Z=>(hY.js j Z).1) (by simpa [Ib]using hA) (by simp)
  exact .inl ⟨rfl,rfl,.inl J.1,λ_ h=>h⟩
 .rename_i id hx
  rw[Bh hx]at J;split at U
  case h_2=>cases U
  rename_i t' dx xs hr;split at U
  case isFalse=>cases U
  rename_i ht;subst ht;split at U
  case h_2=>cases U
  rename_i d' ys js hy;obtain⟨hdk,U⟩:=Bb U;cases U;have hY:=Il u hdd hy
  have hlen:(Ai s.r id []).len=xs.length:=by
   show(s.r.getD id .dead).len=_;rw[hr];rfl
  have J:Rel D w (Au s.den.σ ρ w) (.rs id [] 0 (Ai s.r id []).len) (a.eval x) noF:=J;rw[hlen]at J
  have hσ:s.den.σ.getD id .dead=.nd true true E.ty.w xs.length (λi k=>(tyV E.ty dx (xs.getD i E.ty.dflt)).getD k .dead):=by
   show(s.r.map Af.v).getD id .dead=_;rw[AA,hr];rfl
  obtain⟨_,hrr⟩:=OX u.wr hσ J.1;have hid:id<s.r.length:=by simpa [St.den]using J.1.1
  refine key E e hsl hby hw xs dx ys js (F id) id hrr (λc hc=>⟨id,by simp,hc⟩) (λ_ h=>h) ?_ (λj Z=>mCM _ Z) (λj Z=>?_) hA rfl
  .have ee:tyV E.ty d'=tyV E.ty dx:=funext λz=>C9 _ _ _ z (LG hdk)
   obtain⟨⟨Fy,h1,h2⟩,h3⟩:=hY;rw[ee]at h1;exact⟨⟨Fy,h1,h2⟩,h3⟩
  .rcases List.mem_cons.1 Z with rfl|Z
   .exact hid
   .exact(hY.js j Z).1
def peq:AZ->AZ->Bool
 |[],[]=>true
 |(i,k)::p,(j,l)::q=>Nat.beq i j&&Nat.beq k l&&peq p q
 |_,_=>false
def Vm:∀{p q:AZ},peq p q=true->p=q
 |[],[],_=>rfl
 |(i,k)::p,(j,l)::q,h=>by
  simp only[peq,bAE]at h;rw[bqE h.1.1,bqE h.1.2,Vm h.2]
 |[],_::_,h=>by cases h
 |_::_,[],h=>by cases h
def LA:∀q:AZ,A9 q q=true
 |[]=>rfl
 |(i,k)::q=>by simp[A9,LA q]
def rrk(id:Nat)(q:AZ)(m:Nat)(id':Nat)(e:AZ)(keep new:Cl):Cl:=bif Nat.beq id' m then .dead else bif Nat.beq id' id then(bif peq q e then new else bif pre (q.map (·.2)) e then .dead else keep)else keep
def Cl.rr(id:Nat)(q:AZ)(m:Nat):Cl->Cl
 |.rf id' e=>rrk id q m id' e (.rf id' e) (.rf m [])
 |.rs id' e off len=>rrk id q m id' e (.rs id' e off len) (.rs m [] off len)
 |.rp id' e i k=>rrk id q m id' e (.rp id' e i k) (.rp m [] i k)
 |y=>y
def Sl.mapC(K:Cl->Cl):Sl->Sl
 |.one y=>.one (K y)
 |.new l=>.new l
 |.agg l=>.agg (l.map K)
 |.pk t l=>.pk t (l.map K)
 |.tup l=>.tup (l.map λp=>(p.1,p.2.map K))
theorem Sl.mapC_v{G:V->V}{K:Cl->Cl}(e:Ba G)(hd:K .dead=.dead)(A:∀y:Cl,Ax (G (y.v r)) ((K y).v r'))(y:Sl):Ax (G (y.v r)) ((y.mapC K).v r'):=by
 have agg:∀l:List Cl,Ax (G (An (l.map (Cl.v r)))) (An ((l.map K).map (Cl.v r'))):=by
  intro l;rw[G_mk e];refine Ax.mk (by simp) λk _=>?_
  simp_all
 cases y with
 |one c=>exact A c
 |new l=>show Ax (G (Bj true _)) (Bj true _);rw[show G (Bj true (l.map Cl.v0))=Bj true (l.map Cl.v0)from e.nd _ _ _ _ _];exact Ax.refl _
 |agg l=>exact agg l
 |pk t l=>
  show Ax (G (pkL t (l.map (Cl.v r)))) (pkL t ((l.map K).map (Cl.v r')));rw[G_pk e];refine Ax.pk (by simp) λk _=>?_
  simp_all
 |tup l=>
  show Ax (G (Do _)) (Do _);rw[G_tup e];refine Ax.tup (by simp) λk u=>?_
  have u:k<l.length:=by simpa using u
  simp only[gDE,List.getElem?_map,gEE u,Option.getD_some];generalize l[k]=p;obtain⟨b,m⟩:=p;cases b with
  |true=>exact agg m
  |false=>
   cases m with
   |nil=>exact Ax.dead _
   |cons y m=>exact A y
def YF(s:St):Option Sl->Option St
 |some (.one (.rf id (a::q)))=>match LN (s.r.getD id .dead) (a::q),Ai s.r id (a::q)with
  |some r1,.arr false t d xs=>some ⟨λi=>(s.t i).mapC (Cl.rr id (a::q) s.r.length),s.r.set id r1++[Af.arr false t d xs]⟩
  |_,_=>some s
 |_=>some s
theorem UW{d:Nat}{xs:List t.T}(hm:m=s.r.length)(hidr:id<s.r.length)(hcl:∀u,pre (Q.map (·.2)) u=false->(r1.at' u).len=((s.r.getD id .dead).at' u).len)(hnl:(Ai s.r id Q).len=xs.length):
  ∀y:Cl,Ax (rrV id Q m (y.v s.r)) ((y.rr id Q m).v (s.r.set id r1++[Af.arr false t d xs])):=by
 have B:∀(id':Nat) (u:AZ) (keep new:Cl) (v v':V),(id'=id/\A9 Q u=true->rrV id Q m v=v')->(¬ (id'=id/\A9 Q u=true)->rrV id Q m v=v)->
   (id'≠m->¬ (id'=id/\A9 Q u=true)->¬ (id'=id/\pre (Q.map (·.2)) u=true)->keep.v (s.r.set id r1++[Af.arr false t d xs])=v)->(id'=id->u=Q->new.v (s.r.set id r1++[Af.arr false t d xs])=v')->
   Ax (rrV id Q m v) ((rrk id Q m id' u keep new).v (s.r.set id r1++[Af.arr false t d xs])):=by
  intro id' u keep new v v' h1 h2 h3 h4;unfold rrk;cases hb:Nat.beq id' m with
  |true=>exact Ax.dead _
  |false=>
   have E:id'≠m:=λe=>by rw[e,Nat.beq_refl]at hb;cases hb
   cases U:Nat.beq id' id with
   |false=>
    have J:id'≠id:=λe=>by rw[e,Nat.beq_refl]at U;cases U
    show Ax _ (keep.v _);rw[h2 (λh=>J h.1),h3 E (λh=>J h.1) (λh=>J h.1)]
    exact Ax.refl _
   |true=>
    have e:=bqE U;cases hp:peq Q u with
    |true=>
     have eq:=(Vm hp).symm;show Ax _ (new.v _);rw[h1 ⟨e,by rw[eq];exact LA Q⟩,h4 e eq]
     exact Ax.refl _
    |false=>
     cases A:pre (Q.map (·.2)) u with
     |true=>exact Ax.dead _
     |false=>
      have n1:¬ (id'=id/\A9 Q u=true):=λh=>by rw[MX h.2]at A;cases A
      show Ax _ (keep.v _);rw[h2 n1,h3 E n1 (λh=>by rw[h.2]at A;cases A)]
      exact Ax.refl _
 intro y;cases y with
 |rf id' u=>
  refine B id' u _ _ (.rs id' u 0 (Ai s.r id' u).len) (.rs m (u.drop Q.length) 0 (Ai s.r id' u).len) (λh=>by simp only[rrV,if_pos h]) (λh=>by simp only[rrV,if_neg h]) (λE _ hnp=>?_) (λe Z=>?_)
  .show V.rs id' u 0 (Ai (s.r.set id r1++[Af.arr false t d xs]) id' u).len=_
   congr 1
   by_cases W:id'<s.r.length
   .have e1:Ai (s.r.set id r1++[Af.arr false t d xs]) id' u=Ai (s.r.set id r1) id' u:=by
     unfold Ai;rw[gDE,gAL (by simpa using W),<-gDE]
    rw[e1];by_cases he:id'=id
    .subst he
     rw[Cb W]
     exact hcl u (by cases hp:pre (Q.map (·.2)) u with
      |false=>rfl
      |true=>exact absurd ⟨rfl,hp⟩ hnp)
    .rw[Bs he]
   .unfold Ai
    rw[gDE,List.getElem?_eq_none (by simp;omega),gDE,List.getElem?_eq_none (by omega)]
  .subst e;subst Z
   show V.rs m [] 0 (Ai (s.r.set id' r1++[Af.arr false t d xs]) m []).len=_
   have e1:Ai (s.r.set id' r1++[Af.arr false t d xs]) m []=Af.arr false t d xs:=by
    unfold Ai;rw[hm,gDE,gAR (by simp)]
    simp[Af.at']
   rw[e1,hnl];simp[Af.len]
 |rs id' u off len=>
  exact B id' u _ _ (.rs id' u off len) (.rs m (u.drop Q.length) off len) (λh=>by simp only[rrV,if_pos h]) (λh=>by simp only[rrV,if_neg h]) (λ_ _ _=>rfl) (λe Z=>by subst Z;simp[Cl.v])
 |rp id' u i k=>
  exact B id' u _ _ (.rp id' u i k) (.rp m (u.drop Q.length) i k) (λh=>by simp only[rrV,if_pos h]) (λh=>by simp only[rrV,if_neg h]) (λ_ _ _=>rfl) (λe Z=>by subst Z;simp[Cl.v])
 |dead=>exact Ax.dead _
 |nil=>exact Ax.refl (.c _)
 |nilp=>exact Ax.refl (.c _)
 |nilf=>exact Ax.refl (.c _)
 |c t d x=>
  show Ax (rrV id Q m (cV t d x)) (cV t d x);have:rrV id Q m (cV t d x)=cV t d x:=by cases t<;>first|rfl|exact(Db _ _ _).osl|exact(Db _ _ _).clo
  rw[this];exact Ax.refl _
def rkk(id:Nat)(q:AZ)(m:Nat)(id':Nat)(e:AZ)(keep:Cl):Cl:=bif Nat.beq id' m then .dead else bif Nat.beq id' id then(bif pre (q.map (·.2)) e then .dead else keep)else keep
def Cl.rk(id:Nat)(q:AZ)(m:Nat):Cl->Cl
 |.rf id' e=>rkk id q m id' e (.rf id' e)
 |.rs id' e off len=>rkk id q m id' e (.rs id' e off len)
 |.rp id' e i k=>rkk id q m id' e (.rp id' e i k)
 |y=>y
theorem UX{id':Nat}{e:AZ}{keep new:Cl}:rkk id q m id' e keep=.dead\/rkk id q m id' e keep=rrk id q m id' e keep new:=by
 unfold rkk rrk;cases Nat.beq id' m with
 |true=>simp
 |false=>
  cases Nat.beq id' id with
  |false=>simp
  |true=>
   cases u:pre (q.map (·.2)) e with
   |true=>simp
   |false=>
    cases A:peq q e with
    |true=>
     have:=Vm A;subst this;rw[MX (LA q)]at u;grind
    |false=>simp
def rk_or(y:Cl):y.rk id q m=.dead\/y.rk id q m=y.rr id q m:=by
 cases y with
 |rf=>exact UX
 |rs=>exact UX
 |rp=>exact UX
 |_=>exact .inr rfl
theorem rk_sub{d:Nat}{xs:List t.T}(E:m=s.r.length)(e:id<s.r.length)(B:∀u,pre (Q.map (·.2)) u=false->(r1.at' u).len=((s.r.getD id .dead).at' u).len)(A:(Ai s.r id Q).len=xs.length)
  (y:Cl):Ax (rrV id Q m (y.v s.r)) ((y.rk id Q m).v (s.r.set id r1++[Af.arr false t d xs])):=by
 rcases rk_or y with h|h
 .rw[h];exact Ax.dead _
 .rw[h];exact UW E e B A y
theorem Ax.of_dead{v:V}(h:Ax .dead v):v=.dead:=by
 rcases h with h|h
 .grind
 trivial
theorem PB{C:Ctx}{N:Nat}{a:Act}{w:World}{d:Nat}{xs:List t.T}(hx:s.ev x=some (.one (.rf id Q)))(hcut:LN (s.r.getD id .dead) Q=some r1)(hne:Ai s.r id Q≠.dead)
  (hnv:(Ai s.r id Q).v=arr true t.w (tyV t d) t.dflt xs) (hnl:(Ai s.r id Q).len=xs.length) (hs:AR C N s.den a w) {f:Nat->Sl} (hf:∀i,Ax (rrV id Q s.r.length ((s.t i).v s.r)) ((f i).v (s.r.set id r1++[Af.arr false t d xs]))):AR C N (⟨f,s.r.set id r1++[Af.arr false t d xs]⟩:St).den a w:=by
 obtain⟨hdf,Z,D,ρ,F,hcr⟩:=hs;have hr:=BY hcr Z x;rw[Bh hx]at hr;have hr:Rel D w (Au s.den.σ ρ w) (.rs id Q 0 (Ai s.r id Q).len) (a.eval x) noF:=hr;obtain⟨⟨U,sz,n,f,cn,hat,hle,hcv⟩,_⟩:=hr;obtain⟨ρ',F',B,_⟩:=CR.reroot hcr U hat;have hidr:id<s.r.length:=by simpa [St.den]using U
 obtain⟨hcv1,hcl⟩:=JI hcut;have e:sub Q (s.den.σ.getD id .dead)=arr true t.w (tyV t d) t.dflt xs:=(A1 hne).trans hnv;have J:s.den.σ.length=s.r.length:=by simp[St.den]
 obtain⟨m,hm⟩:∃m,m=s.r.length:=⟨_,rfl⟩;rw[<-hm]at hf;rw[J,<-hm]at B;refine⟨hdf,λx hx=>?_,D,ρ',F',?_⟩
 .have h0:(s.t x).v s.r=.dead:=Z x hx
  have h1:=hf x;rw[h0]at h1;exact Ax.of_dead h1
 .have E:s.den.σ=s.r.map Af.v:=rfl
  have hm':(s.r.map Af.v).length=m:=by simp[hm]
  refine B.sub (by simp[St.den]) (λi _=>?_) (by simp) λi u=>?_
  .show Sub _ (((s.r.set id r1++[Af.arr false t d xs]).map Af.v).getD i .dead)
   rw[List.map_append,List.map_set,E];by_cases u:i<s.r.length
   .rw[AG (by simpa using u),AG (by simpa using u)]
    by_cases W:id=i
    .subst W
     rw[Aq (by simpa using u),Aq (by simpa using u),AA]
     exact hcv1
    .rw[Ao W,Ao W];exact Sub.refl _
   .by_cases W:i=s.r.length
    .subst W
     have e1:∀(A:List V) (v:V),A.length=s.r.length->(A++[v]).getD s.r.length .dead=v:=by
      intro A v hA;rw[<-hA,gDE,gAR (by simp)];simp
     rw[e1 _ _ (by simp),show([Af.arr false t d xs].map Af.v)=[arr true t.w (tyV t d) t.dflt xs]from rfl,e1 _ _ (by simp)]
     rw[E]at e;rw[e];exact Sub.refl _
    .have e1:∀(A:List V) (v:V),A.length=s.r.length->(A++[v]).getD i .dead=.dead:=by
      intro A v hA;rw[gDE,List.getElem?_eq_none (by simp;omega)];rfl
     rw[e1 _ _ (by simp),show([Af.arr false t d xs].map Af.v)=[arr true t.w (tyV t d) t.dflt xs]from rfl,e1 _ _ (by simp)]
     exact Sub.refl _
  .have u:i<N:=by simpa using u
   have hk:=hf i;simpa [u,St.den]using hk
theorem LH(h:YF s (s.ev x)=some s')(hs:AR C N s.den a w):AR C N s'.den a w:=by
 unfold YF at h;split at h
 case h_2=>grind
 rename_i id b B E;split at h
 case h_2=>grind
 rename_i r1 t d xs e u;cases h;have A:id<s.r.length:=by
  rcases Nat.lt_or_ge id s.r.length with h|h
  .omega
  .unfold Ai at u
   rw[gDE,List.getElem?_eq_none h]at u;rw[show(none:Option Af).getD .dead=.dead from rfl,DI]at u;grind
 exact PB E e (by grind) (by rw[u];rfl) (by rw[u];rfl) hs λi=>Sl.mapC_v (Db id (b::B) s.r.length) rfl (UW rfl A (JI e).2 (by rw[u];rfl)) (s.t i)
def cutO(s:St)(x:Operand):Option St:=match x with
 |.tmp y=>match s.t y with
  |.one (.rf id (a::q))=>match LN (s.r.getD id .dead) (a::q),Ai s.r id (a::q)with
   |some r1,.opt false t d v=>some ⟨λi=>bif Nat.beq i y then .one (.rf s.r.length [])else(s.t i).mapC (Cl.rk id (a::q) s.r.length),s.r.set id r1++[Af.arr false t d (getO v)]⟩
   |_,_=>YF s (s.ev x)
  |_=>YF s (s.ev x)
 |_=>YF s (s.ev x)
theorem Aan(h:cutO s x=some s')(hs:AR C N s.den a w):AR C N s'.den a w:=by
 unfold cutO at h;split at h
 case h_2=>exact LH h hs
 rename_i y;split at h
 case h_2=>exact LH h hs
 rename_i id b A hy;split at h
 case h_2=>exact LH h hs
 rename_i r1 t d v u U;cases h;have hx:s.ev (.tmp y)=some (.one (.rf id (b::A))):=by show some (s.t y)=_;rw[hy]
 have J:Ai s.r id (b::A)≠.dead:=by rw[U];simp
 have B:id<s.r.length:=by
  rcases Nat.lt_or_ge id s.r.length with h|h
  .exact h
  .exfalso
   apply J;unfold Ai;rw[gDE,List.getElem?_eq_none h];exact DI _
 obtain⟨ys,rfl⟩:∃ys,v=some ys:=by
  obtain⟨hdf,W,D,ρ,F,Z⟩:=hs;have hr:=BY Z W (.tmp y);rw[Bh hx]at hr;obtain⟨⟨hid,sz,n,f,cn,hat,hle,hcv⟩,_⟩:=hr;have e:=At.sub hat;have e2:sub (b::A) (s.den.σ.getD id .dead)=ZJ true t.w (tyV t d) t.dflt v:=(A1 J).trans (by rw[U];rfl)
  rw[e2]at e;cases v with
  |none=>cases e
  |some ys=>exact⟨ys,rfl⟩
 have E:(Ai s.r id (b::A)).len=ys.length:=by rw[U];rfl
 refine PB (xs:=ys) hx u J (by rw[U];rfl) E hs λi=>?_
 cases hi:Nat.beq i y with
 |false=>exact Sl.mapC_v (Db id (b::A) s.r.length) rfl (rk_sub rfl B (JI u).2 E) (s.t i)
 |true=>
  have e:=bqE hi;subst e;rw[hy];have:=UW (xs:=ys) (d:=d) (t:=t) (m:=s.r.length) rfl B (JI u).2 E (.rf id (b::A))
  have e1:(Cl.rf id (b::A)).rr id (b::A) s.r.length=.rf s.r.length []:=by
   have p:∀q:AZ,peq q q=true:=by
    intro q
    induction q with
    |nil=>rfl
    |cons a q ih=>obtain⟨i,k⟩:=a;simp[peq,Nat.beq_refl,ih]
   show rrk id (b::A) s.r.length id (b::A) _ _=_;unfold rrk;have h0:Nat.beq id s.r.length=false:=by
    cases hb:Nat.beq id s.r.length with
    |false=>rfl
    |true=>have:=bqE hb;omega
   rw[h0,Nat.beq_refl,p];rfl
  rw[e1]at this;exact this
end sound
end Go.Ve

