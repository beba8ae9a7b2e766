/- The typed machine: append. -/
import Derived.Test.YtojjlnbnneemaaaTj
import Derived.Test.YtojjlnbnneemaaaTg
import Derived.Test.YtojjlnbnneemaaaVy
set_option linter.all false
namespace Go.Ve
variable{Q q:AW}{r1:Ac}{a:Act}{cts:Array Value}{z:Cl}{C:Ctx}{h:Cz}{r r':List Ac}{ts ts' σ:List V}{N d id j m:Nat}{F:Nat->Nat->Prop}{D:Nat->Prop}{ρ:Nat->Value}{x:Operand}{s s':St}{t:Ty}{w:World}
def Cl.kH(r:List Ac)(j:Nat):Cl->Cl
 |.rf id q=>bif Nat.beq id j then .c (.sl .unit) 0 (ZT (Ae r id q).len ())else .rf id q
 |.rs id q off len=>bif Nat.beq id j then .c (.sl .unit) 0 (ZT len ())else .rs id q off len
 |y=>y.kill j [] []
def Sl.kH(r:List Ac)(j:Nat):Sl->Sl
 |.one y=>.one (y.kH r j)
 |y=>y.kill j [] []
def AaJ(n:Nat):V.nd true false 0 n (λ_ _=>.dead)=cV (.sl .unit) 0 (ZT n ()):=by
 show V.nd true false 0 n (λ_ _=>.dead)=V.nd true false 0 (List.replicate n ()).length λi k=>([].getD k .dead)
 simp
theorem Sl.kH_v(y:Sl):As (hdK j (y.v r)) ((y.kH r j).v (r.set j .dead)):=by
 have g:=GOK.kill (id:=j) (P:=[])
 have L:=Sl.kill_v (r:=r) (r':=r.set j .dead) g (λid' q J=>by
  have B:id'≠j:=by
   rintro rfl
   simp[hit,pre]at J
  rw[Bk B]) y
 have A:∀(id off len:Nat) (q:AW) (z:Cl),(id≠j->z.v (r.set j .dead)=.rs id q off len)->As (if id=j then V.nd true false 0 len (λ_ _=>.dead)else .rs id q off len) ((bif Nat.beq id j then Cl.c (.sl .unit) 0 (ZT len ())else z).v (r.set j .dead)):=by
  intro id off len q z E;by_cases h:id=j
  .subst h
   rw[if_pos rfl,Nat.beq_refl];show As _ (cV (.sl .unit) 0 (ZT len ()));rw[<-AaJ];exact As.refl _
  .rw[if_neg h,BE h]
   show As _ (z.v _);rw[E h];exact As.refl _
 cases y with
 |one c=>
  cases c with
  |rf id q=>
   refine A id 0 (Ae r id q).len q (.rf id q) λh=>?_
   show V.rs id q 0 (Ae (r.set j .dead) id q).len=_;rw[Bk h]
  |rs id q off len=>exact A id off len q (.rs id q off len) λh=>rfl
  |c t d x=>
   have e:hdK j (cV t d x)=AP j [] (cV t d x):=by cases t<;>first|rfl|(cases x<;>rfl)
   show As (hdK j (cV t d x)) _;rw[e];trivial
  |_=>trivial
 |_=>trivial
def Ie(j:Nat)(s:St):St:=⟨λi=>(s.t i).kH s.r j,s.r.set j .dead⟩
def Ap:List Nat->St->St
 |[],s=>s
 |j::js,s=>Ap js (Ie j s)
theorem Q9(h:CR C s.den.σ ((List.range N).map s.den.t) cts w D ρ F)(B:j<s.r.length):
  CR C (Ie j s).den.σ ((List.range N).map (Ie j s).den.t) cts w D ρ (λi=>if i=j then noF else F i):=by
 have E:=h.dropH (by simpa [St.den]using B)
 have J:(Ie j s).den.σ=s.den.σ.set j .dead:=by
  show(s.r.set j .dead).map Ac.v=(s.r.map Ac.v).set j .dead;rw[List.map_set];rfl
 refine E.sub (by grind) (λi _=>by rw[J];exact Sub.refl _) (by simp) λi e=>?_
 have e:i<N:=by grind
 have A:=Sl.kH_v (r:=s.r) (j:=j) (s.t i);simpa [e,St.den,Ie]using A
def Ko:(Ie j s).r.length=s.r.length:=by simp[Ie]
def IQ:∀(js:List Nat) (s:St),(Ap js s).r.length=s.r.length
 |[],_=>rfl
 |j::js,s=>by show(Ap js (Ie j s)).r.length=_;rw[IQ js,Ko]
theorem Cv{C:Ctx}{N:Nat}{cts:Array Value}{w:World}{D:Nat->Prop}{ρ:Nat->Value}:∀(js:List Nat) {s:St}{F:Nat->Nat->Prop},CR C s.den.σ ((List.range N).map s.den.t) cts w D ρ F->(∀j∈js,j<s.r.length)->
  ∃F',CR C (Ap js s).den.σ ((List.range N).map (Ap js s).den.t) cts w D ρ F'/\∀i b,F' i b->F i b/\i∉js
 |[],s,F,h,_=>⟨F,h,λi b e=>⟨e,by simp⟩⟩
 |j::js,s,F,h,hj=>by
  obtain⟨F',E,B⟩:=Cv js (Q9 h (hj j (List.mem_cons_self ..))) (λi J=>by rw[Ko];grind)
  refine⟨F',E,λi b e=>?_⟩
  obtain⟨A,L⟩:=B i b e;split at A
  .trivial
  grind
theorem BK{N:Nat}:∀(js:List Nat) {s:St},(∀x,N<=x->s.den.t x=.dead)->∀x,N<=x->(Ap js s).den.t x=.dead
 |[],s,h=>h
 |j::js,s,h=>by
  refine BK js λx B=>?_
  have A:(s.t x).v s.r=.dead:=h x B;show((s.t x).kH s.r j).v (s.r.set j .dead)=.dead;cases e:s.t x with
  |one y=>
   rw[e]at A;cases y with
   |dead=>rfl
   |c t d z=>trivial
   |nil=>trivial
   |nilp=>trivial
   |nilf=>trivial
   |nilm=>trivial
   |rf=>trivial
   |rs=>trivial
   |rp=>trivial
   |rm=>trivial
  |new l=>rw[e]at A;trivial
  |agg l=>rw[e]at A;trivial
  |tup l=>rw[e]at A;trivial
  |pk t l=>rw[e]at A;trivial
theorem CR.giveG(h:CR C σ ts cts w D ρ F)(W:j<σ.length)(U:ts'.length=ts.length)
  (L:∀i,i<ts.length->As (hdK j (ts.getD i .dead)) (ts'.getD i .dead)\/Rel (λb=>D b\/F j b) w noR (ts'.getD i .dead) (cts.getD i undef) noF):
  CR C (σ.set j .dead) ts' cts w (λb=>D b\/F j b) ρ (λi=>if i=j then noF else F i):=by
 have E:=h.dropH W
 have Z:∀i b,(if i=j then noF else F i) b->F i b/\i≠j:=by
  intro i b e;split at e
  .exact e.elim
  .exact⟨e,by assumption⟩
 refine⟨⟨λi Y=>?_,E.wr.disj,λi b e=>?_,λb e=>?_,E.wr.out⟩,by rw[U];exact h.sz,λt J=>?_,h.fr,E.Fn,λb e=>.inl (h.D1 b e),λb e B=>?_,h.rt,by simpa using h.ml⟩
 .exact Rel.mono (λ_ h=>.inl h) (λ_ _ h=>h) _ _ _ (λ_ _=>rfl) (E.wr.rel i Y)
 .obtain⟨A,h2⟩:=Z i b e
  exact λhd=>hd.elim (h.wr.dD i b A) (h.wr.disj i j b h2 A)
 .exact e.elim (h.wr.Dlt b) (h.wr.lt j b)
 .have J:t<ts.length:=by omega
  rcases L t J with A|A
  .have O:=E.tm t (by simpa using J)
   have e1:(ts.map (hdK j)).getD t .dead=hdK j (ts.getD t .dead):=by simp[J]
   rw[e1]at O;exact Rel.mono (λ_ h=>.inl h) (λ_ _ h=>h) _ _ _ (λ_ _=>rfl) (Rel.subS A O)
  .exact Rel.noR_mono A
 .rcases e with e|e
  .exact h.D2 b e B
  .exact(h.Fn j b e).elim .inr λM=>absurd B (Nat.not_lt.2 M)
theorem CR.give(h:CR C σ ts cts w D ρ F)(L:j<σ.length){l:List V}(ho:σ.getD j .dead=Bi true l)(W:ts'.length=ts.length)
  (e:∀i,i<ts.length->As (hdK j (ts.getD i .dead)) (ts'.getD i .dead)\/(ts.getD i .dead=.rp j [] 0 0/\ts'.getD i .dead=Go.Ve.frz (Bi true l))):
  CR C (σ.set j .dead) ts' cts w (λb=>D b\/F j b) ρ (λi=>if i=j then noF else F i):=by
 refine h.giveG L W λt E=>?_
 rcases e t E with B|⟨B,Z⟩
 .exact .inl B
 right;have M:=h.tm t E;rw[B]at M;obtain⟨⟨Y,s,sz,n,f,b,o,cap,ha,hi,hk,A⟩,_⟩:=M;obtain⟨O,e2⟩:=ha;rw[ho]at O;have U:s=false:=by injection O
 subst U;have J:=Rel.frz' _ _ _ _ (h.wr.rel j L);rw[ho,<-e2]at J;rw[Z,A];have e3:AD false b o n cap=.pointer (some ⟨b,o+0*sz+0,none⟩):=by simp[AD]
 rw[<-e3];exact J
theorem CR.giveS(h:CR C σ ts cts w D ρ F)(J:j<σ.length){sz n:Nat}{f:Nat->Nat->V}(ho:σ.getD j .dead=.nd true true sz n f)(M:ts'.length=ts.length)
  (e:∀i,i<ts.length->As (hdK j (ts.getD i .dead)) (ts'.getD i .dead)\/(ts.getD i .dead=.rs j [] 0 n/\ts'.getD i .dead=Go.Ve.frz (.nd true true sz n f))):
  CR C (σ.set j .dead) ts' cts w (λb=>D b\/F j b) ρ (λi=>if i=j then noF else F i):=by
 refine h.giveG J M λt B=>?_
 rcases e t B with A|⟨A,O⟩
 .exact .inl A
 right;have L:=h.tm t B;rw[A]at L;obtain⟨U,W⟩:=Mn h.wr ho L.1;rw[O,U];have E:=Rel.frz' _ _ _ _ (h.wr.rel j J);rw[ho]at E;exact E
def Sl.gv(r:List Ac)(j:Nat)(z:Cl):Sl->Sl
 |.one (.rp id [] 0 0)=>bif Nat.beq id j then .one z else .one (.rp id [] 0 0)
 |y=>y.kH r j
theorem Sl.gv_v(y:Sl):As (hdK j (y.v r)) ((y.gv r j z).v (r.set j .dead))\/(y.v r=.rp j [] 0 0/\y.gv r j z=.one z):=by
 unfold Sl.gv;split
 .rename_i id
  by_cases h:id=j
  .subst h
   rw[Nat.beq_refl];exact .inr ⟨rfl,rfl⟩
  .rw[BE h]
   refine .inl ?_;have e:hdK j (V.rp id [] 0 0)=.rp id [] 0 0:=if_neg λA=>h A.1
   show As (hdK j (V.rp id [] 0 0)) (.rp id [] 0 0);rw[e];exact As.refl _
 .exact .inl (Sl.kH_v y)
def Xv(j:Nat)(s:St):Option St:=match s.r.getD j .dead with
 |.obj false l=>match DO l with
  |some ⟨t,x⟩=>some ⟨λi=>(s.t i).gv s.r j (.c (.ptr t) 0 x),s.r.set j .dead⟩
  |none=>none
 |_=>none
theorem Lv(h:Xv j s=some s'):∃(l:List Cl) (t:Ty) (x:t.T),j<s.r.length/\s.r.getD j .dead=.obj false l/\(l.map Cl.v0).map Go.Ve.frz=tyV t 0 x/\s'=⟨λi=>(s.t i).gv s.r j (.c (.ptr t) 0 x),s.r.set j .dead⟩:=by
 unfold Xv at h;split at h
 case h_2=>grind
 rename_i l e;split at h
 case h_2=>grind
 rename_i t x A;cases h;refine⟨l,t,x,?_,e,(Ha _ _ A).symm,rfl⟩
 grind
theorem Sl.gv_dead{y:Sl}(e:y.v r=.dead):(y.gv r j z).v r'=.dead:=by
 cases y with
 |one y=>
  cases y with
  |dead=>rfl
  |c t d z=>trivial
  |nil=>trivial
  |nilp=>trivial
  |nilf=>trivial
  |nilm=>trivial
  |rf=>trivial
  |rs=>trivial
  |rp=>trivial
  |rm=>trivial
 |new l=>trivial
 |agg l=>trivial
 |tup l=>trivial
 |pk t l=>trivial
theorem Zb(h:Xv j s=some s')(O:AU C N s.den a w):AU C N s'.den a w:=by
 obtain⟨l,t,x,L,e,U,rfl⟩:=Lv h;obtain⟨hd,E,D,ρ,F,J⟩:=O;refine⟨hd,λi A=>Sl.gv_dead (E i A),λb=>D b\/F j b,ρ,λi=>if i=j then noF else F i,?_⟩
 have ho:s.den.σ.getD j .dead=Bi true (l.map Cl.v0):=by
  show(s.r.map Ac.v).getD j .dead=_;simp only[gDE]at e;rw[gDE,List.getElem?_map];rw[gEE L]at e⊢;have e:s.r[j]=.obj false l:=e;rw[e];rfl
 have W:=J.give (by simpa [St.den]using L) ho (ts':=(List.range N).map λi=>((s.t i).gv s.r j (.c (.ptr t) 0 x)).v (s.r.set j .dead)) (by simp) λi A=>by
  have A:i<N:=by grind
  rw[AX A,AX A];rcases Sl.gv_v (s.t i)with B|⟨B,M⟩
  .exact .inl B
  .refine .inr ⟨B,?_⟩
   rw[M,MV,U];rfl
 have Y:(s.r.set j .dead).map Ac.v=s.den.σ.set j .dead:=by
  rw[List.map_set];rfl
 show CR C ((s.r.set j .dead).map Ac.v) _ a.tmps w _ ρ _;rw[Y];exact W
def Sl.gvS(r:List Ac)(j:Nat)(z:Cl):Sl->Sl
 |.one (.rf id [])=>bif Nat.beq id j then .one z else .one (.rf id [])
 |y=>y.kH r j
theorem Sl.gvS_v(y:Sl):As (hdK j (y.v r)) ((y.gvS r j z).v (r.set j .dead))\/(y.v r=.rs j [] 0 (r.getD j .dead).len/\y.gvS r j z=.one z):=by
 unfold Sl.gvS;split
 .rename_i id
  by_cases h:id=j
  .subst h
   rw[Nat.beq_refl];exact .inr ⟨rfl,rfl⟩
  .rw[BE h]
   refine .inl ?_;show As (if id=j then _ else V.rs id [] 0 (Ae r id []).len) (.rs id [] 0 (Ae (r.set j .dead) id []).len)
   rw[if_neg h,Bk h];exact As.refl _
 .exact .inl (Sl.kH_v y)
def OJ(j:Nat)(s:St):Option St:=match s.r.getD j .dead with
 |.arr false t _ xs=>some ⟨λi=>(s.t i).gvS s.r j (.c (.sl t) 0 xs),s.r.set j .dead⟩
 |_=>none
theorem Xt(h:OJ j s=some s')(W:AU C N s.den a w):AU C N s'.den a w:=by
 unfold OJ at h;split at h
 case h_2=>cases h
 rename_i t d0 xs J;cases h;have Y:j<s.r.length:=by
  rcases Nat.lt_or_ge j s.r.length with h|h
  .exact h
  .rw[gDE,List.getElem?_eq_none h]at J;cases J
 obtain⟨hd,M,D,ρ,F,O⟩:=W;refine⟨hd,λi E=>?_,λb=>D b\/F j b,ρ,λi=>if i=j then noF else F i,?_⟩
 .have A:(s.t i).v s.r=.dead:=M i E
  show((s.t i).gvS s.r j _).v _=.dead;cases B:s.t i with
  |one y=>
   rw[B]at A;cases y with
   |dead=>rfl
   |c t d z=>exact A
   |nil=>cases A
   |nilp=>cases A
   |nilf=>cases A
   |nilm=>cases A
   |rf=>cases A
   |rs=>cases A
   |rp=>cases A
   |rm=>cases A
  |new l=>rw[B]at A;cases A
  |agg l=>rw[B]at A;cases A
  |tup l=>rw[B]at A;cases A
  |pk t l=>rw[B]at A;cases A
 have ho:s.den.σ.getD j .dead=arr true t.w (tyV t d0) t.dflt xs:=by
  show(s.r.map Ac.v).getD j .dead=_;rw[Aq,J];rfl
 have Z:=O.giveS (by simpa [St.den]using Y) ho (ts':=(List.range N).map λi=>((s.t i).gvS s.r j (.c (.sl t) 0 xs)).v (s.r.set j .dead)) (by simp) λi E=>by
  have E:i<N:=by grind
  rw[AX E,AX E];rcases Sl.gvS_v (z:=.c (.sl t) 0 xs) (s.t i)with L|⟨L,U⟩
  .exact .inl L
  .refine .inr ⟨?_,?_⟩
   .show(s.t i).v s.r=_
    rw[L,J];rfl
   .rw[U]
    show cV (.sl t) 0 xs=frz (arr true t.w (tyV t d0) t.dflt xs);rw[MW];have e:(λa=>(tyV t d0 a).map frz)=tyV t 0:=funext λx=>Bl t d0 x
    rw[e];rfl
 have e1:(s.r.set j .dead).map Ac.v=s.den.σ.set j .dead:=by
  rw[List.map_set];rfl
 show CR C ((s.r.set j .dead).map Ac.v) _ a.tmps w _ ρ _;rw[e1];exact Z
def OI:List Operand->St->Option St
 |[],s=>some s
 |x::xs,s=>match s.ev x with
  |some (.one (.rp j [] 0 0))=>match Xv j s with
   |some s'=>OI xs s'
   |none=>none
  |_=>OI xs s
def Jv{C:Ctx}{N:Nat}{a:Act}{w:World}:∀(xs:List Operand) {s s':St},OI xs s=some s'->AU C N s.den a w->AU C N s'.den a w
 |[],s,s',h,hs=>by cases h;grind
 |x::xs,s,s',h,hs=>by
  unfold OI at h;split at h
  .split at h
   case h_2=>grind
   rename_i e;exact Jv xs h (Zb e hs)
  .exact Jv xs h hs
structure LR where
 p:Prop
 dec:Decidable p
 js:List Nat
 y:Cl
def JH(s:St)(i:Option TI)(x y:Option Sl):Option LR:=match i with
 |none=>none
 |some i=>bif Nat.blt 0 i.bytes&&Nat.blt 0 i.ty.w then(match x with
  |some (.one .nil)=>(match Vy s i.ty s.r.length y with
   |some (d,ys,js)=>some ⟨H4 ys<=Oy i.bytes,inferInstance,js,.c (.sl i.ty) (d+1) ys⟩
   |none=>none)
  |some (.one (.rf id []))=>(match s.r.getD id .dead with
   |.arr false t d xs=>if h:t=i.ty then(match Vy s i.ty id y with
     |some (d',ys,js)=>bif dOK i.ty d' d then some ⟨H4 xs+H4 ys<=Oy i.bytes,inferInstance,id::js,.c (.sl i.ty) (d+1) (Aci (h▸xs) ys)⟩else none
     |none=>none)else none
   |_=>none)
  |_=>none)else none
section sound
variable {P:Program}{Θ:Tab}
theorem WX{C:Ctx}{y:Cl}{w':World}{v':Value}(hd:a.defers=[])(J:∀x,h.n<=x->s.den.t x=.dead)(B:h.fz.contains d=false)(E:s.put h (some d) (.one y)=some s')
  (L:X1 C (s.den.σ++(prom (y.v s.r) s.den.σ.length).2) (((List.range h.n).map s.den.t).set d (prom (y.v s.r) s.den.σ.length).1) (a.tmps.setIfInBounds d v') w'):AU C h.n s'.den (a.put (some d) v') w':=by
 have A:d<h.n:=by
  unfold St.put at E;cases O:Nat.blt d h.n with
  |false=>grind
  |true=>simp_all
 refine AU.put E ?_
 have e:s.den.res h (some d) ((Sl.one y).v s.r)=⟨AJ s.den.t d (prom (y.v s.r) s.den.σ.length).1,s.den.σ++(prom (y.v s.r) s.den.σ.length).2⟩:=by
  unfold Ms.res;simp only[A,if_true,B];rfl
 rw[e];refine⟨hd,λx M=>?_,?_⟩
 .unfold AJ
  grind
 .rw[CS A]at L
  trivial
theorem UG(hΘ:Θ.OK P){C:Ctx}{h:Cz}{s s':St}{o:Oper}{t:TypeId}{x y:Operand}{a:Act}{w:World}{A:LR}{d:Nat}{next:Act->World->Prop}{Q:Exit->Act->World->Prop}
  (ho:o.op=.call ⟨.builtin .append,#[x,y],#[t,t]⟩) (hdst:o.dst=some d) (hfz:h.fz.contains d=false) (ha:JH s (((Θ.look t).bind (·.elem)).bind Θ.look) (s.ev x) (s.ev y)=some A) (hA:A.p) (hp:(Ap A.js s).put h (some d) (.one A.y)=some s')
  (hs:AU C h.n s.den a w) (hn:∀a' w',AU C h.n s'.den a' w'->next a' w'):o.wp P a w next Q:=by
 obtain⟨hdf,Z,D,ρ,F,B⟩:=hs
 -- the run, and what follows
 have key:∀(J:TI) (e:TypeId),slI P t=some ⟨e,J.ty.w,J.bytes,B1 J.ty⟩->0<J.bytes->0<J.ty.w->∀(xs:List J.ty.T) (dx:Nat) (ys:List J.ty.T) (js:List Nat) (fpx:Nat->Prop) (id:Nat),
   Rel D w noR (cV (.sl J.ty) (dx+1) xs) (a.eval x) fpx->(∀c,fpx c->∃j∈A.js,F j c)->(∀c,fpx c->F id c)->YOK s J.ty id y a w D F dx ys js->(∀j∈js,j∈A.js)->(∀j∈A.js,j<s.r.length)->
   xs.length+ys.length<=Oy J.bytes->A.y=.c (.sl J.ty) (dx+1) (xs++ys)->o.wp P a w next Q:=by
  intro J e Y U hw xs dx ys js fpx id L hfA hfid hY hjs hjl hlim hAy;obtain⟨⟨Fy,hrd,hFy,hFd⟩,hjs2⟩:=hY
  have M:(xs.length+ys.length)*J.bytes<=140737488355328:=by
   rw[Nat.mul_comm];exact(Nat.mul_comm _ _▸(Nat.le_div_iff_mul_le U).1 hlim)
  have h63:xs.length+ys.length<=maxLen:=by
   have:xs.length+ys.length<=(xs.length+ys.length)*J.bytes:=Nat.le_mul_of_pos_right _ U;simp only[maxLen];omega
  obtain⟨v',w',fp,hrun,hos,htp,hout,hdr,hsz,hbl,hr',hfp⟩:=Rel.append (P:=P) (ty:=o.type) (f:=λi k=>(tyV J.ty dx (xs.getD i J.ty.dflt)).getD k .dead) Y hw L (λb M h=>by obtain⟨j,_,O⟩:=hfA b h;exact B.wr.dD j b O M) B.wr.Dlt hrd
   (λi k c hi hk hF=>by
    obtain⟨j,O,E⟩:=hFy i k c hi hk hF;refine⟨B.wr.dD j c E,λhx=>?_⟩
    exact B.wr.disj j id c (hjs2 j O).2 E (hfid c hx)) hFd h63 M
  obtain⟨F',hcr',hF'⟩:=Cv A.js B hjl
  have hr2:Rel D w' noR (A.y.v (Ap A.js s).r) v' fp:=by
   rw[hAy];exact Rel.sub (M7 rfl rfl (λ_ _ _=>rfl) (λ_ _ _=>rfl)) hr'
  have hfpG:∀b,fp b->(∃j∈A.js,F j b)\/w.heap.size<=b:=by
   intro b M;rcases hfp b M with W|⟨i,k,hi,hk,W⟩|W
   .exact .inl (hfA b W)
   .obtain⟨j,O,E⟩:=hFy i k b hi hk W
    exact .inl ⟨j,hjs j O,E⟩
   .exact .inr W
  have hc:=CR.own hcr' (G:=λb=>∃j∈A.js,F j b) (D':=D) (λi b M ⟨j,O,E⟩=>by
    obtain⟨W,h2⟩:=hF' i b M;exact B.wr.disj i j b (λe=>h2 (e▸O)) W E) (λb M ⟨j,_,E⟩=>B.wr.dD j b E M) (λb ⟨j,_,E⟩=>B.Fn j b E) hos htp hout hdr hsz (λc hc hG=>hbl c hc λh=>hG (hfA c h)) hr2 hfpG
   (λ_ h=>h) (λ_ h=>.inl h) (λb M=>⟨Nat.lt_of_lt_of_le (B.wr.Dlt b M) hsz,λh=>by
    rcases hfpG b h with⟨j,_,E⟩|h2
    .exact B.wr.dD j b E M
    .have:=B.wr.Dlt b M;omega⟩) d
  have hs':=WX (h:=h) hdf (BK A.js Z) hfz hp hc;unfold Oper.wp execOp;simp only[ho,resolve,invoke,builtin,Sem.run_bind,Sem.run_pure,Result.andThen_ok,List.map_toArray,List.map_cons,List.map_nil,hrun,hdst];show next (a.put o.dst v') w'
  rw[hdst];exact hn _ _ hs'
 unfold JH at ha;split at ha
 .cases ha
 rename_i J hti;obtain⟨e,Y,_⟩:=Dq hΘ hti;obtain⟨M,ha⟩:=A7 ha;simp only[bAE]at M;have U:=LT M.1;have hw:=LT M.2;have L:=Bu B Z x;split at ha
 case h_3=>cases ha
 .rename_i hx
  rw[Bh hx]at L;split at ha
  case h_2=>cases ha
  rename_i d' ys js hy;cases ha;have hY:=IW B Z hy;refine key J e Y U hw [] d' ys js noF s.r.length ?_ (λ_ h=>h.elim) (λ_ h=>h.elim) hY (λ_ h=>h) (λj O=>(hY.js j O).1) (by simpa [H4]using hA) (by simp)
  exact .inl ⟨rfl,rfl,.inl L.1,λ_ h=>h⟩
 .rename_i id hx
  rw[Bh hx]at L;split at ha
  case h_2=>cases ha
  rename_i t' dx xs hr;split at ha
  case isFalse=>cases ha
  rename_i ht;subst ht;split at ha
  case h_2=>cases ha
  rename_i d' ys js hy;obtain⟨hdk,ha⟩:=A7 ha;cases ha;have hY:=IW B Z hy
  have hlen:(Ae s.r id []).len=xs.length:=by
   show(s.r.getD id .dead).len=_;rw[hr];rfl
  have L:Rel D w (Am s.den.σ ρ w) (.rs id [] 0 (Ae s.r id []).len) (a.eval x) noF:=L;rw[hlen]at L
  have hσ:s.den.σ.getD id .dead=.nd true true J.ty.w xs.length (λi k=>(tyV J.ty dx (xs.getD i J.ty.dflt)).getD k .dead):=by
   show(s.r.map Ac.v).getD id .dead=_;rw[Aq,hr];rfl
  obtain⟨_,hrr⟩:=Mn B.wr hσ L.1;have hid:id<s.r.length:=by simpa [St.den]using L.1.1
  refine key J e Y U hw xs dx ys js (F id) id hrr (λc hc=>⟨id,by simp,hc⟩) (λ_ h=>h) ?_ (λj O=>mCM _ O) (λj O=>?_) hA rfl
  .have ee:tyV J.ty d'=tyV J.ty dx:=funext λz=>Dt _ _ _ z (MZ hdk)
   obtain⟨⟨Fy,W,h2⟩,h3⟩:=hY;rw[ee]at W;exact⟨⟨Fy,W,h2⟩,h3⟩
  .rcases List.mem_cons.1 O with rfl|O
   .exact hid
   .exact(hY.js j O).1
def peq:AW->AW->Bool
 |[],[]=>true
 |(i,k)::p,(j,l)::q=>Nat.beq i j&&Nat.beq k l&&peq p q
 |_,_=>false
def WV:∀{p q:AW},peq p q=true->p=q
 |[],[],_=>rfl
 |(i,k)::p,(j,l)::q,h=>by
  simp only[peq,bAE]at h;rw[bqE h.1.1,bqE h.1.2,WV h.2]
 |[],_::_,h=>by cases h
 |_::_,[],h=>by cases h
def MQ:∀q:AW,A1 q q=true
 |[]=>rfl
 |(i,k)::q=>by simp[A1,MQ q]
def rrk(id:Nat)(q:AW)(m:Nat)(id':Nat)(e:AW)(keep new:Cl):Cl:=bif Nat.beq id' m then .dead else bif Nat.beq id' id then(bif peq q e then new else bif pre (q.map (·.2)) e then .dead else keep)else keep
def Cl.rr(id:Nat)(q:AW)(m:Nat):Cl->Cl
 |.rf id' e=>rrk id q m id' e (.rf id' e) (.rf m [])
 |.rs id' e off len=>rrk id q m id' e (.rs id' e off len) (.rs m [] off len)
 |.rp id' e i k=>rrk id q m id' e (.rp id' e i k) (.rp m [] i k)
 |.rm id' e=>rrk id q m id' e (.rm id' e) (.rm m [])
 |y=>y
def Sl.mapC(K:Cl->Cl):Sl->Sl
 |.one y=>.one (K y)
 |.new l=>.new l
 |.agg l=>.agg (l.map K)
 |.pk t l=>.pk t (l.map K)
 |.tup l=>.tup (l.map λp=>(p.1,p.2.map K))
theorem Sl.mapC_v{G:V->V}{K:Cl->Cl}(e:Bg G)(hd:K .dead=.dead)(B:∀y:Cl,As (G (y.v r)) ((K y).v r'))(y:Sl):As (G (y.v r)) ((y.mapC K).v r'):=by
 have agg:∀l:List Cl,As (G (Aj (l.map (Cl.v r)))) (Aj ((l.map K).map (Cl.v r'))):=by
  intro l;rw[G_mk e];refine As.mk (by simp) λk _=>?_
  simp_all
 cases y with
 |one c=>exact B c
 |new l=>show As (G (Bi true _)) (Bi true _);rw[show G (Bi true (l.map Cl.v0))=Bi true (l.map Cl.v0)from e.nd _ _ _ _ _];exact As.refl _
 |agg l=>exact agg l
 |pk t l=>
  show As (G (pkL t (l.map (Cl.v r)))) (pkL t ((l.map K).map (Cl.v r')));rw[G_pk e];refine As.pk (by simp) λk _=>?_
  simp_all
 |tup l=>
  show As (G (DH _)) (DH _);rw[Acn e];refine As.tup (by simp) λk A=>?_
  have A:k<l.length:=by simpa using A
  simp only[gDE,List.getElem?_map,gEE A,Option.getD_some];generalize l[k]=p;obtain⟨b,m⟩:=p;cases b with
  |true=>exact agg m
  |false=>
   cases m with
   |nil=>exact As.dead _
   |cons y m=>exact B y
def Aan(s:St):Option Sl->Option St
 |some (.one (.rf id (a::q)))=>match M4 (s.r.getD id .dead) (a::q),Ae s.r id (a::q)with
  |some r1,.arr false t d xs=>some ⟨λi=>(s.t i).mapC (Cl.rr id (a::q) s.r.length),s.r.set id r1++[Ac.arr false t d xs]⟩
  |_,_=>some s
 |_=>some s
theorem Wt{d:Nat}{xs:List t.T}(hm:m=s.r.length)(hidr:id<s.r.length)(Z:∀A,pre (Q.map (·.2)) A=false->(r1.at' A).len=((s.r.getD id .dead).at' A).len)(Y:(Ae s.r id Q).len=xs.length):
  ∀y:Cl,As (rrV id Q m (y.v s.r)) ((y.rr id Q m).v (s.r.set id r1++[Ac.arr false t d xs])):=by
 have key:∀(id':Nat) (A:AW) (keep new:Cl) (v v':V),(id'=id/\A1 Q A=true->rrV id Q m v=v')->(¬ (id'=id/\A1 Q A=true)->rrV id Q m v=v)->
   (id'≠m->¬ (id'=id/\A1 Q A=true)->¬ (id'=id/\pre (Q.map (·.2)) A=true)->keep.v (s.r.set id r1++[Ac.arr false t d xs])=v)->(id'=id->A=Q->new.v (s.r.set id r1++[Ac.arr false t d xs])=v')->
   As (rrV id Q m v) ((rrk id Q m id' A keep new).v (s.r.set id r1++[Ac.arr false t d xs])):=by
  intro id' A keep new v v' h1 h2 h3 h4;unfold rrk;cases hb:Nat.beq id' m with
  |true=>exact As.dead _
  |false=>
   have E:id'≠m:=λe=>by rw[e,Nat.beq_refl]at hb;cases hb
   cases L:Nat.beq id' id with
   |false=>
    have J:id'≠id:=λe=>by rw[e,Nat.beq_refl]at L;cases L
    show As _ (keep.v _);rw[h2 (λh=>J h.1),h3 E (λh=>J h.1) (λh=>J h.1)]
    exact As.refl _
   |true=>
    have e:=bqE L;cases U:peq Q A with
    |true=>
     have eq:=(WV U).symm;show As _ (new.v _);rw[h1 ⟨e,by rw[eq];exact MQ Q⟩,h4 e eq]
     exact As.refl _
    |false=>
     cases B:pre (Q.map (·.2)) A with
     |true=>exact As.dead _
     |false=>
      have n1:¬ (id'=id/\A1 Q A=true):=λh=>by rw[Oi h.2]at B;cases B
      show As _ (keep.v _);rw[h2 n1,h3 E n1 (λh=>by rw[h.2]at B;cases B)]
      exact As.refl _
 intro y;cases y with
 |rf id' A=>
  refine key id' A _ _ (.rs id' A 0 (Ae s.r id' A).len) (.rs m (A.drop Q.length) 0 (Ae s.r id' A).len) (λh=>by simp only[rrV,if_pos h]) (λh=>by simp only[rrV,if_neg h]) (λE _ W=>?_) (λe M=>?_)
  .show V.rs id' A 0 (Ae (s.r.set id r1++[Ac.arr false t d xs]) id' A).len=_
   congr 1
   by_cases O:id'<s.r.length
   .have e1:Ae (s.r.set id r1++[Ac.arr false t d xs]) id' A=Ae (s.r.set id r1) id' A:=by
     unfold Ae;rw[gDE,gAL (by simpa using O),<-gDE]
    rw[e1];by_cases he:id'=id
    .subst he
     rw[BR O]
     exact Z A (by cases U:pre (Q.map (·.2)) A with
      |false=>rfl
      |true=>exact absurd ⟨rfl,U⟩ W)
    .rw[Bk he]
   .unfold Ae
    rw[gDE,List.getElem?_eq_none (by simp;omega),gDE,List.getElem?_eq_none (by omega)]
  .subst e;subst M
   show V.rs m [] 0 (Ae (s.r.set id' r1++[Ac.arr false t d xs]) m []).len=_
   have e1:Ae (s.r.set id' r1++[Ac.arr false t d xs]) m []=Ac.arr false t d xs:=by
    unfold Ae;rw[hm,gDE,gAR (by simp)]
    simp[Ac.at']
   rw[e1,Y];simp[Ac.len]
 |rs id' A off len=>
  exact key id' A _ _ (.rs id' A off len) (.rs m (A.drop Q.length) off len) (λh=>by simp only[rrV,if_pos h]) (λh=>by simp only[rrV,if_neg h]) (λ_ _ _=>rfl) (λe M=>by subst M;simp[Cl.v])
 |rp id' A i k=>
  exact key id' A _ _ (.rp id' A i k) (.rp m (A.drop Q.length) i k) (λh=>by simp only[rrV,if_pos h]) (λh=>by simp only[rrV,if_neg h]) (λ_ _ _=>rfl) (λe M=>by subst M;simp[Cl.v])
 |rm id' A=>
  exact key id' A _ _ (.rm id' A) (.rm m (A.drop Q.length)) (λh=>by simp only[rrV,if_pos h]) (λh=>by simp only[rrV,if_neg h]) (λ_ _ _=>rfl) (λe M=>by subst M;simp[Cl.v])
 |dead=>exact As.dead _
 |nil=>exact As.refl (.c _)
 |nilp=>exact As.refl (.c _)
 |nilf=>exact As.refl (.c _)
 |nilm=>exact As.refl (.c _)
 |c t d x=>
  show As (rrV id Q m (cV t d x)) (cV t d x);have:rrV id Q m (cV t d x)=cV t d x:=by cases t<;>first|rfl|exact(Dw _ _ _).osl|exact(Dw _ _ _).clo
  rw[this];exact As.refl _
def rkk(id:Nat)(q:AW)(m:Nat)(id':Nat)(e:AW)(keep:Cl):Cl:=bif Nat.beq id' m then .dead else bif Nat.beq id' id then(bif pre (q.map (·.2)) e then .dead else keep)else keep
def Cl.rk(id:Nat)(q:AW)(m:Nat):Cl->Cl
 |.rf id' e=>rkk id q m id' e (.rf id' e)
 |.rs id' e off len=>rkk id q m id' e (.rs id' e off len)
 |.rp id' e i k=>rkk id q m id' e (.rp id' e i k)
 |.rm id' e=>rkk id q m id' e (.rm id' e)
 |y=>y
theorem Qr{id':Nat}{e:AW}{keep new:Cl}:rkk id q m id' e keep=.dead\/rkk id q m id' e keep=rrk id q m id' e keep new:=by
 unfold rkk rrk;cases Nat.beq id' m with
 |true=>simp
 |false=>
  cases Nat.beq id' id with
  |false=>simp
  |true=>
   cases A:pre (q.map (·.2)) e with
   |true=>simp
   |false=>
    cases B:peq q e with
    |true=>
     have:=WV B;subst this;rw[Oi (MQ q)]at A;grind
    |false=>simp
def rk_or(y:Cl):y.rk id q m=.dead\/y.rk id q m=y.rr id q m:=by
 cases y with
 |rf=>exact Qr
 |rs=>exact Qr
 |rp=>exact Qr
 |rm=>exact Qr
 |_=>exact .inr rfl
theorem rk_sub{d:Nat}{xs:List t.T}(J:m=s.r.length)(e:id<s.r.length)(E:∀A,pre (Q.map (·.2)) A=false->(r1.at' A).len=((s.r.getD id .dead).at' A).len)(B:(Ae s.r id Q).len=xs.length)
  (y:Cl):As (rrV id Q m (y.v s.r)) ((y.rk id Q m).v (s.r.set id r1++[Ac.arr false t d xs])):=by
 rcases rk_or y with h|h
 .rw[h];exact As.dead _
 .rw[h];exact Wt J e E B y
theorem As.of_dead{v:V}(h:As .dead v):v=.dead:=by
 rcases h with h|h
 .grind
 trivial
theorem Uc{C:Ctx}{N:Nat}{a:Act}{w:World}{d:Nat}{xs:List t.T}(hx:s.ev x=some (.one (.rf id Q)))(Y:M4 (s.r.getD id .dead) Q=some r1)(hne:Ae s.r id Q≠.dead)
  (hnv:(Ae s.r id Q).v=arr true t.w (tyV t d) t.dflt xs) (hnl:(Ae s.r id Q).len=xs.length) (hs:AU C N s.den a w) {f:Nat->Sl} (hf:∀i,As (rrV id Q s.r.length ((s.t i).v s.r)) ((f i).v (s.r.set id r1++[Ac.arr false t d xs]))):AU C N (⟨f,s.r.set id r1++[Ac.arr false t d xs]⟩:St).den a w:=by
 obtain⟨hdf,U,D,ρ,F,Z⟩:=hs;have hr:=Bu Z U x;rw[Bh hx]at hr;have hr:Rel D w (Am s.den.σ ρ w) (.rs id Q 0 (Ae s.r id Q).len) (a.eval x) noF:=hr;obtain⟨⟨M,sz,n,f,cn,hat,hle,hcv⟩,_⟩:=hr;obtain⟨ρ',F',E,_⟩:=CR.reroot Z M hat;have hidr:id<s.r.length:=by simpa [St.den]using M
 obtain⟨W,hcl⟩:=Kr Y;have e:sub Q (s.den.σ.getD id .dead)=arr true t.w (tyV t d) t.dflt xs:=(A5 hne).trans hnv;have L:s.den.σ.length=s.r.length:=by simp[St.den]
 obtain⟨m,hm⟩:∃m,m=s.r.length:=⟨_,rfl⟩;rw[<-hm]at hf;rw[L,<-hm]at E;refine⟨hdf,λx hx=>?_,D,ρ',F',?_⟩
 .have h0:(s.t x).v s.r=.dead:=U x hx
  have h1:=hf x;rw[h0]at h1;exact As.of_dead h1
 .have J:s.den.σ=s.r.map Ac.v:=rfl
  have hm':(s.r.map Ac.v).length=m:=by simp[hm]
  refine E.sub (by simp[St.den]) (λi _=>?_) (by simp) λi B=>?_
  .show Sub _ (((s.r.set id r1++[Ac.arr false t d xs]).map Ac.v).getD i .dead)
   rw[List.map_append,List.map_set,J];by_cases B:i<s.r.length
   .rw[AE (by simpa using B),AE (by simpa using B)]
    by_cases O:id=i
    .subst O
     rw[Ag (by simpa using B),Ag (by simpa using B),Aq]
     exact W
    .rw[Af O,Af O];exact Sub.refl _
   .by_cases O:i=s.r.length
    .subst O
     have e1:∀(A:List V) (v:V),A.length=s.r.length->(A++[v]).getD s.r.length .dead=v:=by
      intro A v hA;rw[<-hA,gDE,gAR (by simp)];simp
     rw[e1 _ _ (by simp),show([Ac.arr false t d xs].map Ac.v)=[arr true t.w (tyV t d) t.dflt xs]from rfl,e1 _ _ (by simp)]
     rw[J]at e;rw[e];exact Sub.refl _
    .have e1:∀(A:List V) (v:V),A.length=s.r.length->(A++[v]).getD i .dead=.dead:=by
      intro A v hA;rw[gDE,List.getElem?_eq_none (by simp;omega)];rfl
     rw[e1 _ _ (by simp),show([Ac.arr false t d xs].map Ac.v)=[arr true t.w (tyV t d) t.dflt xs]from rfl,e1 _ _ (by simp)]
     exact Sub.refl _
  .have B:i<N:=by simpa using B
   have hk:=hf i;simpa [B,St.den]using hk
theorem M1(h:Aan s (s.ev x)=some s')(J:AU C N s.den a w):AU C N s'.den a w:=by
 unfold Aan at h;split at h
 case h_2=>grind
 rename_i id b B E;split at h
 case h_2=>grind
 rename_i r1 t d xs e hn;cases h;have A:id<s.r.length:=by
  rcases Nat.lt_or_ge id s.r.length with h|h
  .omega
  .unfold Ae at hn
   rw[gDE,List.getElem?_eq_none h]at hn;rw[show(none:Option Ac).getD .dead=.dead from rfl,C1]at hn;grind
 exact Uc E e (by grind) (by rw[hn];rfl) (by rw[hn];rfl) J λi=>Sl.mapC_v (Dw id (b::B) s.r.length) rfl (Wt rfl A (Kr e).2 (by rw[hn];rfl)) (s.t i)
def cutO(s:St)(x:Operand):Option St:=match x with
 |.tmp y=>match s.t y with
  |.one (.rf id (a::q))=>match M4 (s.r.getD id .dead) (a::q),Ae s.r id (a::q)with
   |some r1,.opt false t d v=>some ⟨λi=>bif Nat.beq i y then .one (.rf s.r.length [])else(s.t i).mapC (Cl.rk id (a::q) s.r.length),s.r.set id r1++[Ac.arr false t d (getO v)]⟩
   |_,_=>Aan s (s.ev x)
  |_=>Aan s (s.ev x)
 |_=>Aan s (s.ev x)
theorem Acg(h:cutO s x=some s')(M:AU C N s.den a w):AU C N s'.den a w:=by
 unfold cutO at h;split at h
 case h_2=>exact M1 h M
 rename_i y;split at h
 case h_2=>exact M1 h M
 rename_i id b B Y;split at h
 case h_2=>exact M1 h M
 rename_i r1 t d v A hn;cases h;have Z:s.ev (.tmp y)=some (.one (.rf id (b::B))):=by show some (s.t y)=_;rw[Y]
 have L:Ae s.r id (b::B)≠.dead:=by rw[hn];simp
 have E:id<s.r.length:=by
  rcases Nat.lt_or_ge id s.r.length with h|h
  .exact h
  .exfalso
   apply L;unfold Ae;rw[gDE,List.getElem?_eq_none h];exact C1 _
 obtain⟨ys,rfl⟩:∃ys,v=some ys:=by
  obtain⟨hdf,O,D,ρ,F,U⟩:=M;have hr:=Bu U O (.tmp y);rw[Bh Z]at hr;obtain⟨⟨hid,sz,n,f,cn,W,hle,hcv⟩,_⟩:=hr;have e:=At.sub W;have e2:sub (b::B) (s.den.σ.getD id .dead)=Abz true t.w (tyV t d) t.dflt v:=(A5 L).trans (by rw[hn];rfl)
  rw[e2]at e;cases v with
  |none=>cases e
  |some ys=>exact⟨ys,rfl⟩
 have J:(Ae s.r id (b::B)).len=ys.length:=by rw[hn];rfl
 refine Uc (xs:=ys) Z A L (by rw[hn];rfl) J M λi=>?_
 cases hi:Nat.beq i y with
 |false=>exact Sl.mapC_v (Dw id (b::B) s.r.length) rfl (rk_sub rfl E (Kr A).2 J) (s.t i)
 |true=>
  have e:=bqE hi;subst e;rw[Y];have:=Wt (xs:=ys) (d:=d) (t:=t) (m:=s.r.length) rfl E (Kr A).2 J (.rf id (b::B))
  have e1:(Cl.rf id (b::B)).rr id (b::B) s.r.length=.rf s.r.length []:=by
   have p:∀q:AW,peq q q=true:=by
    intro q
    induction q with
    |nil=>rfl
    |cons a q ih=>obtain⟨i,k⟩:=a;simp[peq,Nat.beq_refl,ih]
   show rrk id (b::B) s.r.length id (b::B) _ _=_;unfold rrk;have h0:Nat.beq id s.r.length=false:=by
    cases hb:Nat.beq id s.r.length with
    |false=>rfl
    |true=>have:=bqE hb;omega
   rw[h0,Nat.beq_refl,p];rfl
  rw[e1]at this;exact this
end sound
end Go.Ve

