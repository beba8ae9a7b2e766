/- The typed machine: append. -/
import Derived.Test.YteakdlfnmhlifaaTj
import Derived.Test.YteakdlfnmhlifaaTg
import Derived.Test.YteakdlfnmhlifaaVy
open Nat(beq beq_refl lt_or_ge blt)
open List(range map_set getElem?_eq_none)
set_option linter.all false
namespace Go.Ve
variable{Q q:AG}{r1:Ab}{a:Act}{cts:Array Value}{h:Cd}{z:Cl}{C:Ctx}{r r':List Ab}{ts ts' σ:List V}{N d id j m:Nat}{F:Nat->Nat->Prop}{D:Nat->Prop}{ρ:Nat->Value}{x:Operand}{s s':St}{t:Ty}{w:World}
def Cl.kH(r:List Ab)(j:Nat):Cl->Cl
 |.rf id q=>bif beq id j then .c (.sl .unit) 0 (Abm (Ac r id q).len ())else .rf id q
 |.rs id q off len=>bif beq id j then .c (.sl .unit) 0 (Abm len ())else .rs id q off len
 |y=>y.kill j [] []
def Sl.kH(r:List Ab)(j:Nat):Sl->Sl
 |.one y=>.one (y.kH r j)
 |y=>y.kill j [] []
def Ab2(n:Nat):V.nd true false 0 n (λ_ _=>.dead)=cV (.sl .unit) 0 (Abm n ()):=by
 show V.nd true false 0 n (λ_ _=>.dead)=V.nd true false 0 (List.replicate n ()).length λi k=>([].getD k .dead)
 simp
theorem Sl.kH_v(y:Sl):An (hdK j (y.v r)) ((y.kH r j).v (r.set j .dead)):=by
 have g:=GOK.kill (id:=j) (P:=[])
 have H:=Sl.kill_v (r:=r) (r':=r.set j .dead) g (λid' q E=>by
  have A:id'≠j:=by
   rintro rfl
   simp[hit,pre]at E
  rw[A9 A]) y
 have u:∀(id off len:Nat) (q:AG) (z:Cl),(id≠j->z.v (r.set j .dead)=.rs id q off len)->An (if id=j then V.nd true false 0 len (λ_ _=>.dead)else .rs id q off len) ((bif beq id j then Cl.c (.sl .unit) 0 (Abm len ())else z).v (r.set j .dead)):=by
  intro id off len q z B;by_cases h:id=j
  .subst h
   rw[if_pos rfl,beq_refl];show An _ (cV (.sl .unit) 0 (Abm len ()));rw[<-Ab2];exact An.refl _
  .rw[if_neg h,BK h]
   show An _ (z.v _);rw[B h];exact An.refl _
 cases y with
 |one c=>
  cases c with
  |rf id q=>
   refine u id 0 (Ac r id q).len q (.rf id q) λh=>?_
   show V.rs id q 0 (Ac (r.set j .dead) id q).len=_;rw[A9 h]
  |rs id q off len=>exact u id off len q (.rs id q off len) λh=>rfl
  |c t d x=>
   have e:hdK j (cV t d x)=AI j [] (cV t d x):=by cases t<;>first|rfl|(cases x<;>rfl)
   show An (hdK j (cV t d x)) _;rw[e];trivial
  |_=>trivial
 |_=>trivial
def Jo(j:Nat)(s:St):St:=⟨λi=>(s.t i).kH s.r j,s.r.set j .dead⟩
def Am:List Nat->St->St
 |[],s=>s
 |j::js,s=>Am js (Jo j s)
theorem AaQ(h:CR C s.den.σ ((range N).map s.den.t) cts w D ρ F)(hj:j<s.r.length):
  CR C (Jo j s).den.σ ((range N).map (Jo j s).den.t) cts w D ρ (λi=>if i=j then noF else F i):=by
 have u:=h.dropH (by simpa [St.den]using hj)
 have A:(Jo j s).den.σ=s.den.σ.set j .dead:=by
  show(s.r.set j .dead).map Ab.v=(s.r.map Ab.v).set j .dead;rw[map_set];rfl
 refine u.sub (by grind) (λi _=>by rw[A];exact Sub.refl _) (by simp) λi hi=>?_
 have hi:i<N:=by grind
 have e:=Sl.kH_v (r:=s.r) (j:=j) (s.t i);simpa [hi,St.den,Jo]using e
def KE:(Jo j s).r.length=s.r.length:=by simp[Jo]
def IR:∀(js:List Nat) (s:St),(Am js s).r.length=s.r.length
 |[],_=>rfl
 |j::js,s=>by show(Am js (Jo j s)).r.length=_;rw[IR js,KE]
theorem Cr{C:Ctx}{N:Nat}{cts:Array Value}{w:World}{D:Nat->Prop}{ρ:Nat->Value}:∀(js:List Nat) {s:St}{F:Nat->Nat->Prop},CR C s.den.σ ((range N).map s.den.t) cts w D ρ F->(∀j∈js,j<s.r.length)->
  ∃F',CR C (Am js s).den.σ ((range N).map (Am js s).den.t) cts w D ρ F'/\∀i b,F' i b->F i b/\i∉js
 |[],s,F,h,_=>⟨F,h,λi b e=>⟨e,by simp⟩⟩
 |j::js,s,F,h,hj=>by
  obtain⟨F',B,A⟩:=Cr js (AaQ h (hj j (List.mem_cons_self ..))) (λi hi=>by rw[KE];grind)
  refine⟨F',B,λi b e=>?_⟩
  obtain⟨u,E⟩:=A i b e;split at u
  .trivial
  grind
theorem BY{N:Nat}:∀(js:List Nat) {s:St},(∀x,N<=x->s.den.t x=.dead)->∀x,N<=x->(Am js s).den.t x=.dead
 |[],s,h=>h
 |j::js,s,h=>by
  refine BY js λx A=>?_
  have u:(s.t x).v s.r=.dead:=h x A;show((s.t x).kH s.r j).v (s.r.set j .dead)=.dead;cases e:s.t x with
  |one y=>
   rw[e]at u;cases y with
   |dead=>rfl
   |c t d z=>trivial
   |nil=>trivial
   |nilp=>trivial
   |nilf=>trivial
   |nilm=>trivial
   |rf=>trivial
   |rs=>trivial
   |rp=>trivial
   |rm=>trivial
  |new l=>rw[e]at u;trivial
  |agg l=>rw[e]at u;trivial
  |tup l=>rw[e]at u;trivial
  |pk t l=>rw[e]at u;trivial
theorem CR.giveG(h:CR C σ ts cts w D ρ F)(hj:j<σ.length)(U:ts'.length=ts.length)
  (H:∀i,i<ts.length->An (hdK j (ts.getD i .dead)) (ts'.getD i .dead)\/Rel (λb=>D b\/F j b) w noR (ts'.getD i .dead) (cts.getD i undef) noF):
  CR C (σ.set j .dead) ts' cts w (λb=>D b\/F j b) ρ (λi=>if i=j then noF else F i):=by
 have B:=h.dropH hj
 have W:∀i b,(if i=j then noF else F i) b->F i b/\i≠j:=by
  intro i b e;split at e
  .exact e.elim
  .exact⟨e,by assumption⟩
 refine⟨⟨λi hi=>?_,B.wr.disj,λi b e=>?_,λb e=>?_,B.wr.out⟩,by rw[U];exact h.sz,λt E=>?_,h.fr,B.Fn,λb e=>.inl (h.D1 b e),λb e A=>?_,h.rt,by simpa using h.ml⟩
 .exact Rel.mono (λ_ h=>.inl h) (λ_ _ h=>h) _ _ _ (λ_ _=>rfl) (B.wr.rel i hi)
 .obtain⟨u,Y⟩:=W i b e
  exact λhd=>hd.elim (h.wr.dD i b u) (h.wr.disj i j b Y u)
 .exact e.elim (h.wr.Dlt b) (h.wr.lt j b)
 .have E:t<ts.length:=by omega
  rcases H t E with u|u
  .have O:=B.tm t (by simpa using E)
   have Z:(ts.map (hdK j)).getD t .dead=hdK j (ts.getD t .dead):=by simp[E]
   rw[Z]at O;exact Rel.mono (λ_ h=>.inl h) (λ_ _ h=>h) _ _ _ (λ_ _=>rfl) (Rel.subS u O)
  .exact Rel.noR_mono u
 .rcases e with e|e
  .exact h.D2 b e A
  .exact(h.Fn j b e).elim .inr λJ=>absurd A (Nat.not_lt.2 J)
theorem CR.give(h:CR C σ ts cts w D ρ F)(hj:j<σ.length){l:List V}(H:σ.getD j .dead=A8 true l)(W:ts'.length=ts.length)
  (e:∀i,i<ts.length->An (hdK j (ts.getD i .dead)) (ts'.getD i .dead)\/(ts.getD i .dead=.rp j [] 0 0/\ts'.getD i .dead=Go.Ve.frz (A8 true l))):
  CR C (σ.set j .dead) ts' cts w (λb=>D b\/F j b) ρ (λi=>if i=j then noF else F i):=by
 refine h.giveG hj W λt B=>?_
 rcases e t B with A|⟨A,h2⟩
 .exact .inl A
 right;have J:=h.tm t B;rw[A]at J;obtain⟨⟨Y,s,sz,n,f,b,o,cap,Z,hi,hk,u⟩,_⟩:=J;obtain⟨O,e2⟩:=Z;rw[H]at O;have U:s=false:=by injection O
 subst U;have E:=Rel.frz' _ _ _ _ (h.wr.rel j hj);rw[H,<-e2]at E;rw[h2,u];have e3:Ay false b o n cap=.pointer (some ⟨b,o+0*sz+0,none⟩):=by simp[Ay]
 rw[<-e3];exact E
theorem CR.giveS(h:CR C σ ts cts w D ρ F)(hj:j<σ.length){sz n:Nat}{f:Nat->Nat->V}(E:σ.getD j .dead=.nd true true sz n f)(J:ts'.length=ts.length)
  (e:∀i,i<ts.length->An (hdK j (ts.getD i .dead)) (ts'.getD i .dead)\/(ts.getD i .dead=.rs j [] 0 n/\ts'.getD i .dead=Go.Ve.frz (.nd true true sz n f))):
  CR C (σ.set j .dead) ts' cts w (λb=>D b\/F j b) ρ (λi=>if i=j then noF else F i):=by
 refine h.giveG hj J λt A=>?_
 rcases e t A with u|⟨u,O⟩
 .exact .inl u
 right;have H:=h.tm t A;rw[u]at H;obtain⟨U,W⟩:=MO h.wr E H.1;rw[O,U];have B:=Rel.frz' _ _ _ _ (h.wr.rel j hj);rw[E]at B;exact B
def Sl.gv(r:List Ab)(j:Nat)(z:Cl):Sl->Sl
 |.one (.rp id [] 0 0)=>bif beq id j then .one z else .one (.rp id [] 0 0)
 |y=>y.kH r j
theorem Sl.gv_v(y:Sl):An (hdK j (y.v r)) ((y.gv r j z).v (r.set j .dead))\/(y.v r=.rp j [] 0 0/\y.gv r j z=.one z):=by
 unfold Sl.gv;split
 .rename_i id
  by_cases h:id=j
  .subst h
   rw[beq_refl];exact .inr ⟨rfl,rfl⟩
  .rw[BK h]
   refine .inl ?_;have e:hdK j (V.rp id [] 0 0)=.rp id [] 0 0:=if_neg λu=>h u.1
   show An (hdK j (V.rp id [] 0 0)) (.rp id [] 0 0);rw[e];exact An.refl _
 .exact .inl (Sl.kH_v y)
def YM(j:Nat)(s:St):Option St:=match s.r.getD j .dead with
 |.obj false l=>match DH l with
  |some ⟨t,x⟩=>some ⟨λi=>(s.t i).gv s.r j (.c (.ptr t) 0 x),s.r.set j .dead⟩
  |none=>none
 |_=>none
theorem LY(h:YM j s=some s'):∃(l:List Cl) (t:Ty) (x:t.T),j<s.r.length/\s.r.getD j .dead=.obj false l/\(l.map Cl.v0).map Go.Ve.frz=tyV t 0 x/\s'=⟨λi=>(s.t i).gv s.r j (.c (.ptr t) 0 x),s.r.set j .dead⟩:=by
 unfold YM at h;split at h
 case h_2=>grind
 rename_i l e;split at h
 case h_2=>grind
 rename_i t x u;cases h;refine⟨l,t,x,?_,e,(Hc _ _ u).symm,rfl⟩
 grind
theorem Sl.gv_dead{y:Sl}(e:y.v r=.dead):(y.gv r j z).v r'=.dead:=by
 cases y with
 |one y=>
  cases y with
  |dead=>rfl
  |c t d z=>trivial
  |nil=>trivial
  |nilp=>trivial
  |nilf=>trivial
  |nilm=>trivial
  |rf=>trivial
  |rs=>trivial
  |rp=>trivial
  |rm=>trivial
 |new l=>trivial
 |agg l=>trivial
 |tup l=>trivial
 |pk t l=>trivial
theorem AaE(h:YM j s=some s')(H:AN C N s.den a w):AN C N s'.den a w:=by
 obtain⟨l,t,x,hj,e,O,rfl⟩:=LY h;obtain⟨hd,A,D,ρ,F,B⟩:=H;refine⟨hd,λi hi=>Sl.gv_dead (A i hi),λb=>D b\/F j b,ρ,λi=>if i=j then noF else F i,?_⟩
 have J:s.den.σ.getD j .dead=A8 true (l.map Cl.v0):=by
  show(s.r.map Ab.v).getD j .dead=_;simp only[gDE]at e;rw[gDE,List.getElem?_map];rw[gEE hj]at e⊢;have e:s.r[j]=.obj false l:=e;rw[e];rfl
 have U:=B.give (by simpa [St.den]using hj) J (ts':=(range N).map λi=>((s.t i).gv s.r j (.c (.ptr t) 0 x)).v (s.r.set j .dead)) (by simp) λi hi=>by
  have hi:i<N:=by grind
  rw[AP hi,AP hi];rcases Sl.gv_v (s.t i)with u|⟨u,E⟩
  .exact .inl u
  .refine .inr ⟨u,?_⟩
   rw[E,Nr,O];rfl
 have W:(s.r.set j .dead).map Ab.v=s.den.σ.set j .dead:=by
  rw[map_set];rfl
 show CR C ((s.r.set j .dead).map Ab.v) _ a.tmps w _ ρ _;rw[W];exact U
def Sl.gvS(r:List Ab)(j:Nat)(z:Cl):Sl->Sl
 |.one (.rf id [])=>bif beq id j then .one z else .one (.rf id [])
 |y=>y.kH r j
theorem Sl.gvS_v(y:Sl):An (hdK j (y.v r)) ((y.gvS r j z).v (r.set j .dead))\/(y.v r=.rs j [] 0 (r.getD j .dead).len/\y.gvS r j z=.one z):=by
 unfold Sl.gvS;split
 .rename_i id
  by_cases h:id=j
  .subst h
   rw[beq_refl];exact .inr ⟨rfl,rfl⟩
  .rw[BK h]
   refine .inl ?_;show An (if id=j then _ else V.rs id [] 0 (Ac r id []).len) (.rs id [] 0 (Ac (r.set j .dead) id []).len)
   rw[if_neg h,A9 h];exact An.refl _
 .exact .inl (Sl.kH_v y)
def Pb(j:Nat)(s:St):Option St:=match s.r.getD j .dead with
 |.arr false t _ xs=>some ⟨λi=>(s.t i).gvS s.r j (.c (.sl t) 0 xs),s.r.set j .dead⟩
 |_=>none
theorem YK(h:Pb j s=some s')(U:AN C N s.den a w):AN C N s'.den a w:=by
 unfold Pb at h;split at h
 case h_2=>cases h
 rename_i t d0 xs B;cases h;have hj:j<s.r.length:=by
  rcases lt_or_ge j s.r.length with h|h
  .exact h
  .rw[gDE,getElem?_eq_none h]at B;cases B
 obtain⟨hd,H,D,ρ,F,J⟩:=U;refine⟨hd,λi hi=>?_,λb=>D b\/F j b,ρ,λi=>if i=j then noF else F i,?_⟩
 .have u:(s.t i).v s.r=.dead:=H i hi
  show((s.t i).gvS s.r j _).v _=.dead;cases A:s.t i with
  |one y=>
   rw[A]at u;cases y with
   |dead=>rfl
   |c t d z=>exact u
   |nil=>cases u
   |nilp=>cases u
   |nilf=>cases u
   |nilm=>cases u
   |rf=>cases u
   |rs=>cases u
   |rp=>cases u
   |rm=>cases u
  |new l=>rw[A]at u;cases u
  |agg l=>rw[A]at u;cases u
  |tup l=>rw[A]at u;cases u
  |pk t l=>rw[A]at u;cases u
 have W:s.den.σ.getD j .dead=arr true t.w (tyV t d0) t.dflt xs:=by
  show(s.r.map Ab.v).getD j .dead=_;rw[Ak,B];rfl
 have Y:=J.giveS (by simpa [St.den]using hj) W (ts':=(range N).map λi=>((s.t i).gvS s.r j (.c (.sl t) 0 xs)).v (s.r.set j .dead)) (by simp) λi hi=>by
  have hi:i<N:=by grind
  rw[AP hi,AP hi];rcases Sl.gvS_v (z:=.c (.sl t) 0 xs) (s.t i)with E|⟨E,O⟩
  .exact .inl E
  .refine .inr ⟨?_,?_⟩
   .show(s.t i).v s.r=_
    rw[E,B];rfl
   .rw[O]
    show cV (.sl t) 0 xs=frz (arr true t.w (tyV t d0) t.dflt xs);rw[Ns];have e:(λa=>(tyV t d0 a).map frz)=tyV t 0:=funext λx=>Be t d0 x
    rw[e];rfl
 have Z:(s.r.set j .dead).map Ab.v=s.den.σ.set j .dead:=by
  rw[map_set];rfl
 show CR C ((s.r.set j .dead).map Ab.v) _ a.tmps w _ ρ _;rw[Z];exact Y
def Pa:List Operand->St->Option St
 |[],s=>some s
 |x::xs,s=>match s.ev x with
  |some (.one (.rp j [] 0 0))=>match YM j s with
   |some s'=>Pa xs s'
   |none=>none
  |_=>Pa xs s
def JB{C:Ctx}{N:Nat}{a:Act}{w:World}:∀(xs:List Operand) {s s':St},Pa xs s=some s'->AN C N s.den a w->AN C N s'.den a w
 |[],s,s',h,hs=>by cases h;grind
 |x::xs,s,s',h,hs=>by
  unfold Pa at h;split at h
  .split at h
   case h_2=>grind
   rename_i e;exact JB xs h (AaE e hs)
  .exact JB xs h hs
structure LR where
 p:Prop
 dec:Decidable p
 js:List Nat
 y:Cl
def JR(s:St)(i:Option TI)(x y:Option Sl):Option LR:=match i with
 |none=>none
 |some i=>bif blt 0 i.bytes&&blt 0 i.ty.w then(match x with
  |some (.one .nil)=>(match Wz s i.ty s.r.length y with
   |some (d,ys,js)=>some ⟨H7 ys<=O0 i.bytes,inferInstance,js,.c (.sl i.ty) (d+1) ys⟩
   |none=>none)
  |some (.one (.rf id []))=>(match s.r.getD id .dead with
   |.arr false t d xs=>if h:t=i.ty then(match Wz s i.ty id y with
     |some (d',ys,js)=>bif dOK i.ty d' d then some ⟨H7 xs+H7 ys<=O0 i.bytes,inferInstance,id::js,.c (.sl i.ty) (d+1) (Adz (h▸xs) ys)⟩else none
     |none=>none)else none
   |_=>none)
  |_=>none)else none
section sound
variable {P:Program}{Θ:Tab}
theorem Yb{C:Ctx}{y:Cl}{w':World}{v':Value}(hd:a.defers=[])(E:∀x,h.n<=x->s.den.t x=.dead)(A:h.fz.contains d=false)(B:s.put h (some d) (.one y)=some s')
  (H:WK C (s.den.σ++(prom (y.v s.r) s.den.σ.length).2) (((range h.n).map s.den.t).set d (prom (y.v s.r) s.den.σ.length).1) (a.tmps.setIfInBounds d v') w'):AN C h.n s'.den (a.put (some d) v') w':=by
 have u:d<h.n:=by
  unfold St.put at B;cases O:blt d h.n with
  |false=>grind
  |true=>simp_all
 refine AN.put B ?_
 have e:s.den.res h (some d) ((Sl.one y).v s.r)=⟨AD s.den.t d (prom (y.v s.r) s.den.σ.length).1,s.den.σ++(prom (y.v s.r) s.den.σ.length).2⟩:=by
  unfold Ms.res;simp only[u,if_true,A];rfl
 rw[e];refine⟨hd,λx J=>?_,?_⟩
 .unfold AD
  grind
 .rw[Co u]at H
  trivial
theorem VE(hΘ:Θ.OK P){C:Ctx}{h:Cd}{s s':St}{o:Oper}{t:TypeId}{x y:Operand}{a:Act}{w:World}{A:LR}{d:Nat}{next:Act->World->Prop}{Q:Exit->Act->World->Prop}
  (ho:o.op=.call ⟨.builtin .append,#[x,y],#[t,t]⟩) (hdst:o.dst=some d) (hfz:h.fz.contains d=false) (J:JR s (((Θ.look t).bind (·.elem)).bind Θ.look) (s.ev x) (s.ev y)=some A) (hA:A.p) (hp:(Am A.js s).put h (some d) (.one A.y)=some s')
  (hs:AN C h.n s.den a w) (hn:∀a' w',AN C h.n s'.den a' w'->next a' w'):o.wp P a w next Q:=by
 obtain⟨hdf,Z,D,ρ,F,u⟩:=hs
 -- the run, and what follows
 have key:∀(E:TI) (e:TypeId),slI P t=some ⟨e,E.ty.w,E.bytes,B2 E.ty⟩->0<E.bytes->0<E.ty.w->∀(xs:List E.ty.T) (dx:Nat) (ys:List E.ty.T) (js:List Nat) (fpx:Nat->Prop) (id:Nat),
   Rel D w noR (cV (.sl E.ty) (dx+1) xs) (a.eval x) fpx->(∀c,fpx c->∃j∈A.js,F j c)->(∀c,fpx c->F id c)->YOK s E.ty id y a w D F dx ys js->(∀j∈js,j∈A.js)->(∀j∈A.js,j<s.r.length)->
   xs.length+ys.length<=O0 E.bytes->A.y=.c (.sl E.ty) (dx+1) (xs++ys)->o.wp P a w next Q:=by
  intro E e Y U hw xs dx ys js fpx id H hfA hfid hY hjs hjl hlim hAy;obtain⟨⟨Fy,hrd,hFy,hFd⟩,hjs2⟩:=hY
  have O:(xs.length+ys.length)*E.bytes<=140737488355328:=by
   rw[Nat.mul_comm];exact(Nat.mul_comm _ _▸(Nat.le_div_iff_mul_le U).1 hlim)
  have h63:xs.length+ys.length<=maxLen:=by
   have:xs.length+ys.length<=(xs.length+ys.length)*E.bytes:=Nat.le_mul_of_pos_right _ U;simp only[maxLen];omega
  obtain⟨v',w',fp,hrun,hos,htp,hout,hdr,hsz,hbl,hr',hfp⟩:=Rel.append (P:=P) (ty:=o.type) (f:=λi k=>(tyV E.ty dx (xs.getD i E.ty.dflt)).getD k .dead) Y hw H (λb O h=>by obtain⟨j,_,hj⟩:=hfA b h;exact u.wr.dD j b hj O) u.wr.Dlt hrd
   (λi k c hi hk hF=>by
    obtain⟨j,hj,B⟩:=hFy i k c hi hk hF;refine⟨u.wr.dD j c B,λhx=>?_⟩
    exact u.wr.disj j id c (hjs2 j hj).2 B (hfid c hx)) hFd h63 O
  obtain⟨F',hcr',hF'⟩:=Cr A.js u hjl
  have hr2:Rel D w' noR (A.y.v (Am A.js s).r) v' fp:=by
   rw[hAy];exact Rel.sub (NC rfl rfl (λ_ _ _=>rfl) (λ_ _ _=>rfl)) hr'
  have hfpG:∀b,fp b->(∃j∈A.js,F j b)\/w.heap.size<=b:=by
   intro b O;rcases hfp b O with W|⟨i,k,hi,hk,W⟩|W
   .exact .inl (hfA b W)
   .obtain⟨j,hj,B⟩:=hFy i k b hi hk W
    exact .inl ⟨j,hjs j hj,B⟩
   .exact .inr W
  have hc:=CR.own hcr' (G:=λb=>∃j∈A.js,F j b) (D':=D) (λi b O ⟨j,hj,B⟩=>by
    obtain⟨W,h2⟩:=hF' i b O;exact u.wr.disj i j b (λe=>h2 (e▸hj)) W B) (λb O ⟨j,_,B⟩=>u.wr.dD j b B O) (λb ⟨j,_,B⟩=>u.Fn j b B) hos htp hout hdr hsz (λc hc hG=>hbl c hc λh=>hG (hfA c h)) hr2 hfpG
   (λ_ h=>h) (λ_ h=>.inl h) (λb O=>⟨Nat.lt_of_lt_of_le (u.wr.Dlt b O) hsz,λh=>by
    rcases hfpG b h with⟨j,_,B⟩|h2
    .exact u.wr.dD j b B O
    .have:=u.wr.Dlt b O;omega⟩) d
  have hs':=Yb (h:=h) hdf (BY A.js Z) hfz hp hc;unfold Oper.wp execOp;simp only[ho,resolve,invoke,builtin,Sem.run_bind,Sem.run_pure,Result.andThen_ok,List.map_toArray,List.map_cons,List.map_nil,hrun,hdst];show next (a.put o.dst v') w'
  rw[hdst];exact hn _ _ hs'
 unfold JR at J;split at J
 .cases J
 rename_i E hti;obtain⟨e,Y,_⟩:=Hd hΘ hti;obtain⟨O,J⟩:=A1 J;simp only[bAE]at O;have U:=Ml O.1;have hw:=Ml O.2;have H:=Bq u Z x;split at J
 case h_3=>cases J
 .rename_i hx
  rw[Bd hx]at H;split at J
  case h_2=>cases J
  rename_i d' ys js hy;cases J;have hY:=IX u Z hy;refine key E e Y U hw [] d' ys js noF s.r.length ?_ (λ_ h=>h.elim) (λ_ h=>h.elim) hY (λ_ h=>h) (λj hj=>(hY.js j hj).1) (by simpa [H7]using hA) (by simp)
  exact .inl ⟨rfl,rfl,.inl H.1,λ_ h=>h⟩
 .rename_i id hx
  rw[Bd hx]at H;split at J
  case h_2=>cases J
  rename_i t' dx xs hr;split at J
  case isFalse=>cases J
  rename_i ht;subst ht;split at J
  case h_2=>cases J
  rename_i d' ys js hy;obtain⟨hdk,J⟩:=A1 J;cases J;have hY:=IX u Z hy
  have hlen:(Ac s.r id []).len=xs.length:=by
   show(s.r.getD id .dead).len=_;rw[hr];rfl
  have H:Rel D w (Ai s.den.σ ρ w) (.rs id [] 0 (Ac s.r id []).len) (a.eval x) noF:=H;rw[hlen]at H
  have hσ:s.den.σ.getD id .dead=.nd true true E.ty.w xs.length (λi k=>(tyV E.ty dx (xs.getD i E.ty.dflt)).getD k .dead):=by
   show(s.r.map Ab.v).getD id .dead=_;rw[Ak,hr];rfl
  obtain⟨_,hrr⟩:=MO u.wr hσ H.1;have hid:id<s.r.length:=by simpa [St.den]using H.1.1
  refine key E e Y U hw xs dx ys js (F id) id hrr (λc hc=>⟨id,by simp,hc⟩) (λ_ h=>h) ?_ (λj hj=>mCM _ hj) (λj hj=>?_) hA rfl
  .have ee:tyV E.ty d'=tyV E.ty dx:=funext λz=>Da _ _ _ z (KH hdk)
   obtain⟨⟨Fy,W,h2⟩,h3⟩:=hY;rw[ee]at W;exact⟨⟨Fy,W,h2⟩,h3⟩
  .rcases List.mem_cons.1 hj with rfl|hj
   .exact hid
   .exact(hY.js j hj).1
def peq:AG->AG->Bool
 |[],[]=>true
 |(i,k)::p,(j,l)::q=>beq i j&&beq k l&&peq p q
 |_,_=>false
def X7:∀{p q:AG},peq p q=true->p=q
 |[],[],_=>rfl
 |(i,k)::p,(j,l)::q,h=>by
  simp only[peq,bAE]at h;rw[bqE h.1.1,bqE h.1.2,X7 h.2]
 |[],_::_,h=>by cases h
 |_::_,[],h=>by cases h
def Nl:∀q:AG,AR q q=true
 |[]=>rfl
 |(i,k)::q=>by simp[AR,Nl q]
def rrk(id:Nat)(q:AG)(m:Nat)(id':Nat)(e:AG)(keep new:Cl):Cl:=bif beq id' m then .dead else bif beq id' id then(bif peq q e then new else bif pre (q.map (·.2)) e then .dead else keep)else keep
def Cl.rr(id:Nat)(q:AG)(m:Nat):Cl->Cl
 |.rf id' e=>rrk id q m id' e (.rf id' e) (.rf m [])
 |.rs id' e off len=>rrk id q m id' e (.rs id' e off len) (.rs m [] off len)
 |.rp id' e i k=>rrk id q m id' e (.rp id' e i k) (.rp m [] i k)
 |.rm id' e=>rrk id q m id' e (.rm id' e) (.rm m [])
 |y=>y
def Sl.mapC(K:Cl->Cl):Sl->Sl
 |.one y=>.one (K y)
 |.new l=>.new l
 |.agg l=>.agg (l.map K)
 |.pk t l=>.pk t (l.map K)
 |.tup l=>.tup (l.map λp=>(p.1,p.2.map K))
theorem Sl.mapC_v{G:V->V}{K:Cl->Cl}(e:Bc G)(hd:K .dead=.dead)(A:∀y:Cl,An (G (y.v r)) ((K y).v r'))(y:Sl):An (G (y.v r)) ((y.mapC K).v r'):=by
 have agg:∀l:List Cl,An (G (Ag (l.map (Cl.v r)))) (Ag ((l.map K).map (Cl.v r'))):=by
  intro l;rw[AdX e];refine An.mk (by simp) λk _=>?_
  simp_all
 cases y with
 |one c=>exact A c
 |new l=>show An (G (A8 true _)) (A8 true _);rw[show G (A8 true (l.map Cl.v0))=A8 true (l.map Cl.v0)from e.nd _ _ _ _ _];exact An.refl _
 |agg l=>exact agg l
 |pk t l=>
  show An (G (pkL t (l.map (Cl.v r)))) (pkL t ((l.map K).map (Cl.v r')));rw[G_pk e];refine An.pk (by simp) λk _=>?_
  simp_all
 |tup l=>
  show An (G (Dq _)) (Dq _);rw[Aa9 e];refine An.tup (by simp) λk u=>?_
  have u:k<l.length:=by simpa using u
  simp only[gDE,List.getElem?_map,gEE u,Option.getD_some];generalize l[k]=p;obtain⟨b,m⟩:=p;cases b with
  |true=>exact agg m
  |false=>
   cases m with
   |nil=>exact An.dead _
   |cons y m=>exact A y
def AbK(s:St):Option Sl->Option St
 |some (.one (.rf id (a::q)))=>match Nz (s.r.getD id .dead) (a::q),Ac s.r id (a::q)with
  |some r1,.arr false t d xs=>some ⟨λi=>(s.t i).mapC (Cl.rr id (a::q) s.r.length),s.r.set id r1++[Ab.arr false t d xs]⟩
  |_,_=>some s
 |_=>some s
theorem XD{d:Nat}{xs:List t.T}(hm:m=s.r.length)(hidr:id<s.r.length)(Z:∀u,pre (Q.map (·.2)) u=false->(r1.at' u).len=((s.r.getD id .dead).at' u).len)(Y:(Ac s.r id Q).len=xs.length):
  ∀y:Cl,An (rrV id Q m (y.v s.r)) ((y.rr id Q m).v (s.r.set id r1++[Ab.arr false t d xs])):=by
 have key:∀(id':Nat) (u:AG) (keep new:Cl) (v v':V),(id'=id/\AR Q u=true->rrV id Q m v=v')->(¬ (id'=id/\AR Q u=true)->rrV id Q m v=v)->
   (id'≠m->¬ (id'=id/\AR Q u=true)->¬ (id'=id/\pre (Q.map (·.2)) u=true)->keep.v (s.r.set id r1++[Ab.arr false t d xs])=v)->(id'=id->u=Q->new.v (s.r.set id r1++[Ab.arr false t d xs])=v')->
   An (rrV id Q m v) ((rrk id Q m id' u keep new).v (s.r.set id r1++[Ab.arr false t d xs])):=by
  intro id' u keep new v v' h1 h2 h3 h4;unfold rrk;cases hb:beq id' m with
  |true=>exact An.dead _
  |false=>
   have B:id'≠m:=λe=>by rw[e,beq_refl]at hb;cases hb
   cases H:beq id' id with
   |false=>
    have E:id'≠id:=λe=>by rw[e,beq_refl]at H;cases H
    show An _ (keep.v _);rw[h2 (λh=>E h.1),h3 B (λh=>E h.1) (λh=>E h.1)]
    exact An.refl _
   |true=>
    have e:=bqE H;cases U:peq Q u with
    |true=>
     have eq:=(X7 U).symm;show An _ (new.v _);rw[h1 ⟨e,by rw[eq];exact Nl Q⟩,h4 e eq]
     exact An.refl _
    |false=>
     cases A:pre (Q.map (·.2)) u with
     |true=>exact An.dead _
     |false=>
      have n1:¬ (id'=id/\AR Q u=true):=λh=>by rw[LG h.2]at A;cases A
      show An _ (keep.v _);rw[h2 n1,h3 B n1 (λh=>by rw[h.2]at A;cases A)]
      exact An.refl _
 intro y;cases y with
 |rf id' u=>
  refine key id' u _ _ (.rs id' u 0 (Ac s.r id' u).len) (.rs m (u.drop Q.length) 0 (Ac s.r id' u).len) (λh=>by simp only[rrV,if_pos h]) (λh=>by simp only[rrV,if_neg h]) (λB _ W=>?_) (λe J=>?_)
  .show V.rs id' u 0 (Ac (s.r.set id r1++[Ab.arr false t d xs]) id' u).len=_
   congr 1
   by_cases O:id'<s.r.length
   .have e1:Ac (s.r.set id r1++[Ab.arr false t d xs]) id' u=Ac (s.r.set id r1) id' u:=by
     unfold Ac;rw[gDE,gAL (by simpa using O),<-gDE]
    rw[e1];by_cases he:id'=id
    .subst he
     rw[Bz O]
     exact Z u (by cases U:pre (Q.map (·.2)) u with
      |false=>rfl
      |true=>exact absurd ⟨rfl,U⟩ W)
    .rw[A9 he]
   .unfold Ac
    rw[gDE,getElem?_eq_none (by simp;omega),gDE,getElem?_eq_none (by omega)]
  .subst e;subst J
   show V.rs m [] 0 (Ac (s.r.set id' r1++[Ab.arr false t d xs]) m []).len=_
   have e1:Ac (s.r.set id' r1++[Ab.arr false t d xs]) m []=Ab.arr false t d xs:=by
    unfold Ac;rw[hm,gDE,gAR (by simp)]
    simp[Ab.at']
   rw[e1,Y];simp[Ab.len]
 |rs id' u off len=>
  exact key id' u _ _ (.rs id' u off len) (.rs m (u.drop Q.length) off len) (λh=>by simp only[rrV,if_pos h]) (λh=>by simp only[rrV,if_neg h]) (λ_ _ _=>rfl) (λe J=>by subst J;simp[Cl.v])
 |rp id' u i k=>
  exact key id' u _ _ (.rp id' u i k) (.rp m (u.drop Q.length) i k) (λh=>by simp only[rrV,if_pos h]) (λh=>by simp only[rrV,if_neg h]) (λ_ _ _=>rfl) (λe J=>by subst J;simp[Cl.v])
 |rm id' u=>
  exact key id' u _ _ (.rm id' u) (.rm m (u.drop Q.length)) (λh=>by simp only[rrV,if_pos h]) (λh=>by simp only[rrV,if_neg h]) (λ_ _ _=>rfl) (λe J=>by subst J;simp[Cl.v])
 |dead=>exact An.dead _
 |nil=>exact An.refl (.c _)
 |nilp=>exact An.refl (.c _)
 |nilf=>exact An.refl (.c _)
 |nilm=>exact An.refl (.c _)
 |c t d x=>
  show An (rrV id Q m (cV t d x)) (cV t d x);have:rrV id Q m (cV t d x)=cV t d x:=by cases t<;>first|rfl|exact(Dc _ _ _).osl|exact(Dc _ _ _).clo
  rw[this];exact An.refl _
def rkk(id:Nat)(q:AG)(m:Nat)(id':Nat)(e:AG)(keep:Cl):Cl:=bif beq id' m then .dead else bif beq id' id then(bif pre (q.map (·.2)) e then .dead else keep)else keep
def Cl.rk(id:Nat)(q:AG)(m:Nat):Cl->Cl
 |.rf id' e=>rkk id q m id' e (.rf id' e)
 |.rs id' e off len=>rkk id q m id' e (.rs id' e off len)
 |.rp id' e i k=>rkk id q m id' e (.rp id' e i k)
 |.rm id' e=>rkk id q m id' e (.rm id' e)
 |y=>y
theorem Uk{id':Nat}{e:AG}{keep new:Cl}:rkk id q m id' e keep=.dead\/rkk id q m id' e keep=rrk id q m id' e keep new:=by
 unfold rkk rrk;cases beq id' m with
 |true=>simp
 |false=>
  cases beq id' id with
  |false=>simp
  |true=>
   cases u:pre (q.map (·.2)) e with
   |true=>simp
   |false=>
    cases A:peq q e with
    |true=>
     have:=X7 A;subst this;rw[LG (Nl q)]at u;grind
    |false=>simp
def rk_or(y:Cl):y.rk id q m=.dead\/y.rk id q m=y.rr id q m:=by
 cases y with
 |rf=>exact Uk
 |rs=>exact Uk
 |rp=>exact Uk
 |rm=>exact Uk
 |_=>exact .inr rfl
theorem rk_sub{d:Nat}{xs:List t.T}(E:m=s.r.length)(e:id<s.r.length)(B:∀u,pre (Q.map (·.2)) u=false->(r1.at' u).len=((s.r.getD id .dead).at' u).len)(A:(Ac s.r id Q).len=xs.length)
  (y:Cl):An (rrV id Q m (y.v s.r)) ((y.rk id Q m).v (s.r.set id r1++[Ab.arr false t d xs])):=by
 rcases rk_or y with h|h
 .rw[h];exact An.dead _
 .rw[h];exact XD E e B A y
theorem An.of_dead{v:V}(h:An .dead v):v=.dead:=by
 rcases h with h|h
 .grind
 trivial
theorem U7{C:Ctx}{N:Nat}{a:Act}{w:World}{d:Nat}{xs:List t.T}(hx:s.ev x=some (.one (.rf id Q)))(W:Nz (s.r.getD id .dead) Q=some r1)(hne:Ac s.r id Q≠.dead)
  (hnv:(Ac s.r id Q).v=arr true t.w (tyV t d) t.dflt xs) (hnl:(Ac s.r id Q).len=xs.length) (hs:AN C N s.den a w) {f:Nat->Sl} (hf:∀i,An (rrV id Q s.r.length ((s.t i).v s.r)) ((f i).v (s.r.set id r1++[Ab.arr false t d xs]))):AN C N (⟨f,s.r.set id r1++[Ab.arr false t d xs]⟩:St).den a w:=by
 obtain⟨hdf,O,D,ρ,F,Y⟩:=hs;have hr:=Bq Y O x;rw[Bd hx]at hr;have hr:Rel D w (Ai s.den.σ ρ w) (.rs id Q 0 (Ac s.r id Q).len) (a.eval x) noF:=hr;obtain⟨⟨H,sz,n,f,cn,hat,hle,hcv⟩,_⟩:=hr;obtain⟨ρ',F',u,_⟩:=CR.reroot Y H hat;have hidr:id<s.r.length:=by simpa [St.den]using H
 obtain⟨U,hcl⟩:=KJ W;have e:sub Q (s.den.σ.getD id .dead)=arr true t.w (tyV t d) t.dflt xs:=(AS hne).trans hnv;have E:s.den.σ.length=s.r.length:=by simp[St.den]
 obtain⟨m,hm⟩:∃m,m=s.r.length:=⟨_,rfl⟩;rw[<-hm]at hf;rw[E,<-hm]at u;refine⟨hdf,λx hx=>?_,D,ρ',F',?_⟩
 .have h0:(s.t x).v s.r=.dead:=O x hx
  have h1:=hf x;rw[h0]at h1;exact An.of_dead h1
 .have B:s.den.σ=s.r.map Ab.v:=rfl
  have hm':(s.r.map Ab.v).length=m:=by simp[hm]
  refine u.sub (by simp[St.den]) (λi _=>?_) (by simp) λi hi=>?_
  .show Sub _ (((s.r.set id r1++[Ab.arr false t d xs]).map Ab.v).getD i .dead)
   rw[List.map_append,map_set,B];by_cases hi:i<s.r.length
   .rw[AB (by simpa using hi),AB (by simpa using hi)]
    by_cases J:id=i
    .subst J
     rw[Ae (by simpa using hi),Ae (by simpa using hi),Ak]
     exact U
    .rw[Ad J,Ad J];exact Sub.refl _
   .by_cases J:i=s.r.length
    .subst J
     have Z:∀(A:List V) (v:V),A.length=s.r.length->(A++[v]).getD s.r.length .dead=v:=by
      intro A v hA;rw[<-hA,gDE,gAR (by simp)];simp
     rw[Z _ _ (by simp),show([Ab.arr false t d xs].map Ab.v)=[arr true t.w (tyV t d) t.dflt xs]from rfl,Z _ _ (by simp)]
     rw[B]at e;rw[e];exact Sub.refl _
    .have Z:∀(A:List V) (v:V),A.length=s.r.length->(A++[v]).getD i .dead=.dead:=by
      intro A v hA;rw[gDE,getElem?_eq_none (by simp;omega)];rfl
     rw[Z _ _ (by simp),show([Ab.arr false t d xs].map Ab.v)=[arr true t.w (tyV t d) t.dflt xs]from rfl,Z _ _ (by simp)]
     exact Sub.refl _
  .have hi:i<N:=by simpa using hi
   have hk:=hf i;simpa [hi,St.den]using hk
theorem Nw(h:AbK s (s.ev x)=some s')(H:AN C N s.den a w):AN C N s'.den a w:=by
 unfold AbK at h;split at h
 case h_2=>grind
 rename_i id b B E;split at h
 case h_2=>grind
 rename_i r1 t d xs e u;cases h;have A:id<s.r.length:=by
  rcases lt_or_ge id s.r.length with h|h
  .omega
  .unfold Ac at u
   rw[gDE,getElem?_eq_none h]at u;rw[show(none:Option Ab).getD .dead=.dead from rfl,CT]at u;grind
 exact U7 E e (by grind) (by rw[u];rfl) (by rw[u];rfl) H λi=>Sl.mapC_v (Dc id (b::B) s.r.length) rfl (XD rfl A (KJ e).2 (by rw[u];rfl)) (s.t i)
def cutO(s:St)(x:Operand):Option St:=match x with
 |.tmp y=>match s.t y with
  |.one (.rf id (a::q))=>match Nz (s.r.getD id .dead) (a::q),Ac s.r id (a::q)with
   |some r1,.opt false t d v=>some ⟨λi=>bif beq i y then .one (.rf s.r.length [])else(s.t i).mapC (Cl.rk id (a::q) s.r.length),s.r.set id r1++[Ab.arr false t d (getO v)]⟩
   |_,_=>AbK s (s.ev x)
  |_=>AbK s (s.ev x)
 |_=>AbK s (s.ev x)
theorem Adx(h:cutO s x=some s')(J:AN C N s.den a w):AN C N s'.den a w:=by
 unfold cutO at h;split at h
 case h_2=>exact Nw h J
 rename_i y;split at h
 case h_2=>exact Nw h J
 rename_i id b A Z;split at h
 case h_2=>exact Nw h J
 rename_i r1 t d v u O;cases h;have hx:s.ev (.tmp y)=some (.one (.rf id (b::A))):=by show some (s.t y)=_;rw[Z]
 have H:Ac s.r id (b::A)≠.dead:=by rw[O];simp
 have B:id<s.r.length:=by
  rcases lt_or_ge id s.r.length with h|h
  .exact h
  .exfalso
   apply H;unfold Ac;rw[gDE,getElem?_eq_none h];exact CT _
 obtain⟨ys,rfl⟩:∃ys,v=some ys:=by
  obtain⟨hdf,U,D,ρ,F,W⟩:=J;have hr:=Bq W U (.tmp y);rw[Bd hx]at hr;obtain⟨⟨hid,sz,n,f,cn,Y,hle,hcv⟩,_⟩:=hr;have e:=At.sub Y;have e2:sub (b::A) (s.den.σ.getD id .dead)=AcO true t.w (tyV t d) t.dflt v:=(AS H).trans (by rw[O];rfl)
  rw[e2]at e;cases v with
  |none=>cases e
  |some ys=>exact⟨ys,rfl⟩
 have E:(Ac s.r id (b::A)).len=ys.length:=by rw[O];rfl
 refine U7 (xs:=ys) hx u H (by rw[O];rfl) E J λi=>?_
 cases hi:beq i y with
 |false=>exact Sl.mapC_v (Dc id (b::A) s.r.length) rfl (rk_sub rfl B (KJ u).2 E) (s.t i)
 |true=>
  have e:=bqE hi;subst e;rw[Z];have:=XD (xs:=ys) (d:=d) (t:=t) (m:=s.r.length) rfl B (KJ u).2 E (.rf id (b::A))
  have e1:(Cl.rf id (b::A)).rr id (b::A) s.r.length=.rf s.r.length []:=by
   have p:∀q:AG,peq q q=true:=by
    intro q
    induction q with
    |nil=>rfl
    |cons a q ih=>obtain⟨i,k⟩:=a;simp[peq,beq_refl,ih]
   show rrk id (b::A) s.r.length id (b::A) _ _=_;unfold rrk;have h0:beq id s.r.length=false:=by
    cases hb:beq id s.r.length with
    |false=>rfl
    |true=>have:=bqE hb;omega
   rw[h0,beq_refl,p];rfl
  rw[e1]at this;exact this
end sound
end Go.Ve

