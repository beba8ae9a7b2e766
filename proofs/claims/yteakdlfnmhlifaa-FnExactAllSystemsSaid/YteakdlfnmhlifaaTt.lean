/- The typed machine: append. -/
import Derived.Test.YteakdlfnmhlifaaTj
import Derived.Test.YteakdlfnmhlifaaTg
import Derived.Test.YteakdlfnmhlifaaVy
open Nat(beq beq_refl lt_or_ge blt)
open List(range getElem?_eq_none)
set_option linter.all false
namespace Go.Ve
variable{Q q:AI}{r1:Aa}{a:Act}{cts:Array Value}{h:BW}{z:Cl}{C:Ctx}{r r':List Aa}{ts ts' σ:List V}{N d id j m:Nat}{F:Nat->Nat->Prop}{D:Nat->Prop}{ρ:Nat->Value}{x:Operand}{s s':St}{t:Ty}{w:World}
def Cl.kH(r:List Aa)(j:Nat):Cl->Cl
 |.rf id q=>bif beq id j then .c (.sl .unit) 0 (AaP (Ac r id q).len ())else .rf id q
 |.rs id q off len=>bif beq id j then .c (.sl .unit) 0 (AaP len ())else .rs id q off len
 |y=>y.kill j [] []
def Sl.kH(r:List Aa)(j:Nat):Sl->Sl
 |.one y=>.one (y.kH r j)
 |y=>y.kill j [] []
def Aby(n:Nat):V.nd true false 0 n (λ_ _=>.dead)=cV (.sl .unit) 0 (AaP n ()):=by
 show V.nd true false 0 n (λ_ _=>.dead)=V.nd true false 0 (List.replicate n ()).length λi k=>([].getD k .dead)
 simp
theorem Sl.kH_v(y:Sl):Ak (hdK j (y.v r)) ((y.kH r j).v (r.set j .dead)):=by
 have g:=GOK.kill (id:=j) (P:=[])
 have W:=Sl.kill_v (r:=r) (r':=r.set j .dead) g (λid' q U=>by
  have B:id'≠j:=by
   rintro rfl
   simp[hit,pre]at U
  rw[Bd B]) y
 have A:∀(id off len:Nat) (q:AI) (z:Cl),(id≠j->z.v (r.set j .dead)=.rs id q off len)->Ak (if id=j then V.nd true false 0 len (λ_ _=>.dead)else .rs id q off len) ((bif beq id j then Cl.c (.sl .unit) 0 (AaP len ())else z).v (r.set j .dead)):=by
  intro id off len q z H;by_cases h:id=j
  .subst h
   rw[if_pos rfl,beq_refl];show Ak _ (cV (.sl .unit) 0 (AaP len ()));rw[<-Aby];exact Ak.refl _
  .rw[if_neg h,BB h]
   show Ak _ (z.v _);rw[H h];exact Ak.refl _
 cases y with
 |one c=>
  cases c with
  |rf id q=>
   refine A id 0 (Ac r id q).len q (.rf id q) λh=>?_
   show V.rs id q 0 (Ac (r.set j .dead) id q).len=_;rw[Bd h]
  |rs id q off len=>exact A id off len q (.rs id q off len) λh=>rfl
  |c t d x=>
   have e:hdK j (cV t d x)=AF j [] (cV t d x):=by cases t<;>first|rfl|(cases x<;>rfl)
   show Ak (hdK j (cV t d x)) _;rw[e];trivial
  |_=>trivial
 |_=>trivial
def Jd(j:Nat)(s:St):St:=⟨λi=>(s.t i).kH s.r j,s.r.set j .dead⟩
def Aj:List Nat->St->St
 |[],s=>s
 |j::js,s=>Aj js (Jd j s)
theorem Aam(h:CR C s.den.σ ((range N).map s.den.t) cts w D ρ F)(hj:j<s.r.length):
  CR C (Jd j s).den.σ ((range N).map (Jd j s).den.t) cts w D ρ (λi=>if i=j then noF else F i):=by
 have B:=h.dropH (by simpa [St.den]using hj)
 have H:(Jd j s).den.σ=s.den.σ.set j .dead:=by
  show(s.r.set j .dead).map Aa.v=(s.r.map Aa.v).set j .dead;rw[List.map_set];rfl
 refine B.sub (by grind) (λi _=>by rw[H];exact Sub.refl _) (by simp) λi hi=>?_
 have hi:i<N:=by grind
 have A:=Sl.kH_v (r:=s.r) (j:=j) (s.t i);simpa [hi,St.den,Jd]using A
def Ku:(Jd j s).r.length=s.r.length:=by simp[Jd]
def IL:∀(js:List Nat) (s:St),(Aj js s).r.length=s.r.length
 |[],_=>rfl
 |j::js,s=>by show(Aj js (Jd j s)).r.length=_;rw[IL js,Ku]
theorem Cn{C:Ctx}{N:Nat}{cts:Array Value}{w:World}{D:Nat->Prop}{ρ:Nat->Value}:∀(js:List Nat) {s:St}{F:Nat->Nat->Prop},CR C s.den.σ ((range N).map s.den.t) cts w D ρ F->(∀j∈js,j<s.r.length)->
  ∃F',CR C (Aj js s).den.σ ((range N).map (Aj js s).den.t) cts w D ρ F'/\∀i b,F' i b->F i b/\i∉js
 |[],s,F,h,_=>⟨F,h,λi b A=>⟨A,by simp⟩⟩
 |j::js,s,F,h,hj=>by
  obtain⟨F',H,B⟩:=Cn js (Aam h (hj j (List.mem_cons_self ..))) (λi hi=>by rw[Ku];grind)
  refine⟨F',H,λi b A=>?_⟩
  obtain⟨h3,h4⟩:=B i b A;split at h3
  .trivial
  grind
theorem BT{N:Nat}:∀(js:List Nat) {s:St},(∀x,N<=x->s.den.t x=.dead)->∀x,N<=x->(Aj js s).den.t x=.dead
 |[],s,h=>h
 |j::js,s,h=>by
  refine BT js λx H=>?_
  have B:(s.t x).v s.r=.dead:=h x H;show((s.t x).kH s.r j).v (s.r.set j .dead)=.dead;cases A:s.t x with
  |one y=>
   rw[A]at B;cases y with
   |dead=>rfl
   |c t d z=>trivial
   |nil=>trivial
   |nilp=>trivial
   |nilf=>trivial
   |nilm=>trivial
   |raw _ _=>trivial
   |rf=>trivial
   |rs=>trivial
   |rp=>trivial
   |rm=>trivial
  |new l=>rw[A]at B;trivial
  |agg l=>rw[A]at B;trivial
  |tup l=>rw[A]at B;trivial
  |pk t l=>rw[A]at B;trivial
theorem CR.giveG(h:CR C σ ts cts w D ρ F)(hj:j<σ.length)(hl:ts'.length=ts.length)
  (Y:∀i,i<ts.length->Ak (hdK j (ts.getD i .dead)) (ts'.getD i .dead)\/Rel (λb=>D b\/F j b) w noR (ts'.getD i .dead) (cts.getD i undef) noF):
  CR C (σ.set j .dead) ts' cts w (λb=>D b\/F j b) ρ (λi=>if i=j then noF else F i):=by
 have U:=h.dropH hj
 have hF:∀i b,(if i=j then noF else F i) b->F i b/\i≠j:=by
  intro i b A;split at A
  .exact A.elim
  .exact⟨A,by assumption⟩
 refine⟨⟨λi hi=>?_,U.wr.disj,λi b A=>?_,λb A=>?_,U.wr.out⟩,by rw[hl];exact h.sz,λt W=>?_,h.fr,U.Fn,λb A=>.inl (h.D1 b A),λb A H=>?_,h.rt,by simpa using h.ml⟩
 .exact Rel.mono (λ_ h=>.inl h) (λ_ _ h=>h) _ _ _ (λ_ _=>rfl) (U.wr.rel i hi)
 .obtain⟨B,h2⟩:=hF i b A
  exact λhd=>hd.elim (h.wr.dD i b B) (h.wr.disj i j b h2 B)
 .exact A.elim (h.wr.Dlt b) (h.wr.lt j b)
 .have W:t<ts.length:=by omega
  rcases Y t W with B|B
  .have h3:=U.tm t (by simpa using W)
   have e1:(ts.map (hdK j)).getD t .dead=hdK j (ts.getD t .dead):=by simp[W]
   rw[e1]at h3;exact Rel.mono (λ_ h=>.inl h) (λ_ _ h=>h) _ _ _ (λ_ _=>rfl) (Rel.subS B h3)
  .exact Rel.noR_mono B
 .rcases A with A|A
  .exact h.D2 b A H
  .exact(h.Fn j b A).elim .inr λZ=>absurd H (Nat.not_lt.2 Z)
theorem CR.give(h:CR C σ ts cts w D ρ F)(hj:j<σ.length){l:List V}(Y:σ.getD j .dead=A3 true l)(hl:ts'.length=ts.length)
  (A:∀i,i<ts.length->Ak (hdK j (ts.getD i .dead)) (ts'.getD i .dead)\/(ts.getD i .dead=.rp j [] 0 0/\ts'.getD i .dead=Go.Ve.frz (A3 true l))):
  CR C (σ.set j .dead) ts' cts w (λb=>D b\/F j b) ρ (λi=>if i=j then noF else F i):=by
 refine h.giveG hj hl λt U=>?_
 rcases A t U with H|⟨H,h2⟩
 .exact .inl H
 right;have Z:=h.tm t U;rw[H]at Z;obtain⟨⟨hid,s,sz,n,f,b,o,cap,ha,hi,hk,B⟩,_⟩:=Z;obtain⟨e1,e2⟩:=ha;rw[Y]at e1;have hs:s=false:=by injection e1
 subst hs;have W:=Rel.frz' _ _ _ _ (h.wr.rel j hj);rw[Y,<-e2]at W;rw[h2,B];have e3:Av false b o n cap=.pointer (some ⟨b,o+0*sz+0,none⟩):=by simp[Av]
 rw[<-e3];exact W
theorem CR.giveS(h:CR C σ ts cts w D ρ F)(hj:j<σ.length){sz n:Nat}{f:Nat->Nat->V}(W:σ.getD j .dead=.nd true true sz n f)(Z:ts'.length=ts.length)
  (A:∀i,i<ts.length->Ak (hdK j (ts.getD i .dead)) (ts'.getD i .dead)\/(ts.getD i .dead=.rs j [] 0 n/\ts'.getD i .dead=Go.Ve.frz (.nd true true sz n f))):
  CR C (σ.set j .dead) ts' cts w (λb=>D b\/F j b) ρ (λi=>if i=j then noF else F i):=by
 refine h.giveG hj Z λt H=>?_
 rcases A t H with B|⟨B,h2⟩
 .exact .inl B
 right;have Y:=h.tm t H;rw[B]at Y;obtain⟨e5,e6⟩:=MG h.wr W Y.1;rw[h2,e5];have U:=Rel.frz' _ _ _ _ (h.wr.rel j hj);rw[W]at U;exact U
def Sl.gv(r:List Aa)(j:Nat)(z:Cl):Sl->Sl
 |.one (.rp id [] 0 0)=>bif beq id j then .one z else .one (.rp id [] 0 0)
 |y=>y.kH r j
theorem Sl.gv_v(y:Sl):Ak (hdK j (y.v r)) ((y.gv r j z).v (r.set j .dead))\/(y.v r=.rp j [] 0 0/\y.gv r j z=.one z):=by
 unfold Sl.gv;split
 .rename_i id
  by_cases h:id=j
  .subst h
   rw[beq_refl];exact .inr ⟨rfl,rfl⟩
  .rw[BB h]
   refine .inl ?_;have e:hdK j (V.rp id [] 0 0)=.rp id [] 0 0:=if_neg λA=>h A.1
   show Ak (hdK j (V.rp id [] 0 0)) (.rp id [] 0 0);rw[e];exact Ak.refl _
 .exact .inl (Sl.kH_v y)
def Yf(j:Nat)(s:St):Option St:=match s.r.getD j .dead with
 |.obj false l=>match Hn l with
  |some ⟨t,x⟩=>some ⟨λi=>(s.t i).gv s.r j (.c (.ptr t) 0 x),s.r.set j .dead⟩
  |none=>none
 |_=>none
theorem LN(h:Yf j s=some s'):∃(l:List Cl) (t:Ty) (x:t.T),j<s.r.length/\s.r.getD j .dead=.obj false l/\(l.map Cl.v0).map Go.Ve.frz=tyV t 0 x/\s'=⟨λi=>(s.t i).gv s.r j (.c (.ptr t) 0 x),s.r.set j .dead⟩:=by
 unfold Yf at h;split at h
 case h_2=>grind
 rename_i l A;split at h
 case h_2=>grind
 rename_i t x B;cases h;refine⟨l,t,x,?_,A,(DV _ _ B).symm,rfl⟩
 grind
theorem Sl.gv_dead{y:Sl}(A:y.v r=.dead):(y.gv r j z).v r'=.dead:=by
 cases y with
 |one y=>
  cases y with
  |dead=>rfl
  |c t d z=>trivial
  |nil=>trivial
  |nilp=>trivial
  |nilf=>trivial
  |nilm=>trivial
  |raw _ _=>trivial
  |rf=>trivial
  |rs=>trivial
  |rp=>trivial
  |rm=>trivial
 |new l=>trivial
 |agg l=>trivial
 |tup l=>trivial
 |pk t l=>trivial
theorem Z3(h:Yf j s=some s')(Y:AA C N s.den a w):AA C N s'.den a w:=by
 obtain⟨l,t,x,hj,A,hf,rfl⟩:=LN h;obtain⟨hd,H,D,ρ,F,U⟩:=Y;refine⟨hd,λi hi=>Sl.gv_dead (H i hi),λb=>D b\/F j b,ρ,λi=>if i=j then noF else F i,?_⟩
 have Z:s.den.σ.getD j .dead=A3 true (l.map Cl.v0):=by
  show(s.r.map Aa.v).getD j .dead=_;simp only[gDE]at A;rw[gDE,List.getElem?_map];rw[gEE hj]at A⊢;have A:s.r[j]=.obj false l:=A;rw[A];rfl
 have h1:=U.give (by simpa [St.den]using hj) Z (ts':=(range N).map λi=>((s.t i).gv s.r j (.c (.ptr t) 0 x)).v (s.r.set j .dead)) (by simp) λi hi=>by
  have hi:i<N:=by grind
  rw[Ay hi,Ay hi];rcases Sl.gv_v (s.t i)with B|⟨B,W⟩
  .exact .inl B
  .refine .inr ⟨B,?_⟩
   rw[W,Nh,hf];rfl
 have e1:(s.r.set j .dead).map Aa.v=s.den.σ.set j .dead:=by
  rw[List.map_set];rfl
 show CR C ((s.r.set j .dead).map Aa.v) _ a.tmps w _ ρ _;rw[e1];exact h1
def Sl.gvS(r:List Aa)(j:Nat)(z:Cl):Sl->Sl
 |.one (.rf id [])=>bif beq id j then .one z else .one (.rf id [])
 |y=>y.kH r j
theorem Sl.gvS_v(y:Sl):Ak (hdK j (y.v r)) ((y.gvS r j z).v (r.set j .dead))\/(y.v r=.rs j [] 0 (r.getD j .dead).len/\y.gvS r j z=.one z):=by
 unfold Sl.gvS;split
 .rename_i id
  by_cases h:id=j
  .subst h
   rw[beq_refl];exact .inr ⟨rfl,rfl⟩
  .rw[BB h]
   refine .inl ?_;show Ak (if id=j then _ else V.rs id [] 0 (Ac r id []).len) (.rs id [] 0 (Ac (r.set j .dead) id []).len)
   rw[if_neg h,Bd h];exact Ak.refl _
 .exact .inl (Sl.kH_v y)
def OV(j:Nat)(s:St):Option St:=match s.r.getD j .dead with
 |.arr false t _ xs=>some ⟨λi=>(s.t i).gvS s.r j (.c (.sl t) 0 xs),s.r.set j .dead⟩
 |_=>none
theorem Yd(h:OV j s=some s')(hs:AA C N s.den a w):AA C N s'.den a w:=by
 unfold OV at h;split at h
 case h_2=>cases h
 rename_i t d0 xs H;cases h;have hj:j<s.r.length:=by
  rcases lt_or_ge j s.r.length with h|h
  .exact h
  .rw[gDE,getElem?_eq_none h]at H;cases H
 obtain⟨hd,W,D,ρ,F,Y⟩:=hs;refine⟨hd,λi hi=>?_,λb=>D b\/F j b,ρ,λi=>if i=j then noF else F i,?_⟩
 .have A:(s.t i).v s.r=.dead:=W i hi
  show((s.t i).gvS s.r j _).v _=.dead;cases B:s.t i with
  |one y=>
   rw[B]at A;cases y with
   |dead=>rfl
   |c t d z=>exact A
   |nil=>cases A
   |nilp=>cases A
   |nilf=>cases A
   |nilm=>cases A
   |raw _ _=>cases A
   |rf=>cases A
   |rs=>cases A
   |rp=>cases A
   |rm=>cases A
  |new l=>rw[B]at A;cases A
  |agg l=>rw[B]at A;cases A
  |tup l=>rw[B]at A;cases A
  |pk t l=>rw[B]at A;cases A
 have ho:s.den.σ.getD j .dead=arr true t.w (tyV t d0) t.dflt xs:=by
  show(s.r.map Aa.v).getD j .dead=_;rw[Ai,H];rfl
 have h1:=Y.giveS (by simpa [St.den]using hj) ho (ts':=(range N).map λi=>((s.t i).gvS s.r j (.c (.sl t) 0 xs)).v (s.r.set j .dead)) (by simp) λi hi=>by
  have hi:i<N:=by grind
  rw[Ay hi,Ay hi];rcases Sl.gvS_v (z:=.c (.sl t) 0 xs) (s.t i)with U|⟨U,Z⟩
  .exact .inl U
  .refine .inr ⟨?_,?_⟩
   .show(s.t i).v s.r=_
    rw[U,H];rfl
   .rw[Z]
    show cV (.sl t) 0 xs=frz (arr true t.w (tyV t d0) t.dflt xs);rw[Ni];have e:(λa=>(tyV t d0 a).map frz)=tyV t 0:=funext λx=>Ba t d0 x
    rw[e];rfl
 have e1:(s.r.set j .dead).map Aa.v=s.den.σ.set j .dead:=by
  rw[List.map_set];rfl
 show CR C ((s.r.set j .dead).map Aa.v) _ a.tmps w _ ρ _;rw[e1];exact h1
def Nf:List Operand->St->Option St
 |[],s=>some s
 |x::xs,s=>match s.ev x with
  |some (.one (.rp j [] 0 0))=>match Yf j s with
   |some s'=>Nf xs s'
   |none=>none
  |_=>Nf xs s
def HZ{C:Ctx}{N:Nat}{a:Act}{w:World}:∀(xs:List Operand) {s s':St},Nf xs s=some s'->AA C N s.den a w->AA C N s'.den a w
 |[],s,s',h,hs=>by cases h;grind
 |x::xs,s,s',h,hs=>by
  unfold Nf at h;split at h
  .split at h
   case h_2=>grind
   rename_i A;exact HZ xs h (Z3 A hs)
  .exact HZ xs h hs
structure LR where
 p:Prop
 dec:Decidable p
 js:List Nat
 y:Cl
def JJ(s:St)(i:Option TI)(x y:Option Sl):Option LR:=match i with
 |none=>none
 |some i=>bif blt 0 i.bytes&&blt 0 i.ty.w then(match x with
  |some (.one .nil)=>(match V7 s i.ty s.r.length y with
   |some (d,ys,js)=>some ⟨IE ys<=ON i.bytes,inferInstance,js,.c (.sl i.ty) (d+1) ys⟩
   |none=>none)
  |some (.one (.rf id []))=>(match s.r.getD id .dead with
   |.arr false t d xs=>if h:t=i.ty then(match V7 s i.ty id y with
     |some (d',ys,js)=>bif dOK i.ty d' d then some ⟨IE xs+IE ys<=ON i.bytes,inferInstance,id::js,.c (.sl i.ty) (d+1) (Ac6 (h▸xs) ys)⟩else none
     |none=>none)else none
   |_=>none)
  |_=>none)else none
section sound
variable {P:Program}{Θ:Tab}
theorem XD{y:Cl}{w':World}{v':Value}(hd:a.defers=C.dfs)(U:∀x,h.n<=x->s.den.t x=.dead)(B:h.fz.contains d=false)(H:s.put h (some d) (.one y)=some s')
  (W:Wi C (s.den.σ++(prom (y.v s.r) s.den.σ.length).2) (((range h.n).map s.den.t).set d (prom (y.v s.r) s.den.σ.length).1) (a.tmps.setIfInBounds d v') w'):AA C h.n s'.den (a.put (some d) v') w':=by
 have A:d<h.n:=by
  unfold St.put at H;cases Z:blt d h.n with
  |false=>grind
  |true=>simp_all
 refine AA.put H ?_
 have e:s.den.res h (some d) ((Sl.one y).v s.r)=⟨AD s.den.t d (prom (y.v s.r) s.den.σ.length).1,s.den.σ++(prom (y.v s.r) s.den.σ.length).2⟩:=by
  unfold Ms.res;simp only[A,if_true,B];rfl
 rw[e];refine⟨hd,λx Y=>?_,?_⟩
 .unfold AD
  grind
 .rw[BO A]at W
  trivial
theorem Vg(hΘ:Θ.OK P){C:Ctx}{h:BW}{s s':St}{o:Oper}{t:TypeId}{x y:Operand}{a:Act}{w:World}{A:LR}{d:Nat}{next:Act->World->Prop}{Q:Exit->Act->World->Prop}
  (ho:o.op=.call ⟨.builtin .append,#[x,y],#[t,t]⟩) (hdst:o.dst=some d) (hfz:h.fz.contains d=false) (Y:JJ s (((Θ.look t).bind (·.elem)).bind Θ.look) (s.ev x) (s.ev y)=some A) (hA:A.p) (hp:(Aj A.js s).put h (some d) (.one A.y)=some s')
  (hs:AA C h.n s.den a w) (hn:∀a' w',AA C h.n s'.den a' w'->next a' w'):o.wp P a w next Q:=by
 obtain⟨hdf,hdd,D,ρ,F,B⟩:=hs
 -- the run, and what follows
 have key:∀(U:TI) (e:TypeId),slI P t=some ⟨e,U.ty.w,U.bytes,BX U.ty⟩->0<U.bytes->0<U.ty.w->∀(xs:List U.ty.T) (dx:Nat) (ys:List U.ty.T) (js:List Nat) (fpx:Nat->Prop) (id:Nat),
   Rel D w noR (cV (.sl U.ty) (dx+1) xs) (a.eval x) fpx->(∀c,fpx c->∃j∈A.js,F j c)->(∀c,fpx c->F id c)->YOK s U.ty id y a w D F dx ys js->(∀j∈js,j∈A.js)->(∀j∈A.js,j<s.r.length)->
   xs.length+ys.length<=ON U.bytes->A.y=.c (.sl U.ty) (dx+1) (xs++ys)->o.wp P a w next Q:=by
  intro U e hsl hby hw xs dx ys js fpx id W hfA hfid hY hjs hjl hlim hAy;obtain⟨⟨Fy,hrd,hFy,hFd⟩,hjs2⟩:=hY
  have Z:(xs.length+ys.length)*U.bytes<=140737488355328:=by
   rw[Nat.mul_comm];exact(Nat.mul_comm _ _▸(Nat.le_div_iff_mul_le hby).1 hlim)
  have h63:xs.length+ys.length<=maxLen:=by
   have:xs.length+ys.length<=(xs.length+ys.length)*U.bytes:=Nat.le_mul_of_pos_right _ hby;simp only[maxLen];omega
  obtain⟨v',w',fp,hrun,hos,htp,hout,hdr,hsz,hbl,hr',hfp⟩:=Rel.append (P:=P) (ty:=o.type) (f:=λi k=>(tyV U.ty dx (xs.getD i U.ty.dflt)).getD k .dead) hsl hw W (λb Z h=>by obtain⟨j,_,hj⟩:=hfA b h;exact B.wr.dD j b hj Z) B.wr.Dlt hrd
   (λi k c hi hk hF=>by
    obtain⟨j,hj,H⟩:=hFy i k c hi hk hF;refine⟨B.wr.dD j c H,λhx=>?_⟩
    exact B.wr.disj j id c (hjs2 j hj).2 H (hfid c hx)) hFd h63 Z
  obtain⟨F',hcr',hF'⟩:=Cn A.js B hjl
  have hr2:Rel D w' noR (A.y.v (Aj A.js s).r) v' fp:=by
   rw[hAy];exact Rel.sub (Nr rfl rfl (λ_ _ _=>rfl) (λ_ _ _=>rfl)) hr'
  have hfpG:∀b,fp b->(∃j∈A.js,F j b)\/w.heap.size<=b:=by
   intro b Z;rcases hfp b Z with h1|⟨i,k,hi,hk,h1⟩|h1
   .exact .inl (hfA b h1)
   .obtain⟨j,hj,H⟩:=hFy i k b hi hk h1
    exact .inl ⟨j,hjs j hj,H⟩
   .exact .inr h1
  have hc:=CR.own hcr' (G:=λb=>∃j∈A.js,F j b) (D':=D) (λi b Z ⟨j,hj,H⟩=>by
    obtain⟨h1,h2⟩:=hF' i b Z;exact B.wr.disj i j b (λe=>h2 (e▸hj)) h1 H) (λb Z ⟨j,_,H⟩=>B.wr.dD j b H Z) (λb ⟨j,_,H⟩=>B.Fn j b H) hos htp hout hdr hsz (λc hc hG=>hbl c hc λh=>hG (hfA c h)) hr2 hfpG
   (λ_ h=>h) (λ_ h=>.inl h) (λb Z=>⟨Nat.lt_of_lt_of_le (B.wr.Dlt b Z) hsz,λh=>by
    rcases hfpG b h with⟨j,_,H⟩|h2
    .exact B.wr.dD j b H Z
    .have:=B.wr.Dlt b Z;omega⟩) d
  have hs':=XD (h:=h) hdf (BT A.js hdd) hfz hp hc;unfold Oper.wp execOp;simp only[ho,resolve,invoke,builtin,Sem.run_bind,Sem.run_pure,Result.andThen_ok,List.map_toArray,List.map_cons,List.map_nil,hrun,hdst];show next (a.put o.dst v') w'
  rw[hdst];exact hn _ _ hs'
 unfold JJ at Y;split at Y
 .cases Y
 rename_i U hti;obtain⟨e,hsl,_⟩:=DW hΘ hti;obtain⟨Z,Y⟩:=A1 Y;simp only[bAE]at Z;have hby:=Mb Z.1;have hw:=Mb Z.2;have W:=Bh B hdd x;split at Y
 case h_3=>cases Y
 .rename_i hx
  rw[Bg hx]at W;split at Y
  case h_2=>cases Y
  rename_i d' ys js hy;cases Y;have hY:=IR B hdd hy;refine key U e hsl hby hw [] d' ys js noF s.r.length ?_ (λ_ h=>h.elim) (λ_ h=>h.elim) hY (λ_ h=>h) (λj hj=>(hY.js j hj).1) (by simpa [IE]using hA) (by simp)
  exact .inl ⟨rfl,rfl,.inl W.1,λ_ h=>h⟩
 .rename_i id hx
  rw[Bg hx]at W;split at Y
  case h_2=>cases Y
  rename_i t' dx xs hr;split at Y
  case isFalse=>cases Y
  rename_i ht;subst ht;split at Y
  case h_2=>cases Y
  rename_i d' ys js hy;obtain⟨hdk,Y⟩:=A1 Y;cases Y;have hY:=IR B hdd hy
  have hlen:(Ac s.r id []).len=xs.length:=by
   show(s.r.getD id .dead).len=_;rw[hr];rfl
  have W:Rel D w (Ae s.den.σ ρ w) (.rs id [] 0 (Ac s.r id []).len) (a.eval x) noF:=W;rw[hlen]at W
  have hσ:s.den.σ.getD id .dead=.nd true true U.ty.w xs.length (λi k=>(tyV U.ty dx (xs.getD i U.ty.dflt)).getD k .dead):=by
   show(s.r.map Aa.v).getD id .dead=_;rw[Ai,hr];rfl
  obtain⟨_,hrr⟩:=MG B.wr hσ W.1;have hid:id<s.r.length:=by simpa [St.den]using W.1.1
  refine key U e hsl hby hw xs dx ys js (F id) id hrr (λc hc=>⟨id,by simp,hc⟩) (λ_ h=>h) ?_ (λj hj=>mCM _ hj) (λj hj=>?_) hA rfl
  .have ee:tyV U.ty d'=tyV U.ty dx:=funext λz=>C3 _ _ _ z (Kw hdk)
   obtain⟨⟨Fy,h1,h2⟩,h3⟩:=hY;rw[ee]at h1;exact⟨⟨Fy,h1,h2⟩,h3⟩
  .rcases List.mem_cons.1 hj with rfl|hj
   .exact hid
   .exact(hY.js j hj).1
def peq:AI->AI->Bool
 |[],[]=>true
 |(i,k)::p,(j,l)::q=>beq i j&&beq k l&&peq p q
 |_,_=>false
def XB:∀{p q:AI},peq p q=true->p=q
 |[],[],_=>rfl
 |(i,k)::p,(j,l)::q,h=>by
  simp only[peq,bAE]at h;rw[bqE h.1.1,bqE h.1.2,XB h.2]
 |[],_::_,h=>by cases h
 |_::_,[],h=>by cases h
def M9:∀q:AI,AN q q=true
 |[]=>rfl
 |(i,k)::q=>by simp[AN,M9 q]
def rrk(id:Nat)(q:AI)(m:Nat)(id':Nat)(A:AI)(keep new:Cl):Cl:=bif beq id' m then .dead else bif beq id' id then(bif peq q A then new else bif pre (q.map (·.2)) A then .dead else keep)else keep
def Cl.rr(id:Nat)(q:AI)(m:Nat):Cl->Cl
 |.rf id' A=>rrk id q m id' A (.rf id' A) (.rf m [])
 |.rs id' A off len=>rrk id q m id' A (.rs id' A off len) (.rs m [] off len)
 |.rp id' A i k=>rrk id q m id' A (.rp id' A i k) (.rp m [] i k)
 |.rm id' A=>rrk id q m id' A (.rm id' A) (.rm m [])
 |y=>y
def Sl.mapC(K:Cl->Cl):Sl->Sl
 |.one y=>.one (K y)
 |.new l=>.new l
 |.agg l=>.agg (l.map K)
 |.pk t l=>.pk t (l.map K)
 |.tup l=>.tup (l.map λp=>(p.1,p.2.map K))
theorem Sl.mapC_v{G:V->V}{K:Cl->Cl}(A:A9 G)(hd:K .dead=.dead)(H:∀y:Cl,Ak (G (y.v r)) ((K y).v r'))(y:Sl):Ak (G (y.v r)) ((y.mapC K).v r'):=by
 have agg:∀l:List Cl,Ak (G (Ah (l.map (Cl.v r)))) (Ah ((l.map K).map (Cl.v r'))):=by
  intro l;rw[Adt A];refine Ak.mk (by simp) λk _=>?_
  simp_all
 cases y with
 |one c=>exact H c
 |new l=>show Ak (G (A3 true _)) (A3 true _);rw[show G (A3 true (l.map Cl.v0))=A3 true (l.map Cl.v0)from A.nd _ _ _ _ _];exact Ak.refl _
 |agg l=>exact agg l
 |pk t l=>
  show Ak (G (pkL t (l.map (Cl.v r)))) (pkL t ((l.map K).map (Cl.v r')));rw[G_pk A];refine Ak.pk (by simp) λk _=>?_
  simp_all
 |tup l=>
  show Ak (G (Dj _)) (Dj _);rw[AaB A];refine Ak.tup (by simp) λk B=>?_
  have B:k<l.length:=by simpa using B
  simp only[gDE,List.getElem?_map,gEE B,Option.getD_some];generalize l[k]=p;obtain⟨b,m⟩:=p;cases b with
  |true=>exact agg m
  |false=>
   cases m with
   |nil=>exact Ak.dead _
   |cons y m=>exact H y
def Aao(s:St):Option Sl->Option St
 |some (.one (.rf id (a::q)))=>match Nm (s.r.getD id .dead) (a::q),Ac s.r id (a::q)with
  |some r1,.arr false t d xs=>some ⟨λi=>(s.t i).mapC (Cl.rr id (a::q) s.r.length),s.r.set id r1++[Aa.arr false t d xs]⟩
  |_,_=>some s
 |_=>some s
theorem Xa{d:Nat}{xs:List t.T}(hm:m=s.r.length)(hidr:id<s.r.length)(hcl:∀A,pre (Q.map (·.2)) A=false->(r1.at' A).len=((s.r.getD id .dead).at' A).len)(hnl:(Ac s.r id Q).len=xs.length):
  ∀y:Cl,Ak (rrV id Q m (y.v s.r)) ((y.rr id Q m).v (s.r.set id r1++[Aa.arr false t d xs])):=by
 have key:∀(id':Nat) (A:AI) (keep new:Cl) (v v':V),(id'=id/\AN Q A=true->rrV id Q m v=v')->(¬ (id'=id/\AN Q A=true)->rrV id Q m v=v)->
   (id'≠m->¬ (id'=id/\AN Q A=true)->¬ (id'=id/\pre (Q.map (·.2)) A=true)->keep.v (s.r.set id r1++[Aa.arr false t d xs])=v)->(id'=id->A=Q->new.v (s.r.set id r1++[Aa.arr false t d xs])=v')->
   Ak (rrV id Q m v) ((rrk id Q m id' A keep new).v (s.r.set id r1++[Aa.arr false t d xs])):=by
  intro id' A keep new v v' h1 h2 h3 h4;unfold rrk;cases hb:beq id' m with
  |true=>exact Ak.dead _
  |false=>
   have H:id'≠m:=λe=>by rw[e,beq_refl]at hb;cases hb
   cases W:beq id' id with
   |false=>
    have U:id'≠id:=λe=>by rw[e,beq_refl]at W;cases W
    show Ak _ (keep.v _);rw[h2 (λh=>U h.1),h3 H (λh=>U h.1) (λh=>U h.1)]
    exact Ak.refl _
   |true=>
    have e:=bqE W;cases hp:peq Q A with
    |true=>
     have eq:=(XB hp).symm;show Ak _ (new.v _);rw[h1 ⟨e,by rw[eq];exact M9 Q⟩,h4 e eq]
     exact Ak.refl _
    |false=>
     cases B:pre (Q.map (·.2)) A with
     |true=>exact Ak.dead _
     |false=>
      have n1:¬ (id'=id/\AN Q A=true):=λh=>by rw[Lw h.2]at B;cases B
      show Ak _ (keep.v _);rw[h2 n1,h3 H n1 (λh=>by rw[h.2]at B;cases B)]
      exact Ak.refl _
 intro y;cases y with
 |rf id' A=>
  refine key id' A _ _ (.rs id' A 0 (Ac s.r id' A).len) (.rs m (A.drop Q.length) 0 (Ac s.r id' A).len) (λh=>by simp only[rrV,if_pos h]) (λh=>by simp only[rrV,if_neg h]) (λH _ hnp=>?_) (λe Y=>?_)
  .show V.rs id' A 0 (Ac (s.r.set id r1++[Aa.arr false t d xs]) id' A).len=_
   congr 1
   by_cases Z:id'<s.r.length
   .have e1:Ac (s.r.set id r1++[Aa.arr false t d xs]) id' A=Ac (s.r.set id r1) id' A:=by
     unfold Ac;rw[gDE,gAL (by simpa using Z),<-gDE]
    rw[e1];by_cases he:id'=id
    .subst he
     rw[BI Z]
     exact hcl A (by cases hp:pre (Q.map (·.2)) A with
      |false=>rfl
      |true=>exact absurd ⟨rfl,hp⟩ hnp)
    .rw[Bd he]
   .unfold Ac
    rw[gDE,getElem?_eq_none (by simp;omega),gDE,getElem?_eq_none (by omega)]
  .subst e;subst Y
   show V.rs m [] 0 (Ac (s.r.set id' r1++[Aa.arr false t d xs]) m []).len=_
   have e1:Ac (s.r.set id' r1++[Aa.arr false t d xs]) m []=Aa.arr false t d xs:=by
    unfold Ac;rw[hm,gDE,gAR (by simp)]
    simp[Aa.at']
   rw[e1,hnl];simp[Aa.len]
 |rs id' A off len=>
  exact key id' A _ _ (.rs id' A off len) (.rs m (A.drop Q.length) off len) (λh=>by simp only[rrV,if_pos h]) (λh=>by simp only[rrV,if_neg h]) (λ_ _ _=>rfl) (λe Y=>by subst Y;simp[Cl.v])
 |rp id' A i k=>
  exact key id' A _ _ (.rp id' A i k) (.rp m (A.drop Q.length) i k) (λh=>by simp only[rrV,if_pos h]) (λh=>by simp only[rrV,if_neg h]) (λ_ _ _=>rfl) (λe Y=>by subst Y;simp[Cl.v])
 |rm id' A=>
  exact key id' A _ _ (.rm id' A) (.rm m (A.drop Q.length)) (λh=>by simp only[rrV,if_pos h]) (λh=>by simp only[rrV,if_neg h]) (λ_ _ _=>rfl) (λe Y=>by subst Y;simp[Cl.v])
 |dead=>exact Ak.dead _
 |nil=>exact Ak.refl (.c _)
 |nilp=>exact Ak.refl (.c _)
 |nilf=>exact Ak.refl (.c _)
 |nilm=>exact Ak.refl (.c _)
 |raw _ _=>exact Ak.refl (.c _)
 |c t d x=>
  show Ak (rrV id Q m (cV t d x)) (cV t d x);have:rrV id Q m (cV t d x)=cV t d x:=by cases t<;>first|rfl|exact(C6 _ _ _).osl|exact(C6 _ _ _).clo
  rw[this];exact Ak.refl _
def rkk(id:Nat)(q:AI)(m:Nat)(id':Nat)(A:AI)(keep:Cl):Cl:=bif beq id' m then .dead else bif beq id' id then(bif pre (q.map (·.2)) A then .dead else keep)else keep
def Cl.rk(id:Nat)(q:AI)(m:Nat):Cl->Cl
 |.rf id' A=>rkk id q m id' A (.rf id' A)
 |.rs id' A off len=>rkk id q m id' A (.rs id' A off len)
 |.rp id' A i k=>rkk id q m id' A (.rp id' A i k)
 |.rm id' A=>rkk id q m id' A (.rm id' A)
 |y=>y
theorem QT{id':Nat}{A:AI}{keep new:Cl}:rkk id q m id' A keep=.dead\/rkk id q m id' A keep=rrk id q m id' A keep new:=by
 unfold rkk rrk;cases beq id' m with
 |true=>simp
 |false=>
  cases beq id' id with
  |false=>simp
  |true=>
   cases B:pre (q.map (·.2)) A with
   |true=>simp
   |false=>
    cases H:peq q A with
    |true=>
     have:=XB H;subst this;rw[Lw (M9 q)]at B;grind
    |false=>simp
def rk_or(y:Cl):y.rk id q m=.dead\/y.rk id q m=y.rr id q m:=by
 cases y with
 |rf=>exact QT
 |rs=>exact QT
 |rp=>exact QT
 |rm=>exact QT
 |_=>exact .inr rfl
theorem rk_sub{d:Nat}{xs:List t.T}(hm:m=s.r.length)(A:id<s.r.length)(U:∀B,pre (Q.map (·.2)) B=false->(r1.at' B).len=((s.r.getD id .dead).at' B).len)(H:(Ac s.r id Q).len=xs.length)
  (y:Cl):Ak (rrV id Q m (y.v s.r)) ((y.rk id Q m).v (s.r.set id r1++[Aa.arr false t d xs])):=by
 rcases rk_or y with h|h
 .rw[h];exact Ak.dead _
 .rw[h];exact Xa hm A U H y
theorem Ak.of_dead{v:V}(h:Ak .dead v):v=.dead:=by
 rcases h with h|h
 .grind
 trivial
theorem UH{C:Ctx}{N:Nat}{a:Act}{w:World}{d:Nat}{xs:List t.T}(hx:s.ev x=some (.one (.rf id Q)))(hcut:Nm (s.r.getD id .dead) Q=some r1)(hne:Ac s.r id Q≠.dead)
  (hnv:(Ac s.r id Q).v=arr true t.w (tyV t d) t.dflt xs) (hnl:(Ac s.r id Q).len=xs.length) (hs:AA C N s.den a w) {f:Nat->Sl} (hf:∀i,Ak (rrV id Q s.r.length ((s.t i).v s.r)) ((f i).v (s.r.set id r1++[Aa.arr false t d xs]))):AA C N (⟨f,s.r.set id r1++[Aa.arr false t d xs]⟩:St).den a w:=by
 obtain⟨hdf,hdd,D,ρ,F,hcr⟩:=hs;have hr:=Bh hcr hdd x;rw[Bg hx]at hr;have hr:Rel D w (Ae s.den.σ ρ w) (.rs id Q 0 (Ac s.r id Q).len) (a.eval x) noF:=hr;obtain⟨⟨Y,sz,n,f,cn,hat,hle,hcv⟩,_⟩:=hr;obtain⟨ρ',F',H,_⟩:=CR.reroot hcr Y hat;have hidr:id<s.r.length:=by simpa [St.den]using Y
 obtain⟨hcv1,hcl⟩:=Kz hcut;have B:sub Q (s.den.σ.getD id .dead)=arr true t.w (tyV t d) t.dflt xs:=(AV hne).trans hnv;have W:s.den.σ.length=s.r.length:=by simp[St.den]
 obtain⟨m,hm⟩:∃m,m=s.r.length:=⟨_,rfl⟩;rw[<-hm]at hf;rw[W,<-hm]at H;refine⟨hdf,λx hx=>?_,D,ρ',F',?_⟩
 .have h0:(s.t x).v s.r=.dead:=hdd x hx
  have h1:=hf x;rw[h0]at h1;exact Ak.of_dead h1
 .have U:s.den.σ=s.r.map Aa.v:=rfl
  have hm':(s.r.map Aa.v).length=m:=by simp[hm]
  refine H.sub (by simp[St.den]) (λi _=>?_) (by simp) λi hi=>?_
  .show Sub _ (((s.r.set id r1++[Aa.arr false t d xs]).map Aa.v).getD i .dead)
   rw[List.map_append,List.map_set,U];by_cases hi:i<s.r.length
   .rw[Az (by simpa using hi),Az (by simpa using hi)]
    by_cases Z:id=i
    .subst Z
     rw[Ag (by simpa using hi),Ag (by simpa using hi),Ai]
     exact hcv1
    .rw[Ad Z,Ad Z];exact Sub.refl _
   .by_cases Z:i=s.r.length
    .subst Z
     have e1:∀(A:List V) (v:V),A.length=s.r.length->(A++[v]).getD s.r.length .dead=v:=by
      intro A v hA;rw[<-hA,gDE,gAR (by simp)];simp
     rw[e1 _ _ (by simp),show([Aa.arr false t d xs].map Aa.v)=[arr true t.w (tyV t d) t.dflt xs]from rfl,e1 _ _ (by simp)]
     rw[U]at B;rw[B];exact Sub.refl _
    .have e1:∀(A:List V) (v:V),A.length=s.r.length->(A++[v]).getD i .dead=.dead:=by
      intro A v hA;rw[gDE,getElem?_eq_none (by simp;omega)];rfl
     rw[e1 _ _ (by simp),show([Aa.arr false t d xs].map Aa.v)=[arr true t.w (tyV t d) t.dflt xs]from rfl,e1 _ _ (by simp)]
     exact Sub.refl _
  .have hi:i<N:=by simpa using hi
   have hk:=hf i;simpa [hi,St.den]using hk
theorem Kx(h:Aao s (s.ev x)=some s')(Y:AA C N s.den a w):AA C N s'.den a w:=by
 unfold Aao at h;split at h
 case h_2=>grind
 rename_i id b U W;split at h
 case h_2=>grind
 rename_i r1 t d xs A B;cases h;have H:id<s.r.length:=by
  rcases lt_or_ge id s.r.length with h|h
  .omega
  .unfold Ac at B
   rw[gDE,getElem?_eq_none h]at B;rw[show(none:Option Aa).getD .dead=.dead from rfl,Dt]at B;grind
 exact UH W A (by grind) (by rw[B];rfl) (by rw[B];rfl) Y λi=>Sl.mapC_v (C6 id (b::U) s.r.length) rfl (Xa rfl H (Kz A).2 (by rw[B];rfl)) (s.t i)
def cutO(s:St)(x:Operand):Option St:=match x with
 |.tmp y=>match s.t y with
  |.one (.rf id (a::q))=>match Nm (s.r.getD id .dead) (a::q),Ac s.r id (a::q)with
   |some r1,.opt false t d v=>some ⟨λi=>bif beq i y then .one (.rf s.r.length [])else(s.t i).mapC (Cl.rk id (a::q) s.r.length),s.r.set id r1++[Aa.arr false t d (getO v)]⟩
   |_,_=>Aao s (s.ev x)
  |_=>Aao s (s.ev x)
 |_=>Aao s (s.ev x)
theorem Ac1(h:cutO s x=some s')(Y:AA C N s.den a w):AA C N s'.den a w:=by
 unfold cutO at h;split at h
 case h_2=>exact Kx h Y
 rename_i y;split at h
 case h_2=>exact Kx h Y
 rename_i id b B hy;split at h
 case h_2=>exact Kx h Y
 rename_i r1 t d v A Z;cases h;have hx:s.ev (.tmp y)=some (.one (.rf id (b::B))):=by show some (s.t y)=_;rw[hy]
 have W:Ac s.r id (b::B)≠.dead:=by rw[Z];simp
 have H:id<s.r.length:=by
  rcases lt_or_ge id s.r.length with h|h
  .exact h
  .exfalso
   apply W;unfold Ac;rw[gDE,getElem?_eq_none h];exact Dt _
 obtain⟨ys,rfl⟩:∃ys,v=some ys:=by
  obtain⟨hdf,hdd,D,ρ,F,hcr⟩:=Y;have hr:=Bh hcr hdd (.tmp y);rw[Bg hx]at hr;obtain⟨⟨hid,sz,n,f,cn,hat,hle,hcv⟩,_⟩:=hr;have e:=At.sub hat;have e2:sub (b::B) (s.den.σ.getD id .dead)=Ach true t.w (tyV t d) t.dflt v:=(AV W).trans (by rw[Z];rfl)
  rw[e2]at e;cases v with
  |none=>cases e
  |some ys=>exact⟨ys,rfl⟩
 have U:(Ac s.r id (b::B)).len=ys.length:=by rw[Z];rfl
 refine UH (xs:=ys) hx A W (by rw[Z];rfl) U Y λi=>?_
 cases hi:beq i y with
 |false=>exact Sl.mapC_v (C6 id (b::B) s.r.length) rfl (rk_sub rfl H (Kz A).2 U) (s.t i)
 |true=>
  have e:=bqE hi;subst e;rw[hy];have:=Xa (xs:=ys) (d:=d) (t:=t) (m:=s.r.length) rfl H (Kz A).2 U (.rf id (b::B))
  have e1:(Cl.rf id (b::B)).rr id (b::B) s.r.length=.rf s.r.length []:=by
   have p:∀q:AI,peq q q=true:=by
    intro q
    induction q with
    |nil=>rfl
    |cons a q ih=>obtain⟨i,k⟩:=a;simp[peq,beq_refl,ih]
   show rrk id (b::B) s.r.length id (b::B) _ _=_;unfold rrk;have h0:beq id s.r.length=false:=by
    cases hb:beq id s.r.length with
    |false=>rfl
    |true=>have:=bqE hb;omega
   rw[h0,beq_refl,p];rfl
  rw[e1]at this;exact this
end sound
end Go.Ve

