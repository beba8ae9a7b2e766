/- The typed machine: append. -/
import Derived.Test.YtcpgmjbppfdjbaaDoorTj
import Derived.Test.YtcpgmjbppfdjbaaDoorTg
import Derived.Test.YtcpgmjbppfdjbaaDoorVy
namespace Go.Ve
variable{Q q:AR}{r1:Aa}{a:Act}{cts:Array Value}{h:Cg}{z:Cl}{C:Ctx}{r r':List Aa}{N d id j m:Nat}{F:Nat->Nat->Prop}{D:Nat->Prop}{ρ:Nat->Value}{x:Operand}{s s':St}{t:Ty}{w:World}
def Cl.kH(r:List Aa)(j:Nat):Cl->Cl
 | .rf id q=>bif Nat.beq id j then .c (.sl .unit) 0 (YN (Ab r id q).len ())else .rf id q
 | .rs id q off len=>bif Nat.beq id j then .c (.sl .unit) 0 (YN len ())else .rs id q off len
 |y=>y.kill j [] []
def Sl.kH(r:List Aa)(j:Nat):Sl->Sl
 | .one y=>.one (y.kH r j)
 |y=>y.kill j [] []
theorem Zj(n:Nat):V.nd true false 0 n (λ_ _=>.dead)=cV (.sl .unit) 0 (YN n ()):=by
 show V.nd true false 0 n (λ_ _=>.dead)=V.nd true false 0 (List.replicate n ()).length λi k=>([].getD k .dead)
 simp
theorem Sl.kH_v(y:Sl):Ao (hdK j (y.v r)) ((y.kH r j).v (r.set j .dead)):=by
 have g:=GOK.kill (id:=j) (P:=[])
 have hk:=Sl.kill_v (r:=r) (r':=r.set j .dead) g (λid' q hq=>by
  have hne:id'≠j:=by
   rintro rfl
   simp [hit,pre]at hq
  rw [Bg hne]) y
 have two: ∀ (id off len:Nat) (q:AR) (z:Cl),(id≠j->z.v (r.set j .dead)= .rs id q off len)->Ao (if id=j then V.nd true false 0 len (λ_ _=>.dead)else .rs id q off len) ((bif Nat.beq id j then Cl.c (.sl .unit) 0 (YN len ())else z).v (r.set j .dead)):=by
  intro id off len q z hz;by_cases h:id=j
  ·subst h
   rw [if_pos rfl,Nat.beq_refl];show Ao _ (cV (.sl .unit) 0 (YN len ()));rw [<-Zj];exact Ao.refl _
  ·rw [if_neg h,Br h]
   show Ao _ (z.v _);rw [hz h];exact Ao.refl _
 cases y with
 |one c=>
  cases c with
  |rf id q=>
   refine two id 0 (Ab r id q).len q (.rf id q) λh=>?_
   show V.rs id q 0 (Ab (r.set j .dead) id q).len=_;rw [Bg h]
  |rs id q off len=>exact two id off len q (.rs id q off len) λh=>rfl
  |c t d x=>
   have e:hdK j (cV t d x)=AK j [] (cV t d x):=by cases t<;>first|rfl|(cases x<;>rfl)
   show Ao (hdK j (cV t d x)) _;rw [e];trivial
  |_=>trivial
 |_=>trivial
def IB(j:Nat)(s:St):St:=⟨λi=>(s.t i).kH s.r j,s.r.set j .dead⟩
def Ah:List Nat->St->St
 | [],s=>s
 |j::js,s=>Ah js (IB j s)
theorem Yl(h:CR C s.den.σ ((List.range N).map s.den.t) cts w D ρ F)(hj:j<s.r.length):
  CR C (IB j s).den.σ ((List.range N).map (IB j s).den.t) cts w D ρ (λi=>if i=j then noF else F i):=by
 have h1:=h.dropH (by simpa [St.den]using hj)
 have e1:(IB j s).den.σ=s.den.σ.set j .dead:=by
  show(s.r.set j .dead).map Aa.v=(s.r.map Aa.v).set j .dead;rw [List.map_set];rfl
 refine h1.sub (by grind) (λi _=>by rw [e1];exact Sub.refl _) (by simp) λi hi=>?_
 have hi:i<N:=by grind
 have hk:=Sl.kH_v (r:=s.r) (j:=j) (s.t i);simpa [hi,St.den,IB]using hk
theorem JN:(IB j s).r.length=s.r.length:=by simp [IB]
theorem H8: ∀ (js:List Nat) (s:St),(Ah js s).r.length=s.r.length
 | [],_=>rfl
 |j::js,s=>by show(Ah js (IB j s)).r.length=_;rw [H8 js,JN]
theorem Cu{C:Ctx}{N:Nat}{cts:Array Value}{w:World}{D:Nat->Prop}{ρ:Nat->Value}: ∀ (js:List Nat) {s:St} {F:Nat->Nat->Prop},CR C s.den.σ ((List.range N).map s.den.t) cts w D ρ F->(∀j∈js,j<s.r.length)->
  ∃F',CR C (Ah js s).den.σ ((List.range N).map (Ah js s).den.t) cts w D ρ F'/\∀i b,F' i b->F i b/\i∉js
 | [],s,F,h,_=>⟨F,h,λi b hb=>⟨hb,by simp⟩⟩
 |j::js,s,F,h,hj=>by
  obtain⟨F',h1,h2⟩:=Cu js (Yl h (hj j (List.mem_cons_self ..))) (λi hi=>by rw [JN];grind)
  refine⟨F',h1,λi b hb=>?_⟩
  obtain⟨h3,h4⟩:=h2 i b hb;split at h3
  ·trivial
  grind
theorem B6{N:Nat}: ∀ (js:List Nat) {s:St},(∀x,N<=x->s.den.t x= .dead)->∀x,N<=x->(Ah js s).den.t x= .dead
 | [],s,h=>h
 |j::js,s,h=>by
  refine B6 js λx hx=>?_
  have h0:(s.t x).v s.r= .dead:=h x hx;show((s.t x).kH s.r j).v (s.r.set j .dead)= .dead;cases hy:s.t x with
  |one y=>
   rw [hy]at h0;cases y with
   |dead=>rfl
   |c t d z=>trivial
   |nil=>trivial
   |nilp=>trivial
   |nilf=>trivial
   |rf=>trivial
   |rs=>trivial
   |rp=>trivial
  |new l=>rw [hy]at h0;trivial
  |agg l=>rw [hy]at h0;trivial
  |tup l=>rw [hy]at h0;trivial
  |pk t l=>rw [hy]at h0;trivial
theorem CR.give{σ ts:List V}(h:CR C σ ts cts w D ρ F)(hj:j<σ.length){l:List V}(ho:σ.getD j .dead=A7 true l){ts':List V}(hl:ts'.length=ts.length)
  (hts: ∀i,i<ts.length->Ao (hdK j (ts.getD i .dead)) (ts'.getD i .dead)\/(ts.getD i .dead= .rp j [] 0 0/\ts'.getD i .dead=Go.Ve.frz (A7 true l))):
  CR C (σ.set j .dead) ts' cts w (λb=>D b\/F j b) ρ (λi=>if i=j then noF else F i):=by
 have h':=h.dropH hj
 have hF: ∀i b,(if i=j then noF else F i) b->F i b/\i≠j:=by
  intro i b hb;split at hb
  ·exact hb.elim
  ·exact⟨hb,by assumption⟩
 refine⟨⟨λi hi=>?_,h'.wr.disj,λi b hb=>?_,λb hb=>?_,h'.wr.out⟩,by rw [hl];exact h.sz,λt ht=>?_,h.fr,h'.Fn,λb hb=>.inl (h.D1 b hb),λb hb hlt=>?_,h.rt,by simpa using h.ml⟩
 ·exact Rel.mono (λ_ h=>.inl h) (λ_ _ h=>h) _ _ _ (λ_ _=>rfl) (h'.wr.rel i hi)
 ·obtain⟨h1,h2⟩:=hF i b hb
  exact λhd=>hd.elim (h.wr.dD i b h1) (h.wr.disj i j b h2 h1)
 ·exact hb.elim (h.wr.Dlt b) (h.wr.lt j b)
 ·have ht:t<ts.length:=by omega
  rcases hts t ht with h1|⟨h1,h2⟩
  ·have h3:=h'.tm t (by simpa using ht)
   have e1:(ts.map (hdK j)).getD t .dead=hdK j (ts.getD t .dead):=by simp [ht]
   rw [e1]at h3;exact Rel.mono (λ_ h=>.inl h) (λ_ _ h=>h) _ _ _ (λ_ _=>rfl) (Rel.subS h1 h3)
  ·have e4:=h.tm t ht
   rw [h1]at e4;obtain⟨⟨hid,s,sz,n,f,b,o,cap,ha,hi,hk,hcv⟩,_⟩:=e4;obtain⟨e1,e2⟩:=ha;rw [ho]at e1;have hs:s=false:=by injection e1
   subst hs;have hr:=Rel.frz' _ _ _ _ (h.wr.rel j hj);rw [ho,<-e2]at hr;rw [h2,hcv];have e3:As false b o n cap= .pointer (some ⟨b,o+0*sz+0,none⟩):=by simp [As]
   rw [<-e3]
   trivial
 ·rcases hb with hb|hb
  ·exact h.D2 b hb hlt
  ·exact(h.Fn j b hb).elim .inr λhge=>absurd hlt (Nat.not_lt.2 hge)
def Sl.gv(r:List Aa)(j:Nat)(z:Cl):Sl->Sl
 | .one (.rp id [] 0 0)=>bif Nat.beq id j then .one z else .one (.rp id [] 0 0)
 |y=>y.kH r j
theorem Sl.gv_v(y:Sl):Ao (hdK j (y.v r)) ((y.gv r j z).v (r.set j .dead))\/(y.v r= .rp j [] 0 0/\y.gv r j z= .one z):=by
 unfold Sl.gv;split
 ·rename_i id
  by_cases h:id=j
  ·subst h
   rw [Nat.beq_refl];exact .inr ⟨rfl,rfl⟩
  ·rw [Br h]
   refine .inl ?_;have e:hdK j (V.rp id [] 0 0)= .rp id [] 0 0:=if_neg λhc=>h hc.1
   show Ao (hdK j (V.rp id [] 0 0)) (.rp id [] 0 0);rw [e];exact Ao.refl _
 ·exact .inl (Sl.kH_v y)
def Ws(j:Nat)(s:St):Option St:=match s.r.getD j .dead with
 | .obj false l=>match DR l with
  |some ⟨t,x⟩=>some ⟨λi=>(s.t i).gv s.r j (.c (.ptr t) 0 x),s.r.set j .dead⟩
  |none=>none
 |_=>none
theorem KN(h:Ws j s=some s'): ∃ (l:List Cl) (t:Ty) (x:t.T),j<s.r.length/\s.r.getD j .dead= .obj false l/\(l.map Cl.v0).map Go.Ve.frz=tyV t 0 x/\s'=⟨λi=>(s.t i).gv s.r j (.c (.ptr t) 0 x),s.r.set j .dead⟩:=by
 unfold Ws at h;split at h
 case h_2=>grind
 rename_i l hr;split at h
 case h_2=>grind
 rename_i t x hf;cases h;refine⟨l,t,x,?_,hr,(Du _ _ hf).symm,rfl⟩
 grind
theorem Sl.gv_dead{y:Sl}(h0:y.v r= .dead):(y.gv r j z).v r'= .dead:=by
 cases y with
 |one y=>
  cases y with
  |dead=>rfl
  |c t d z=>trivial
  |nil=>trivial
  |nilp=>trivial
  |nilf=>trivial
  |rf=>trivial
  |rs=>trivial
  |rp=>trivial
 |new l=>trivial
 |agg l=>trivial
 |tup l=>trivial
 |pk t l=>trivial
theorem Ya(h:Ws j s=some s')(hs:AI C N s.den a w):AI C N s'.den a w:=by
 obtain⟨l,t,x,hj,hr,hf,rfl⟩:=KN h;obtain⟨hd,hdd,D,ρ,F,hcr⟩:=hs;refine⟨hd,λi hi=>Sl.gv_dead (hdd i hi),λb=>D b\/F j b,ρ,λi=>if i=j then noF else F i,?_⟩
 have ho:s.den.σ.getD j .dead=A7 true (l.map Cl.v0):=by
  show(s.r.map Aa.v).getD j .dead=_;simp only [gDE]at hr;rw [gDE,List.getElem?_map];rw [gEE hj]at hr⊢;have hr:s.r[j]= .obj false l:=hr;rw [hr];rfl
 have h1:=hcr.give (by simpa [St.den]using hj) ho (ts':=(List.range N).map λi=>((s.t i).gv s.r j (.c (.ptr t) 0 x)).v (s.r.set j .dead)) (by simp) λi hi=>by
  have hi:i<N:=by grind
  rw [AV hi,AV hi];rcases Sl.gv_v (s.t i)with hk|⟨hk,hz⟩
  ·exact .inl hk
  ·refine .inr ⟨hk,?_⟩
   rw [hz,L9,hf];rfl
 have e1:(s.r.set j .dead).map Aa.v=s.den.σ.set j .dead:=by
  rw [List.map_set];rfl
 show CR C ((s.r.set j .dead).map Aa.v) _ a.tmps w _ ρ _;rw [e1];exact h1
def NI:List Operand->St->Option St
 | [],s=>some s
 |x::xs,s=>match s.ev x with
  |some (.one (.rp j [] 0 0))=>match Ws j s with
   |some s'=>NI xs s'
   |none=>none
  |_=>NI xs s
theorem IR{C:Ctx}{N:Nat}{a:Act}{w:World}: ∀ (xs:List Operand) {s s':St},NI xs s=some s'->AI C N s.den a w->AI C N s'.den a w
 | [],s,s',h,hs=>by cases h;grind
 |x::xs,s,s',h,hs=>by
  unfold NI at h;split at h
  ·split at h
   case h_2=>grind
   rename_i h1;exact IR xs h (Ya h1 hs)
  ·exact IR xs h hs
structure LR where
 p:Prop
 dec:Decidable p
 js:List Nat
 y:Cl
def I6(s:St)(i:Option TI)(x y:Option Sl):Option LR:=match i with
 |none=>none
 |some i=>bif Nat.blt 0 i.bytes&&Nat.blt 0 i.ty.w then(match x with
  |some (.one .nil)=>(match UD s i.ty s.r.length y with
   |some (d,ys,js)=>some ⟨H5 ys<=NA i.bytes,inferInstance,js,.c (.sl i.ty) (d+1) ys⟩
   |none=>none)
  |some (.one (.rf id []))=>(match s.r.getD id .dead with
   | .arr false t d xs=>if h:t=i.ty then(match UD s i.ty id y with
     |some (d',ys,js)=>bif dOK i.ty d' d then some ⟨H5 xs+H5 ys<=NA i.bytes,inferInstance,id::js,.c (.sl i.ty) (d+1) (Aay (h▸xs) ys)⟩else none
     |none=>none)else none
   |_=>none)
  |_=>none)else none
section sound
variable {P:Program} {Θ:Tab}
theorem V1{C:Ctx}{y:Cl}{w':World}{v':Value}(hd:a.defers= [])(hdd: ∀x,h.n<=x->s.den.t x= .dead)(hfz:h.fz.contains d=false)(hp:s.put h (some d) (.one y)=some s')
  (hc:UK C (s.den.σ++(prom (y.v s.r) s.den.σ.length).2) (((List.range h.n).map s.den.t).set d (prom (y.v s.r) s.den.σ.length).1) (a.tmps.setIfInBounds d v') w'):AI C h.n s'.den (a.put (some d) v') w':=by
 have hdn:d<h.n:=by
  unfold St.put at hp;cases hb:Nat.blt d h.n with
  |false=>grind
  |true=>simp_all
 refine AI.put hp ?_
 have e:s.den.res h (some d) ((Sl.one y).v s.r)=⟨Az s.den.t d (prom (y.v s.r) s.den.σ.length).1,s.den.σ++(prom (y.v s.r) s.den.σ.length).2⟩:=by
  unfold Ms.res;simp only [hdn,if_true,hfz];rfl
 rw [e];refine⟨hd,λx hx=>?_,?_⟩
 ·unfold Az
  grind
 ·rw [Cn hdn]at hc
  trivial
theorem QL(hΘ:Θ.OK P){C:Ctx}{h:Cg}{s s':St}{o:Oper}{t:TypeId}{x y:Operand}{a:Act}{w:World}{A:LR}{d:Nat}{next:Act->World->Prop}{Q:Exit->Act->World->Prop}
  (ho:o.op= .call ⟨.builtin .append,#[x,y],#[t,t]⟩) (hdst:o.dst=some d) (hfz:h.fz.contains d=false) (ha:I6 s (((Θ.look t).bind (·.elem)).bind Θ.look) (s.ev x) (s.ev y)=some A) (hA:A.p) (hp:(Ah A.js s).put h (some d) (.one A.y)=some s')
  (hs:AI C h.n s.den a w) (hn: ∀a' w',AI C h.n s'.den a' w'->next a' w'):o.wp P a w next Q:=by
 obtain⟨hdf,hdd,D,ρ,F,hcr⟩:=hs
 -- the run, and what follows
 have key: ∀ (ti:TI) (e:TypeId),slI P t=some ⟨e,ti.ty.w,ti.bytes,BN ti.ty⟩->0<ti.bytes->0<ti.ty.w->∀ (xs:List ti.ty.T) (dx:Nat) (ys:List ti.ty.T) (js:List Nat) (fpx:Nat->Prop) (id:Nat),
   Rel D w noR (cV (.sl ti.ty) (dx+1) xs) (a.eval x) fpx->(∀c,fpx c->∃j∈A.js,F j c)->(∀c,fpx c->F id c)->YOK s ti.ty id y a w D F dx ys js->(∀j∈js,j∈A.js)->(∀j∈A.js,j<s.r.length)->
   xs.length+ys.length<=NA ti.bytes->A.y= .c (.sl ti.ty) (dx+1) (xs++ys)->o.wp P a w next Q:=by
  intro ti e hsl hby hw xs dx ys js fpx id hrx hfA hfid hY hjs hjl hlim hAy;obtain⟨⟨Fy,hrd,hFy,hFd⟩,hjs2⟩:=hY
  have hb:(xs.length+ys.length)*ti.bytes<=140737488355328:=by
   rw [Nat.mul_comm];exact(Nat.mul_comm _ _▸(Nat.le_div_iff_mul_le hby).1 hlim)
  have h63:xs.length+ys.length<=maxLen:=by
   have:xs.length+ys.length<=(xs.length+ys.length)*ti.bytes:=Nat.le_mul_of_pos_right _ hby;simp only [maxLen];omega
  obtain⟨v',w',fp,hrun,hos,htp,hout,hdr,hsz,hbl,hr',hfp⟩:=Rel.append (P:=P) (ty:=o.type) (f:=λi k=>(tyV ti.ty dx (xs.getD i ti.ty.dflt)).getD k .dead) hsl hw hrx (λb hb h=>by obtain⟨j,_,hj⟩:=hfA b h;exact hcr.wr.dD j b hj hb) hcr.wr.Dlt hrd
   (λi k c hi hk hF=>by
    obtain⟨j,hj,hFj⟩:=hFy i k c hi hk hF;refine⟨hcr.wr.dD j c hFj,λhx=>?_⟩
    exact hcr.wr.disj j id c (hjs2 j hj).2 hFj (hfid c hx)) hFd h63 hb
  obtain⟨F',hcr',hF'⟩:=Cu A.js hcr hjl
  have hr2:Rel D w' noR (A.y.v (Ah A.js s).r) v' fp:=by
   rw [hAy];exact Rel.sub (Mg rfl rfl (λ_ _ _=>rfl) (λ_ _ _=>rfl)) hr'
  have hfpG: ∀b,fp b->(∃j∈A.js,F j b)\/w.heap.size<=b:=by
   intro b hb;rcases hfp b hb with h1|⟨i,k,hi,hk,h1⟩|h1
   ·exact .inl (hfA b h1)
   ·obtain⟨j,hj,hFj⟩:=hFy i k b hi hk h1
    exact .inl ⟨j,hjs j hj,hFj⟩
   ·exact .inr h1
  have hc:=CR.own hcr' (G:=λb=>∃j∈A.js,F j b) (D':=D) (λi b hb ⟨j,hj,hFj⟩=>by
    obtain⟨h1,h2⟩:=hF' i b hb;exact hcr.wr.disj i j b (λe=>h2 (e▸hj)) h1 hFj) (λb hb ⟨j,_,hFj⟩=>hcr.wr.dD j b hFj hb) (λb ⟨j,_,hFj⟩=>hcr.Fn j b hFj) hos htp hout hdr hsz (λc hc hG=>hbl c hc λh=>hG (hfA c h)) hr2 hfpG
   (λ_ h=>h) (λ_ h=>.inl h) (λb hb=>⟨Nat.lt_of_lt_of_le (hcr.wr.Dlt b hb) hsz,λh=>by
    rcases hfpG b h with⟨j,_,hFj⟩|h2
    ·exact hcr.wr.dD j b hFj hb
    ·have:=hcr.wr.Dlt b hb;omega⟩) d
  have hs':=V1 (h:=h) hdf (B6 A.js hdd) hfz hp hc;unfold Oper.wp execOp;simp only [ho,resolve,invoke,builtin,Sem.run_bind,Sem.run_pure,Result.andThen_ok,List.map_toArray,List.map_cons,List.map_nil,hrun,hdst];show next (a.put o.dst v') w'
  rw [hdst];exact hn _ _ hs'
 unfold I6 at ha;split at ha
 ·cases ha
 rename_i ti hti;obtain⟨e,hsl,_⟩:=CV hΘ hti;obtain⟨hb,ha⟩:=A1 ha;simp only [bAE]at hb;have hby:=Kf hb.1;have hw:=Kf hb.2;have hrx:=BB hcr hdd x;split at ha
 case h_3=>cases ha
 ·rename_i hx
  rw [AZ hx]at hrx;split at ha
  case h_2=>cases ha
  rename_i d' ys js hy;cases ha;have hY:=Ic hcr hdd hy;refine key ti e hsl hby hw [] d' ys js noF s.r.length ?_ (λ_ h=>h.elim) (λ_ h=>h.elim) hY (λ_ h=>h) (λj hj=>(hY.js j hj).1) (by simpa [H5]using hA) (by simp)
  exact .inl ⟨rfl,rfl,.inl hrx.1,λ_ h=>h⟩
 ·rename_i id hx
  rw [AZ hx]at hrx;split at ha
  case h_2=>cases ha
  rename_i t' dx xs hr;split at ha
  case isFalse=>cases ha
  rename_i ht;subst ht;split at ha
  case h_2=>cases ha
  rename_i d' ys js hy;obtain⟨hdk,ha⟩:=A1 ha;cases ha;have hY:=Ic hcr hdd hy
  have hlen:(Ab s.r id []).len=xs.length:=by
   show(s.r.getD id .dead).len=_;rw [hr];rfl
  have hrx:Rel D w (Ag s.den.σ ρ w) (.rs id [] 0 (Ab s.r id []).len) (a.eval x) noF:=hrx;rw [hlen]at hrx
  have hσ:s.den.σ.getD id .dead= .nd true true ti.ty.w xs.length (λi k=>(tyV ti.ty dx (xs.getD i ti.ty.dflt)).getD k .dead):=by
   show(s.r.map Aa.v).getD id .dead=_;rw [An,hr];rfl
  obtain⟨_,hrr⟩:=Pt hcr.wr hσ hrx.1;have hid:id<s.r.length:=by simpa [St.den]using hrx.1.1
  refine key ti e hsl hby hw xs dx ys js (F id) id hrr (λc hc=>⟨id,by simp,hc⟩) (λ_ h=>h) ?_ (λj hj=>mCM _ hj) (λj hj=>?_) hA rfl
  ·have ee:tyV ti.ty d'=tyV ti.ty dx:=funext λz=>CJ _ _ _ z (JP hdk)
   obtain⟨⟨Fy,h1,h2⟩,h3⟩:=hY;rw [ee]at h1;exact⟨⟨Fy,h1,h2⟩,h3⟩
  ·rcases List.mem_cons.1 hj with rfl|hj
   ·exact hid
   ·exact(hY.js j hj).1
def peq:AR->AR->Bool
 | [],[]=>true
 |(i,k)::p,(j,l)::q=>Nat.beq i j&&Nat.beq k l&&peq p q
 |_,_=>false
theorem VV: ∀ {p q:AR},peq p q=true->p=q
 | [],[],_=>rfl
 |(i,k)::p,(j,l)::q,h=>by
  simp only [peq,bAE]at h;rw [bqE h.1.1,bqE h.1.2,VV h.2]
 | [],_::_,h=>by cases h
 |_::_,[],h=>by cases h
theorem L5: ∀q:AR,AW q q=true
 | []=>rfl
 |(i,k)::q=>by simp [AW,L5 q]
def rrk(id:Nat)(q:AR)(m:Nat)(id':Nat)(q':AR)(keep new:Cl):Cl:=bif Nat.beq id' m then .dead else bif Nat.beq id' id then(bif peq q q' then new else bif pre (q.map (·.2)) q' then .dead else keep)else keep
def Cl.rr(id:Nat)(q:AR)(m:Nat):Cl->Cl
 | .rf id' q'=>rrk id q m id' q' (.rf id' q') (.rf m [])
 | .rs id' q' off len=>rrk id q m id' q' (.rs id' q' off len) (.rs m [] off len)
 | .rp id' q' i k=>rrk id q m id' q' (.rp id' q' i k) (.rp m [] i k)
 |y=>y
def Sl.mapC(K:Cl->Cl):Sl->Sl
 | .one y=>.one (K y)
 | .new l=>.new l
 | .agg l=>.agg (l.map K)
 | .pk t l=>.pk t (l.map K)
 | .tup l=>.tup (l.map λp=>(p.1,p.2.map K))
theorem Sl.mapC_v{G:V->V}{K:Cl->Cl}(hG:A2 G)(hd:K .dead= .dead)(hK: ∀y:Cl,Ao (G (y.v r)) ((K y).v r'))(y:Sl):Ao (G (y.v r)) ((y.mapC K).v r'):=by
 have agg: ∀l:List Cl,Ao (G (Ac (l.map (Cl.v r)))) (Ac ((l.map K).map (Cl.v r'))):=by
  intro l;rw [G_mk hG];refine Ao.mk (by simp) λk _=>?_
  simp_all
 cases y with
 |one c=>exact hK c
 |new l=>show Ao (G (A7 true _)) (A7 true _);rw [show G (A7 true (l.map Cl.v0))=A7 true (l.map Cl.v0)from hG.nd _ _ _ _ _];exact Ao.refl _
 |agg l=>exact agg l
 |pk t l=>
  show Ao (G (pkL t (l.map (Cl.v r)))) (pkL t ((l.map K).map (Cl.v r')));rw [G_pk hG];refine Ao.pk (by simp) λk _=>?_
  simp_all
 |tup l=>
  show Ao (G (C8 _)) (C8 _);rw [AaD hG];refine Ao.tup (by simp) λk hk=>?_
  have hk:k<l.length:=by simpa using hk
  simp only [gDE,List.getElem?_map,gEE hk,Option.getD_some];generalize l[k]=p;obtain⟨b,m⟩:=p;cases b with
  |true=>exact agg m
  |false=>
   cases m with
   |nil=>exact Ao.dead _
   |cons y m=>exact hK y
def Y4(s:St):Option Sl->Option St
 |some (.one (.rf id (a::q)))=>match Me (s.r.getD id .dead) (a::q),Ab s.r id (a::q)with
  |some r1,.arr false t d xs=>some ⟨λi=>(s.t i).mapC (Cl.rr id (a::q) s.r.length),s.r.set id r1++ [Aa.arr false t d xs]⟩
  |_,_=>some s
 |_=>some s
theorem Vw{d:Nat}{xs:List t.T}(hm:m=s.r.length)(hidr:id<s.r.length)(hcl: ∀q',pre (Q.map (·.2)) q'=false->(r1.at' q').len=((s.r.getD id .dead).at' q').len)(hnl:(Ab s.r id Q).len=xs.length):
  ∀y:Cl,Ao (rrV id Q m (y.v s.r)) ((y.rr id Q m).v (s.r.set id r1++ [Aa.arr false t d xs])):=by
 have key: ∀ (id':Nat) (q':AR) (keep new:Cl) (v v':V),(id'=id/\AW Q q'=true->rrV id Q m v=v')->(¬ (id'=id/\AW Q q'=true)->rrV id Q m v=v)->
   (id'≠m->¬ (id'=id/\AW Q q'=true)->¬ (id'=id/\pre (Q.map (·.2)) q'=true)->keep.v (s.r.set id r1++ [Aa.arr false t d xs])=v)->(id'=id->q'=Q->new.v (s.r.set id r1++ [Aa.arr false t d xs])=v')->
   Ao (rrV id Q m v) ((rrk id Q m id' q' keep new).v (s.r.set id r1++ [Aa.arr false t d xs])):=by
  intro id' q' keep new v v' h1 h2 h3 h4;unfold rrk;cases hb:Nat.beq id' m with
  |true=>exact Ao.dead _
  |false=>
   have hnm:id'≠m:=λe=>by rw [e,Nat.beq_refl]at hb;cases hb
   cases hb2:Nat.beq id' id with
   |false=>
    have hni:id'≠id:=λe=>by rw [e,Nat.beq_refl]at hb2;cases hb2
    show Ao _ (keep.v _);rw [h2 (λh=>hni h.1),h3 hnm (λh=>hni h.1) (λh=>hni h.1)]
    exact Ao.refl _
   |true=>
    have e:=bqE hb2;cases hp:peq Q q' with
    |true=>
     have eq:=(VV hp).symm;show Ao _ (new.v _);rw [h1 ⟨e,by rw [eq];exact L5 Q⟩,h4 e eq]
     exact Ao.refl _
    |false=>
     cases hpr:pre (Q.map (·.2)) q' with
     |true=>exact Ao.dead _
     |false=>
      have n1: ¬ (id'=id/\AW Q q'=true):=λh=>by rw [KB h.2]at hpr;cases hpr
      show Ao _ (keep.v _);rw [h2 n1,h3 hnm n1 (λh=>by rw [h.2]at hpr;cases hpr)]
      exact Ao.refl _
 intro y;cases y with
 |rf id' q'=>
  refine key id' q' _ _ (.rs id' q' 0 (Ab s.r id' q').len) (.rs m (q'.drop Q.length) 0 (Ab s.r id' q').len) (λh=>by simp only [rrV,if_pos h]) (λh=>by simp only [rrV,if_neg h]) (λhnm _ hnp=>?_) (λe e2=>?_)
  ·show V.rs id' q' 0 (Ab (s.r.set id r1++ [Aa.arr false t d xs]) id' q').len=_
   congr 1
   by_cases hlt:id'<s.r.length
   ·have e1:Ab (s.r.set id r1++ [Aa.arr false t d xs]) id' q'=Ab (s.r.set id r1) id' q':=by
     unfold Ab;rw [gDE,gAL (by simpa using hlt),<-gDE]
    rw [e1];by_cases he:id'=id
    ·subst he
     rw [BA hlt]
     exact hcl q' (by cases hp:pre (Q.map (·.2)) q' with
      |false=>rfl
      |true=>exact absurd ⟨rfl,hp⟩ hnp)
    ·rw [Bg he]
   ·unfold Ab
    rw [gDE,List.getElem?_eq_none (by simp;omega),gDE,List.getElem?_eq_none (by omega)]
  ·subst e;subst e2
   show V.rs m [] 0 (Ab (s.r.set id' r1++ [Aa.arr false t d xs]) m []).len=_
   have e1:Ab (s.r.set id' r1++ [Aa.arr false t d xs]) m []=Aa.arr false t d xs:=by
    unfold Ab;rw [hm,gDE,gAR (by simp)]
    simp [Aa.at']
   rw [e1,hnl];simp [Aa.len]
 |rs id' q' off len=>
  exact key id' q' _ _ (.rs id' q' off len) (.rs m (q'.drop Q.length) off len) (λh=>by simp only [rrV,if_pos h]) (λh=>by simp only [rrV,if_neg h]) (λ_ _ _=>rfl) (λe e2=>by subst e2;simp [Cl.v])
 |rp id' q' i k=>
  exact key id' q' _ _ (.rp id' q' i k) (.rp m (q'.drop Q.length) i k) (λh=>by simp only [rrV,if_pos h]) (λh=>by simp only [rrV,if_neg h]) (λ_ _ _=>rfl) (λe e2=>by subst e2;simp [Cl.v])
 |dead=>exact Ao.dead _
 |nil=>exact Ao.refl (.c _)
 |nilp=>exact Ao.refl (.c _)
 |nilf=>exact Ao.refl (.c _)
 |c t d x=>
  show Ao (rrV id Q m (cV t d x)) (cV t d x);have:rrV id Q m (cV t d x)=cV t d x:=by cases t<;>first|rfl|exact(CL _ _ _).osl|exact(CL _ _ _).clo
  rw [this];exact Ao.refl _
def rkk(id:Nat)(q:AR)(m:Nat)(id':Nat)(q':AR)(keep:Cl):Cl:=bif Nat.beq id' m then .dead else bif Nat.beq id' id then(bif pre (q.map (·.2)) q' then .dead else keep)else keep
def Cl.rk(id:Nat)(q:AR)(m:Nat):Cl->Cl
 | .rf id' q'=>rkk id q m id' q' (.rf id' q')
 | .rs id' q' off len=>rkk id q m id' q' (.rs id' q' off len)
 | .rp id' q' i k=>rkk id q m id' q' (.rp id' q' i k)
 |y=>y
theorem Vx{id':Nat}{q':AR}{keep new:Cl}:rkk id q m id' q' keep= .dead\/rkk id q m id' q' keep=rrk id q m id' q' keep new:=by
 unfold rkk rrk;cases Nat.beq id' m with
 |true=>simp
 |false=>
  cases Nat.beq id' id with
  |false=>simp
  |true=>
   cases hp:pre (q.map (·.2)) q' with
   |true=>simp
   |false=>
    cases he:peq q q' with
    |true=>
     have:=VV he;subst this;rw [KB (L5 q)]at hp;grind
    |false=>simp
theorem rk_or(y:Cl):y.rk id q m= .dead\/y.rk id q m=y.rr id q m:=by
 cases y with
 |rf=>exact Vx
 |rs=>exact Vx
 |rp=>exact Vx
 |_=>exact .inr rfl
theorem rk_sub{d:Nat}{xs:List t.T}(hm:m=s.r.length)(hidr:id<s.r.length)(hcl: ∀q',pre (Q.map (·.2)) q'=false->(r1.at' q').len=((s.r.getD id .dead).at' q').len)(hnl:(Ab s.r id Q).len=xs.length)
  (y:Cl):Ao (rrV id Q m (y.v s.r)) ((y.rk id Q m).v (s.r.set id r1++ [Aa.arr false t d xs])):=by
 rcases rk_or y with h|h
 ·rw [h];exact Ao.dead _
 ·rw [h];exact Vw hm hidr hcl hnl y
theorem Ao.of_dead{v:V}(h:Ao .dead v):v= .dead:=by
 rcases h with h|h
 ·grind
 trivial
theorem Qd{C:Ctx}{N:Nat}{a:Act}{w:World}{d:Nat}{xs:List t.T}(hx:s.ev x=some (.one (.rf id Q)))(hcut:Me (s.r.getD id .dead) Q=some r1)(hne:Ab s.r id Q≠.dead)
  (hnv:(Ab s.r id Q).v=arr true t.w (tyV t d) t.dflt xs) (hnl:(Ab s.r id Q).len=xs.length) (hs:AI C N s.den a w) {f:Nat->Sl} (hf: ∀i,Ao (rrV id Q s.r.length ((s.t i).v s.r)) ((f i).v (s.r.set id r1++ [Aa.arr false t d xs]))):AI C N (⟨f,s.r.set id r1++ [Aa.arr false t d xs]⟩:St).den a w:=by
 obtain⟨hdf,hdd,D,ρ,F,hcr⟩:=hs;have hr:=BB hcr hdd x;rw [AZ hx]at hr;have hr:Rel D w (Ag s.den.σ ρ w) (.rs id Q 0 (Ab s.r id Q).len) (a.eval x) noF:=hr;obtain⟨⟨hid,sz,n,f,cn,hat,hle,hcv⟩,_⟩:=hr;obtain⟨ρ',F',hcr',_⟩:=CR.reroot hcr hid hat;have hidr:id<s.r.length:=by simpa [St.den]using hid
 obtain⟨hcv1,hcl⟩:=JR hcut;have hnode:sub Q (s.den.σ.getD id .dead)=arr true t.w (tyV t d) t.dflt xs:=(AP hne).trans hnv;have hlσ:s.den.σ.length=s.r.length:=by simp [St.den]
 obtain⟨m,hm⟩: ∃m,m=s.r.length:=⟨_,rfl⟩;rw [<-hm]at hf;rw [hlσ,<-hm]at hcr';refine⟨hdf,λx hx=>?_,D,ρ',F',?_⟩
 ·have h0:(s.t x).v s.r= .dead:=hdd x hx
  have h1:=hf x;rw [h0]at h1;exact Ao.of_dead h1
 ·have hσ:s.den.σ=s.r.map Aa.v:=rfl
  have hm':(s.r.map Aa.v).length=m:=by simp [hm]
  refine hcr'.sub (by simp [St.den]) (λi _=>?_) (by simp) λi hi=>?_
  ·show Sub _ (((s.r.set id r1++ [Aa.arr false t d xs]).map Aa.v).getD i .dead)
   rw [List.map_append,List.map_set,hσ];by_cases hi:i<s.r.length
   ·rw [Aw (by simpa using hi),Aw (by simpa using hi)]
    by_cases he:id=i
    ·subst he
     rw [Af (by simpa using hi),Af (by simpa using hi),An]
     exact hcv1
    ·rw [Ad he,Ad he];exact Sub.refl _
   ·by_cases he:i=s.r.length
    ·subst he
     have e1: ∀ (A:List V) (v:V),A.length=s.r.length->(A++ [v]).getD s.r.length .dead=v:=by
      intro A v hA;rw [<-hA,gDE,gAR (by simp)];simp
     rw [e1 _ _ (by simp),show([Aa.arr false t d xs].map Aa.v)= [arr true t.w (tyV t d) t.dflt xs]from rfl,e1 _ _ (by simp)]
     rw [hσ]at hnode;rw [hnode];exact Sub.refl _
    ·have e1: ∀ (A:List V) (v:V),A.length=s.r.length->(A++ [v]).getD i .dead= .dead:=by
      intro A v hA;rw [gDE,List.getElem?_eq_none (by simp;omega)];rfl
     rw [e1 _ _ (by simp),show([Aa.arr false t d xs].map Aa.v)= [arr true t.w (tyV t d) t.dflt xs]from rfl,e1 _ _ (by simp)]
     exact Sub.refl _
  ·have hi:i<N:=by simpa using hi
   have hk:=hf i;simpa [hi,St.den]using hk
theorem Mb(h:Y4 s (s.ev x)=some s')(hs:AI C N s.den a w):AI C N s'.den a w:=by
 unfold Y4 at h;split at h
 case h_2=>grind
 rename_i id b q1 hx;split at h
 case h_2=>grind
 rename_i r1 t d xs hcut hn;cases h;have hidr:id<s.r.length:=by
  rcases Nat.lt_or_ge id s.r.length with h|h
  ·omega
  ·unfold Ab at hn
   rw [gDE,List.getElem?_eq_none h]at hn;rw [show(none:Option Aa).getD .dead= .dead from rfl,Dv]at hn;grind
 exact Qd hx hcut (by grind) (by rw [hn];rfl) (by rw [hn];rfl) hs λi=>Sl.mapC_v (CL id (b::q1) s.r.length) rfl (Vw rfl hidr (JR hcut).2 (by rw [hn];rfl)) (s.t i)
def cutO(s:St)(x:Operand):Option St:=match x with
 | .tmp y=>match s.t y with
  | .one (.rf id (a::q))=>match Me (s.r.getD id .dead) (a::q),Ab s.r id (a::q)with
   |some r1,.opt false t d v=>some ⟨λi=>bif Nat.beq i y then .one (.rf s.r.length [])else(s.t i).mapC (Cl.rk id (a::q) s.r.length),s.r.set id r1++ [Aa.arr false t d (getO v)]⟩
   |_,_=>Y4 s (s.ev x)
  |_=>Y4 s (s.ev x)
 |_=>Y4 s (s.ev x)
theorem Aaw(h:cutO s x=some s')(hs:AI C N s.den a w):AI C N s'.den a w:=by
 unfold cutO at h;split at h
 case h_2=>exact Mb h hs
 rename_i y;split at h
 case h_2=>exact Mb h hs
 rename_i id b q1 hy;split at h
 case h_2=>exact Mb h hs
 rename_i r1 t d v hcut hn;cases h;have hx:s.ev (.tmp y)=some (.one (.rf id (b::q1))):=by show some (s.t y)=_;rw [hy]
 have hne:Ab s.r id (b::q1)≠.dead:=by rw [hn];simp
 have hidr:id<s.r.length:=by
  rcases Nat.lt_or_ge id s.r.length with h|h
  ·exact h
  ·exfalso
   apply hne;unfold Ab;rw [gDE,List.getElem?_eq_none h];exact Dv _
 obtain⟨ys,rfl⟩: ∃ys,v=some ys:=by
  obtain⟨hdf,hdd,D,ρ,F,hcr⟩:=hs;have hr:=BB hcr hdd (.tmp y);rw [AZ hx]at hr;obtain⟨⟨hid,sz,n,f,cn,hat,hle,hcv⟩,_⟩:=hr;have e:=At.sub hat;have e2:sub (b::q1) (s.den.σ.getD id .dead)=ZV true t.w (tyV t d) t.dflt v:=(AP hne).trans (by rw [hn];rfl)
  rw [e2]at e;cases v with
  |none=>cases e
  |some ys=>exact⟨ys,rfl⟩
 have hnl:(Ab s.r id (b::q1)).len=ys.length:=by rw [hn];rfl
 refine Qd (xs:=ys) hx hcut hne (by rw [hn];rfl) hnl hs λi=>?_
 cases hi:Nat.beq i y with
 |false=>exact Sl.mapC_v (CL id (b::q1) s.r.length) rfl (rk_sub rfl hidr (JR hcut).2 hnl) (s.t i)
 |true=>
  have e:=bqE hi;subst e;rw [hy];have:=Vw (xs:=ys) (d:=d) (t:=t) (m:=s.r.length) rfl hidr (JR hcut).2 hnl (.rf id (b::q1))
  have e1:(Cl.rf id (b::q1)).rr id (b::q1) s.r.length= .rf s.r.length []:=by
   have p: ∀q:AR,peq q q=true:=by
    intro q
    induction q with
    |nil=>rfl
    |cons a q ih=>obtain⟨i,k⟩:=a;simp [peq,Nat.beq_refl,ih]
   show rrk id (b::q1) s.r.length id (b::q1) _ _=_;unfold rrk;have h0:Nat.beq id s.r.length=false:=by
    cases hb:Nat.beq id s.r.length with
    |false=>rfl
    |true=>have:=bqE hb;omega
   rw [h0,Nat.beq_refl,p];rfl
  rw [e1]at this;exact this
end sound
end Go.Ve

