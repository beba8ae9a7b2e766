/- The typed machine: append. -/
import Derived.Test.YtpaekmpjbalnfabTj
import Derived.Test.YtpaekmpjbalnfabTg
import Derived.Test.YtpaekmpjbalnfabVy
namespace Go.Ve
def Cl.kH(r:List Ae)(j:Nat):Cl->Cl
 | .rf id q=>bif Nat.beq id j then .c (.sl .unit) 0 (YP (Ag r id q).len ())else .rf id q
 | .rs id q off len=>bif Nat.beq id j then .c (.sl .unit) 0 (YP len ())else .rs id q off len
 |y=>y.kill j [] []
def Sl.kH(r:List Ae)(j:Nat):Sl->Sl
 | .one y=>.one (y.kH r j)
 |y=>y.kill j [] []
theorem Zn(n:Nat):V.nd true false 0 n (fun _ _=>.dead)=cV (.sl .unit) 0 (YP n ()):=by
 show V.nd true false 0 n (fun _ _=>.dead)=V.nd true false 0 (List.replicate n ()).length fun i k=>(([]:List V).getD k .dead)
 rw [List.length_replicate]
 congr 1
theorem Sl.kH_v{r:List Ae}{j:Nat}(y:Sl):Ay (hdK j (y.v r)) ((y.kH r j).v (r.set j .dead)):=by
 have g:GOK (A9 j []) j [] []:=GOK.kill (id:=j) (P:=[])
 have hk:=Sl.kill_v (r:=r) (r':=r.set j .dead) g (fun id' q hq=>by
  have hne:id'≠j:=by
   rintro rfl
   simp [hit,pre]at hq
  rw [BF hne]) y
 have two: ∀ (id off len:Nat) (q:A1) (z:Cl),(id≠j->z.v (r.set j .dead)= .rs id q off len)->Ay (if id=j then V.nd true false 0 len (fun _ _=>.dead)else .rs id q off len) ((bif Nat.beq id j then Cl.c (.sl .unit) 0 (YP len ())else z).v (r.set j .dead)):=by
  intro id off len q z hz;by_cases h:id=j
  ·subst h
   rw [if_pos rfl,Nat.beq_refl];show Ay _ (cV (.sl .unit) 0 (YP len ()));rw [<-Zn];exact Ay.refl _
  ·rw [if_neg h,BB h]
   show Ay _ (z.v _);rw [hz h];exact Ay.refl _
 cases y with
 |one c=>
  cases c with
  |rf id q=>
   refine two id 0 (Ag r id q).len q (.rf id q) fun h=>?_
   show V.rs id q 0 (Ag (r.set j .dead) id q).len=_;rw [BF h]
  |rs id q off len=>exact two id off len q (.rs id q off len) fun h=>rfl
  |c t d x=>
   have e:hdK j (cV t d x)=A9 j [] (cV t d x):=by cases t<;>first|rfl|(cases x<;>rfl)
   show Ay (hdK j (cV t d x)) _;rw [e];exact hk
  |_=>exact hk
 |_=>exact hk
def IV(j:Nat)(s:St):St:=⟨fun i=>(s.t i).kH s.r j,s.r.set j .dead⟩
def BA:List Nat->St->St
 | [],s=>s
 |j::js,s=>BA js (IV j s)
theorem Ql{C:Ctx}{N:Nat}{s:St}{cts:Array Value}{w:World}{D:Nat->Prop}{ρ:Nat->Value}{F:Nat->Nat->Prop}(h:CR C s.den.σ ((List.range N).map s.den.t) cts w D ρ F){j:Nat}(hj:j<s.r.length):
  CR C (IV j s).den.σ ((List.range N).map (IV j s).den.t) cts w D ρ (fun i=>if i=j then noF else F i):=by
 have h1:=h.dropH (j:=j) (by simpa [St.den]using hj)
 have e1:(IV j s).den.σ=s.den.σ.set j .dead:=by
  show(s.r.set j .dead).map Ae.v=(s.r.map Ae.v).set j .dead;rw [List.map_set];rfl
 refine h1.sub (by rw [e1]) (fun i _=>by rw [e1];exact Sub.refl _) (by simp) fun i hi=>?_
 have hi:i<N:=by simpa using hi
 have hk:=Sl.kH_v (r:=s.r) (j:=j) (s.t i);simpa [hi,St.den,IV]using hk
theorem N1{j:Nat}{s:St}:(IV j s).r.length=s.r.length:=by simp [IV]
theorem HZ{C:Ctx}{N:Nat}{cts:Array Value}{w:World}{D:Nat->Prop}{ρ:Nat->Value}: ∀ (js:List Nat) {s:St} {F:Nat->Nat->Prop},CR C s.den.σ ((List.range N).map s.den.t) cts w D ρ F->(∀j∈js,j<s.r.length)->
  ∃F',CR C (BA js s).den.σ ((List.range N).map (BA js s).den.t) cts w D ρ F'/\∀i b,F' i b->F i b/\i∉js
 | [],s,F,h,_=>⟨F,h,fun i b hb=>⟨hb,by simp⟩⟩
 |j::js,s,F,h,hj=>by
  obtain⟨F',h1,h2⟩:=HZ js (Ql h (hj j (List.mem_cons_self ..))) (fun i hi=>by rw [N1];exact hj i (mCM _ hi))
  refine⟨F',h1,fun i b hb=>?_⟩
  obtain⟨h3,h4⟩:=h2 i b hb;split at h3
  ·exact h3.elim
  ·exact⟨h3,by simp;exact⟨by assumption,h4⟩⟩
theorem Dc{N:Nat}: ∀ (js:List Nat) {s:St},(∀x,N<=x->s.den.t x= .dead)->∀x,N<=x->(BA js s).den.t x= .dead
 | [],s,h=>h
 |j::js,s,h=>by
  refine Dc js fun x hx=>?_
  have h0:(s.t x).v s.r= .dead:=h x hx;show((s.t x).kH s.r j).v (s.r.set j .dead)= .dead;cases hy:s.t x with
  |one y=>
   rw [hy]at h0;cases y with
   |dead=>rfl
   |c t d z=>exact h0
   |nil=>cases h0
   |nilp=>cases h0
   |nilf=>cases h0
   |rf=>cases h0
   |rs=>cases h0
   |rp=>cases h0
  |new l=>rw [hy]at h0;cases h0
  |agg l=>rw [hy]at h0;cases h0
  |tup l=>rw [hy]at h0;cases h0
  |pk t l=>rw [hy]at h0;cases h0
theorem CR.give{C:Ctx}{σ ts:List V}{cts:Array Value}{w:World}{D:Nat->Prop}{ρ:Nat->Value}{F:Nat->Nat->Prop}(h:CR C σ ts cts w D ρ F){j:Nat}(hj:j<σ.length){l:List V}(ho:σ.getD j .dead=Bk true l){ts':List V}(hl:ts'.length=ts.length)
  (hts: ∀i,i<ts.length->Ay (hdK j (ts.getD i .dead)) (ts'.getD i .dead)\/(ts.getD i .dead= .rp j [] 0 0/\ts'.getD i .dead=Go.Ve.frz (Bk true l))):
  CR C (σ.set j .dead) ts' cts w (fun b=>D b\/F j b) ρ (fun i=>if i=j then noF else F i):=by
 have h':=h.dropH hj
 have hF: ∀i b,(if i=j then noF else F i) b->F i b/\i≠j:=by
  intro i b hb;split at hb
  ·exact hb.elim
  ·exact⟨hb,by assumption⟩
 refine⟨⟨fun i hi=>?_,h'.wr.disj,fun i b hb=>?_,fun b hb=>?_,h'.wr.out⟩,by rw [hl];exact h.sz,fun t ht=>?_,h.fr,h'.Fn,fun b hb=>.inl (h.D1 b hb),fun b hb hlt=>?_,h.rt,by simpa using h.ml⟩
 ·exact Rel.mono (fun _ h=>.inl h) (fun _ _ h=>h) _ _ _ (fun _ _=>rfl) (h'.wr.rel i hi)
 ·obtain⟨h1,h2⟩:=hF i b hb
  exact fun hd=>hd.elim (h.wr.dD i b h1) (h.wr.disj i j b h2 h1)
 ·exact hb.elim (h.wr.Dlt b) (h.wr.lt j b)
 ·have ht:t<ts.length:=by omega
  rcases hts t ht with h1|⟨h1,h2⟩
  ·have h3:=h'.tm t (by simpa using ht)
   have e1:(ts.map (hdK j)).getD t .dead=hdK j (ts.getD t .dead):=by simp [ht]
   rw [e1]at h3;exact Rel.mono (fun _ h=>.inl h) (fun _ _ h=>h) _ _ _ (fun _ _=>rfl) (Rel.subS h1 h3)
  ·have e4:=h.tm t ht
   rw [h1]at e4;obtain⟨⟨hid,s,sz,n,f,b,o,cap,ha,hi,hk,hcv⟩,_⟩:=e4;obtain⟨e1,e2⟩:=ha;rw [ho]at e1;have hs:s=false:=by injection e1
   subst hs;have hr:=Rel.frz' _ _ _ _ (h.wr.rel j hj);rw [ho,<-e2]at hr;rw [h2,hcv];have e3:AD false b o n cap= .pointer (some ⟨b,o+0*sz+0,none⟩):=by simp [AD]
   rw [<-e3];exact Rel.mono (fun _ h=>h) (fun _ _ h=>h.elim) _ _ _ (fun _ _=>rfl) hr
 ·rcases hb with hb|hb
  ·exact h.D2 b hb hlt
  ·exact(h.Fn j b hb).elim .inr fun hge=>absurd hlt (Nat.not_lt.2 hge)
def Sl.gv(r:List Ae)(j:Nat)(z:Cl):Sl->Sl
 | .one (.rp id [] 0 0)=>bif Nat.beq id j then .one z else .one (.rp id [] 0 0)
 |y=>y.kH r j
theorem Sl.gv_v{r:List Ae}{j:Nat}{z:Cl}(y:Sl):Ay (hdK j (y.v r)) ((y.gv r j z).v (r.set j .dead))\/(y.v r= .rp j [] 0 0/\y.gv r j z= .one z):=by
 unfold Sl.gv;split
 ·rename_i id
  by_cases h:id=j
  ·subst h
   rw [Nat.beq_refl];exact .inr ⟨rfl,rfl⟩
  ·rw [BB h]
   refine .inl ?_;have e:hdK j (V.rp id [] 0 0)= .rp id [] 0 0:=if_neg fun hc=>h hc.1
   show Ay (hdK j (V.rp id [] 0 0)) (.rp id [] 0 0);rw [e];exact Ay.refl _
 ·exact .inl (Sl.kH_v y)
def Wz(j:Nat)(s:St):Option St:=match s.r.getD j .dead with
 | .obj false l=>match Iw l with
  |some ⟨t,x⟩=>some ⟨fun i=>(s.t i).gv s.r j (.c (.ptr t) 0 x),s.r.set j .dead⟩
  |none=>none
 |_=>none
theorem KS{j:Nat}{s s':St}(h:Wz j s=some s'): ∃ (l:List Cl) (t:Ty) (x:t.T),j<s.r.length/\s.r.getD j .dead= .obj false l/\(l.map Cl.v0).map Go.Ve.frz=tyV t 0 x/\s'=⟨fun i=>(s.t i).gv s.r j (.c (.ptr t) 0 x),s.r.set j .dead⟩:=by
 unfold Wz at h;split at h
 case h_2=>cases h
 rename_i l hr;split at h
 case h_2=>cases h
 rename_i t x hf;cases h;refine⟨l,t,x,?_,hr,(Ds _ _ hf).symm,rfl⟩;by_cases hlt:j<s.r.length
 ·exact hlt
 ·rw [gDE,List.getElem?_eq_none (by omega)]at hr
  cases hr
theorem Sl.gv_dead{r r':List Ae}{j:Nat}{z:Cl}{y:Sl}(h0:y.v r= .dead):(y.gv r j z).v r'= .dead:=by
 cases y with
 |one y=>
  cases y with
  |dead=>rfl
  |c t d z=>exact h0
  |nil=>cases h0
  |nilp=>cases h0
  |nilf=>cases h0
  |rf=>cases h0
  |rs=>cases h0
  |rp=>cases h0
 |new l=>cases h0
 |agg l=>cases h0
 |tup l=>cases h0
 |pk t l=>cases h0
theorem Ym{C:Ctx}{N:Nat}{j:Nat}{s s':St}{a:Act}{w:World}(h:Wz j s=some s')(hs:A0 C N s.den a w):A0 C N s'.den a w:=by
 obtain⟨l,t,x,hj,hr,hf,rfl⟩:=KS h;obtain⟨hd,hdd,D,ρ,F,hcr⟩:=hs;refine⟨hd,fun i hi=>Sl.gv_dead (hdd i hi),fun b=>D b\/F j b,ρ,fun i=>if i=j then noF else F i,?_⟩
 have ho:s.den.σ.getD j .dead=Bk true (l.map Cl.v0):=by
  show(s.r.map Ae.v).getD j .dead=_;simp only [gDE]at hr;rw [gDE,List.getElem?_map];rw [gEE hj]at hr⊢;have hr:s.r[j]= .obj false l:=hr;rw [hr];rfl
 have h1:=hcr.give (j:=j) (by simpa [St.den]using hj) ho (ts':=(List.range N).map fun i=>((s.t i).gv s.r j (.c (.ptr t) 0 x)).v (s.r.set j .dead)) (by simp) fun i hi=>by
  have hi:i<N:=by simpa using hi
  rw [AY hi,AY hi];rcases Sl.gv_v (r:=s.r) (j:=j) (z:=.c (.ptr t) 0 x) (s.t i)with hk|⟨hk,hz⟩
  ·exact .inl hk
  ·refine .inr ⟨hk,?_⟩
   rw [hz,Me,hf];rfl
 have e1:(s.r.set j .dead).map Ae.v=s.den.σ.set j .dead:=by
  show _=(s.r.map Ae.v).set j .dead;rw [List.map_set];rfl
 show CR C ((s.r.set j .dead).map Ae.v) _ a.tmps w _ ρ _;rw [e1];exact h1
def NR:List Operand->St->Option St
 | [],s=>some s
 |x::xs,s=>match s.ev x with
  |some (.one (.rp j [] 0 0))=>match Wz j s with
   |some s'=>NR xs s'
   |none=>none
  |_=>NR xs s
theorem I6{C:Ctx}{N:Nat}{a:Act}{w:World}: ∀ (xs:List Operand) {s s':St},NR xs s=some s'->A0 C N s.den a w->A0 C N s'.den a w
 | [],s,s',h,hs=>by cases h;exact hs
 |x::xs,s,s',h,hs=>by
  unfold NR at h;split at h
  ·split at h
   case h_2=>cases h
   rename_i h1;exact I6 xs h (Ym h1 hs)
  ·exact I6 xs h hs
structure LR where
 p:Prop
 dec:Decidable p
 js:List Nat
 y:Cl
def Jg(s:St)(i:Option TI)(x y:Option Sl):Option LR:=match i with
 |none=>none
 |some i=>bif Nat.blt 0 i.bytes&&Nat.blt 0 i.ty.w then(match x with
  |some (.one .nil)=>(match Xq s i.ty s.r.length y with
   |some (d,ys,js)=>some ⟨JF ys<=Wg i.bytes,inferInstance,js,.c (.sl i.ty) (d+1) ys⟩
   |none=>none)
  |some (.one (.rf id []))=>(match s.r.getD id .dead with
   | .arr false t d xs=>if h:t=i.ty then(match Xq s i.ty id y with
     |some (d',ys,js)=>bif dOK i.ty d' d then some ⟨JF xs+JF ys<=Wg i.bytes,inferInstance,id::js,.c (.sl i.ty) (d+1) (catX (h▸xs) ys)⟩else none
     |none=>none)else none
   |_=>none)
  |_=>none)else none
section sound
variable {P:Program} {Θ:Tab}
theorem V3{C:Ctx}{h:CC}{s s':St}{d:Nat}{y:Cl}{a:Act}{w':World}{v':Value}(hd:a.defers= [])(hdd: ∀x,h.n<=x->s.den.t x= .dead)(hfz:h.fz.contains d=false)(hp:s.put h (some d) (.one y)=some s')
  (hc:Xg C (s.den.σ++(prom (y.v s.r) s.den.σ.length).2) (((List.range h.n).map s.den.t).set d (prom (y.v s.r) s.den.σ.length).1) (a.tmps.setIfInBounds d v') w'):A0 C h.n s'.den (a.put (some d) v') w':=by
 have hdn:d<h.n:=by
  unfold St.put at hp;simp only at hp;cases hb:Nat.blt d h.n with
  |false=>rw [hb]at hp;cases hp
  |true=>exact blE hb
 refine A0.put hp ?_
 have e:s.den.res h (some d) ((Sl.one y).v s.r)=⟨AV s.den.t d (prom (y.v s.r) s.den.σ.length).1,s.den.σ++(prom (y.v s.r) s.den.σ.length).2⟩:=by
  unfold Ms.res;simp only [hdn,if_true,hfz];rfl
 rw [e];refine⟨hd,fun x hx=>?_,?_⟩
 ·show AV s.den.t d _ x= .dead
  unfold AV;rw [if_neg (by omega)]
  exact hdd x hx
 ·rw [C6 hdn]at hc
  exact hc
theorem QV(hΘ:Θ.OK P){C:Ctx}{h:CC}{s s':St}{o:Oper}{t:TypeId}{x y:Operand}{a:Act}{w:World}{A:LR}{d:Nat}{next:Act->World->Prop}{Q:Exit->Act->World->Prop}
  (ho:o.op= .call ⟨.builtin .append,#[x,y],#[t,t]⟩) (hdst:o.dst=some d) (hfz:h.fz.contains d=false) (ha:Jg s (((Θ.look t).bind (·.elem)).bind Θ.look) (s.ev x) (s.ev y)=some A) (hA:A.p) (hp:(BA A.js s).put h (some d) (.one A.y)=some s')
  (hs:A0 C h.n s.den a w) (hn: ∀a' w',A0 C h.n s'.den a' w'->next a' w'):o.wp P a w next Q:=by
 obtain⟨hdf,hdd,D,ρ,F,hcr⟩:=hs
 -- the run, and what follows
 have key: ∀ (ti:TI) (e:TypeId),slI P t=some ⟨e,ti.ty.w,ti.bytes,B1 ti.ty⟩->0<ti.bytes->0<ti.ty.w->∀ (xs:List ti.ty.T) (dx:Nat) (ys:List ti.ty.T) (js:List Nat) (fpx:Nat->Prop) (id:Nat),
   Rel D w noR (cV (.sl ti.ty) (dx+1) xs) (a.eval x) fpx->(∀c,fpx c->∃j∈A.js,F j c)->(∀c,fpx c->F id c)->YOK s ti.ty id y a w D F dx ys js->(∀j∈js,j∈A.js)->(∀j∈A.js,j<s.r.length)->
   xs.length+ys.length<=Wg ti.bytes->A.y= .c (.sl ti.ty) (dx+1) (xs++ys)->o.wp P a w next Q:=by
  intro ti e hsl hby hw xs dx ys js fpx id hrx hfA hfid hY hjs hjl hlim hAy;obtain⟨⟨Fy,hrd,hFy,hFd⟩,hjs2⟩:=hY
  have hb:(xs.length+ys.length)*ti.bytes<=140737488355328:=by
   rw [Nat.mul_comm];exact(Nat.mul_comm _ _▸(Nat.le_div_iff_mul_le hby).1 hlim)
  have h63:xs.length+ys.length<=maxLen:=by
   have:xs.length+ys.length<=(xs.length+ys.length)*ti.bytes:=Nat.le_mul_of_pos_right _ hby;simp only [maxLen];omega
  obtain⟨v',w',fp,hrun,hos,htp,hout,hdr,hsz,hbl,hr',hfp⟩:=Rel.append (P:=P) (ty:=o.type) (f:=fun i k=>(tyV ti.ty dx (xs.getD i ti.ty.dflt)).getD k .dead) hsl hw hrx (fun b hb h=>by obtain⟨j,_,hj⟩:=hfA b h;exact hcr.wr.dD j b hj hb) hcr.wr.Dlt hrd
   (fun i k c hi hk hF=>by
    obtain⟨j,hj,hFj⟩:=hFy i k c hi hk hF;refine⟨hcr.wr.dD j c hFj,fun hx=>?_⟩
    exact hcr.wr.disj j id c (hjs2 j hj).2 hFj (hfid c hx)) hFd h63 hb
  obtain⟨F',hcr',hF'⟩:=HZ A.js hcr hjl
  have hr2:Rel D w' noR (A.y.v (BA A.js s).r) v' fp:=by
   rw [hAy];exact Rel.sub (Qt rfl rfl (fun _ _ _=>rfl) (fun _ _ _=>rfl)) hr'
  have hfpG: ∀b,fp b->(∃j∈A.js,F j b)\/w.heap.size<=b:=by
   intro b hb;rcases hfp b hb with h1|⟨i,k,hi,hk,h1⟩|h1
   ·exact .inl (hfA b h1)
   ·obtain⟨j,hj,hFj⟩:=hFy i k b hi hk h1
    exact .inl ⟨j,hjs j hj,hFj⟩
   ·exact .inr h1
  have hc:=CR.own hcr' (G:=fun b=>∃j∈A.js,F j b) (D':=D) (fun i b hb ⟨j,hj,hFj⟩=>by
    obtain⟨h1,h2⟩:=hF' i b hb;exact hcr.wr.disj i j b (fun e=>h2 (e▸hj)) h1 hFj) (fun b hb ⟨j,_,hFj⟩=>hcr.wr.dD j b hFj hb) (fun b ⟨j,_,hFj⟩=>hcr.Fn j b hFj) hos htp hout hdr hsz (fun c hc hG=>hbl c hc fun h=>hG (hfA c h)) hr2 hfpG
   (fun _ h=>h) (fun _ h=>.inl h) (fun b hb=>⟨Nat.lt_of_lt_of_le (hcr.wr.Dlt b hb) hsz,fun h=>by
    rcases hfpG b h with⟨j,_,hFj⟩|h2
    ·exact hcr.wr.dD j b hFj hb
    ·have:=hcr.wr.Dlt b hb;omega⟩) d
  have hs':=V3 (h:=h) hdf (Dc A.js hdd) hfz hp hc;unfold Oper.wp execOp;simp only [ho,resolve,invoke,builtin,Sem.run_bind,Sem.run_pure,Result.andThen_ok,List.map_toArray,List.map_cons,List.map_nil,hrun,hdst];show next (a.put o.dst v') w'
  rw [hdst];exact hn _ _ hs'
 unfold Jg at ha;split at ha
 ·cases ha
 rename_i ti hti;obtain⟨e,hsl,_⟩:=DR hΘ hti;cases hb:(Nat.blt 0 ti.bytes&&Nat.blt 0 ti.ty.w)with
 |false=>rw [hb]at ha;cases ha
 |true=>
  rw [hb]at ha;simp only [cond_true]at ha;simp only [bAE]at hb;have hby:=Qv hb.1;have hw:=Qv hb.2;have hrx:=B7 hcr hdd x;split at ha
  case h_3=>cases ha
  ·rename_i hx
   rw [Bd hx]at hrx;split at ha
   case h_2=>cases ha
   rename_i d' ys js hy;cases ha;have hY:=Pj hcr hdd hy;refine key ti e hsl hby hw [] d' ys js noF s.r.length ?_ (fun _ h=>h.elim) (fun _ h=>h.elim) hY (fun _ h=>h) (fun j hj=>(hY.js j hj).1) (by simpa [JF]using hA) (by simp)
   exact .inl ⟨rfl,rfl,.inl hrx.1,fun _ h=>h⟩
  ·rename_i id hx
   rw [Bd hx]at hrx;split at ha
   case h_2=>cases ha
   rename_i t' dx xs hr;split at ha
   case isFalse=>cases ha
   rename_i ht;subst ht;split at ha
   case h_2=>cases ha
   rename_i d' ys js hy;cases hdk:dOK ti.ty d' dx with
   |false=>rw [hdk]at ha;cases ha
   |true=>
    rw [hdk]at ha;cases ha;have hY:=Pj hcr hdd hy
    have hlen:(Ag s.r id []).len=xs.length:=by
     show(s.r.getD id .dead).len=_;rw [hr];rfl
    have hrx:Rel D w (An s.den.σ ρ w) (.rs id [] 0 (Ag s.r id []).len) (a.eval x) noF:=hrx;rw [hlen]at hrx
    have hσ:s.den.σ.getD id .dead= .nd true true ti.ty.w xs.length (fun i k=>(tyV ti.ty dx (xs.getD i ti.ty.dflt)).getD k .dead):=by
     show(s.r.map Ae.v).getD id .dead=_;rw [AI,hr];rfl
    obtain⟨_,hrr⟩:=PF hcr.wr hσ hrx.1;have hid:id<s.r.length:=by simpa [St.den]using hrx.1.1
    refine key ti e hsl hby hw xs dx ys js (F id) id hrr (fun c hc=>⟨id,by simp,hc⟩) (fun _ h=>h) ?_ (fun j hj=>mCM _ hj) (fun j hj=>?_) hA rfl
    ·have ee:tyV ti.ty d'=tyV ti.ty dx:=funext fun z=>Dg _ _ _ z (Mf hdk)
     obtain⟨⟨Fy,h1,h2⟩,h3⟩:=hY;rw [ee]at h1;exact⟨⟨Fy,h1,h2⟩,h3⟩
    ·rcases List.mem_cons.1 hj with rfl|hj
     ·exact hid
     ·exact(hY.js j hj).1
def peq:A1->A1->Bool
 | [],[]=>true
 |(i,k)::p,(j,l)::q=>Nat.beq i j&&Nat.beq k l&&peq p q
 |_,_=>false
theorem V2: ∀ {p q:A1},peq p q=true->p=q
 | [],[],_=>rfl
 |(i,k)::p,(j,l)::q,h=>by
  simp only [peq,bAE]at h;rw [bqE h.1.1,bqE h.1.2,V2 h.2]
 | [],_::_,h=>by cases h
 |_::_,[],h=>by cases h
theorem L8: ∀q:A1,Ba q q=true
 | []=>rfl
 |(i,k)::q=>by simp [Ba,L8 q]
def rrk(id:Nat)(q:A1)(m:Nat)(id':Nat)(q':A1)(keep new:Cl):Cl:=bif Nat.beq id' m then .dead else bif Nat.beq id' id then(bif peq q q' then new else bif pre (q.map (·.2)) q' then .dead else keep)else keep
def Cl.rr(id:Nat)(q:A1)(m:Nat):Cl->Cl
 | .rf id' q'=>rrk id q m id' q' (.rf id' q') (.rf m [])
 | .rs id' q' off len=>rrk id q m id' q' (.rs id' q' off len) (.rs m [] off len)
 | .rp id' q' i k=>rrk id q m id' q' (.rp id' q' i k) (.rp m [] i k)
 |y=>y
def Sl.mapC(K:Cl->Cl):Sl->Sl
 | .one y=>.one (K y)
 | .new l=>.new l
 | .agg l=>.agg (l.map K)
 | .pk t l=>.pk t (l.map K)
 | .tup l=>.tup (l.map fun p=>(p.1,p.2.map K))
theorem Sl.mapC_v{r r':List Ae}{G:V->V}{K:Cl->Cl}(hG:Bf G)(hd:K .dead= .dead)(hK: ∀y:Cl,Ay (G (y.v r)) ((K y).v r'))(y:Sl):Ay (G (y.v r)) ((y.mapC K).v r'):=by
 have agg: ∀l:List Cl,Ay (G (Ai (l.map (Cl.v r)))) (Ai ((l.map K).map (Cl.v r'))):=by
  intro l;rw [G_mk hG];refine Ay.mk (by simp) fun k _=>?_
  rw [List.map_map,List.map_map];exact Bw (f:=fun y=>G (y.v r)) (g:=fun y=>(K y).v r') hG.dead (by show(K .dead).v r'=_;rw [hd];rfl) (fun y=>hK y) k
 cases y with
 |one c=>exact hK c
 |new l=>show Ay (G (Bk true _)) (Bk true _);rw [show G (Bk true (l.map Cl.v0))=Bk true (l.map Cl.v0)from hG.nd _ _ _ _ _];exact Ay.refl _
 |agg l=>exact agg l
 |pk t l=>
  show Ay (G (pkL t (l.map (Cl.v r)))) (pkL t ((l.map K).map (Cl.v r')));rw [G_pk hG];refine Ay.pk (by simp) fun k _=>?_
  rw [List.map_map,List.map_map];exact Bw (f:=fun y=>G (y.v r)) (g:=fun y=>(K y).v r') hG.dead (by show(K .dead).v r'=_;rw [hd];rfl) (fun y=>hK y) k
 |tup l=>
  show Ay (G (Df _)) (Df _);rw [AaF hG];refine Ay.tup (by simp) fun k hk=>?_
  have hk:k<l.length:=by simpa using hk
  simp only [gDE,List.getElem?_map,gEE hk,Option.map_some,Option.getD_some];generalize l[k]=p;obtain⟨b,m⟩:=p;cases b with
  |true=>exact agg m
  |false=>
   cases m with
   |nil=>exact Ay.dead _
   |cons y m=>exact hK y
def Y7(s:St):Option Sl->Option St
 |some (.one (.rf id (a::q)))=>match Mj (s.r.getD id .dead) (a::q),Ag s.r id (a::q)with
  |some r1,.arr false t d xs=>some ⟨fun i=>(s.t i).mapC (Cl.rr id (a::q) s.r.length),s.r.set id r1++ [Ae.arr false t d xs]⟩
  |_,_=>some s
 |_=>some s
theorem VF{s:St}{id:Nat}{Q:A1}{r1:Ae}{t:Ty}{d:Nat}{xs:List t.T}{m:Nat}(hm:m=s.r.length)(hidr:id<s.r.length)(hcl: ∀q',pre (Q.map (·.2)) q'=false->(r1.at' q').len=((s.r.getD id .dead).at' q').len)(hnl:(Ag s.r id Q).len=xs.length):
  ∀y:Cl,Ay (rrV id Q m (y.v s.r)) ((y.rr id Q m).v (s.r.set id r1++ [Ae.arr false t d xs])):=by
 have key: ∀ (id':Nat) (q':A1) (keep new:Cl) (v v':V),(id'=id/\Ba Q q'=true->rrV id Q m v=v')->(¬ (id'=id/\Ba Q q'=true)->rrV id Q m v=v)->
   (id'≠m->¬ (id'=id/\Ba Q q'=true)->¬ (id'=id/\pre (Q.map (·.2)) q'=true)->keep.v (s.r.set id r1++ [Ae.arr false t d xs])=v)->(id'=id->q'=Q->new.v (s.r.set id r1++ [Ae.arr false t d xs])=v')->
   Ay (rrV id Q m v) ((rrk id Q m id' q' keep new).v (s.r.set id r1++ [Ae.arr false t d xs])):=by
  intro id' q' keep new v v' h1 h2 h3 h4;unfold rrk;cases hb:Nat.beq id' m with
  |true=>exact Ay.dead _
  |false=>
   have hnm:id'≠m:=fun e=>by rw [e,Nat.beq_refl]at hb;cases hb
   cases hb2:Nat.beq id' id with
   |false=>
    have hni:id'≠id:=fun e=>by rw [e,Nat.beq_refl]at hb2;cases hb2
    show Ay _ (keep.v _);rw [h2 (fun h=>hni h.1),h3 hnm (fun h=>hni h.1) (fun h=>hni h.1)]
    exact Ay.refl _
   |true=>
    have e:=bqE hb2;cases hp:peq Q q' with
    |true=>
     have eq:=(V2 hp).symm;show Ay _ (new.v _);rw [h1 ⟨e,by rw [eq];exact L8 Q⟩,h4 e eq]
     exact Ay.refl _
    |false=>
     cases hpr:pre (Q.map (·.2)) q' with
     |true=>exact Ay.dead _
     |false=>
      have n1: ¬ (id'=id/\Ba Q q'=true):=fun h=>by rw [KF h.2]at hpr;cases hpr
      show Ay _ (keep.v _);rw [h2 n1,h3 hnm n1 (fun h=>by rw [h.2]at hpr;cases hpr)]
      exact Ay.refl _
 intro y;cases y with
 |rf id' q'=>
  refine key id' q' _ _ (.rs id' q' 0 (Ag s.r id' q').len) (.rs m (q'.drop Q.length) 0 (Ag s.r id' q').len) (fun h=>by simp only [rrV,if_pos h]) (fun h=>by simp only [rrV,if_neg h]) (fun hnm _ hnp=>?_) (fun e e2=>?_)
  ·show V.rs id' q' 0 (Ag (s.r.set id r1++ [Ae.arr false t d xs]) id' q').len=_
   congr 1
   by_cases hlt:id'<s.r.length
   ·have e1:Ag (s.r.set id r1++ [Ae.arr false t d xs]) id' q'=Ag (s.r.set id r1) id' q':=by
     unfold Ag;rw [gDE,gAL (by simpa using hlt),<-gDE]
    rw [e1];by_cases he:id'=id
    ·subst he
     rw [Ce hlt]
     exact hcl q' (by cases hp:pre (Q.map (·.2)) q' with
      |false=>rfl
      |true=>exact absurd ⟨rfl,hp⟩ hnp)
    ·rw [BF he]
   ·unfold Ag
    rw [gDE,List.getElem?_eq_none (by simp;omega),gDE,List.getElem?_eq_none (by omega)]
  ·subst e;subst e2
   show V.rs m [] 0 (Ag (s.r.set id' r1++ [Ae.arr false t d xs]) m []).len=_
   have e1:Ag (s.r.set id' r1++ [Ae.arr false t d xs]) m []=Ae.arr false t d xs:=by
    unfold Ag;rw [hm,gDE,gAR (by simp)]
    simp [Ae.at']
   rw [e1,hnl];simp [Ae.len]
 |rs id' q' off len=>
  exact key id' q' _ _ (.rs id' q' off len) (.rs m (q'.drop Q.length) off len) (fun h=>by simp only [rrV,if_pos h]) (fun h=>by simp only [rrV,if_neg h]) (fun _ _ _=>rfl) (fun e e2=>by subst e2;simp [Cl.v])
 |rp id' q' i k=>
  exact key id' q' _ _ (.rp id' q' i k) (.rp m (q'.drop Q.length) i k) (fun h=>by simp only [rrV,if_pos h]) (fun h=>by simp only [rrV,if_neg h]) (fun _ _ _=>rfl) (fun e e2=>by subst e2;simp [Cl.v])
 |dead=>exact Ay.dead _
 |nil=>exact Ay.refl (.c _)
 |nilp=>exact Ay.refl (.c _)
 |nilf=>exact Ay.refl (.c _)
 |c t d x=>
  show Ay (rrV id Q m (cV t d x)) (cV t d x);have:rrV id Q m (cV t d x)=cV t d x:=by cases t<;>first|rfl|exact(Dl _ _ _).osl|exact(Dl _ _ _).clo
  rw [this];exact Ay.refl _
def rkk(id:Nat)(q:A1)(m:Nat)(id':Nat)(q':A1)(keep:Cl):Cl:=bif Nat.beq id' m then .dead else bif Nat.beq id' id then(bif pre (q.map (·.2)) q' then .dead else keep)else keep
def Cl.rk(id:Nat)(q:A1)(m:Nat):Cl->Cl
 | .rf id' q'=>rkk id q m id' q' (.rf id' q')
 | .rs id' q' off len=>rkk id q m id' q' (.rs id' q' off len)
 | .rp id' q' i k=>rkk id q m id' q' (.rp id' q' i k)
 |y=>y
theorem VG{id:Nat}{q:A1}{m:Nat}{id':Nat}{q':A1}{keep new:Cl}:rkk id q m id' q' keep= .dead\/rkk id q m id' q' keep=rrk id q m id' q' keep new:=by
 unfold rkk rrk;cases Nat.beq id' m with
 |true=>exact .inl rfl
 |false=>
  cases Nat.beq id' id with
  |false=>exact .inr rfl
  |true=>
   cases hp:pre (q.map (·.2)) q' with
   |true=>exact .inl rfl
   |false=>
    cases he:peq q q' with
    |true=>
     have:=V2 he;subst this;rw [KF (L8 q)]at hp;cases hp
    |false=>exact .inr rfl
theorem rk_or{id:Nat}{q:A1}{m:Nat}(y:Cl):y.rk id q m= .dead\/y.rk id q m=y.rr id q m:=by
 cases y with
 |rf=>exact VG
 |rs=>exact VG
 |rp=>exact VG
 |_=>exact .inr rfl
theorem rk_sub{s:St}{id:Nat}{Q:A1}{r1:Ae}{t:Ty}{d:Nat}{xs:List t.T}{m:Nat}(hm:m=s.r.length)(hidr:id<s.r.length)(hcl: ∀q',pre (Q.map (·.2)) q'=false->(r1.at' q').len=((s.r.getD id .dead).at' q').len)(hnl:(Ag s.r id Q).len=xs.length)
  (y:Cl):Ay (rrV id Q m (y.v s.r)) ((y.rk id Q m).v (s.r.set id r1++ [Ae.arr false t d xs])):=by
 rcases rk_or (id:=id) (q:=Q) (m:=m) y with h|h
 ·rw [h];exact Ay.dead _
 ·rw [h];exact VF hm hidr hcl hnl y
theorem Ay.of_dead{v:V}(h:Ay .dead v):v= .dead:=by
 rcases h with h|h
 ·exact h
 ·exact h
theorem Qo{C:Ctx}{N:Nat}{s:St}{x:Operand}{a:Act}{w:World}{id:Nat}{Q:A1}{r1:Ae}{t:Ty}{d:Nat}{xs:List t.T}(hx:s.ev x=some (.one (.rf id Q)))(hcut:Mj (s.r.getD id .dead) Q=some r1)(hne:Ag s.r id Q≠.dead)
  (hnv:(Ag s.r id Q).v=arr true t.w (tyV t d) t.dflt xs) (hnl:(Ag s.r id Q).len=xs.length) (hs:A0 C N s.den a w) {f:Nat->Sl} (hf: ∀i,Ay (rrV id Q s.r.length ((s.t i).v s.r)) ((f i).v (s.r.set id r1++ [Ae.arr false t d xs]))):A0 C N (⟨f,s.r.set id r1++ [Ae.arr false t d xs]⟩:St).den a w:=by
 obtain⟨hdf,hdd,D,ρ,F,hcr⟩:=hs;have hr:=B7 hcr hdd x;rw [Bd hx]at hr;have hr:Rel D w (An s.den.σ ρ w) (.rs id Q 0 (Ag s.r id Q).len) (a.eval x) noF:=hr;obtain⟨⟨hid,sz,n,f,cn,hat,hle,hcv⟩,_⟩:=hr;obtain⟨ρ',F',hcr',_⟩:=CR.reroot hcr hid hat;have hidr:id<s.r.length:=by simpa [St.den]using hid
 obtain⟨hcv1,hcl⟩:=JQ hcut;have hnode:sub Q (s.den.σ.getD id .dead)=arr true t.w (tyV t d) t.dflt xs:=(AZ hne).trans hnv;have hlσ:s.den.σ.length=s.r.length:=by simp [St.den]
 obtain⟨m,hm⟩: ∃m,m=s.r.length:=⟨_,rfl⟩;rw [<-hm]at hf;rw [hlσ,<-hm]at hcr';refine⟨hdf,fun x hx=>?_,D,ρ',F',?_⟩
 ·have h0:(s.t x).v s.r= .dead:=hdd x hx
  have h1:=hf x;rw [h0]at h1;exact Ay.of_dead h1
 ·have hσ:s.den.σ=s.r.map Ae.v:=rfl
  have hm':(s.r.map Ae.v).length=m:=by simp [hm]
  refine hcr'.sub (by simp [St.den]) (fun i _=>?_) (by simp) fun i hi=>?_
  ·show Sub _ (((s.r.set id r1++ [Ae.arr false t d xs]).map Ae.v).getD i .dead)
   rw [List.map_append,List.map_set,hσ];by_cases hi:i<s.r.length
   ·rw [AK (by simpa using hi),AK (by simpa using hi)]
    by_cases he:id=i
    ·subst he
     rw [Ar (by simpa using hi),Ar (by simpa using hi),AI]
     exact hcv1
    ·rw [Ao he,Ao he];exact Sub.refl _
   ·by_cases he:i=s.r.length
    ·subst he
     have e1: ∀ (A:List V) (v:V),A.length=s.r.length->(A++ [v]).getD s.r.length .dead=v:=by
      intro A v hA;rw [<-hA,gDE,gAR (by simp)];simp
     rw [e1 _ _ (by simp),show([Ae.arr false t d xs].map Ae.v)= [arr true t.w (tyV t d) t.dflt xs]from rfl,e1 _ _ (by simp)]
     rw [hσ]at hnode;rw [hnode];exact Sub.refl _
    ·have e1: ∀ (A:List V) (v:V),A.length=s.r.length->(A++ [v]).getD i .dead= .dead:=by
      intro A v hA;rw [gDE,List.getElem?_eq_none (by simp;omega)];rfl
     rw [e1 _ _ (by simp),show([Ae.arr false t d xs].map Ae.v)= [arr true t.w (tyV t d) t.dflt xs]from rfl,e1 _ _ (by simp)]
     exact Sub.refl _
  ·have hi:i<N:=by simpa using hi
   have hk:=hf i;simpa [hi,St.den]using hk
theorem Mg{C:Ctx}{N:Nat}{s s':St}{x:Operand}{a:Act}{w:World}(h:Y7 s (s.ev x)=some s')(hs:A0 C N s.den a w):A0 C N s'.den a w:=by
 unfold Y7 at h;split at h
 case h_2=>cases h;exact hs
 rename_i id b q1 hx;split at h
 case h_2=>cases h;exact hs
 rename_i r1 t d xs hcut hn;cases h;have hidr:id<s.r.length:=by
  rcases Nat.lt_or_ge id s.r.length with h|h
  ·exact h
  ·unfold Ag at hn
   rw [gDE,List.getElem?_eq_none h]at hn;rw [show(none:Option Ae).getD .dead= .dead from rfl,CN]at hn;cases hn
 exact Qo hx hcut (by rw [hn];simp) (by rw [hn];rfl) (by rw [hn];rfl) hs fun i=>Sl.mapC_v (Dl id (b::q1) s.r.length) rfl (VF rfl hidr (JQ hcut).2 (by rw [hn];rfl)) (s.t i)
def cutO(s:St)(x:Operand):Option St:=match x with
 | .tmp y=>match s.t y with
  | .one (.rf id (a::q))=>match Mj (s.r.getD id .dead) (a::q),Ag s.r id (a::q)with
   |some r1,.opt false t d v=>some ⟨fun i=>bif Nat.beq i y then .one (.rf s.r.length [])else(s.t i).mapC (Cl.rk id (a::q) s.r.length),s.r.set id r1++ [Ae.arr false t d (getO v)]⟩
   |_,_=>Y7 s (s.ev x)
  |_=>Y7 s (s.ev x)
 |_=>Y7 s (s.ev x)
theorem Aax{C:Ctx}{N:Nat}{s s':St}{x:Operand}{a:Act}{w:World}(h:cutO s x=some s')(hs:A0 C N s.den a w):A0 C N s'.den a w:=by
 unfold cutO at h;split at h
 case h_2=>exact Mg h hs
 rename_i y;split at h
 case h_2=>exact Mg h hs
 rename_i id b q1 hy;split at h
 case h_2=>exact Mg h hs
 rename_i r1 t d v hcut hn;cases h;have hx:s.ev (.tmp y)=some (.one (.rf id (b::q1))):=by show some (s.t y)=_;rw [hy]
 have hne:Ag s.r id (b::q1)≠.dead:=by rw [hn];simp
 have hidr:id<s.r.length:=by
  rcases Nat.lt_or_ge id s.r.length with h|h
  ·exact h
  ·exfalso
   apply hne;unfold Ag;rw [gDE,List.getElem?_eq_none h];exact CN _
 obtain⟨ys,rfl⟩: ∃ys,v=some ys:=by
  obtain⟨hdf,hdd,D,ρ,F,hcr⟩:=hs;have hr:=B7 hcr hdd (.tmp y);rw [Bd hx]at hr;have hr:Rel D w (An s.den.σ ρ w) (.rs id (b::q1) 0 (Ag s.r id (b::q1)).len) (a.eval (.tmp y)) noF:=hr;obtain⟨⟨hid,sz,n,f,cn,hat,hle,hcv⟩,_⟩:=hr;have e:=At.sub hat;have e2:sub (b::q1) (s.den.σ.getD id .dead)=Z2 true t.w (tyV t d) t.dflt v:=(AZ hne).trans (by rw [hn];rfl)
  rw [e2]at e;cases v with
  |none=>cases e
  |some ys=>exact⟨ys,rfl⟩
 have hnl:(Ag s.r id (b::q1)).len=ys.length:=by rw [hn];rfl
 refine Qo (xs:=ys) hx hcut hne (by rw [hn];rfl) hnl hs fun i=>?_
 cases hi:Nat.beq i y with
 |false=>exact Sl.mapC_v (Dl id (b::q1) s.r.length) rfl (rk_sub rfl hidr (JQ hcut).2 hnl) (s.t i)
 |true=>
  have e:=bqE hi;subst e;rw [hy];have:=VF (xs:=ys) (d:=d) (t:=t) (m:=s.r.length) rfl hidr (JQ hcut).2 hnl (.rf id (b::q1))
  have e1:(Cl.rf id (b::q1)).rr id (b::q1) s.r.length= .rf s.r.length []:=by
   have p: ∀q:A1,peq q q=true:=by
    intro q
    induction q with
    |nil=>rfl
    |cons a q ih=>obtain⟨i,k⟩:=a;simp [peq,Nat.beq_refl,ih]
   show rrk id (b::q1) s.r.length id (b::q1) _ _=_;unfold rrk;have h0:Nat.beq id s.r.length=false:=by
    cases hb:Nat.beq id s.r.length with
    |false=>rfl
    |true=>have:=bqE hb;omega
   rw [h0,Nat.beq_refl,p];rfl
  rw [e1]at this;exact this
end sound
end Go.Ve

