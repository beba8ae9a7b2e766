/- The typed machine: lists of operations in memory; regions that draw their order. -/
import Derived.Test.YtpaekmpjbalnfabTj
import Derived.Test.YtpaekmpjbalnfabTu
import Derived.Test.YtpaekmpjbalnfabVu
namespace Go.Ve
theorem Vg{P:Program}{C:Ctx}{N:Nat}{Θ:Tab}(hΘ:Θ.OK P){s s':St}{o:Oper}{t:TypeId}{x v:Operand}{a:Act}{w:World}{next:Act->World->Prop}{Q:Exit->Act->World->Prop}
  (ho:o.op= .store t x v) (hdst:o.dst=none) (h:IG s (Θ.look t) (s.ev x) (s.ev v)=some s') (hs:A0 C N s.den a w) (hn: ∀a' w',A0 C N s'.den a' w'->next a' w'):o.wp P a w next Q:=by
 obtain⟨hd,hdd,D,ρ,F,hcr⟩:=hs;unfold IG at h;split at h
 case h_2=>cases h
 rename_i ti id p i k y hti hx hv;split at h
 case h_2=>cases h
 rename_i l hl;cases hb:(Nat.beq l.length ti.ty.w&&Nat.ble (k+ti.ty.w) (Ag s.r id p).w&&(Ag s.r id p).live)with
 |false=>rw [hb]at h;cases h
 |true=>
  rw [hb]at h;simp only [cond_true]at h;simp only [bAE]at hb;obtain⟨⟨h1,h2⟩,h3⟩:=hb;have h1:=bqE h1;have h2:=blE h2;have hnsz:=CZ h3;obtain⟨hpl,hcv,_⟩:=CP (r:=s.r) hl;obtain⟨d,tii,z,hdt,hit,hz,his,_⟩:=Dh (hΘ.ty hti);simp only at his;have hrx:=B7 hcr hdd x;rw [Bd hx]at hrx;have hrx:Rel D w (An s.den.σ ρ w) (.rp id p i k) (a.eval x) noF:=hrx;obtain⟨s0,sz,n,f,b,o',cap,hid,ha,hi,hk,had,_,hns,_,_⟩:=LH hcr.wr hrx.1;have hrv:=B7 hcr hdd v;rw [Bd hv]at hrv;obtain⟨⟨hcl,hcells⟩,_⟩:=Cg (fun v cv h=>An.one h) hpl hrv
  rw [hcv]at hcl hcells;have hlen:(l.map (Cl.v s.r)).length=l.length:=List.length_map ..
  have hcr2:CR C s.den.σ ((List.range N).map s.den.t++ .rp id p i k::l.map (Cl.v s.r)) (a.tmps.toList++ .pointer (some ⟨b,(o'+i*sz)+k,none⟩)::(a.eval v).cells.toList).toArray w D ρ F:=by
   have hsz:a.tmps.size=N:=by simpa using hcr.sz
   refine⟨hcr.wr,by simp [hsz,hcl],fun j hj=>?_,hcr.fr,hcr.Fn,hcr.D1,hcr.D2,hcr.rt,hcr.ml⟩
   by_cases hjt:j<N
   ·rw [AK (by simpa using hjt)]
    have h1:=hcr.tm j (by simpa using hjt)
    have e:(a.tmps.toList++ .pointer (some ⟨b,(o'+i*sz)+k,none⟩)::(a.eval v).cells.toList).toArray.getD j undef=a.tmps.getD j undef:=by
     simp [gAL,hsz,hjt]
    rw [e];exact h1
   ·obtain⟨m,rfl⟩: ∃m,j=N+m:=⟨j-N,by omega⟩
    have e1:((List.range N).map s.den.t++ .rp id p i k::l.map (Cl.v s.r)).getD (N+m) .dead=(.rp id p i k::l.map (Cl.v s.r)).getD m .dead:=by
     simp [gAR]
    have e2:(a.tmps.toList++ .pointer (some ⟨b,(o'+i*sz)+k,none⟩)::(a.eval v).cells.toList).toArray.getD (N+m) undef=(.pointer (some ⟨b,(o'+i*sz)+k,none⟩)::(a.eval v).cells.toList).getD m undef:=by
     simp only [Array.getD_eq_getD_getElem?,List.getElem?_toArray,gDE];rw [gAR (by simp;omega)]
     simp [hsz]
    rw [e1,e2];cases m with
    |zero=>rw [had]at hrx;exact hrx
    |succ m=>
     simp at hj;have:=hcells m (by simpa using hj)
     simpa using this
  obtain⟨w',hrun,hdd',hcr3⟩:=QI (P:=P) l.length l (a.eval v).cells.toList 0 s s' w ρ F hcr2 (by simpa using hcr.sz) hdd (by simpa using hcl) (by show k+0+l.length<=A4 (s.r.map Ae.v) id p;rw [hnsz];omega) h
  have hsv:(storeVar t ⟨b,(o'+i*sz)+k,none⟩ (a.eval v)).run P w= .ok () w':=by
   simp only [storeVar,Sem.run_bind,sizeOf,typeInfo];have e:(a.eval v).cells.size=ti.ty.w:=by rw [hcl,hlen,h1]
   simp [hit,his,hrun,e]
  have hex:(execOp a.eval o).run P w= .ok .skip w':=by
   unfold execOp;rw [ho];simp [Instr.storeAt,had,Instr.sureAddr,hsv]
  unfold Oper.wp;rw [hex,Oper.upon_skip,hdst];exact hn a w' ⟨hd,hdd',hcr3⟩
structure PD where
 p:Prop
 dec:Decidable p
def X1:A1->A1->Option PD
 | [],[]=>some ⟨True,inferInstance⟩
 |(i,k)::p,(j,l)::q=>bif Nat.beq k l then(match X1 p q with
  |some c=>some ⟨(i<=j/\j<=i)/\c.p,@instDecidableAnd _ _ inferInstance c.dec⟩
  |none=>none)else none
 |_,_=>none
theorem PU: ∀ (p q:A1) (c:PD),X1 p q=some c->c.p->p=q
 | [],[],_,_,_=>rfl
 |(i,k)::p,(j,l)::q,c,h,hc=>by
  unfold X1 at h;cases hb:Nat.beq k l with
  |false=>rw [hb]at h;cases h
  |true=>
   rw [hb]at h;simp only [cond_true]at h;split at h
   case h_2=>cases h
   rename_i c' h';cases h;rw [bqE hb,PU p q c' h' hc.2,Nat.le_antisymm hc.1.1 hc.1.2]
 | [],_::_,_,h,_=>by cases h
 |_::_,[],_,h,_=>by cases h
structure PtR where
 p:Prop
 dec:Decidable p
 s:St
def Vk(s:St):Option TI->Option Sl->Option Sl->Option PtR
 |some ti,some (.one (.rp id p i k)),some (.one (.rs id' q off len))=>bif Nat.beq id' id&&Nat.beq ti.ty.w 1&&Nat.ble (k+1) (Ag s.r id p).w&&(Ag s.r id p).live then(match X1 q (p++ [(i,k)])with
  |some c=>match Ag s.r id q with
   | .arr false t d xs=>match(s.r.getD id .dead).setAt p i k (.c (.sl t) (d+1) (Ly off len xs t.dflt))with
    |some r0=>some ⟨c.p,c.dec,⟨fun x=>(s.t x).kill id ((p++ [(i,k)]).map (·.2)) [],s.r.set id r0⟩⟩
    |none=>none
   |_=>none
  |none=>none)else none
 |_,_,_=>none
theorem XH{P:Program}{C:Ctx}{N:Nat}{Θ:Tab}(hΘ:Θ.OK P){s:St}{o:Oper}{t:TypeId}{x v:Operand}{a:Act}{w:World}{next:Act->World->Prop}{Q:Exit->Act->World->Prop}{A:PtR}
  (ho:o.op= .store t x v) (hdst:o.dst=none) (h:Vk s (Θ.look t) (s.ev x) (s.ev v)=some A) (hp:A.p) (hs:A0 C N s.den a w) (hn: ∀a' w',A0 C N A.s.den a' w'->next a' w'):o.wp P a w next Q:=by
 obtain⟨hd,hdd,D,ρ,F,hcr⟩:=hs;unfold Vk at h;split at h
 case h_2=>cases h
 rename_i ti id p i k id' q off len hti hx hv;cases hb:(Nat.beq id' id&&Nat.beq ti.ty.w 1&&Nat.ble (k+1) (Ag s.r id p).w&&(Ag s.r id p).live)with
 |false=>rw [hb]at h;cases h
 |true=>
 rw [hb]at h;simp only [cond_true]at h;simp only [bAE]at hb;obtain⟨⟨⟨h0,h1⟩,h2⟩,h3⟩:=hb;have h0:=bqE h0;subst h0;have h1:=bqE h1;have h2:=blE h2;split at h
 case h_2=>cases h
 rename_i c hc;split at h
 case h_2=>cases h
 rename_i u d xs hnode;split at h
 case h_2=>cases h
 rename_i r0 hset;cases h;obtain rfl:=PU _ _ _ hc hp;have hnsz:=CZ h3;obtain⟨d1,tii,z,hdt,hity,hz,his,_⟩:=Dh (hΘ.ty hti);simp only at his;have hrx:=B7 hcr hdd x;rw [Bd hx]at hrx;have hrx:Rel D w (An s.den.σ ρ w) (.rp id' p i k) (a.eval x) noF:=hrx;obtain⟨s0,sz,n,f,b,o',cap,hid,ha,hi,hk,had,_,hns,_,_⟩:=LH hcr.wr hrx.1;have hrv:=B7 hcr hdd v;rw [Bd hv]at hrv;have hrv:Rel D w (An s.den.σ ρ w) (.rs id' (p++ [(i,k)]) off len) (a.eval v) noF:=hrv;have hone:(a.eval v).oneCell'=true:=An.one hrv.1;have hsz:a.tmps.size=N:=by simpa using hcr.sz
 have hcr2:CR C s.den.σ ((List.range N).map s.den.t++V.rp id' p i k:: [V.rs id' (p++ [(i,k)]) off len]) (a.tmps.toList++Value.pointer (some ⟨b,(o'+i*sz)+k,none⟩):: [a.eval v]).toArray w D ρ F:=by
  refine⟨hcr.wr,by simp [hsz],fun j hj=>?_,hcr.fr,hcr.Fn,hcr.D1,hcr.D2,hcr.rt,hcr.ml⟩
  by_cases hjt:j<N
  ·rw [AK (by simpa using hjt)]
   have h1:=hcr.tm j (by simpa using hjt)
   have e:(a.tmps.toList++Value.pointer (some ⟨b,(o'+i*sz)+k,none⟩):: [a.eval v]).toArray.getD j undef=a.tmps.getD j undef:=by
    simp [gAL,hsz,hjt]
   rw [e];exact h1
  ·obtain⟨m,rfl⟩: ∃m,j=N+m:=⟨j-N,by omega⟩
   have e1:((List.range N).map s.den.t++V.rp id' p i k:: [V.rs id' (p++ [(i,k)]) off len]).getD (N+m) .dead=([V.rp id' p i k,V.rs id' (p++ [(i,k)]) off len]:List V).getD m .dead:=by
    simp [gAR]
   have e2:(a.tmps.toList++Value.pointer (some ⟨b,(o'+i*sz)+k,none⟩):: [a.eval v]).toArray.getD (N+m) undef=([Value.pointer (some ⟨b,(o'+i*sz)+k,none⟩),a.eval v]:List Value).getD m undef:=by
    simp only [Array.getD_eq_getD_getElem?,List.getElem?_toArray,gDE];rw [gAR (by simp;omega)]
    simp [hsz]
   rw [e1,e2];simp at hj
   match m with
   |0=>rw [had]at hrx;exact hrx
   |1=>exact hrv
   |m+2=>omega
 have hnode2:sub (p++ [(i,k)]) (s.den.σ.getD id' .dead)=arr true u.w (tyV u d) u.dflt xs:=by
  have:=AZ (r:=s.r) (id:=id') (p:=p++ [(i,k)]) (by rw [hnode];simp)
  rw [hnode]at this;exact this
 obtain⟨X,hX⟩: ∃X:V,X= .nd true true u.w len fun a b=>(tyV u d (xs.getD (a+off) u.dflt)).getD b .dead:=⟨_,rfl⟩
 have hput:OI id' p i k (.rs id' (p++ [(i,k)]) off len) [] s.den.σ (fun cs' σ2 G2=>σ2=s.den.σ.set id' (upd (p++ [(i,k)]) (s.den.σ.getD id' .dead) X)/\G2=A9 id' (p++ [(i,k)])):=by
  unfold OI;simp only [hnode2,arr];rw [if_pos ⟨trivial,trivial⟩];refine⟨?_,trivial⟩;rw [hX]
 obtain⟨G2,σ2,b1,o1,ρ1,F1,⟨y,hy⟩,hfz,h1c,⟨ofs,had1,hoff⟩,hGm,⟨hσ2,hGG⟩,hns1,hcr1⟩:=Il hcr2 (by simpa using hsz) (by show k<A4 (s.r.map Ae.v) id' p;rw [hnsz];omega) hput
 subst hσ2;subst hGG;simp only [Value.pointer.injEq,Option.some.injEq,Addr.mk.injEq,and_true]at had1;obtain⟨rfl,had1⟩:=had1;obtain rfl:ofs=o'+i*sz:=by omega
 have hidr:id'<s.r.length:=by simpa [St.den]using hid
 have hG:GOK (A9 id' (p++ [(i,k)])) id' ((p++ [(i,k)]).map (·.2)) []:=GOK.kill
 have hlen: ∀id2 q2,hit id' ((p++ [(i,k)]).map (·.2)) [] id2 q2=false->(Ag (s.r.set id' r0) id2 q2).len=(Ag s.r id2 q2).len:=by
  intro id2 q2 hh;by_cases he:id2=id'
  ·subst he
   rw [Ce hidr];refine NL p _ _ hset q2 ?_;cases hp2:pre ((p++ [(i,k)]).map (·.2)) q2 with
   |false=>rfl
   |true=>
    unfold hit at hh;rw [Nat.beq_refl,hp2]at hh;cases hh
  ·rw [BF he]
 have hsub: ∀j,Sub ((s.den.σ.set id' (upd (p++ [(i,k)]) (s.den.σ.getD id' .dead) X)).getD j .dead) (((s.r.set id' r0).map Ae.v).getD j .dead):=fun j=>by
  refine Ih ?_ j;show Sub (upd (p++ [(i,k)]) ((s.r.map Ae.v).getD id' .dead) X) r0.v;rw [AI];refine IY ?_ p _ _ hset;rw [hX];show Sub _ (arr true u.w (tyV u d) u.dflt (Ly off len xs u.dflt));unfold arr;have hl:(Ly off len xs u.dflt).length=len:=by simp [Ly]
  rw [hl];refine⟨_,rfl,fun a2 b2 ha2 hb2=>?_⟩
  have e:(Ly off len xs u.dflt).getD a2 u.dflt=xs.getD (a2+off) u.dflt:=by
   simp [Ly,ha2,Nat.add_comm]
  rw [e];exact Sub.refl _
 have hs':A0 C N (St.den ⟨fun x=>(s.t x).kill id' ((p++ [(i,k)]).map (·.2)) [],s.r.set id' r0⟩) a (w.setCell ⟨b,o1,none⟩ (a.eval v)):=by
  have kv:=fun j=>Sl.kill_v hG hlen (s.t j)
  refine⟨hd,fun j hj=>?_,D,ρ1,F1,?_⟩
  ·have h2:(s.t j).v s.r= .dead:=hdd j hj
   have h1:=kv j;rw [h2,hG.m.dead]at h1;exact Ay.of_dead h1
  ·have hcr3:=hcr1.left (by simpa using hsz)
   have e3:(a.tmps.toList).toArray=a.tmps:=by simp
   rw [e3]at hcr3;refine hcr3.sub (by simp [St.den]) (fun j _=>hsub j) (by simp) fun j hj=>?_
   have hj:j<N:=by simpa using hj
   have:=kv j;simpa [hj,St.den]using this
 have hsv:(storeVar t ⟨b,(o'+i*sz)+k,none⟩ (a.eval v)).run P w= .ok () (w.setCell ⟨b,o1,none⟩ (a.eval v)):=by
  have hcells:(a.eval v).cells.toList= [a.eval v]:=by
   have:=(Rel.cells1 hrv (fun _ _ h=>An.one h) rfl).1
   rw [this]
  simp only [storeVar,Sem.run_bind,sizeOf,typeInfo];have e:(a.eval v).cells.size=ti.ty.w:=by rw [h1,<-Array.length_toList,hcells];rfl
  have ea:(⟨b,(o'+i*sz)+k,none⟩:Addr).add 0=⟨b,o1,none⟩:=by rw [A6 rfl,hoff];rfl
  have hrun:(storeCells ⟨b,(o'+i*sz)+k,none⟩ (a.eval v).cells.toList 0).run P w= .ok () (w.setCell ⟨b,o1,none⟩ (a.eval v)):=by
   rw [hcells];simp only [storeCells,Sem.run_bind,ea];rw [run_store P w _ _ .plain hone,hy];simp only [hfz,Bool.false_eq_true,if_false];rfl
  simp [hity,his,hrun,e]
 have hex:(execOp a.eval o).run P w= .ok .skip (w.setCell ⟨b,o1,none⟩ (a.eval v)):=by
  unfold execOp;rw [ho];simp [Instr.storeAt,had,Instr.sureAddr,hsv]
 unfold Oper.wp;rw [hex,Oper.upon_skip,hdst];exact hn a _ hs'
def Cl.stay:Cl->Bool
 | .rf _ _=>false
 | .rs _ _ _ _=>false
 | .rp _ _ _ _=>false
 |_=>true
def Sl.stay:Sl->Bool
 | .one y=>y.stay
 | .new _=>true
 | .agg l=>l.all Cl.stay
 | .pk _ l=>l.all Cl.stay
 | .tup l=>l.all fun p=>p.2.all Cl.stay
theorem AM{α:Type}{f:α->α}{l:List α}(h: ∀y∈l,f y=y):l.map f=l:=by
 have:=List.map_congr_left h;rw [this,List.map_id']
theorem Sl.chk_stay{y:Sl}(h:y.stay=true)(m:Nat):y.chk m=y:=by
 have c1: ∀y:Cl,y.stay=true->y.chk m=y:=by intro y h;cases y<;>first|rfl|cases h
 cases y with
 |one y=>exact congrArg Sl.one (c1 y h)
 |new l=>rfl
 |agg l=>exact congrArg Sl.agg (AM fun y hy=>c1 y (aET.1 h y hy))
 |pk t l=>exact congrArg (Sl.pk t) (AM fun y hy=>c1 y (aET.1 h y hy))
 |tup l=>
  refine congrArg Sl.tup (AM fun p hp=>?_)
  obtain⟨b,m⟩:=p;exact congrArg (Prod.mk b) (AM fun y hy=>c1 y (aET.1 (aET.1 h _ hp) y hy))
theorem Sl.kill_stay{y:Sl}(h:y.stay=true)(id:Nat)(ks:List Nat)(j:Mv):y.kill id ks j=y:=by
 have c1: ∀y:Cl,y.stay=true->y.kill id ks j=y:=by intro y h;cases y<;>first|rfl|cases h
 cases y with
 |one y=>exact congrArg Sl.one (c1 y h)
 |new l=>rfl
 |agg l=>exact congrArg Sl.agg (AM fun y hy=>c1 y (aET.1 h y hy))
 |pk t l=>exact congrArg (Sl.pk t) (AM fun y hy=>c1 y (aET.1 h y hy))
 |tup l=>
  refine congrArg Sl.tup (AM fun p hp=>?_)
  obtain⟨b,m⟩:=p;exact congrArg (Prod.mk b) (AM fun y hy=>c1 y (aET.1 (aET.1 h _ hp) y hy))
def Ae.isRo:Ae->Bool
 | .obj ro _=>ro
 | .arr ro _ _ _=>ro
 | .opt ro _ _ _=>ro
 | .dead=>true
theorem Mi{r r1:Ae}{q:A1}(h:Mj r q=some r1):r.isRo=false:=by
 unfold Mj at h;split at h
 case h_2=>cases h
 split at h
 case h_3=>cases h
 ·rfl
 ·rfl
structure Kp(g:Nat->Bool)(s s':St):Prop where
 t: ∀i,g i=true->(s.t i).stay=true->s'.t i=s.t i
 r: ∀id,id<s.r.length->(s.r.getD id .dead).isRo=true->s'.r.getD id .dead=s.r.getD id .dead
 l:s.r.length<=s'.r.length
theorem Kp.refl(g:Nat->Bool)(s:St):Kp g s s:=⟨fun _ _ _=>rfl,fun _ _ _=>rfl,Nat.le_refl _⟩
theorem Kp.trans{g g1 g2:Nat->Bool}{s s1 s2:St}(h1:Kp g1 s s1)(h2:Kp g2 s1 s2)(hg1: ∀i,g i=true->g1 i=true)(hg2: ∀i,g i=true->g2 i=true):Kp g s s2:=by
 refine⟨fun i hi hs=>?_,fun id hl hid=>?_,Nat.le_trans h1.l h2.l⟩
 ·have e:=h1.t i (hg1 i hi) hs
  rw [h2.t i (hg2 i hi) (by rw [e];exact hs),e]
 ·have e:=h1.r id hl hid
  rw [h2.r id (Nat.lt_of_lt_of_le hl h1.l) (by rw [e];exact hid),e]
theorem Kp.weak{g g':Nat->Bool}{s s':St}(h:Kp g' s s')(hg: ∀i,g i=true->g' i=true):Kp g s s':=⟨fun i hi=>h.t i (hg i hi),h.r,h.l⟩
theorem A2{t:Nat->Sl}{d i:Nat}{y:Sl}(h:i≠d):AQ t d y i=t i:=by
 unfold AQ;rw [BB h];rfl
theorem PP{h:CC}{s s':St}{d:Option Nat}{y:Sl}(hp:s.put h d y=some s'):(∃new,s'.r=s.r++new)/\(∀i,d≠some i->(s.t i).stay=true->s'.t i=s.t i)/\(s'.r=s.r->∀i,d≠some i->s'.t i=s.t i):=by
 unfold St.put at hp;cases d with
 |none=>cases hp;exact⟨⟨[],by simp⟩,fun _ _ _=>rfl,fun _ _ _=>rfl⟩
 |some d=>
  simp only at hp;cases hb:Nat.blt d h.n with
  |false=>rw [hb]at hp;cases hp
  |true=>
   rw [hb]at hp;simp only [cond_true]at hp;cases hf:h.fz.contains d with
   |true=>
    rw [hf]at hp;simp only [cond_true]at hp;split at hp
    ·cases hp
     exact⟨⟨[],by simp⟩,fun i hi _=>A2 fun e=>hi (by rw [e]),fun _ i hi=>A2 fun e=>hi (by rw [e])⟩
    ·cases hp
   |false=>
    rw [hf]at hp;simp only [cond_false,Option.some.injEq]at hp;subst hp;unfold St.add;split
    ·exact⟨⟨[],by simp⟩,fun i hi _=>A2 fun e=>hi (by rw [e]),fun _ i hi=>A2 fun e=>hi (by rw [e])⟩
    ·rename_i q new _
     refine⟨⟨q::new,rfl⟩,fun i hi hst=>?_,fun hr=>?_⟩
     ·show AQ (fun i=>(s.t i).chk s.r.length) d (y.prom s.r.length).1 i=s.t i
      rw [A2 (fun e=>hi (by rw [e]))]
      exact Sl.chk_stay hst _
     ·have:=congrArg List.length hr
      simp at this
theorem PO{h:CC}{s s':St}{d:Option Nat}{y:Sl}(hp:s.put h d y=some s'):Kp (fun i=>decide (d≠some i)) s s':=by
 obtain⟨⟨new,hr⟩,ht,_⟩:=PP hp;refine⟨fun i hi hs=>ht i (of_decide_eq_true hi) hs,fun id hl hid=>?_,by rw [hr];simp⟩
 rw [hr];simp only [gDE,gAL hl]
theorem Ku{r r':Ae}{i k:Nat}{c:Cl}(h:r.setCell i k c=some r'):r.isRo=false:=by
 cases r with
 |dead=>cases h
 |opt=>cases h
 |obj ro l=>cases ro with
  |true=>cases h
  |false=>rfl
 |arr ro t d xs=>cases ro with
  |true=>cases h
  |false=>rfl
theorem IZ{r r':Ae}{p:A1}{i k:Nat}{c:Cl}(h:r.setAt p i k c=some r'):r.isRo=false:=by
 cases p with
 |nil=>exact Ku h
 |cons a p=>
  unfold Ae.setAt at h;split at h
  ·split at h
   ·exact Ku h
   ·cases h
  ·cases h
theorem XF{id:Nat}{p:A1}{i k:Nat}{c:Cl}{r r':List Ae}{j:Mv}(h:On id p i k c r=some (r',j)): ∀id',(r.getD id' .dead).isRo=true->r'.getD id' .dead=r.getD id' .dead:=by
 intro id' hro
 have key: ∀x r0 y,(r.getD id .dead).setAt p i k y=some r0->(r.set id x).getD id' .dead=r.getD id' .dead:=by
  intro x r0 y hs;have:id'≠id:=by
   rintro rfl
   rw [IZ hs]at hro;cases hro
  simp only [gDE,List.getElem?_set_ne (Ne.symm this)]
 unfold On at h;split at h
 ·rename_i j'
  cases hb:Nat.beq j' id with
  |true=>rw [hb]at h;cases h
  |false=>
   rw [hb]at h;simp only [cond_false]at h;split at h
   case h_2=>cases h
   rename_i t d xs hj;split at h
   case h_2=>cases h
   rename_i r0 hs;cases h;have:id'≠j':=by rintro rfl;rw [hj]at hro;cases hro
   have e:((r.set id r0).set j' .dead).getD id' .dead=(r.set id r0).getD id' .dead:=by
    simp only [gDE,List.getElem?_set_ne (Ne.symm this)]
   rw [e];exact key _ _ _ hs
 ·rename_i j' a q
  cases hb:Nat.beq j' id with
  |true=>rw [hb]at h;cases h
  |false=>
   rw [hb]at h;simp only [cond_false]at h;split at h
   case h_2=>cases h
   rename_i t d xs hj;split at h
   case h_2=>cases h
   rename_i r1 r0 hcut hs;cases h;have h1:id'≠j':=by
    rintro rfl
    rw [Mi hcut]at hro;cases hro
   have h2:id'≠id:=by
    rintro rfl
    rw [IZ hs]at hro;cases hro
   simp only [gDE,List.getElem?_set_ne (Ne.symm h2)];rcases Nat.lt_or_ge id' r.length with h3|h3
   ·rw [gAL (by simpa using h3),List.getElem?_set_ne (Ne.symm h1)]
   ·rw [List.getElem?_eq_none (l:=r) h3]
    by_cases h4:id'=r.length
    ·subst h4
     rw [gAR (by simp)]
     simp
    ·rw [List.getElem?_eq_none (by simp;omega)]
 ·cases hb:c.imm with
  |false=>rw [hb]at h;cases h
  |true=>
   rw [hb]at h;simp only [cond_true]at h;split at h
   case h_2=>cases h
   rename_i r0 hs;cases h;exact key _ _ _ hs
theorem Zy{id:Nat}{p:A1}{i:Nat}: ∀ (m k:Nat) (cs:List Cl) (s s':St),XG id p i m k cs s=some s'->Kp (fun _=>true) s s':=by
 intro m
 induction m with
 |zero=>intro k cs s s' h;cases cs<;>cases h;exact Kp.refl _ _
 |succ m ih=>
  intro k cs s s' h;cases cs with
  |nil=>cases h;exact Kp.refl _ _
  |cons c cs=>
   unfold XG at h;split at h
   case h_2=>cases h
   rename_i r' mv h1;refine Kp.trans (s1:=⟨fun x=>(s.t x).kill id ((p++ [(i,k)]).map (·.2)) mv,r'⟩) (g1:=fun _=>true) ⟨fun x _ hx=>Sl.kill_stay hx _ _ _,fun id' _=>XF h1 id',by obtain⟨_,_,_,_,_,hl,_⟩:=Vj h1 [];show s.r.length<=r'.length;omega⟩ (ih _ _ _ _ h) (fun _ _=>rfl) fun _ _=>rfl
theorem Vh{s s':St}{ti:Option TI}{x v:Option Sl}(h:IG s ti x v=some s'):Kp (fun _=>true) s s':=by
 unfold IG at h;split at h
 case h_2=>cases h
 split at h
 case h_2=>cases h
 rename_i ti id p i k y _ l hl;cases hb:(Nat.beq l.length ti.ty.w&&Nat.ble (k+ti.ty.w) (Ag s.r id p).w&&(Ag s.r id p).live)with
 |false=>rw [hb]at h;cases h
 |true=>rw [hb]at h;exact Zy _ _ _ _ _ h
theorem XI{s:St}{ti:Option TI}{x v:Option Sl}{A:PtR}(h:Vk s ti x v=some A):Kp (fun _=>true) s A.s:=by
 unfold Vk at h;split at h
 case h_2=>cases h
 rename_i ti id p i k id' q off len;cases hb:(Nat.beq id' id&&Nat.beq ti.ty.w 1&&Nat.ble (k+1) (Ag s.r id p).w&&(Ag s.r id p).live)with
 |false=>rw [hb]at h;cases h
 |true=>
 rw [hb]at h;simp only [cond_true]at h;split at h
 case h_2=>cases h
 split at h
 case h_2=>cases h
 split at h
 case h_2=>cases h
 rename_i r0 hset;cases h;refine⟨fun j _ hj=>Sl.kill_stay hj _ _ _,fun id2 hid hro=>?_,by simp⟩
 have:id2≠id:=by
  rintro rfl
  rw [IZ hset]at hro;cases hro
 show(s.r.set id r0).getD id2 .dead=_;simp only [gDE,List.getElem?_set_ne (Ne.symm this)]
theorem Sl.kH_stay{y:Sl}(h:y.stay=true)(r:List Ae)(j:Nat):y.kH r j=y:=by
 cases y with
 |one c=>
  cases c with
  |rf=>cases h
  |rs=>cases h
  |rp=>cases h
  |_=>rfl
 |new=>exact Sl.kill_stay h j [] []
 |agg=>exact Sl.kill_stay h j [] []
 |tup=>exact Sl.kill_stay h j [] []
 |pk=>exact Sl.kill_stay h j [] []
theorem K2: ∀ (js:List Nat) (s:St),(∀j∈js,(s.r.getD j .dead).isRo=false\/s.r.getD j .dead= .dead)->Kp (fun _=>true) s (BA js s)
 | [],s,_=>Kp.refl _ _
 |j::js,s,h=>by
  have h1:Kp (fun _=>true) s (IV j s):=by
   refine⟨fun i _ hi=>Sl.kH_stay hi _ _,fun id hid hro=>?_,by rw [N1];exact Nat.le_refl _⟩
   by_cases hne:j=id
   ·subst hne
    rcases h j (List.mem_cons_self ..)with h2|h2
    ·rw [h2]at hro;cases hro
    ·show(s.r.set j .dead).getD j .dead=_
     rw [h2];simp [hid]
   ·exact Ii hne
  refine h1.trans (K2 js (IV j s) fun i hi=>?_) (fun _ _=>rfl) fun _ _=>rfl
  by_cases he:i=j
  ·subst he
   right;show(s.r.set i .dead).getD i .dead= .dead;by_cases hlt:i<s.r.length
   ·simp [hlt]
   ·rw [gDE,List.getElem?_eq_none (by simp;omega)];rfl
  ·have:(IV j s).r.getD i .dead=s.r.getD i .dead:=Ii (Ne.symm he)
   rw [this];exact h i (mCM _ hi)
theorem N0(js:List Nat)(s:St)(h: ∀j∈js,(s.r.getD j .dead).isRo=false):Kp (fun _=>true) s (BA js s):=K2 js s fun j hj=>.inl (h j hj)
theorem Sl.gv_stay{y:Sl}(h:y.stay=true)(r:List Ae)(j:Nat)(z:Cl):y.gv r j z=y:=by
 unfold Sl.gv;split
 ·cases h
 ·exact Sl.kH_stay h r j
theorem Yn{j:Nat}{s s':St}(h:Wz j s=some s'):Kp (fun _=>true) s s':=by
 obtain⟨l,t,x,hj,hr,hf,rfl⟩:=KS h;refine⟨fun i _ hi=>Sl.gv_stay hi _ _ _,fun id hid hro=>Ii fun e=>?_,by simp⟩
 rw [<-e,hr]at hro;cases hro
theorem I7: ∀ (xs:List Operand) {s s':St},NR xs s=some s'->Kp (fun _=>true) s s'
 | [],s,s',h=>by cases h;exact Kp.refl _ _
 |x::xs,s,s',h=>by
  unfold NR at h;split at h
  ·split at h
   case h_2=>cases h
   rename_i h1;exact(Yn h1).trans (I7 xs h) (fun _ _=>rfl) fun _ _=>rfl
  ·exact I7 xs h
theorem Sl.mapC_stay{y:Sl}(h:y.stay=true)(id:Nat)(q:A1)(m:Nat):y.mapC (Cl.rr id q m)=y:=by
 have c1: ∀y:Cl,y.stay=true->y.rr id q m=y:=by intro y h;cases y<;>first|rfl|cases h
 cases y with
 |one y=>exact congrArg Sl.one (c1 y h)
 |new l=>rfl
 |agg l=>exact congrArg Sl.agg (AM fun y hy=>c1 y (aET.1 h y hy))
 |pk t l=>exact congrArg (Sl.pk t) (AM fun y hy=>c1 y (aET.1 h y hy))
 |tup l=>
  refine congrArg Sl.tup (AM fun p hp=>?_)
  obtain⟨b,m⟩:=p;exact congrArg (Prod.mk b) (AM fun y hy=>c1 y (aET.1 (aET.1 h _ hp) y hy))
theorem Mh{s s':St}{x:Option Sl}(h:Y7 s x=some s'):Kp (fun _=>true) s s':=by
 unfold Y7 at h;split at h
 case h_2=>cases h;exact Kp.refl _ _
 rename_i id b q1
 have key: ∀ (r1 R:Ae),Mj (s.r.getD id .dead) (b::q1)=some r1->Kp (fun _=>true) s ⟨fun i=>(s.t i).mapC (Cl.rr id (b::q1) s.r.length),s.r.set id r1++ [R]⟩:=by
  intro r1 R hcut;refine⟨fun i _ hi=>Sl.mapC_stay hi _ _ _,fun id' hlt hro=>?_,by simp⟩
  have hne:id'≠id:=by
   rintro rfl
   rw [Mi hcut]at hro;cases hro
  simp only [gDE];rw [gAL (by simpa using hlt),List.getElem?_set_ne (Ne.symm hne)]
 split at h
 case h_2=>cases h;exact Kp.refl _ _
 rename_i r1 t d xs hcut hn;cases h;exact key _ _ hcut
theorem Sl.mapK_stay{y:Sl}(h:y.stay=true)(id:Nat)(q:A1)(m:Nat):y.mapC (Cl.rk id q m)=y:=by
 have c1: ∀y:Cl,y.stay=true->y.rk id q m=y:=by intro y h;cases y<;>first|rfl|cases h
 cases y with
 |one y=>exact congrArg Sl.one (c1 y h)
 |new l=>rfl
 |agg l=>exact congrArg Sl.agg (AM fun y hy=>c1 y (aET.1 h y hy))
 |pk t l=>exact congrArg (Sl.pk t) (AM fun y hy=>c1 y (aET.1 h y hy))
 |tup l=>
  refine congrArg Sl.tup (AM fun p hp=>?_)
  obtain⟨b,m⟩:=p;exact congrArg (Prod.mk b) (AM fun y hy=>c1 y (aET.1 (aET.1 h _ hp) y hy))
theorem Aay{s s':St}{x:Operand}(h:cutO s x=some s'):Kp (fun _=>true) s s':=by
 unfold cutO at h;split at h
 case h_2=>exact Mh h
 rename_i y;split at h
 case h_2=>exact Mh h
 rename_i id b q1 hy;split at h
 case h_2=>exact Mh h
 rename_i r1 t d v hcut hn;cases h;refine⟨fun i _ hi=>?_,fun id' hlt hro=>?_,by simp⟩
 ·show(bif Nat.beq i y then Sl.one (.rf s.r.length [])else(s.t i).mapC _)=s.t i
  cases he:Nat.beq i y with
  |false=>exact Sl.mapK_stay hi _ _ _
  |true=>
   have e:=bqE he;subst e;rw [hy]at hi;cases hi
 ·have hne:id'≠id:=by
   rintro rfl
   rw [Mi hcut]at hro;cases hro
  simp only [gDE];rw [gAL (by simpa using hlt),List.getElem?_set_ne (Ne.symm hne)]
theorem W1{s:St}{t:Ty}{id:Nat}{y:Option Sl}{d:Nat}{ys:List t.T}{js:List Nat}(h:Xq s t id y=some (d,ys,js)): ∀j∈js,(s.r.getD j .dead).isRo=false:=by
 replace h:=(W2 h).1
 unfold UK at h;split at h
 case h_4=>cases h
 ·split at h<;>cases h
  intro j hj;cases hj
 ·rename_i j q
  split at h
  case h_2=>cases h
  rename_i ro t' d' ys' hn;split at h
  case isFalse=>cases h
  cases hb:Nat.beq j id with
  |true=>rw [hb]at h;cases h
  |false=>
   rw [hb]at h;simp only [cond_false]at h;cases hd:Nat.beq t.dep 0 with
   |true=>rw [hd]at h;cases h;intro j hj;cases hj
   |false=>
    rw [hd]at h;simp only [cond_false]at h;split at h
    case h_2=>cases h
    cases ro with
    |true=>cases h
    |false=>
     cases h;intro i hi;simp at hi;subst hi;have hn:s.r.getD i .dead= .arr false t' d ys':=hn;rw [hn];rfl
 ·split at h
  case h_2=>cases h
  rename_i j q off len _ ro t' d' ys' hn;split at h
  case isFalse=>cases h
  cases hb:(Nat.beq j id|| !Nat.beq t.dep 0)with
  |true=>rw [hb]at h;cases h
  |false=>rw [hb]at h;cases h;intro j hj;cases hj
theorem QW{s:St}{i:Option TI}{x y:Option Sl}{A:LR}(h:Jg s i x y=some A): ∀j∈A.js,(s.r.getD j .dead).isRo=false:=by
 unfold Jg at h;split at h
 ·cases h
 rename_i ti;cases hb:(Nat.blt 0 ti.bytes&&Nat.blt 0 ti.ty.w)with
 |false=>rw [hb]at h;cases h
 |true=>
  rw [hb]at h;simp only [cond_true]at h;split at h
  case h_3=>cases h
  ·split at h
   case h_2=>cases h
   rename_i hy;cases h;exact W1 hy
  ·rename_i id
   split at h
   case h_2=>cases h
   rename_i t' d xs hr;split at h
   case isFalse=>cases h
   rename_i ht;subst ht;split at h
   case h_2=>cases h
   rename_i d' ys js hy;cases hdk:dOK ti.ty d' d with
   |false=>rw [hdk]at h;cases h
   |true=>
    rw [hdk]at h;cases h;intro j hj;rcases List.mem_cons.1 hj with rfl|hj
    ·rw [hr];rfl
    ·exact W1 hy j hj
theorem ZF{s:St}(wr: ∀ {l m:List Cl} {js:List (Option Nat)},Lo s.r l=some (m,js)->∀j∈Ut js,(s.r.getD j .dead).isRo=false){n:Nat}{ps:List (Nat×Option Sl)}{i:Option TI}{A:LR}(h:tBSM s n ps i=some A): ∀j∈A.js,(s.r.getD j .dead).isRo=false:=by
 unfold tBSM at h;split at h
 case h_2=>cases h
 rename_i j;cases hb:(Nat.blt 0 j.ty.w&&Nat.ble (n*j.ty.w) 16777216)with
 |false=>rw [hb]at h;cases h
 |true=>
  rw [hb]at h;simp only [cond_true]at h;split at h
  case h_2=>cases h
  split at h
  case h_2=>cases h
  rename_i m js hm;cases hap:apO js with
  |false=>rw [hap]at h;cases h
  |true=>
   rw [hap]at h;simp only [cond_true]at h;split at h
   ·cases h
   split at h
   case h_2=>cases h
   cases h;exact wr hm
theorem Lm{r:List Ae}: ∀ {l m:List Cl} {js:List (Option Nat)},Lo r l=some (m,js)->∀j∈Ut js,(r.getD j .dead).isRo=false
 | [],m,js,h=>by cases h;intro j hj;cases hj
 |y::l,m,js,h=>by
  unfold Lo at h;split at h
  ·rename_i he;cases he
  ·rename_i id l' he
   cases he;split at h
   case h_2=>cases h
   rename_i t d xs hroot;split at h
   case h_2=>cases h
   rename_i m' js' h1;cases h;intro j hj;rcases List.mem_cons.1 hj with rfl|hj
   ·rw [hroot];rfl
   ·exact Lm h1 j hj
  ·rename_i y' l' hne he
   cases he;cases hi:y.imm with
   |false=>rw [hi]at h;cases h
   |true=>
    rw [hi]at h;simp only [cond_true]at h;split at h
    case h_2=>cases h
    rename_i m' js' h1;cases h;exact fun j hj=>Lm (l:=l) h1 j hj
theorem M1{r r':Ae}{p:A1}{u:Ty}{d:Nat}{xs:List u.T}(h:r.setPath p u d xs=some r'):r.isRo=false:=by
 unfold Ae.setPath at h;split at h
 ·split at h
  ·rfl
  ·cases h
 ·exact IZ h
theorem Kr{id:Nat}: ∀ (LD:List (C4×Nat)) (ys:List (Σ t:Ty,t.T)) (r r':List Ae),C1 LD ys r=some r'->(r.getD id .dead).isRo=true->r'.getD id .dead=r.getD id .dead
 | [],[],r,r',h,_=>by cases h;rfl
 |(a,d)::LD,⟨.sl u,xs⟩::ys,r,r',h,hro=>by
  unfold C1 at h;split at h
  case h_2=>cases h
  rename_i x hx;have hne:a.1≠id:=fun e=>by rw [<-e,M1 hx]at hro;cases hro
  rw [Kr LD ys _ _ h (by rw [Ii hne];exact hro),Ii hne]
 | [],_::_,_,_,h,_=>by cases h
 |_::_,[],_,_,h,_=>by cases h
 |_::_,⟨.int _,_⟩::_,_,_,h,_=>by cases h
 |_::_,⟨.bool,_⟩::_,_,_,h,_=>by cases h
 |_::_,⟨.str,_⟩::_,_,_,h,_=>by cases h
 |_::_,⟨.unit,_⟩::_,_,_,h,_=>by cases h
 |_::_,⟨.ptr _,_⟩::_,_,_,h,_=>by cases h
 |_::_,⟨.clo _ _,_⟩::_,_,_,h,_=>by cases h
 |_::_,⟨.osl _,_⟩::_,_,_,h,_=>by cases h
 |_::_,⟨.pair _ _,_⟩::_,_,_,h,_=>by cases h
theorem Sl.killP_stay{y:Sl}(h:y.stay=true)(f:Nat->A1->Bool):y.killP f=y:=by
 have c1: ∀y:Cl,y.stay=true->y.killP f=y:=by intro y h;cases y<;>first|rfl|cases h
 cases y with
 |one y=>exact congrArg Sl.one (c1 y h)
 |new l=>rfl
 |agg l=>exact congrArg Sl.agg (AM fun y hy=>c1 y (aET.1 h y hy))
 |pk t l=>exact congrArg (Sl.pk t) (AM fun y hy=>c1 y (aET.1 h y hy))
 |tup l=>
  refine congrArg Sl.tup (AM fun p hp=>?_)
  obtain⟨b,m⟩:=p;exact congrArg (Prod.mk b) (AM fun y hy=>c1 y (aET.1 (aET.1 h _ hp) y hy))
theorem Vq{Γ:List EnW}{s s1:St}{f:FuncId}{xs:List (Option Sl)}{A:Xf}{u:A.α}(ha:MV Γ s f xs=some A)(hst:A.st u=some s1):Kp (fun _=>true) s s1:=by
 unfold MV at ha;split at ha
 case h_2=>cases ha
 rename_i e he;split at ha
 case h_2=>cases ha
 rename_i z LD hz;cases hap:Li (LD.map (·.1))with
 |false=>rw [hap]at ha;cases ha
 |true=>
 rw [hap]at ha;cases ha
 have hst:(match C1 LD (wOf (IF e.S.ps) u.2) s.r with
  |some r'=>some (⟨fun i=>(s.t i).killP (Yj (LD.map (·.1)) s.r.length),r'⟩:St)
  |none=>none)=some s1:=hst
 split at hst
 case h_2=>cases hst
 rename_i r' hr';cases hst;exact⟨fun i _ hi=>Sl.killP_stay hi _,fun id _ hro=>Kr LD _ _ _ hr' hro,by
  show s.r.length<=r'.length;rw [(Jm _ _ _ _ hr').1];exact Nat.le_refl _⟩
def AaS:List Operand->St->Option St
 | [],s=>some s
 |x::xs,s=>match cutO s x with
  |some s'=>AaS xs s'
  |none=>none
theorem WL{C:Ctx}{N:Nat}{a:Act}{w:World}: ∀ (xs:List Operand) {s s':St},AaS xs s=some s'->A0 C N s.den a w->A0 C N s'.den a w
 | [],s,s',h,hs=>by cases h;exact hs
 |x::xs,s,s',h,hs=>by
  unfold AaS at h;split at h
  case h_2=>cases h
  rename_i h1;exact WL xs h (Aax h1 hs)
theorem WM: ∀ (xs:List Operand) {s s':St},AaS xs s=some s'->Kp (fun _=>true) s s'
 | [],s,s',h=>by cases h;exact Kp.refl _ _
 |x::xs,s,s',h=>by
  unfold AaS at h;split at h
  case h_2=>cases h
  rename_i h1;exact(Aay h1).trans (WM xs h) (fun _ _=>rfl) fun _ _=>rfl
end Go.Ve


namespace Go.Ve
def backs:List (Nat×Nat)->Ms->Ms
 | [],S=>S
 |p::B,S=>backs B ⟨AV S.t p.1 (Ky p.2 (S.t p.1)),S.σ.set p.2 (S.t p.1)⟩
def L9(v:V):Prop:=∃s sz n f,v= .nd s true sz n f/\(s=false->0<sz/\n=1)
theorem PR.backs{C:Ctx}{N:Nat}{a:Act}{w:World}{D:Nat->Prop}{ρ:Nat->Value}: ∀ (B:List (Nat×Nat)) (t:Nat->V) (σ:List V) (F:Nat->Nat->Prop) (T:Nat->Nat->Prop),PR C N σ ρ F t a w D T->
  (B.map (·.1)).Nodup->(B.map (·.2)).Nodup->(∀p∈B,p.1<N/\p.2<σ.length/\σ.getD p.2 .dead= .dead/\a.tmps.getD p.1 undef=ρ p.2/\L9 (t p.1))->
  ∃F' T',PR C N (Go.Ve.backs B ⟨t,σ⟩).σ ρ F' (Go.Ve.backs B ⟨t,σ⟩).t a w D T'/\∀x b,T' x b->T x b/\x∉B.map (·.1)
 | [],t,σ,F,T,h,_,_,_=>⟨F,T,h,fun x b hb=>⟨hb,by simp⟩⟩
 |p::B,t,σ,F,T,h,hn1,hn2,hB=>by
  obtain⟨h1,h2,h3,h4,s,sz,n,f,h5,h6⟩:=hB p (List.mem_cons_self ..);have hb:=h.back2 h1 h2 h3 h5 h6 h4;rw [List.map_cons,List.nodup_cons]at hn1 hn2;obtain⟨F',T',hp,hT⟩:=PR.backs B _ _ _ _ hb hn1.2 hn2.2 fun q hq=>by
   obtain⟨g1,g2,g3,g4,g5⟩:=hB q (mCM _ hq);have e1:q.1≠p.1:=fun e=>hn1.1 (e▸List.mem_map.2 ⟨q,hq,rfl⟩)
   have e2:q.2≠p.2:=fun e=>hn2.1 (e▸List.mem_map.2 ⟨q,hq,rfl⟩)
   refine⟨g1,by simpa using g2,?_,g4,?_⟩
   ·refine Eq.trans ?_ g3
    simp only [gDE];rw [List.getElem?_set_ne (Ne.symm e2)]
   ·simp only [AV,e1,if_false]
    exact g5
  refine⟨F',T',hp,fun x b hb=>?_⟩
  obtain⟨k1,k2⟩:=hT x b hb;refine⟨k1.2,?_⟩;rw [List.map_cons,List.mem_cons];exact fun h=>h.elim k1.1 k2
def Cn(s:St)(y:Nat):Option Nat:=match s.t y with
 | .one (.rf id [])=>match s.r.getD id .dead with
  | .arr false _ _ _=>some id
  |_=>none
 | .one (.rp id [] 0 0)=>match s.r.getD id .dead with
  | .obj false l=>match Iw l with
   |some _=>bif l.any Cl.own||Nat.beq l.length 0 then none else some id
   |none=>none
  |_=>none
 |_=>none
def YS(s:St)(y:Nat):Sl:=match s.t y with
 | .one (.rf id [])=>match s.r.getD id .dead with
  | .arr false t d xs=>.one (.c (.sl t) (d+1) xs)
  |_=>.one .dead
 | .one (.rp id [] 0 0)=>match s.r.getD id .dead with
  | .obj false l=>match Iw l with
   |some ⟨t,x⟩=>.one (.c (.ptr t) 1 x)
   |none=>.one .dead
  |_=>.one .dead
 |_=>.one .dead
def Uv(s:St):List Nat->Option (List Nat)
 | []=>some []
 |y::l=>match Cn s y with
  |some id=>match Uv s l with
   |some m=>some (id::m)
   |none=>none
  |none=>none
def ndB:List Nat->Bool
 | []=>true
 |a::l=>!l.contains a&&ndB l
def JO(Y:List Nat)(s:St):Option St:=match Y with
 | []=>some s
 |Y=>match Uv s Y with
  |some ids=>bif ndB ids then some ⟨fun i=>bif Y.contains i then YS s i else(BA ids s).t i,(BA ids s).r⟩else none
  |none=>none
theorem Qg{c:Cl}(h:c.own=false):frz c.v0=c.v0:=by
 cases c with
 |c t d x=>
  cases t with
  |int k=>rfl
  |bool=>rfl
  |str=>rfl
  |unit=>rfl
  |pair a b=>rfl
  |sl t=>cases d with
   |zero=>exact List.singleton_inj.1 (Bo (.sl t) 0 x)
   |succ d=>cases h
  |ptr t=>cases d with
   |zero=>exact List.singleton_inj.1 (Bo (.ptr t) 0 x)
   |succ d=>cases h
  |clo g t=>exact List.singleton_inj.1 (Bo (.clo g t) 0 x)
  |osl t=>cases d with
   |zero=>exact List.singleton_inj.1 (Bo (.osl t) 0 x)
   |succ d=>cases x with
    |none=>rfl
    |some y=>cases h
 |_=>rfl
theorem Ch{s:St}{y id:Nat}(h:Cn s y=some id):(s.r.getD id .dead).isRo=false/\(s.t y).stay=false/\L9 (s.r.getD id .dead).v/\(∀r,(YS s y).v r=(s.r.getD id .dead).v)/\(s.t y).v s.r=Ky id (s.r.getD id .dead).v:=by
 unfold Cn at h;split at h
 case h_3=>cases h
 ·rename_i id' hy
  split at h
  case h_2=>cases h
  rename_i t d xs hr;cases h;rw [hr];refine⟨rfl,by rw [hy];rfl,⟨true,_,_,_,rfl,fun h=>by cases h⟩,fun r=>?_,?_⟩
  ·unfold YS
   rw [hy];simp only [hr];show arr (decide (0<d+1)) t.w (tyV t (d+1-1)) t.dflt xs=arr true t.w (tyV t d) t.dflt xs;simp
  ·rw [hy]
   show V.rs id [] 0 (Ag s.r id []).len=_
   have:(Ag s.r id []).len=xs.length:=by
    show(s.r.getD id .dead).len=_;rw [hr];rfl
   rw [this];rfl
 ·rename_i id' hy
  split at h
  case h_2=>cases h
  rename_i l hr;split at h
  case h_2=>cases h
  rename_i D hf;cases hb:(l.any Cl.own||Nat.beq l.length 0)with
  |true=>rw [hb]at h;cases h
  |false=>
   rw [hb]at h;cases h;rw [Bool.or_eq_false_iff]at hb;have hl:0<l.length:=by
    rcases Nat.eq_zero_or_pos l.length with e|e
    ·rw [e]at hb;cases hb.2
    ·exact e
   rw [hr];refine⟨rfl,by rw [hy];rfl,⟨false,_,_,_,rfl,fun _=>⟨by simpa using hl,rfl⟩⟩,fun r=>?_,?_⟩
   ·obtain⟨t,x⟩:=D
    unfold YS;rw [hy];simp only [hr,hf];show Bk (decide (0<1)) (tyV t 0 x)=Bk true (l.map Cl.v0);have e1:=Ds _ _ hf
    have e2:(l.map Cl.v0).map frz=l.map Cl.v0:=by
     rw [List.map_map];refine List.map_congr_left fun c hc=>Qg ?_
     have:=List.any_eq_false.1 hb.1 c hc;simpa using this
    have e3:tyV t 0 x=l.map Cl.v0:=e1.trans e2;rw [e3];rfl
   ·rw [hy];rfl
theorem JK{s:St}: ∀ {Y ids:List Nat},Uv s Y=some ids->(∀y∈Y,∃id∈ids,Cn s y=some id)/\(∀id∈ids,∃y∈Y,Cn s y=some id)
 | [],ids,h=>by cases h;exact⟨(fun _ h=>by cases h),(fun _ h=>by cases h)⟩
 |y::Y,ids,h=>by
  unfold Uv at h;split at h
  case h_2=>cases h
  rename_i id hid;split at h
  case h_2=>cases h
  rename_i m hm;cases h;obtain⟨h1,h2⟩:=JK hm;refine⟨fun z hz=>?_,fun i hi=>?_⟩
  ·rcases List.mem_cons.1 hz with rfl|hz
   ·exact⟨id,List.mem_cons_self ..,hid⟩
   ·obtain⟨i,hi,he⟩:=h1 z hz
    exact⟨i,mCM _ hi,he⟩
  ·rcases List.mem_cons.1 hi with rfl|hi
   ·exact⟨y,List.mem_cons_self ..,hid⟩
   ·obtain⟨z,hz,he⟩:=h2 i hi
    exact⟨z,mCM _ hz,he⟩
theorem V7{s:St}: ∀ {Y ids:List Nat},Uv s Y=some ids->ndB ids=true->∀x∈Y,∀y∈Y,∀id,Cn s x=some id->Cn s y=some id->x=y
 | [],_,_,_,x,hx,_,_,_,_,_=>by cases hx
 |z::Y,ids,h,hn,x,hx,y,hy,id,h1,h2=>by
  unfold Uv at h;split at h
  case h_2=>cases h
  rename_i id0 hid;split at h
  case h_2=>cases h
  rename_i m hm;cases h;have hn:(!m.contains id0&&ndB m)=true:=hn;rw [bAE,Bool.not_eq_true']at hn;have out: ∀u∈Y,Cn s u≠some id0:=by
   intro u hu he;obtain⟨i,hi,hi2⟩:=(JK hm).1 u hu;rw [he]at hi2;cases hi2;have:m.contains id0=true:=by simpa using hi
   rw [hn.1]at this;cases this
  by_cases ex:x=z
  ·by_cases ey:y=z
   ·rw [ex,ey]
   ·have hy':y∈Y:=(List.mem_cons.1 hy).resolve_left ey
    rw [ex,hid]at h1;cases h1;exact absurd h2 (out y hy')
  ·have hx':x∈Y:=(List.mem_cons.1 hx).resolve_left ex
   by_cases ey:y=z
   ·rw [ey,hid]at h2
    cases h2;exact absurd h1 (out x hx')
   ·exact V7 hm hn.2 x hx' y ((List.mem_cons.1 hy).resolve_left ey) id h1 h2
theorem N2{C:Ctx}{N:Nat}{s s1:St}{Y:List Nat}{a:Act}{w:World}(h:JO Y s=some s1)(hs:A0 C N s.den a w){w':World}(hB:Below w.heap.size w w'):
  ∃D ρ F T,PR C N s1.den.σ ρ F s1.den.t a w' D T/\(∀x b,T x b->x∈Y)/\∀x id,x<N->Cn s x=some id->a.tmps.getD x undef=ρ id:=by
 obtain⟨hdf,hdd,D0,ρ0,F0,hcr0⟩:=hs;obtain⟨D,ρ,F,hcr⟩:=hcr0.below hB;have hsz:a.tmps.size=N:=by simpa using hcr.sz
 have base: ∀ {s1:St} {F1:Nat->Nat->Prop},CR C s1.den.σ ((List.range N).map s1.den.t) a.tmps w' D ρ F1->(∀x,N<=x->s1.den.t x= .dead)->PR C N s1.den.σ ρ F1 s1.den.t a w' D (fun _=>noF):=by
  intro s1 F1 hc hd;refine⟨hdf,hsz,hd,hc.wr,fun x hx=>?_,fun _ _ h=>h.elim,fun _ _ _ _ h=>h,fun _ _ _ _ h=>h.elim,fun _ _ h=>h.elim,hc.fr,hc.Fn,hc.D1,hc.D2,hc.rt,hc.ml,fun _ _ _ h=>h⟩
  have h1:=hc.tm x (by simpa using hx)
  rw [AY hx]at h1;exact h1
 have hval: ∀x id,x<N->Cn s x=some id->a.tmps.getD x undef=ρ id:=by
  intro x id hx hid;obtain⟨g1,g2,⟨s0,sz0,n0,f0,g3,g4⟩,g5,g6⟩:=Ch hid;have hr:=hcr.tm x (by simpa using hx)
  rw [AY hx]at hr;have e0:s.den.t x=Ky id (s.r.getD id .dead).v:=g6;rw [e0]at hr;have e3:s.den.σ.getD id .dead=(s.r.getD id .dead).v:=AI _ _;have hlt:id<s.r.length:=by
   rcases Nat.lt_or_ge id s.r.length with h|h
   ·exact h
   ·rw [gDE,List.getElem?_eq_none h]at g1;cases g1
  have hrel:=hcr.wr.rel id (by simpa [St.den]using hlt)
  rw [e3]at hrel;exact VO g3 g4 (by rw [e3]) hrel hr
 unfold JO at h;split at h
 ·cases h
  exact⟨D,ρ,F,fun _=>noF,base hcr hdd,fun _ _ h=>h.elim,hval⟩
 split at h
 case h_2=>cases h
 rename_i ids hids;cases hn:ndB ids with
 |false=>rw [hn]at h;cases h
 |true=>
 rw [hn]at h;cases h;obtain⟨v1,v2⟩:=JK hids;have hlt: ∀j∈ids,j<s.r.length:=by
  intro j hj;obtain⟨y,_,hy⟩:=v2 j hj;have hr:=(Ch hy).1;rcases Nat.lt_or_ge j s.r.length with h|h
  ·exact h
  ·rw [gDE,List.getElem?_eq_none h]at hr;cases hr
 obtain⟨F1,hcr1,hF1⟩:=HZ ids hcr hlt;have hp:=base (s1:=BA ids s) hcr1 (Dc ids hdd);have hYN: ∀y∈Y,y<N:=by
  intro y hy;obtain⟨id,_,hi⟩:=v1 y hy;obtain⟨_,_,⟨s0,_,_,_,h1,_⟩,_,h2⟩:=Ch hi;rcases Nat.lt_or_ge y N with h|h
  ·exact h
  ·have:=hdd y h
   have e:(s.t y).v s.r= .dead:=this;rw [h2,h1]at e;cases s0<;>cases e
 have hnot: ∀ {x:Nat},x∉Y->Y.contains x=false:=by
  intro x hx;cases hc:Y.contains x with
  |false=>rfl
  |true=>exact absurd (by simpa using hc) hx
 refine⟨D,ρ,F1,fun x b=>x∈Y/\∃id,Cn s x=some id/\F id b,⟨hdf,hsz,fun x hx=>?_,hp.wr,fun x hx=>?_,fun x b hb=>?_,fun i x b hb hT=>?_,fun x y b hxy h1 h2=>?_,fun x b hb=>?_,hp.fr,hp.Fn,hp.D1,hp.D2,hp.rt,hp.ml,fun x b hx hb=>?_⟩,fun x b hb=>hb.1,hval⟩
 ·have hxY:x∉Y:=fun h=>absurd (hYN x h) (Nat.not_lt.2 hx)
  show(bif Y.contains x then YS s x else(BA ids s).t x).v _= .dead;rw [hnot hxY];exact Dc ids hdd x hx
 ·by_cases hxY:x∈Y
  ·obtain⟨id,hi,hid⟩:=v1 x hxY
   obtain⟨g1,g2,⟨s0,sz0,n0,f0,g3,g4⟩,g5,g6⟩:=Ch hid;have hc:Y.contains x=true:=by simpa using hxY
   show Rel D _ _ ((bif Y.contains x then YS s x else(BA ids s).t x).v _) (a.tmps.getD x undef) _;rw [hc,cond_true,g5];have hr:=hcr.tm x (by simpa using hx)
   rw [AY hx]at hr;have e0:s.den.t x=Ky id (s.r.getD id .dead).v:=g6;rw [e0]at hr;have e3:s.den.σ.getD id .dead=(s.r.getD id .dead).v:=AI _ _;have hrel:=hcr.wr.rel id (by simpa [St.den]using hlt id hi)
   rw [e3]at hrel;have ecv:a.tmps.getD x undef=ρ id:=VO g3 g4 (by rw [e3]) hrel hr
   rw [ecv];refine Rel.fp_congr (fun b=>⟨fun hb=>⟨hxY,id,hid,hb⟩,fun⟨_,i,hi,hb⟩=>?_⟩) (Rel.noR_mono hrel)
   rw [hid]at hi;cases hi;exact hb
  ·show Rel D _ _ ((bif Y.contains x then YS s x else(BA ids s).t x).v _) (a.tmps.getD x undef) _
   rw [hnot hxY,cond_false];exact Rel.fp_congr (fun b=>⟨fun h=>h.elim,fun h=>absurd h.1 hxY⟩) (hp.tm x hx)
 ·obtain⟨_,id,_,hb⟩:=hb
  exact hcr.wr.dD id b hb
 ·obtain⟨hxY,id,hid,hb2⟩:=hT
  obtain⟨g1,g2⟩:=hF1 i b hb;obtain⟨id',hi',he⟩:=v1 x hxY;rw [hid]at he;cases he;exact hcr.wr.disj i id b (fun e=>g2 (e▸hi')) g1 hb2
 ·obtain⟨hxY,id1,hid1,hb1⟩:=h1
  obtain⟨hyY,id2,hid2,hb2⟩:=h2;by_cases e:id1=id2
  ·subst e
   exact hxy (V7 hids hn x hxY y hyY id1 hid1 hid2)
  ·exact hcr.wr.disj id1 id2 b e hb1 hb2
 ·obtain⟨_,id,_,hb⟩:=hb
  exact hcr.Fn id b hb
 ·exact absurd (hYN x hb.1) (Nat.not_lt.2 hx)
theorem N3{s s1:St}{Y:List Nat}(h:JO Y s=some s1):Kp (fun _=>true) s s1:=by
 unfold JO at h;split at h
 ·cases h;exact Kp.refl _ _
 split at h
 case h_2=>cases h
 rename_i ids hids;cases hn:ndB ids with
 |false=>rw [hn]at h;cases h
 |true=>
 rw [hn]at h;cases h;obtain⟨v1,v2⟩:=JK hids;have hk:=N0 ids s fun j hj=>by
  obtain⟨y,_,hy⟩:=v2 j hj;exact(Ch hy).1
 refine⟨fun i hi hs=>?_,hk.r,hk.l⟩
 have hiY:i∉Y:=by
  intro h;obtain⟨id,_,hid⟩:=v1 i h;rw [(Ch hid).2.1]at hs;cases hs
 show(bif Y.contains i then YS s i else(BA ids s).t i)=s.t i;have hc:Y.contains i=false:=by
  cases hc:Y.contains i with
  |false=>rfl
  |true=>exact absurd (by simpa using hc) hiY
 rw [hc];exact hk.t i hi hs
def St.promA:List (Option Nat)->St->St
 | [],s=>s
 |none::ds,s=>St.promA ds s
 |some d::ds,s=>bif(s.t d).own then St.promA ds (s.add d ((s.t d).prom s.r.length))else St.promA ds s
theorem Ay.trans: ∀ {v v' v'':V},Ay v v'->Ay v' v''->Ay v v'':=by
 have dd: ∀v'':V,Ay .dead v''->v''= .dead:=by
  intro v'' h;rcases h with h|h
  ·exact h
  ·exact h
 intro v
 induction v with
 |many t n f ih=>
  intro v' v'' h h';rcases h with rfl|⟨g,rfl,h⟩
  ·rw [dd _ h'];exact Ay.dead _
  ·rcases h' with rfl|⟨g',rfl,h'⟩
   ·exact Ay.dead _
   ·exact .inr ⟨g',rfl,fun k hk=>ih k (h k hk) (h' k hk)⟩
 |c v=>
  intro v' v'' h h';rcases h with rfl|h
  ·rw [dd _ h'];exact Ay.dead _
  ·rcases h with rfl|⟨rfl,own,sz,f,rfl⟩
   ·exact h'
   ·rcases h' with rfl|h'
    ·exact Ay.dead _
    ·exact .inr (Sub.trans (.inr ⟨rfl,own,sz,f,rfl⟩) h')
 |dead=>intro v' v'' h h';rw [dd _ h]at h';rw [dd _ h'];exact Ay.dead _
 |nd s own sz n f _=>
  intro v' v'' h h';rcases h with rfl|h
  ·rw [dd _ h'];exact Ay.dead _
  ·have h0:=h
   obtain⟨g,rfl,_⟩:=h;rcases h' with rfl|h'
   ·exact Ay.dead _
   ·exact .inr (Sub.trans h0 h')
 |rs id p off len=>
  intro v' v'' h h';rcases h with rfl|h
  ·rw [dd _ h'];exact Ay.dead _
  ·have h:v'= .rs id p off len:=h
   subst h;exact h'
 |rp id p i k=>
  intro v' v'' h h';rcases h with rfl|h
  ·rw [dd _ h'];exact Ay.dead _
  ·have h:v'= .rp id p i k:=h
   subst h;exact h'
structure YB(ds:List (Option Nat))(S:Ms)(s:St):Prop where
 σ:S.σ=s.den.σ
 t: ∀i,Ay (S.t i) (s.den.t i)
 o: ∀i,some i∈ds->((s.t i).own=true->(s.t i).stay=true)/\(S.t i=s.den.t i\/((s.t i).own=false/\AS (S.t i)=false))
theorem PE{y:Sl}(h:y.stay=true)(r r':List Ae):y.v r=y.v r':=by
 have c1: ∀y:Cl,y.stay=true->y.v r=y.v r':=by intro y h;cases y<;>first|rfl|cases h
 have cl: ∀l:List Cl,l.all Cl.stay=true->l.map (Cl.v r)=l.map (Cl.v r'):=fun l h=>List.map_congr_left fun y hy=>c1 y (aET.1 h y hy)
 cases y with
 |one y=>exact c1 y h
 |new l=>rfl
 |agg l=>exact congrArg Ai (cl l h)
 |pk t l=>exact congrArg (pkL t) (cl l h)
 |tup l=>
  refine congrArg Df (List.map_congr_left fun p hp=>?_)
  rw [cl p.2 (aET.1 h p hp)]
theorem ZZ(y:Sl)(m:Nat):(y.chk m).own=y.own:=by
 have c1: ∀y:Cl,(y.chk m).own=y.own:=by
  intro y;cases y with
  |rf id p=>show(bif Nat.blt id m then Cl.rf id p else .dead).own=_;cases Nat.blt id m<;>rfl
  |rs id p a b=>show(bif Nat.blt id m then Cl.rs id p a b else .dead).own=_;cases Nat.blt id m<;>rfl
  |rp id p a b=>show(bif Nat.blt id m then Cl.rp id p a b else .dead).own=_;cases Nat.blt id m<;>rfl
  |_=>rfl
 have cl: ∀l:List Cl,(l.map (Cl.chk m)).any Cl.own=l.any Cl.own:=by
  intro l;rw [List.any_map]
  congr 1
  funext y
  exact c1 y
 cases y with
 |one y=>exact c1 y
 |new l=>rfl
 |agg l=>exact cl l
 |pk t l=>exact cl l
 |tup l=>
  show(l.map _).any _=l.any _;rw [List.any_map]
  congr 1
  funext p
  obtain⟨b,l⟩:=p;cases b with
  |true=>exact cl l
  |false=>
   show((l.map (Cl.chk m)).getD 0 .dead).own=(l.getD 0 .dead).own;cases l with
   |nil=>rfl
   |cons y l=>exact c1 y
theorem OJ{y:Sl}{m:Nat}{r:List Ae}:AS ((y.prom m).1.v r)=false:=by
 have pc: ∀ (m0 m:Nat) (y:Cl),((y.prom m0 m).1).own=false:=by
  intro m0 m y;cases y with
  |c t d x=>cases t<;>cases d<;>first|rfl|(cases x<;>rfl)|(show(bif Nat.blt 0 _ then(Cl.rp m [] 0 0,_)else(Cl.dead,_)).1.own=false;cases Nat.blt 0 _<;>rfl)
  |rf id p=>show(bif Nat.blt id m0 then Cl.rf id p else .dead).own=_;cases Nat.blt id m0<;>rfl
  |rs id p a b=>show(bif Nat.blt id m0 then Cl.rs id p a b else .dead).own=_;cases Nat.blt id m0<;>rfl
  |rp id p a b=>show(bif Nat.blt id m0 then Cl.rp id p a b else .dead).own=_;cases Nat.blt id m0<;>rfl
  |_=>rfl
 have pl: ∀ (m0:Nat) (l:List Cl) (m:Nat),((B5 m0 m l).1).any Cl.own=false:=by
  intro m0 l
  induction l with
  |nil=>intro m;rfl
  |cons y l ih=>intro m;show(((y.prom m0 m).1).own||((B5 m0 _ l).1).any Cl.own)=false;rw [pc,ih];rfl
 have pp: ∀ (m0:Nat) (l:List (Bool×List Cl)) (m:Nat),((Dv m0 m l).1).any (fun p=>if p.1 then p.2.any Cl.own else(p.2.getD 0 .dead).own)=false:=by
  intro m0 l
  induction l with
  |nil=>intro m;rfl
  |cons p l ih=>
   intro m;show((if(In m0 m p).1.1 then(In m0 m p).1.2.any Cl.own else((In m0 m p).1.2.getD 0 .dead).own)||((Dv m0 _ l).1).any _)=false
   rw [ih,Bool.or_false];obtain⟨b,l⟩:=p;cases b with
   |true=>exact pl m0 l m
   |false=>exact pc m0 m _
 rw [Sl.own_v];cases y with
 |one y=>exact pc m m y
 |new l=>show(bif Nat.blt 0 l.length then(Sl.one (.rp m [] 0 0),[Ae.obj false l])else(.one .dead,[])).1.own=false;cases Nat.blt 0 l.length<;>rfl
 |agg l=>exact pl m l m
 |pk t l=>exact pl m l m
 |tup l=>exact pp m l m
theorem pn: ∀ (v:V) (m:Nat),AS (Go.Ve.prom v m).1=false:=by
 have pf: ∀ (g:Nat->Nat->V×List V),(∀k m,AS (g k m).1=false)->∀n m,∀x∈(BL g n m).1,AS x=false:=by
  intro g hg n m
  induction n with
  |zero=>intro x hx;cases hx
  |succ n ih=>
   intro x hx;unfold BL at hx;simp only [List.mem_append,List.mem_singleton]at hx;rcases hx with hx|rfl
   ·exact ih x hx
   ·exact hg _ _
 intro v
 induction v with
 |many t n f ih=>
  intro m;show((List.range n).any fun k=>AS ((BL (fun k=>Go.Ve.prom (f k)) n m).1.getD k .dead))=false
  rw [List.any_eq_false];intro k _;have h:=pf (fun k=>Go.Ve.prom (f k)) (fun k m=>ih k m) n m
  rw [gDE];cases hx:(BL (fun k=>Go.Ve.prom (f k)) n m).1[k]? with
  |none=>simp [AS]
  |some x=>simp [h x (List.mem_of_getElem? hx)]
 |nd s own sz n f _=>
  intro m;cases own with
  |false=>cases s<;>rfl
  |true=>cases s with
   |true=>rfl
   |false=>
    show AS (if 0<sz then(V.rp m [] 0 0,[V.nd false true sz n f])else(.dead,[])).1=false
    split<;>rfl
 |_=>intro m;rfl
theorem Jx: ∀ (ds:List (Option Nat)) (S:Ms) (s:St),YB ds S s->(∀i,Ay ((Go.Ve.promA ds S).t i) ((s.promA ds).den.t i))/\(Go.Ve.promA ds S).σ=(s.promA ds).den.σ:=by
 intro ds
 induction ds with
 |nil=>intro S s h;exact⟨h.t,h.σ⟩
 |cons d ds ih=>
  intro S s h;have hrest: ∀i,some i∈ds->some i∈d::ds:=fun i hi=>mCM _ hi
  cases d with
  |none=>exact ih S s ⟨h.σ,h.t,fun i hi=>h.o i (hrest i hi)⟩
  |some d=>
   show(∀i,Ay ((if AS (S.t d)then Go.Ve.promA ds ⟨AV S.t d (Go.Ve.prom (S.t d) S.σ.length).1,S.σ++(Go.Ve.prom (S.t d) S.σ.length).2⟩else Go.Ve.promA ds S).t i) ((bif(s.t d).own then St.promA ds (s.add d ((s.t d).prom s.r.length))else St.promA ds s).den.t i))/\
    (if AS (S.t d)then Go.Ve.promA ds ⟨AV S.t d (Go.Ve.prom (S.t d) S.σ.length).1,S.σ++(Go.Ve.prom (S.t d) S.σ.length).2⟩else Go.Ve.promA ds S).σ=(bif(s.t d).own then St.promA ds (s.add d ((s.t d).prom s.r.length))else St.promA ds s).den.σ
   obtain⟨_,hd⟩:=h.o d (List.mem_cons_self ..);cases ho:(s.t d).own with
   |false=>
    have:AS (S.t d)=false:=by
     rcases hd with e|e
     ·rw [e];show AS ((s.t d).v s.r)=false;rw [Sl.own_v,ho]
     ·exact e.2
    rw [this];exact ih S s ⟨h.σ,h.t,fun i hi=>h.o i (hrest i hi)⟩
   |true=>
    have e:S.t d=(s.t d).v s.r:=by
     rcases hd with e|e
     ·exact e
     ·rw [ho]at e;cases e.1
    have:AS (S.t d)=true:=by rw [e,Sl.own_v,ho]
    rw [this];have hl:S.σ.length=s.r.length:=by rw [h.σ];show(s.r.map Ae.v).length=_;exact List.length_map ..
    obtain⟨a1,a2⟩:=W9 (s:=s) (d:=d) (y:=s.t d)
    have hself:(s.add d ((s.t d).prom s.r.length)).t d=((s.t d).prom s.r.length).1:=by
     have hu: ∀ (t:Nat->Sl) (y:Sl),AQ t d y d=y:=fun t y=>by unfold AQ;rw [Nat.beq_refl];rfl
     unfold St.add;split
     ·exact hu _ _
     ·exact hu (fun i=>(s.t i).chk s.r.length) _
    have hother: ∀i,i≠d->(s.add d ((s.t d).prom s.r.length)).t i=s.t i\/(s.add d ((s.t d).prom s.r.length)).t i=(s.t i).chk s.r.length:=by
     intro i hi;unfold St.add;split
     ·exact .inl (A2 hi)
     ·exact .inr (A2 (t:=fun i=>(s.t i).chk s.r.length) hi)
    refine ih _ _ ⟨?_,fun i=>?_,fun i hi=>?_⟩
    ·show S.σ++(Go.Ve.prom (S.t d) S.σ.length).2=_
     rw [e,hl,h.σ];exact a2
    ·have h1:=a1 i
     show Ay (AV S.t d (Go.Ve.prom (S.t d) S.σ.length).1 i) _;rw [e,hl];unfold AV at h1⊢;by_cases hid:i=d
     ·rw [if_pos hid]at h1⊢;exact h1
     ·rw [if_neg hid]at h1⊢;exact(h.t i).trans h1
    ·obtain⟨k1,k2⟩:=h.o i (hrest i hi)
     by_cases hid:i=d
     ·subst hid
      rw [hself]
      have hno:(((s.t i).prom s.r.length).1).own=false:=by
       have:=OJ (y:=s.t i) (m:=s.r.length) (r:=s.r);rw [Sl.own_v]at this;exact this
      refine⟨(fun h=>by rw [hno]at h;cases h),.inr ⟨hno,?_⟩⟩
      show AS (AV S.t i (Go.Ve.prom (S.t i) S.σ.length).1 i)=false;unfold AV;rw [if_pos rfl];exact pn _ _
     ·have hV:AV S.t d (Go.Ve.prom (S.t d) S.σ.length).1 i=S.t i:=by unfold AV;rw [if_neg hid]
      have hcase:(s.t i).own=true->(s.add d ((s.t d).prom s.r.length)).t i=s.t i:=fun hoi=>by
       rcases hother i hid with h'|h'
       ·exact h'
       ·rw [h',Sl.chk_stay (k1 hoi)]
      have hown:((s.add d ((s.t d).prom s.r.length)).t i).own=(s.t i).own:=by
       rcases hother i hid with h'|h'
       ·rw [h']
       ·rw [h',ZZ]
      refine⟨fun hoi=>?_,?_⟩
      ·rw [hown]at hoi
       rw [hcase hoi];exact k1 hoi
      ·cases hoi:(s.t i).own with
       |false=>
        refine .inr ⟨by rw [hown,hoi],?_⟩
        show AS (AV S.t d (Go.Ve.prom (S.t d) S.σ.length).1 i)=false;rw [hV];rcases k2 with k2|k2
        ·rw [k2];show AS ((s.t i).v s.r)=false;rw [Sl.own_v,hoi]
        ·exact k2.2
       |true=>
        left;show AV S.t d (Go.Ve.prom (S.t d) S.σ.length).1 i=_;rw [hV];rcases k2 with k2|k2
        ·rw [k2]
         show(s.t i).v s.r=((s.add d ((s.t d).prom s.r.length)).t i).v _;rw [hcase hoi];exact PE (k1 hoi) _ _
        ·rw [hoi]at k2;cases k2.1
theorem add_kp{s:St}{d:Nat}{p:Sl×List Ae}:Kp (fun i=>decide (i≠d)) s (s.add d p):=by
 unfold St.add;split
 ·exact⟨fun i hi _=>A2 (of_decide_eq_true hi),fun _ _ _=>rfl,Nat.le_refl _⟩
 ·rename_i q new _
  refine⟨fun i hi hs=>?_,fun id hl hid=>?_,by simp⟩
  ·show AQ (fun i=>(s.t i).chk s.r.length) d p.1 i=s.t i
   rw [A2 (of_decide_eq_true hi)];exact Sl.chk_stay hs _
  ·show(s.r++q::new).getD id .dead=_
   simp only [gDE,gAL hl]
theorem HD: ∀ (l:List Oper) (s:St),Kp (Aq l) s (s.promA (l.map (·.dst)))
 | [],s=>Kp.refl _ _
 |o::l,s=>by
  have hc: ∀i,Aq (o::l) i=true->o.dst≠some i/\Aq l i=true:=by
   intro i h
   have hc:Aq (o::l) i=((match o.dst with
    |some e=>!Nat.beq e i
    |none=>true)&&Aq l i):=rfl
   rw [hc,bAE]at h;refine⟨fun hd=>?_,h.2⟩
   rw [hd]at h;have:=h.1;simp only [Nat.beq_refl,Bool.not_true]at this;cases this
  rw [List.map_cons];cases hd:o.dst with
  |none=>exact(HD l s).weak fun i hi=>(hc i hi).2
  |some d=>
   show Kp _ s (bif(s.t d).own then St.promA (l.map (·.dst)) (s.add d ((s.t d).prom s.r.length))else St.promA (l.map (·.dst)) s)
   cases (s.t d).own with
   |false=>exact(HD l s).weak fun i hi=>(hc i hi).2
   |true=>
    exact Kp.trans add_kp (HD l _) (fun i hi=>dT fun e=>(hc i hi).1 (by rw [hd,e])) fun i hi=>(hc i hi).2
def Cl.clr(id:Nat):Cl->Cl
 | .rf j p=>bif Nat.beq j id then .dead else .rf j p
 | .rs j p off len=>bif Nat.beq j id then .dead else .rs j p off len
 | .rp j p i k=>bif Nat.beq j id then .dead else .rp j p i k
 |y=>y
def Sl.clr(id:Nat):Sl->Sl
 | .one y=>.one (y.clr id)
 | .new l=>.new l
 | .agg l=>.agg (l.map (Cl.clr id))
 | .pk t l=>.pk t (l.map (Cl.clr id))
 | .tup l=>.tup (l.map fun p=>(p.1,p.2.map (Cl.clr id)))
theorem Cl.clr_v{r r':List Ae}{m:Nat}(hr: ∀id,id≠m->r'.getD id .dead=r.getD id .dead)(y:Cl):Ay (y.v r) ((y.clr m).v r'):=by
 cases y with
 |rf id p=>
  show Ay _ ((bif Nat.beq id m then Cl.dead else .rf id p).v r');cases hb:Nat.beq id m with
  |true=>exact Ay.dead _
  |false=>
   show Ay (V.rs id p 0 (Ag r id p).len) (V.rs id p 0 (Ag r' id p).len);unfold Ag;rw [hr id (fun e=>by rw [e,Nat.beq_refl]at hb;cases hb)]
   exact Ay.refl _
 |rs id p off len=>
  show Ay _ ((bif Nat.beq id m then Cl.dead else .rs id p off len).v r');cases Nat.beq id m with
  |true=>exact Ay.dead _
  |false=>exact Ay.refl _
 |rp id p off len=>
  show Ay _ ((bif Nat.beq id m then Cl.dead else .rp id p off len).v r');cases Nat.beq id m with
  |true=>exact Ay.dead _
  |false=>exact Ay.refl _
 |_=>exact Ay.refl _
theorem Sl.clr_v{r r':List Ae}{m:Nat}(hr: ∀id,id≠m->r'.getD id .dead=r.getD id .dead)(y:Sl):Ay (y.v r) ((y.clr m).v r'):=by
 have agg: ∀l:List Cl,Ay (Ai (l.map (Cl.v r))) (Ai ((l.map (Cl.clr m)).map (Cl.v r'))):=by
  intro l;refine Ay.mk (by simp) fun k _=>?_
  rw [List.map_map];exact Bw rfl rfl (fun y=>Cl.clr_v hr y) k
 cases y with
 |one c=>exact Cl.clr_v hr c
 |new l=>exact Ay.refl _
 |agg l=>exact agg l
 |pk t l=>
  show Ay (pkL t (l.map (Cl.v r))) (pkL t ((l.map (Cl.clr m)).map (Cl.v r')));refine Ay.pk (by simp) fun k _=>?_
  rw [List.map_map];exact Bw rfl rfl (fun y=>Cl.clr_v hr y) k
 |tup l=>
  refine Ay.tup (by simp) fun k hk=>?_
  have hk:k<l.length:=by simpa using hk
  simp only [gDE,List.getElem?_map,gEE hk,Option.map_some,Option.getD_some];generalize l[k]=p;obtain⟨b,q⟩:=p;cases b with
  |true=>exact agg q
  |false=>
   have:=Bw (l:=q) (f:=Cl.v r) (g:=fun y=>(y.clr m).v r') rfl rfl (fun y=>Cl.clr_v hr y) 0
   have e:(q.map fun y=>(y.clr m).v r')=(q.map (Cl.clr m)).map (Cl.v r'):=by rw [List.map_map];rfl
   rw [e]at this;simpa using this
theorem Sl.clr_stay{y:Sl}(h:y.stay=true)(m:Nat):y.clr m=y:=by
 have c1: ∀y:Cl,y.stay=true->y.clr m=y:=by intro y h;cases y<;>first|rfl|cases h
 cases y with
 |one y=>exact congrArg Sl.one (c1 y h)
 |new l=>rfl
 |agg l=>exact congrArg Sl.agg (AM fun y hy=>c1 y (aET.1 h y hy))
 |pk t l=>exact congrArg (Sl.pk t) (AM fun y hy=>c1 y (aET.1 h y hy))
 |tup l=>
  refine congrArg Sl.tup (AM fun p hp=>?_)
  obtain⟨b,q⟩:=p;exact congrArg (Prod.mk b) (AM fun y hy=>c1 y (aET.1 (aET.1 h _ hp) y hy))
theorem ZY(y:Sl)(m:Nat):(y.clr m).own=y.own:=by
 have c1: ∀y:Cl,(y.clr m).own=y.own:=by
  intro y;cases y with
  |rf id p=>show(bif Nat.beq id m then Cl.dead else .rf id p).own=_;cases Nat.beq id m<;>rfl
  |rs id p a b=>show(bif Nat.beq id m then Cl.dead else .rs id p a b).own=_;cases Nat.beq id m<;>rfl
  |rp id p a b=>show(bif Nat.beq id m then Cl.dead else .rp id p a b).own=_;cases Nat.beq id m<;>rfl
  |_=>rfl
 have cl: ∀l:List Cl,(l.map (Cl.clr m)).any Cl.own=l.any Cl.own:=by
  intro l;rw [List.any_map]
  congr 1
  funext y
  exact c1 y
 cases y with
 |one y=>exact c1 y
 |new l=>rfl
 |agg l=>exact cl l
 |pk t l=>exact cl l
 |tup l=>
  show(l.map _).any _=l.any _;rw [List.any_map]
  congr 1
  funext p
  obtain⟨b,l⟩:=p;cases b with
  |true=>exact cl l
  |false=>
   show((l.map (Cl.clr m)).getD 0 .dead).own=(l.getD 0 .dead).own;cases l with
   |nil=>rfl
   |cons y l=>exact c1 y
def B2:Sl->Ae
 | .one (.c (.ptr t) (d+1) x)=>.obj false (Ax t d x)
 | .one (.c (.sl t) (d+1) xs)=>.arr false t d xs
 |_=>.dead
def Dw:Sl->Bool
 | .one (.c (.ptr t) (_+1) _)=>Nat.blt 0 t.w
 | .one (.c (.sl _) (_+1) _)=>true
 |_=>false
def Nb(id:Nat):Ae->Cl
 | .obj _ _=>.rp id [] 0 0
 |_=>.rf id []
def St.back1(p:Nat×Nat)(s:St):St:=⟨AQ (fun i=>(s.t i).clr p.2) p.1 (.one (Nb p.2 (B2 (s.t p.1)))),s.r.set p.2 (B2 (s.t p.1))⟩
theorem WY{p:Nat×Nat}{s:St}(i:Nat):(s.back1 p).t i=AQ (fun i=>(s.t i).clr p.2) p.1 (.one (Nb p.2 (B2 (s.t p.1)))) i:=rfl
theorem Mm{p:Nat×Nat}{s:St}{i:Nat}(h:i≠p.1):(s.back1 p).t i=(s.t i).clr p.2:=(WY i).trans (A2 (t:=fun i=>(s.t i).clr p.2) h)
def St.backs:List (Nat×Nat)->St->St
 | [],s=>s
 |p::B,s=>St.backs B (s.back1 p)
theorem UJ(t:Ty)(d:Nat)(x:t.T):(Ax t d x).length=t.w:=by
 have:=congrArg List.length (BZ t d x);rw [List.length_map,AA]at this;exact this
theorem Cj{y:Sl}(h:Dw y=true):y.stay=true/\(∀r,y.v r=(B2 y).v)/\L9 (B2 y).v/\∀ (r:List Ae) (id:Nat),id<r.length->(Sl.one (Nb id (B2 y))).v (r.set id (B2 y))=Ky id (B2 y).v:=by
 unfold Dw at h;split at h
 case h_3=>cases h
 ·rename_i t d x
  have hw:0<t.w:=blE h;refine⟨rfl,fun r=>?_,⟨false,_,_,_,rfl,fun _=>⟨by simpa [UJ]using hw,rfl⟩⟩,fun r id hid=>rfl⟩
  show Bk (decide (0<d+1)) (tyV t (d+1-1) x)=Bk true ((Ax t d x).map Cl.v0);rw [BZ];simp
 ·rename_i t d xs
  refine⟨rfl,fun r=>?_,⟨true,_,_,_,rfl,fun h=>by cases h⟩,fun r id hid=>?_⟩
  ·show arr (decide (0<d+1)) t.w (tyV t (d+1-1)) t.dflt xs=arr true t.w (tyV t d) t.dflt xs
   simp
  ·show V.rs id [] 0 (Ag (r.set id (.arr false t d xs)) id []).len=_
   have:(Ag (r.set id (.arr false t d xs)) id []).len=xs.length:=by
    show((r.set id (.arr false t d xs)).getD id .dead).len=_;simp [hid];rfl
   rw [show B2 (Sl.one (Cl.c (.sl t) (d+1) xs))= .arr false t d xs from rfl]at*
   rw [this];rfl
theorem WZ{ds:List (Option Nat)}{S:Ms}{s:St}{p:Nat×Nat}(h:YB ds S s)(hd:some p.1∉ds)(hp:p.2<s.r.length)(he:S.t p.1=s.den.t p.1)(hr:Dw (s.t p.1)=true):
  YB ds ⟨AV S.t p.1 (Ky p.2 (S.t p.1)),S.σ.set p.2 (S.t p.1)⟩ (s.back1 p):=by
 obtain⟨h1,h2,h3,h4⟩:=Cj hr;have e:S.t p.1=(B2 (s.t p.1)).v:=he.trans (h2 _)
 have hg: ∀id,id≠p.2->(s.r.set p.2 (B2 (s.t p.1))).getD id .dead=s.r.getD id .dead:=fun id hid=>by
  simp only [gDE];rw [List.getElem?_set_ne (Ne.symm hid)]
 have hother: ∀i,i≠p.1->(s.back1 p).t i=(s.t i).clr p.2:=fun i hi=>Mm hi
 refine⟨?_,fun i=>?_,fun i hi=>?_⟩
 ·show S.σ.set p.2 (S.t p.1)=(s.r.set p.2 (B2 (s.t p.1))).map Ae.v
  rw [h.σ,List.map_set,e];rfl
 ·show Ay (AV S.t p.1 (Ky p.2 (S.t p.1)) i) _
  unfold AV;by_cases hi:i=p.1
  ·subst hi
   rw [if_pos rfl,e]
   have e2:(s.back1 p).t p.1= .one (Nb p.2 (B2 (s.t p.1))):=by
    rw [WY];unfold AQ;rw [Nat.beq_refl];rfl
   show Ay _ (((s.back1 p).t p.1).v _);rw [e2];rw [show(s.back1 p).r=s.r.set p.2 (B2 (s.t p.1))from rfl,h4 s.r p.2 hp]
   exact Ay.refl _
  ·rw [if_neg hi]
   show Ay _ (((s.back1 p).t i).v _);rw [hother i hi];exact(h.t i).trans (Sl.clr_v hg (s.t i))
 ·have hne:i≠p.1:=fun e=>hd (e▸hi)
  obtain⟨k1,k2⟩:=h.o i hi;have hV:AV S.t p.1 (Ky p.2 (S.t p.1)) i=S.t i:=by unfold AV;rw [if_neg hne]
  have hoo:((s.back1 p).t i).own=(s.t i).own:=by rw [hother i hne,ZY]
  refine⟨fun ho=>?_,?_⟩
  ·rw [hoo]at ho
   rw [hother i hne,Sl.clr_stay (k1 ho)];exact k1 ho
  ·show AV S.t p.1 (Ky p.2 (S.t p.1)) i=_\/(_/\AS (AV S.t p.1 (Ky p.2 (S.t p.1)) i)=false)
   rw [hV];cases ho:(s.t i).own with
   |false=>
    right;refine⟨by rw [hoo,ho],?_⟩
    rcases k2 with k2|k2
    ·rw [k2];show AS ((s.t i).v s.r)=false;rw [Sl.own_v,ho]
    ·exact k2.2
   |true=>
    left;rcases k2 with k2|k2
    ·rw [k2]
     show(s.t i).v s.r=((s.back1 p).t i).v _;rw [hother i hne,Sl.clr_stay (k1 ho)];exact PE (k1 ho) _ _
    ·rw [ho]at k2;cases k2.1
theorem JY{ds:List (Option Nat)}: ∀ (B:List (Nat×Nat)) (S:Ms) (s:St),YB ds S s->(B.map (·.1)).Nodup->(∀p∈B,some p.1∉ds/\p.2<s.r.length/\S.t p.1=s.den.t p.1/\Dw (s.t p.1)=true)->YB ds (Go.Ve.backs B S) (St.backs B s)
 | [],S,s,h,_,_=>h
 |p::B,S,s,h,hn,hB=>by
  obtain⟨h1,h2,h3,h4⟩:=hB p (List.mem_cons_self ..);rw [List.map_cons,List.nodup_cons]at hn;refine JY B _ _ (WZ h h1 h2 h3 h4) hn.2 fun q hq=>?_
  obtain⟨g1,g2,g3,g4⟩:=hB q (mCM _ hq);have hne:q.1≠p.1:=fun e=>hn.1 (e▸List.mem_map.2 ⟨q,hq,rfl⟩)
  have hst:=(Cj g4).1
  have e1:(s.back1 p).t q.1=s.t q.1:=by
   rw [Mm hne,Sl.clr_stay hst]
  refine⟨g1,by show q.2<(s.r.set _ _).length;simpa using g2,?_,by rw [e1];exact g4⟩
  show AV S.t p.1 _ q.1=((s.back1 p).t q.1).v _;unfold AV;rw [if_neg hne,g3,e1];exact PE hst _ _
theorem Ml: ∀ (B:List (Nat×Nat)) (s:St),(∀i,(∀p∈B,p.1≠i)->(s.t i).stay=true->(St.backs B s).t i=s.t i)/\(∀id,(∀p∈B,p.2≠id)->(St.backs B s).r.getD id .dead=s.r.getD id .dead)/\(St.backs B s).r.length=s.r.length
 | [],s=>⟨fun _ _ _=>rfl,fun _ _=>rfl,rfl⟩
 |p::B,s=>by
  obtain⟨h1,h2,h3⟩:=Ml B (s.back1 p);refine⟨fun i hi hs=>?_,fun id hid=>?_,h3.trans (by show(s.r.set _ _).length=_;simp)⟩
  ·have e:(s.back1 p).t i=s.t i:=by
    rw [Mm fun e=>hi p (List.mem_cons_self ..) e.symm,Sl.clr_stay hs]
   refine(h1 i (fun q hq=>hi q (mCM _ hq)) (by rw [e];exact hs)).trans e
  ·refine(h2 id fun q hq=>hid q (mCM _ hq)).trans ?_
   show(s.r.set _ _).getD id .dead=_;simp only [gDE];rw [List.getElem?_set_ne (hid p (List.mem_cons_self ..))]
def rerefs(id:Nat)(v:V):List Nat->(Nat->V)->(Nat->V)
 | [],t=>t
 |y::Y,t=>rerefs id v Y (AV t y (Ky id v))
theorem PR.reref{C:Ctx}{N:Nat}{σ:List V}{ρ:Nat->Value}{F:Nat->Nat->Prop}{a:Act}{w:World}{D:Nat->Prop}{T:Nat->Nat->Prop}{id:Nat}{v:V}(hid:id<σ.length)(hg:σ.getD id .dead=v)(hv:L9 v): ∀ (Y:List Nat) (t:Nat->V),PR C N σ ρ F t a w D T->
  (∀y∈Y,y<N/\a.tmps.getD y undef=ρ id/\∀b,¬T y b)->PR C N σ ρ F (rerefs id v Y t) a w D T
 | [],t,h,_=>h
 |y::Y,t,h,hY=>by
  obtain⟨h1,h2,h3⟩:=hY y (List.mem_cons_self ..);refine PR.reref hid hg hv Y _ ⟨h.df,h.sz,fun x hx=>?_,h.wr,fun x hx=>?_,h.tD,h.tF,h.tT,h.tn,h.fr,h.Fn,h.D1,h.D2,h.rt,h.ml,h.tx⟩ fun z hz=>hY z (mCM _ hz)
  ·have: ¬x=y:=by omega
   simp only [AV,this,if_false];exact h.dd x hx
  ·by_cases he:x=y
   ·subst he
    simp only [AV,if_true];rw [h2];obtain⟨s0,sz,n,f,e1,e2⟩:=hv;have hrel:=h.wr.rel id hid;rw [hg,e1]at hrel;rw [e1]at hg⊢;exact Rel.fp_congr (fun b=>⟨fun h=>h.elim,fun h=>absurd h (h3 b)⟩) (LJ hid hg e2 hrel)
   ·simp only [AV,he,if_false]
    exact h.tm x hx
def St.rerefs(id:Nat)(R:Ae):List Nat->St->St
 | [],s=>s
 |y::Y,s=>St.rerefs id R Y ⟨AQ s.t y (.one (Nb id R)),s.r⟩
theorem Kw{ds:List (Option Nat)}{id:Nat}{R:Ae}(hR:L9 R.v): ∀ (Y:List Nat) (S:Ms) (s:St),YB ds S s->(s.r.getD id .dead)=R->(∀y∈Y,some y∉ds)->YB ds ⟨Go.Ve.rerefs id R.v Y S.t,S.σ⟩ (St.rerefs id R Y s)
 | [],S,s,h,_,_=>h
 |y::Y,S,s,h,hr,hY=>by
  have hne: ∀i,some i∈ds->i≠y:=fun i hi e=>hY y (List.mem_cons_self ..) (e▸hi)
  have hself:(Sl.one (Nb id R)).v s.r=Ky id R.v:=by
   cases R with
   |obj ro l=>rfl
   |arr ro t d xs=>
    show V.rs id [] 0 (Ag s.r id []).len=_
    have:(Ag s.r id []).len=xs.length:=by
     show(s.r.getD id .dead).len=_;rw [hr];rfl
    rw [this];rfl
   |dead=>obtain⟨_,_,_,_,e,_⟩:=hR;cases e
   |opt ro t d x=>
    obtain⟨_,_,_,_,e,_⟩:=hR;cases x with
    |none=>cases e
    |some xs=>
     show V.rs id [] 0 (Ag s.r id []).len=_
     have:(Ag s.r id []).len=xs.length:=by
      show(s.r.getD id .dead).len=_;rw [hr];rfl
     rw [this];rfl
  refine Kw hR Y ⟨AV S.t y (Ky id R.v),S.σ⟩ ⟨AQ s.t y (.one (Nb id R)),s.r⟩ ⟨h.σ,fun i=>?_,fun i hi=>?_⟩ hr fun z hz=>hY z (mCM _ hz)
  ·show Ay (AV S.t y (Ky id R.v) i) ((AQ s.t y (.one (Nb id R)) i).v s.r)
   unfold AV;by_cases he:i=y
   ·subst he
    rw [if_pos rfl];have:AQ s.t i (.one (Nb id R)) i= .one (Nb id R):=by unfold AQ;rw [Nat.beq_refl];rfl
    rw [this,hself];exact Ay.refl _
   ·rw [if_neg he,A2 he];exact h.t i
  ·have he:=hne i hi
   obtain⟨k1,k2⟩:=h.o i hi;show((AQ s.t y (.one (Nb id R)) i).own=true->(AQ s.t y (.one (Nb id R)) i).stay=true)/\(AV S.t y (Ky id R.v) i=(AQ s.t y (.one (Nb id R)) i).v s.r\/((AQ s.t y (.one (Nb id R)) i).own=false/\AS (AV S.t y (Ky id R.v) i)=false));unfold AV;rw [if_neg he,A2 he];exact⟨k1,k2⟩
theorem M8{id:Nat}{R:Ae}: ∀ (Y:List Nat) (s:St),(St.rerefs id R Y s).r=s.r/\∀i,i∉Y->(St.rerefs id R Y s).t i=s.t i
 | [],s=>⟨rfl,fun _ _=>rfl⟩
 |y::Y,s=>by
  obtain⟨h1,h2⟩:=M8 (id:=id) (R:=R) Y ⟨AQ s.t y (.one (Nb id R)),s.r⟩;refine⟨h1,fun i hi=>(h2 i fun h=>hi (mCM _ h)).trans ?_⟩
  exact A2 fun e=>hi (e▸List.mem_cons_self ..)
end Go.Ve

