/- The typed machine: lists of operations in memory; regions that draw their order. -/
import Derived.Test.YtcpgmjbppfdjbaaDoorTj
import Derived.Test.YtcpgmjbppfdjbaaDoorTu
import Derived.Test.YtcpgmjbppfdjbaaDoorVwa
namespace Go.Ve
variable{p:AR}{r r':Aa}{h:Cg}{c:Cl}{d i id k:Nat}{g:Nat->Bool}{v x:Option Sl}{ti:Option TI}{P:Program}{y:Sl}{s s' s1:St}{Θ:Tab}
theorem U3{C:Ctx}{N:Nat}(hΘ:Θ.OK P){s s':St}{o:Oper}{t:TypeId}{x v:Operand}{a:Act}{w:World}{next:Act->World->Prop}{Q:Exit->Act->World->Prop}
  (ho:o.op= .store t x v) (hdst:o.dst=none) (h:Ij s (Θ.look t) (s.ev x) (s.ev v)=some s') (hs:AI C N s.den a w) (hn: ∀a' w',AI C N s'.den a' w'->next a' w'):o.wp P a w next Q:=by
 obtain⟨hd,hdd,D,ρ,F,hcr⟩:=hs;unfold Ij at h;split at h
 case h_2=>cases h
 rename_i ti id p i k y hti hx hv;split at h
 case h_2=>cases h
 rename_i l hl;obtain⟨hb,h⟩:=A1 h;simp only [bAE]at hb;obtain⟨⟨h1,h2⟩,h3⟩:=hb;have h1:=bqE h1;have h2:=blE h2;have hnsz:=B0 h3;obtain⟨hpl,hcv,_⟩:=Cw (r:=s.r) hl;obtain⟨d,tii,z,hdt,hit,hz,his,_⟩:=Cz (hΘ.ty hti);simp only at his;have hrx:=BB hcr hdd x;rw [AZ hx]at hrx;have hrx:Rel D w (Ag s.den.σ ρ w) (.rp id p i k) (a.eval x) noF:=hrx;obtain⟨s0,sz,n,f,b,o',cap,hid,ha,hi,hk,had,_,hns,_,_⟩:=Jg hcr.wr hrx.1;have hrv:=BB hcr hdd v;rw [AZ hv]at hrv;obtain⟨⟨hcl,hcells⟩,_⟩:=Ci (λv cv h=>Ag.one h) hpl hrv
 rw [hcv]at hcl hcells;have hlen:(l.map (Cl.v s.r)).length=l.length:=List.length_map ..
 have hcr2:CR C s.den.σ ((List.range N).map s.den.t++ .rp id p i k::l.map (Cl.v s.r)) (a.tmps.toList++ .pointer (some ⟨b,(o'+i*sz)+k,none⟩)::(a.eval v).cells.toList).toArray w D ρ F:=by
  have hsz:a.tmps.size=N:=by simpa using hcr.sz
  refine⟨hcr.wr,by simp [hsz,hcl],λj hj=>?_,hcr.fr,hcr.Fn,hcr.D1,hcr.D2,hcr.rt,hcr.ml⟩
  by_cases hjt:j<N
  ·rw [Aw (by simpa using hjt)]
   have h1:=hcr.tm j (by simpa using hjt)
   have e:(a.tmps.toList++ .pointer (some ⟨b,(o'+i*sz)+k,none⟩)::(a.eval v).cells.toList).toArray.getD j undef=a.tmps.getD j undef:=by
    simp [gAL,hsz,hjt]
   rw [e];exact h1
  ·obtain⟨m,rfl⟩: ∃m,j=N+m:=⟨j-N,by omega⟩
   have e1:((List.range N).map s.den.t++ .rp id p i k::l.map (Cl.v s.r)).getD (N+m) .dead=(.rp id p i k::l.map (Cl.v s.r)).getD m .dead:=by
    simp [gAR]
   have e2:(a.tmps.toList++ .pointer (some ⟨b,(o'+i*sz)+k,none⟩)::(a.eval v).cells.toList).toArray.getD (N+m) undef=(.pointer (some ⟨b,(o'+i*sz)+k,none⟩)::(a.eval v).cells.toList).getD m undef:=by
    simp only [Array.getD_eq_getD_getElem?,List.getElem?_toArray,gDE];rw [gAR (by simp;omega)]
    simp [hsz]
   rw [e1,e2];cases m with
   |zero=>rw [had]at hrx;exact hrx
   |succ m=>
    simp at hj;have:=hcells m (by simpa using hj)
    simpa using this
 obtain⟨w',hrun,hdd',hcr3⟩:=QA (P:=P) l.length l (a.eval v).cells.toList 0 s s' w ρ F hcr2 (by simpa using hcr.sz) hdd (by simpa using hcl) (by show k+0+l.length<=AS (s.r.map Aa.v) id p;rw [hnsz];omega) h
 have hsv:(storeVar t ⟨b,(o'+i*sz)+k,none⟩ (a.eval v)).run P w= .ok () w':=by
  simp only [storeVar,Sem.run_bind,sizeOf,typeInfo];have e:(a.eval v).cells.size=ti.ty.w:=by rw [hcl,hlen,h1]
  simp [hit,his,hrun,e]
 have hex:(execOp a.eval o).run P w= .ok .skip w':=by
  unfold execOp;rw [ho];simp [Instr.storeAt,had,Instr.sureAddr,hsv]
 unfold Oper.wp;rw [hex,Oper.upon_skip,hdst];exact hn a w' ⟨hd,hdd',hcr3⟩
structure PD where
 p:Prop
 dec:Decidable p
def VW:AR->AR->Option PD
 | [],[]=>some ⟨True,inferInstance⟩
 |(i,k)::p,(j,l)::q=>bif Nat.beq k l then(match VW p q with
  |some c=>some ⟨(i<=j/\j<=i)/\c.p,@instDecidableAnd _ _ inferInstance c.dec⟩
  |none=>none)else none
 |_,_=>none
theorem IK: ∀ (p q:AR) (c:PD),VW p q=some c->c.p->p=q
 | [],[],_,_,_=>rfl
 |(i,k)::p,(j,l)::q,c,h,hc=>by
  unfold VW at h;cases hb:Nat.beq k l with
  |false=>grind
  |true=>
   rw [hb]at h;split at h
   case h_2=>grind
   rename_i c' h';cases h;rw [bqE hb,IK p q c' h' hc.2,Nat.le_antisymm hc.1.1 hc.1.2]
 | [],_::_,_,h,_=>by cases h
 |_::_,[],_,h,_=>by cases h
structure PtR where
 p:Prop
 dec:Decidable p
 s:St
variable{A:PtR}
def Va(s:St):Option TI->Option Sl->Option Sl->Option PtR
 |some ti,some (.one (.rp id p i k)),some (.one (.rs id' q off len))=>bif Nat.beq id' id&&Nat.beq ti.ty.w 1&&Nat.ble (k+1) (Ab s.r id p).w&&(Ab s.r id p).live then(match VW q (p++ [(i,k)])with
  |some c=>match Ab s.r id q with
   | .arr false t d xs=>match(s.r.getD id .dead).setAt p i k (.c (.sl t) (d+1) (QO off len xs t.dflt))with
    |some r0=>some ⟨c.p,c.dec,⟨λx=>(s.t x).kill id ((p++ [(i,k)]).map (·.2)) [],s.r.set id r0⟩⟩
    |none=>none
   |_=>none
  |none=>none)else none
 |_,_,_=>none
theorem Xw{C:Ctx}{N:Nat}(hΘ:Θ.OK P){s:St}{o:Oper}{t:TypeId}{x v:Operand}{a:Act}{w:World}{next:Act->World->Prop}{Q:Exit->Act->World->Prop}{A:PtR}
  (ho:o.op= .store t x v) (hdst:o.dst=none) (h:Va s (Θ.look t) (s.ev x) (s.ev v)=some A) (hp:A.p) (hs:AI C N s.den a w) (hn: ∀a' w',AI C N A.s.den a' w'->next a' w'):o.wp P a w next Q:=by
 obtain⟨hd,hdd,D,ρ,F,hcr⟩:=hs;unfold Va at h;split at h
 case h_2=>cases h
 rename_i ti id p i k id' q off len hti hx hv;obtain⟨hb,h⟩:=A1 h;simp only [bAE]at hb;obtain⟨⟨⟨h0,h1⟩,h2⟩,h3⟩:=hb;have h0:=bqE h0;subst h0;have h1:=bqE h1;have h2:=blE h2;split at h
 case h_2=>cases h
 rename_i c hc;split at h
 case h_2=>cases h
 rename_i u d xs hnode;split at h
 case h_2=>cases h
 rename_i r0 hset;cases h;obtain rfl:=IK _ _ _ hc hp;have hnsz:=B0 h3;obtain⟨d1,tii,z,hdt,hity,hz,his,_⟩:=Cz (hΘ.ty hti);simp only at his;have hrx:=BB hcr hdd x;rw [AZ hx]at hrx;have hrx:Rel D w (Ag s.den.σ ρ w) (.rp id' p i k) (a.eval x) noF:=hrx;obtain⟨s0,sz,n,f,b,o',cap,hid,ha,hi,hk,had,_,hns,_,_⟩:=Jg hcr.wr hrx.1;have hrv:=BB hcr hdd v;rw [AZ hv]at hrv;have hrv:Rel D w (Ag s.den.σ ρ w) (.rs id' (p++ [(i,k)]) off len) (a.eval v) noF:=hrv;have hone:(a.eval v).oneCell'=true:=Ag.one hrv.1;have hsz:a.tmps.size=N:=by simpa using hcr.sz
 have hcr2:CR C s.den.σ ((List.range N).map s.den.t++V.rp id' p i k:: [V.rs id' (p++ [(i,k)]) off len]) (a.tmps.toList++Value.pointer (some ⟨b,(o'+i*sz)+k,none⟩):: [a.eval v]).toArray w D ρ F:=by
  refine⟨hcr.wr,by simp [hsz],λj hj=>?_,hcr.fr,hcr.Fn,hcr.D1,hcr.D2,hcr.rt,hcr.ml⟩
  by_cases hjt:j<N
  ·rw [Aw (by simpa using hjt)]
   have h1:=hcr.tm j (by simpa using hjt)
   have e:(a.tmps.toList++Value.pointer (some ⟨b,(o'+i*sz)+k,none⟩):: [a.eval v]).toArray.getD j undef=a.tmps.getD j undef:=by
    simp [gAL,hsz,hjt]
   rw [e];exact h1
  ·obtain⟨m,rfl⟩: ∃m,j=N+m:=⟨j-N,by omega⟩
   have e1:((List.range N).map s.den.t++V.rp id' p i k:: [V.rs id' (p++ [(i,k)]) off len]).getD (N+m) .dead=([V.rp id' p i k,V.rs id' (p++ [(i,k)]) off len]:List V).getD m .dead:=by
    simp [gAR]
   have e2:(a.tmps.toList++Value.pointer (some ⟨b,(o'+i*sz)+k,none⟩):: [a.eval v]).toArray.getD (N+m) undef=([Value.pointer (some ⟨b,(o'+i*sz)+k,none⟩),a.eval v]:List Value).getD m undef:=by
    simp only [Array.getD_eq_getD_getElem?,List.getElem?_toArray,gDE];rw [gAR (by simp;omega)]
    simp [hsz]
   rw [e1,e2];simp at hj
   match m with
   |0=>rw [had]at hrx;exact hrx
   |1=>exact hrv
   |m+2=>omega
 have hnode2:sub (p++ [(i,k)]) (s.den.σ.getD id' .dead)=arr true u.w (tyV u d) u.dflt xs:=by
  have:=AP (r:=s.r) (id:=id') (p:=p++ [(i,k)]) (by rw [hnode];simp)
  rw [hnode]at this;exact this
 obtain⟨X,hX⟩: ∃X:V,X= .nd true true u.w len λa b=>(tyV u d (xs.getD (a+off) u.dflt)).getD b .dead:=⟨_,rfl⟩
 have hput:Nk id' p i k (.rs id' (p++ [(i,k)]) off len) [] s.den.σ (λcs' σ2 G2=>σ2=s.den.σ.set id' (upd (p++ [(i,k)]) (s.den.σ.getD id' .dead) X)/\G2=AK id' (p++ [(i,k)])):=by
  unfold Nk;simp only [hnode2,arr];rw [if_pos ⟨trivial,trivial⟩];refine⟨?_,trivial⟩;rw [hX]
 obtain⟨G2,σ2,b1,o1,ρ1,F1,⟨y,hy⟩,hfz,h1c,⟨ofs,had1,hoff⟩,hGm,⟨hσ2,hGG⟩,hns1,hcr1⟩:=HT hcr2 (by simpa using hsz) (by show k<AS (s.r.map Aa.v) id' p;rw [hnsz];omega) hput
 subst hσ2;subst hGG;simp only [Value.pointer.injEq,Option.some.injEq,Addr.mk.injEq,and_true]at had1;obtain⟨rfl,had1⟩:=had1;obtain rfl:ofs=o'+i*sz:=by omega
 have hidr:id'<s.r.length:=by simpa [St.den]using hid
 have hG:GOK (AK id' (p++ [(i,k)])) id' ((p++ [(i,k)]).map (·.2)) []:=GOK.kill
 have hlen: ∀id2 q2,hit id' ((p++ [(i,k)]).map (·.2)) [] id2 q2=false->(Ab (s.r.set id' r0) id2 q2).len=(Ab s.r id2 q2).len:=by
  intro id2 q2 hh;by_cases he:id2=id'
  ·subst he
   rw [BA hidr];refine JA p _ _ hset q2 ?_;cases hp2:pre ((p++ [(i,k)]).map (·.2)) q2 with
   |false=>rfl
   |true=>
    unfold hit at hh;rw [Nat.beq_refl,hp2]at hh;cases hh
  ·rw [Bg he]
 have hsub: ∀j,Sub ((s.den.σ.set id' (upd (p++ [(i,k)]) (s.den.σ.getD id' .dead) X)).getD j .dead) (((s.r.set id' r0).map Aa.v).getD j .dead):=λj=>by
  refine HL ?_ j;show Sub (upd (p++ [(i,k)]) ((s.r.map Aa.v).getD id' .dead) X) r0.v;rw [An];refine D7 ?_ p _ _ hset;rw [hX];show Sub _ (arr true u.w (tyV u d) u.dflt (QO off len xs u.dflt));unfold arr;have hl:(QO off len xs u.dflt).length=len:=by simp [QO]
  rw [hl];refine⟨_,rfl,λa2 b2 ha2 hb2=>?_⟩
  have e:(QO off len xs u.dflt).getD a2 u.dflt=xs.getD (a2+off) u.dflt:=by
   simp [QO,ha2,Nat.add_comm]
  rw [e];exact Sub.refl _
 have hs':AI C N (St.den ⟨λx=>(s.t x).kill id' ((p++ [(i,k)]).map (·.2)) [],s.r.set id' r0⟩) a (w.setCell ⟨b,o1,none⟩ (a.eval v)):=by
  have kv:=λj=>Sl.kill_v hG hlen (s.t j)
  refine⟨hd,λj hj=>?_,D,ρ1,F1,?_⟩
  ·have h2:(s.t j).v s.r= .dead:=hdd j hj
   have h1:=kv j;rw [h2,hG.m.dead]at h1;exact Ao.of_dead h1
  ·have hcr3:=hcr1.left (by simpa using hsz)
   have e3:(a.tmps.toList).toArray=a.tmps:=by simp
   rw [e3]at hcr3;refine hcr3.sub (by simp [St.den]) (λj _=>hsub j) (by simp) λj hj=>?_
   have hj:j<N:=by simpa using hj
   have:=kv j;simpa [hj,St.den]using this
 have hsv:(storeVar t ⟨b,(o'+i*sz)+k,none⟩ (a.eval v)).run P w= .ok () (w.setCell ⟨b,o1,none⟩ (a.eval v)):=by
  have hcells:(a.eval v).cells.toList= [a.eval v]:=by
   have:=(Rel.cells1 hrv (λ_ _ h=>Ag.one h) rfl).1
   rw [this]
  simp only [storeVar,Sem.run_bind,sizeOf,typeInfo];have e:(a.eval v).cells.size=ti.ty.w:=by rw [h1,<-Array.length_toList,hcells];rfl
  have ea:(⟨b,(o'+i*sz)+k,none⟩:Addr).add 0=⟨b,o1,none⟩:=by rw [AT rfl,hoff];rfl
  have hrun:(storeCells ⟨b,(o'+i*sz)+k,none⟩ (a.eval v).cells.toList 0).run P w= .ok () (w.setCell ⟨b,o1,none⟩ (a.eval v)):=by
   rw [hcells];simp only [storeCells,Sem.run_bind,ea];rw [run_store P w _ _ .plain hone,hy];simp only [hfz,Bool.false_eq_true,if_false];rfl
  simp [hity,his,hrun,e]
 have hex:(execOp a.eval o).run P w= .ok .skip (w.setCell ⟨b,o1,none⟩ (a.eval v)):=by
  unfold execOp;rw [ho];simp [Instr.storeAt,had,Instr.sureAddr,hsv]
 unfold Oper.wp;rw [hex,Oper.upon_skip,hdst];exact hn a _ hs'
def Cl.stay:Cl->Bool
 | .rf _ _=>false
 | .rs _ _ _ _=>false
 | .rp _ _ _ _=>false
 |_=>true
def Sl.stay:Sl->Bool
 | .one y=>y.stay
 | .new _=>true
 | .agg l=>l.all Cl.stay
 | .pk _ l=>l.all Cl.stay
 | .tup l=>l.all λp=>p.2.all Cl.stay
theorem AC{α:Type}{f:α->α}{l:List α}(h: ∀y∈l,f y=y):l.map f=l:=by
 have:=List.map_congr_left h
 simp_all
theorem Sl.chk_stay(h:y.stay=true)(m:Nat):y.chk m=y:=by
 have c1: ∀y:Cl,y.stay=true->y.chk m=y:=by intro y h;cases y<;>first|rfl|cases h
 cases y with
 |one y=>exact congrArg Sl.one (c1 y h)
 |new l=>rfl
 |agg l=>exact congrArg Sl.agg (AC λy hy=>c1 y (aET.1 h y hy))
 |pk t l=>exact congrArg (Sl.pk t) (AC λy hy=>c1 y (aET.1 h y hy))
 |tup l=>
  refine congrArg Sl.tup (AC λp hp=>?_)
  obtain⟨b,m⟩:=p;exact congrArg (Prod.mk b) (AC λy hy=>c1 y (aET.1 (aET.1 h _ hp) y hy))
theorem Sl.kill_stay(h:y.stay=true)(id:Nat)(ks:List Nat)(j:Mv):y.kill id ks j=y:=by
 have c1: ∀y:Cl,y.stay=true->y.kill id ks j=y:=by intro y h;cases y<;>first|rfl|cases h
 cases y with
 |one y=>exact congrArg Sl.one (c1 y h)
 |new l=>rfl
 |agg l=>exact congrArg Sl.agg (AC λy hy=>c1 y (aET.1 h y hy))
 |pk t l=>exact congrArg (Sl.pk t) (AC λy hy=>c1 y (aET.1 h y hy))
 |tup l=>
  refine congrArg Sl.tup (AC λp hp=>?_)
  obtain⟨b,m⟩:=p;exact congrArg (Prod.mk b) (AC λy hy=>c1 y (aET.1 (aET.1 h _ hp) y hy))
def Aa.isRo:Aa->Bool
 | .obj ro _=>ro
 | .arr ro _ _ _=>ro
 | .opt ro _ _ _=>ro
 | .dead=>true
theorem Md{r1:Aa}{q:AR}(h:Me r q=some r1):r.isRo=false:=by
 unfold Me at h;split at h
 case h_2=>grind
 split at h
 case h_3=>grind
 ·rfl
 rfl
structure Kp(g:Nat->Bool)(s s':St):Prop where
 t: ∀i,g i=true->(s.t i).stay=true->s'.t i=s.t i
 r: ∀id,id<s.r.length->(s.r.getD id .dead).isRo=true->s'.r.getD id .dead=s.r.getD id .dead
 l:s.r.length<=s'.r.length
theorem Kp.refl(g:Nat->Bool)(s:St):Kp g s s:=⟨λ_ _ _=>rfl,λ_ _ _=>rfl,Nat.le_refl _⟩
theorem Kp.trans{g1 g2:Nat->Bool}{s2:St}(h1:Kp g1 s s1)(h2:Kp g2 s1 s2)(hg1: ∀i,g i=true->g1 i=true)(hg2: ∀i,g i=true->g2 i=true):Kp g s s2:=by
 refine⟨λi hi hs=>?_,λid hl hid=>?_,Nat.le_trans h1.l h2.l⟩
 ·have e:=h1.t i (hg1 i hi) hs
  rw [h2.t i (hg2 i hi) (by grind),e]
 ·have e:=h1.r id hl hid
  rw [h2.r id (Nat.lt_of_lt_of_le hl h1.l) (by grind),e]
theorem Kp.weak{g':Nat->Bool}(h:Kp g' s s')(hg: ∀i,g i=true->g' i=true):Kp g s s':=⟨λi hi=>h.t i (hg i hi),h.r,h.l⟩
theorem AU{t:Nat->Sl}(h:i≠d):AD t d y i=t i:=by
 unfold AD;rw [Br h];rfl
theorem PF{d:Option Nat}(hp:s.put h d y=some s'):(∃new,s'.r=s.r++new)/\(∀i,d≠some i->(s.t i).stay=true->s'.t i=s.t i)/\(s'.r=s.r->∀i,d≠some i->s'.t i=s.t i):=by
 unfold St.put at hp;cases d with
 |none=>simp_all
 |some d=>
  simp only at hp;cases hb:Nat.blt d h.n with
  |false=>grind
  |true=>
   rw [hb]at hp;simp only [cond_true]at hp;cases hf:h.fz.contains d with
   |true=>
    rw [hf]at hp;split at hp
    ·cases hp
     exact⟨⟨[],by simp⟩,λi hi _=>AU λe=>hi (by rw [e]),λ_ i hi=>AU λe=>hi (by rw [e])⟩
    ·cases hp
   |false=>
    rw [hf]at hp;simp only [cond_false,Option.some.injEq]at hp;subst hp;unfold St.add;split
    ·exact⟨⟨[],by simp⟩,λi hi _=>AU λe=>hi (by rw [e]),λ_ i hi=>AU λe=>hi (by rw [e])⟩
    ·rename_i q new _
     refine⟨⟨q::new,rfl⟩,λi hi hst=>?_,λhr=>?_⟩
     ·show AD (λi=>(s.t i).chk s.r.length) d (y.prom s.r.length).1 i=s.t i
      rw [AU (λe=>hi (by rw [e]))]
      exact Sl.chk_stay hst _
     grind
theorem PE{d:Option Nat}(hp:s.put h d y=some s'):Kp (λi=>decide (d≠some i)) s s':=by
 obtain⟨⟨new,hr⟩,ht,_⟩:=PF hp;refine⟨λi hi hs=>ht i (of_decide_eq_true hi) hs,λid hl hid=>?_,by grind⟩
 grind
theorem Kr(h:r.setCell i k c=some r'):r.isRo=false:=by
 cases r with
 |dead=>cases h
 |opt=>cases h
 |obj ro l=>cases ro with
  |true=>cases h
  |false=>rfl
 |arr ro t d xs=>cases ro with
  |true=>cases h
  |false=>rfl
theorem D8(h:r.setAt p i k c=some r'):r.isRo=false:=by
 cases p with
 |nil=>exact Kr h
 |cons a p=>
  unfold Aa.setAt at h;split at h
  ·split at h
   ·exact Kr h
   grind
  grind
theorem Xu{r r':List Aa}{j:Mv}(h:Oj id p i k c r=some (r',j)): ∀id',(r.getD id' .dead).isRo=true->r'.getD id' .dead=r.getD id' .dead:=by
 intro id' hro
 have key: ∀x r0 y,(r.getD id .dead).setAt p i k y=some r0->(r.set id x).getD id' .dead=r.getD id' .dead:=by
  intro x r0 y hs;have:id'≠id:=by
   rintro rfl
   rw [D8 hs]at hro;cases hro
  simp only [gDE,List.getElem?_set_ne (Ne.symm this)]
 unfold Oj at h;split at h
 ·rename_i j'
  cases hb:Nat.beq j' id with
  |true=>rw [hb]at h;cases h
  |false=>
   rw [hb]at h;simp only [cond_false]at h;split at h
   case h_2=>cases h
   rename_i t d xs hj;split at h
   case h_2=>cases h
   rename_i r0 hs;cases h;have:id'≠j':=by rintro rfl;rw [hj]at hro;cases hro
   have e:((r.set id r0).set j' .dead).getD id' .dead=(r.set id r0).getD id' .dead:=by
    simp only [gDE,List.getElem?_set_ne (Ne.symm this)]
   rw [e];exact key _ _ _ hs
 ·rename_i j' a q
  cases hb:Nat.beq j' id with
  |true=>rw [hb]at h;cases h
  |false=>
   rw [hb]at h;simp only [cond_false]at h;split at h
   case h_2=>cases h
   rename_i t d xs hj;split at h
   case h_2=>cases h
   rename_i r1 r0 hcut hs;cases h;have h1:id'≠j':=by
    rintro rfl
    rw [Md hcut]at hro;cases hro
   have h2:id'≠id:=by
    rintro rfl
    rw [D8 hs]at hro;cases hro
   simp only [gDE,List.getElem?_set_ne (Ne.symm h2)];rcases Nat.lt_or_ge id' r.length with h3|h3
   ·rw [gAL (by simpa using h3),List.getElem?_set_ne (Ne.symm h1)]
   ·rw [List.getElem?_eq_none (l:=r) h3]
    by_cases h4:id'=r.length
    ·subst h4
     rw [gAR (by simp)]
     simp
    ·rw [List.getElem?_eq_none (by simp;omega)]
 ·obtain⟨hb,h⟩:=A1 h
  split at h
  case h_2=>cases h
  rename_i r0 hs;cases h;exact key _ _ _ hs
theorem Zu: ∀ (m k:Nat) (cs:List Cl) (s s':St),Xv id p i m k cs s=some s'->Kp (λ_=>true) s s':=by
 intro m
 induction m with
 |zero=>intro k cs s s' h;cases cs<;>cases h;exact Kp.refl _ _
 |succ m ih=>
  intro k cs s s' h;cases cs with
  |nil=>cases h;exact Kp.refl _ _
  |cons c cs=>
   unfold Xv at h;split at h
   case h_2=>grind
   rename_i r' mv h1;refine Kp.trans ⟨λx _ hx=>Sl.kill_stay hx _ _ _,λid' _=>Xu h1 id',by obtain⟨_,_,_,_,_,hl,_⟩:=U9 h1 [];grind⟩ (ih _ _ _ _ h) (λ_ _=>rfl) λ_ _=>rfl
theorem U4(h:Ij s ti x v=some s'):Kp (λ_=>true) s s':=by
 unfold Ij at h;split at h
 case h_2=>grind
 split at h
 case h_2=>grind
 rename_i ti id p i k y _ l hl;cases hb:(Nat.beq l.length ti.ty.w&&Nat.ble (k+ti.ty.w) (Ab s.r id p).w&&(Ab s.r id p).live)with
 |false=>grind
 |true=>rw [hb]at h;exact Zu _ _ _ _ _ h
theorem Xx(h:Va s ti x v=some A):Kp (λ_=>true) s A.s:=by
 unfold Va at h;split at h
 case h_2=>cases h
 rename_i ti id p i k id' q off len;cases hb:(Nat.beq id' id&&Nat.beq ti.ty.w 1&&Nat.ble (k+1) (Ab s.r id p).w&&(Ab s.r id p).live)with
 |false=>grind
 |true=>
 rw [hb]at h;split at h
 case h_2=>cases h
 split at h
 case h_2=>cases h
 split at h
 case h_2=>cases h
 rename_i r0 hset;cases h;refine⟨λj _ hj=>Sl.kill_stay hj _ _ _,λid2 hid hro=>?_,by simp⟩
 have:id2≠id:=by
  rintro rfl
  rw [D8 hset]at hro;grind
 grind
theorem Sl.kH_stay(h:y.stay=true)(r:List Aa)(j:Nat):y.kH r j=y:=by
 cases y with
 |one c=>
  cases c with
  |rf=>cases h
  |rs=>cases h
  |rp=>cases h
  |_=>rfl
 |new=>rfl
 |agg=>exact Sl.kill_stay h j [] []
 |tup=>exact Sl.kill_stay h j [] []
 |pk=>exact Sl.kill_stay h j [] []
theorem KW: ∀ (js:List Nat) (s:St),(∀j∈js,(s.r.getD j .dead).isRo=false\/s.r.getD j .dead= .dead)->Kp (λ_=>true) s (Ah js s)
 | [],s,_=>Kp.refl _ _
 |j::js,s,h=>by
  have h1:Kp (λ_=>true) s (IB j s):=by
   refine⟨λi _ hi=>Sl.kH_stay hi _ _,λid hid hro=>?_,by rw [JN];simp⟩
   by_cases hne:j=id
   ·subst hne
    rcases h j (List.mem_cons_self ..)with h2|h2
    ·grind
    ·show(s.r.set j .dead).getD j .dead=_
     rw [h2];simp [hid]
   ·exact Jf hne
  refine h1.trans (KW js (IB j s) λi hi=>?_) (λ_ _=>rfl) λ_ _=>rfl
  by_cases he:i=j
  ·subst he
   right;show(s.r.set i .dead).getD i .dead= .dead
   grind
  ·have:(IB j s).r.getD i .dead=s.r.getD i .dead:=Jf (Ne.symm he)
   grind
theorem JM(js:List Nat)(s:St)(h: ∀j∈js,(s.r.getD j .dead).isRo=false):Kp (λ_=>true) s (Ah js s):=KW js s λj hj=>.inl (h j hj)
theorem Sl.gv_stay(h:y.stay=true)(r:List Aa)(j:Nat)(z:Cl):y.gv r j z=y:=by
 unfold Sl.gv;split
 ·cases h
 ·exact Sl.kH_stay h r j
theorem Yb{j:Nat}(h:Ws j s=some s'):Kp (λ_=>true) s s':=by
 obtain⟨l,t,x,hj,hr,hf,rfl⟩:=KN h;refine⟨λi _ hi=>Sl.gv_stay hi _ _ _,λid hid hro=>Jf λe=>?_,by simp⟩
 rw [<-e,hr]at hro
 trivial
theorem IS: ∀ (xs:List Operand) {s s':St},NI xs s=some s'->Kp (λ_=>true) s s'
 | [],s,s',h=>by cases h;exact Kp.refl _ _
 |x::xs,s,s',h=>by
  unfold NI at h;split at h
  ·split at h
   case h_2=>grind
   rename_i h1;exact(Yb h1).trans (IS xs h) (λ_ _=>rfl) λ_ _=>rfl
  ·exact IS xs h
theorem Sl.mapC_stay(h:y.stay=true)(id:Nat)(q:AR)(m:Nat):y.mapC (Cl.rr id q m)=y:=by
 have c1: ∀y:Cl,y.stay=true->y.rr id q m=y:=by intro y h;cases y<;>first|rfl|cases h
 cases y with
 |one y=>exact congrArg Sl.one (c1 y h)
 |new l=>rfl
 |agg l=>exact congrArg Sl.agg (AC λy hy=>c1 y (aET.1 h y hy))
 |pk t l=>exact congrArg (Sl.pk t) (AC λy hy=>c1 y (aET.1 h y hy))
 |tup l=>
  refine congrArg Sl.tup (AC λp hp=>?_)
  obtain⟨b,m⟩:=p;exact congrArg (Prod.mk b) (AC λy hy=>c1 y (aET.1 (aET.1 h _ hp) y hy))
theorem Mc(h:Y4 s x=some s'):Kp (λ_=>true) s s':=by
 unfold Y4 at h;split at h
 case h_2=>cases h;exact Kp.refl _ _
 rename_i id b q1
 have key: ∀ (r1 R:Aa),Me (s.r.getD id .dead) (b::q1)=some r1->Kp (λ_=>true) s ⟨λi=>(s.t i).mapC (Cl.rr id (b::q1) s.r.length),s.r.set id r1++ [R]⟩:=by
  intro r1 R hcut;refine⟨λi _ hi=>Sl.mapC_stay hi _ _ _,λid' hlt hro=>?_,by simp⟩
  have hne:id'≠id:=by
   rintro rfl
   rw [Md hcut]at hro;grind
  grind
 split at h
 case h_2=>cases h;exact Kp.refl _ _
 grind
theorem Sl.mapK_stay(h:y.stay=true)(id:Nat)(q:AR)(m:Nat):y.mapC (Cl.rk id q m)=y:=by
 have c1: ∀y:Cl,y.stay=true->y.rk id q m=y:=by intro y h;cases y<;>first|rfl|cases h
 cases y with
 |one y=>exact congrArg Sl.one (c1 y h)
 |new l=>rfl
 |agg l=>exact congrArg Sl.agg (AC λy hy=>c1 y (aET.1 h y hy))
 |pk t l=>exact congrArg (Sl.pk t) (AC λy hy=>c1 y (aET.1 h y hy))
 |tup l=>
  refine congrArg Sl.tup (AC λp hp=>?_)
  obtain⟨b,m⟩:=p;exact congrArg (Prod.mk b) (AC λy hy=>c1 y (aET.1 (aET.1 h _ hp) y hy))
theorem Aax{x:Operand}(h:cutO s x=some s'):Kp (λ_=>true) s s':=by
 unfold cutO at h;split at h
 case h_2=>exact Mc h
 rename_i y;split at h
 case h_2=>exact Mc h
 rename_i id b q1 hy;split at h
 case h_2=>exact Mc h
 rename_i r1 t d v hcut hn;cases h;refine⟨λi _ hi=>?_,λid' hlt hro=>?_,by simp⟩
 ·show(bif Nat.beq i y then Sl.one (.rf s.r.length [])else(s.t i).mapC _)=s.t i
  cases he:Nat.beq i y with
  |false=>exact Sl.mapK_stay hi _ _ _
  |true=>
   have e:=bqE he;subst e;rw [hy]at hi;trivial
 ·have hne:id'≠id:=by
   rintro rfl
   rw [Md hcut]at hro;grind
  grind
theorem O8{t:Ty}{y:Option Sl}{ys:List t.T}{js:List Nat}(h:UD s t id y=some (d,ys,js)): ∀j∈js,(s.r.getD j .dead).isRo=false:=by
 replace h:=(WT h).1
 unfold UC at h;split at h
 case h_4=>cases h
 ·grind
 ·rename_i j q
  split at h
  case h_2=>cases h
  rename_i ro t' d' ys' hn;split at h
  case isFalse=>cases h
  cases hb:Nat.beq j id with
  |true=>rw [hb]at h;cases h
  |false=>
   rw [hb]at h;simp only [cond_false]at h;cases hd:Nat.beq t.dep 0 with
   |true=>rw [hd]at h;cases h;intro j hj;cases hj
   |false=>
    rw [hd]at h;simp only [cond_false]at h;split at h
    case h_2=>cases h
    cases ro with
    |true=>cases h
    |false=>
     cases h;intro i hi;simp at hi;subst hi;have hn:s.r.getD i .dead= .arr false t' d ys':=hn;rw [hn];rfl
 grind
theorem QM{i:Option TI}{y:Option Sl}{A:LR}(h:I6 s i x y=some A): ∀j∈A.js,(s.r.getD j .dead).isRo=false:=by
 unfold I6 at h;split at h
 ·cases h
 rename_i ti;obtain⟨hb,h⟩:=A1 h;split at h
 case h_3=>cases h
 ·split at h
  case h_2=>cases h
  rename_i hy;cases h;exact O8 hy
 ·split at h
  case h_2=>cases h
  rename_i t' d xs hr;split at h
  case isFalse=>cases h
  rename_i ht;subst ht;split at h
  case h_2=>cases h
  rename_i d' ys js hy;obtain⟨hdk,h⟩:=A1 h;cases h;intro j hj;rcases List.mem_cons.1 hj with rfl|hj
  ·rw [hr];rfl
  ·exact O8 hy j hj
theorem ZB(wr: ∀ {l m:List Cl} {js:List (Option Nat)},Ln s.r l=some (m,js)->∀j∈Um js,(s.r.getD j .dead).isRo=false){n:Nat}{ps:List (Nat×Option Sl)}{i:Option TI}{A:LR}(h:tBSM s n ps i=some A): ∀j∈A.js,(s.r.getD j .dead).isRo=false:=by
 unfold tBSM at h;split at h
 case h_2=>grind
 grind
theorem Ll{r:List Aa}: ∀ {l m:List Cl} {js:List (Option Nat)},Ln r l=some (m,js)->∀j∈Um js,(r.getD j .dead).isRo=false
 | [],m,js,h=>by cases h;intro j hj;cases hj
 |y::l,m,js,h=>by
  unfold Ln at h;split at h
  ·rename_i he;cases he
  ·rename_i id l' he
   cases he;split at h
   case h_2=>cases h
   rename_i t d xs hroot;split at h
   case h_2=>cases h
   rename_i m' js' h1;cases h;intro j hj;rcases List.mem_cons.1 hj with rfl|hj
   ·rw [hroot];rfl
   ·exact Ll h1 j hj
  ·rename_i y' l' hne he
   cases he;cases hi:y.imm with
   |false=>grind
   |true=>
    rw [hi]at h;split at h
    case h_2=>cases h
    rename_i m' js' h1;cases h;exact λj hj=>Ll (l:=l) h1 j hj
theorem MQ{u:Ty}{xs:List u.T}(h:r.setPath p u d xs=some r'):r.isRo=false:=by
 unfold Aa.setPath at h;split at h
 ·split at h
  ·rfl
  grind
 ·exact D8 h
theorem Ko{id:Nat}: ∀ (LD:List (CP×Nat)) (ys:List (Σ t:Ty,t.T)) (r r':List Aa),CK LD ys r=some r'->(r.getD id .dead).isRo=true->r'.getD id .dead=r.getD id .dead
 | [],[],r,r',h,_=>by cases h;rfl
 |(a,d)::LD,⟨.sl u,xs⟩::ys,r,r',h,hro=>by
  unfold CK at h;split at h
  case h_2=>grind
  rename_i x hx;have hne:a.1≠id:=λe=>by rw [<-e,MQ hx]at hro;grind
  rw [Ko LD ys _ _ h (by grind),Jf hne]
 | [],_::_,_,_,h,_=>by cases h
 |_::_,[],_,_,h,_=>by cases h
 |_::_,⟨.int _,_⟩::_,_,_,h,_=>by cases h
 |_::_,⟨.bool,_⟩::_,_,_,h,_=>by cases h
 |_::_,⟨.str,_⟩::_,_,_,h,_=>by cases h
 |_::_,⟨.unit,_⟩::_,_,_,h,_=>by cases h
 |_::_,⟨.ptr _,_⟩::_,_,_,h,_=>by cases h
 |_::_,⟨.clo _ _,_⟩::_,_,_,h,_=>by cases h
 |_::_,⟨.osl _,_⟩::_,_,_,h,_=>by cases h
 |_::_,⟨.pair _ _,_⟩::_,_,_,h,_=>by cases h
theorem Sl.killP_stay(h:y.stay=true)(f:Nat->AR->Bool):y.killP f=y:=by
 have c1: ∀y:Cl,y.stay=true->y.killP f=y:=by intro y h;cases y<;>first|rfl|cases h
 cases y with
 |one y=>exact congrArg Sl.one (c1 y h)
 |new l=>rfl
 |agg l=>exact congrArg Sl.agg (AC λy hy=>c1 y (aET.1 h y hy))
 |pk t l=>exact congrArg (Sl.pk t) (AC λy hy=>c1 y (aET.1 h y hy))
 |tup l=>
  refine congrArg Sl.tup (AC λp hp=>?_)
  obtain⟨b,m⟩:=p;exact congrArg (Prod.mk b) (AC λy hy=>c1 y (aET.1 (aET.1 h _ hp) y hy))
theorem Vh{Γ:List EnW}{f:FuncId}{xs:List (Option Sl)}{A:W5}{u:A.α}(ha:ML Γ s f xs=some A)(hst:A.st u=some s1):Kp (λ_=>true) s s1:=by
 unfold ML at ha;split at ha
 case h_2=>grind
 rename_i e he;split at ha
 case h_2=>grind
 rename_i z LD hz;cases hap:Ld (LD.map (·.1))with
 |false=>grind
 |true=>
 rw [hap]at ha;cases ha
 have hst:(match CK LD (wOf (Ii e.S.ps) u.2) s.r with
  |some r'=>some ⟨λi=>(s.t i).killP (X6 (LD.map (·.1)) s.r.length),r'⟩
  |none=>none)=some s1:=hst
 split at hst
 case h_2=>grind
 rename_i r' hr';cases hst;exact⟨λi _ hi=>Sl.killP_stay hi _,λid _ hro=>Ko LD _ _ _ hr' hro,by
  rw [(Jb _ _ _ _ hr').1];simp⟩
def AaP:List Operand->St->Option St
 | [],s=>some s
 |x::xs,s=>match cutO s x with
  |some s'=>AaP xs s'
  |none=>none
theorem WG{C:Ctx}{N:Nat}{a:Act}{w:World}: ∀ (xs:List Operand) {s s':St},AaP xs s=some s'->AI C N s.den a w->AI C N s'.den a w
 | [],s,s',h,hs=>by cases h;grind
 |x::xs,s,s',h,hs=>by
  unfold AaP at h;split at h
  case h_2=>grind
  rename_i h1;exact WG xs h (Aaw h1 hs)
theorem WH: ∀ (xs:List Operand) {s s':St},AaP xs s=some s'->Kp (λ_=>true) s s'
 | [],s,s',h=>by cases h;exact Kp.refl _ _
 |x::xs,s,s',h=>by
  unfold AaP at h;split at h
  case h_2=>grind
  rename_i h1;exact(Aax h1).trans (WH xs h) (λ_ _=>rfl) λ_ _=>rfl
end Go.Ve


namespace Go.Ve
variable{r:List Aa}{Y:List Nat}{m:Nat}{p:Nat×Nat}{y:Sl}{s s1:St}
def backs:List (Nat×Nat)->Ms->Ms
 | [],S=>S
 |p::B,S=>backs B ⟨Az S.t p.1 (LE p.2 (S.t p.1)),S.σ.set p.2 (S.t p.1)⟩
def Ka(v:V):Prop:=∃s sz n f,v= .nd s true sz n f/\(s=false->0<sz/\n=1)
theorem PR.backs{C:Ctx}{N:Nat}{a:Act}{w:World}{D:Nat->Prop}{ρ:Nat->Value}: ∀ (B:List (Nat×Nat)) (t:Nat->V) (σ:List V) (F:Nat->Nat->Prop) (T:Nat->Nat->Prop),PR C N σ ρ F t a w D T->
  (B.map (·.1)).Nodup->(B.map (·.2)).Nodup->(∀p∈B,p.1<N/\p.2<σ.length/\σ.getD p.2 .dead= .dead/\a.tmps.getD p.1 undef=ρ p.2/\Ka (t p.1))->
  ∃F' T',PR C N (Go.Ve.backs B ⟨t,σ⟩).σ ρ F' (Go.Ve.backs B ⟨t,σ⟩).t a w D T'/\∀x b,T' x b->T x b/\x∉B.map (·.1)
 | [],t,σ,F,T,h,_,_,_=>⟨F,T,h,λx b hb=>⟨hb,by simp⟩⟩
 |p::B,t,σ,F,T,h,hn1,hn2,hB=>by
  obtain⟨h1,h2,h3,h4,s,sz,n,f,h5,h6⟩:=hB p (List.mem_cons_self ..);have hb:=h.back2 h1 h2 h3 h5 h6 h4;rw [List.map_cons,List.nodup_cons]at hn1 hn2;obtain⟨F',T',hp,hT⟩:=PR.backs B _ _ _ _ hb hn1.2 hn2.2 λq hq=>by
   obtain⟨g1,g2,g3,g4,g5⟩:=hB q (mCM _ hq);have e1:q.1≠p.1:=λe=>hn1.1 (e▸List.mem_map.2 ⟨q,hq,rfl⟩)
   have e2:q.2≠p.2:=λe=>hn2.1 (e▸List.mem_map.2 ⟨q,hq,rfl⟩)
   refine⟨g1,by simpa using g2,?_,g4,?_⟩
   ·refine Eq.trans ?_ g3
    simp only [gDE];rw [List.getElem?_set_ne (Ne.symm e2)]
   ·simp [Az,e1,if_false]
    exact g5
  refine⟨F',T',hp,λx b hb=>?_⟩
  obtain⟨k1,k2⟩:=hT x b hb;refine⟨k1.2,?_⟩;rw [List.map_cons,List.mem_cons];exact λh=>h.elim k1.1 k2
def YW:List Cl->Nat
 | []=>0
 | .c t d _::l=>bif Nat.ble (Oa d t.dep) (YW l)then YW l else Oa d t.dep
 |_::l=>YW l
def sameD(D:Nat):Cl->Bool
 | .c t d _=>Nat.beq (Oa d t.dep) (Oa D t.dep)
 |_=>false
theorem Aap(D:Nat): ∀ (l:List Cl) (y:Dy),DR l=some y->l.all (sameD D)=true->tyV y.t D y.x=l.map Cl.v0:=by
 intro l
 induction l with
 |nil=>intro y h _;cases h;rfl
 |cons a l ih=>
  intro y h hs;rw [List.all_cons,bAE]at hs;unfold DR at h;split at h
  case h_2=>cases h
  rename_i t d x;have he:=bqE hs.1;rw [H4,H4]at he;obtain⟨ho,h⟩:=A1 h;have e1: [cV t d x]=tyV t D x:=by rw [Bv ho,Ix he]
  split at h
  ·cases h
   exact e1.symm
  ·rename_i b l'
   split at h
   case h_2=>cases h
   rename_i t' x' hf;cases h;show tyV t D x++tyV t' D x'=cV t d x::_;rw [ih _ hf hs.2,<-e1];rfl
def B4(s:St)(y:Nat):Option Nat:=match s.t y with
 | .one (.rf id [])=>match s.r.getD id .dead with
  | .arr false _ _ _=>some id
  |_=>none
 | .one (.rp id [] 0 0)=>match s.r.getD id .dead with
  | .obj false l=>match DR l with
   |some _=>bif l.all (sameD (YW l))&& !Nat.beq l.length 0 then some id else none
   |none=>none
  |_=>none
 |_=>none
def YQ(s:St)(y:Nat):Sl:=match s.t y with
 | .one (.rf id [])=>match s.r.getD id .dead with
  | .arr false t d xs=>.one (.c (.sl t) (d+1) xs)
  |_=>.one .dead
 | .one (.rp id [] 0 0)=>match s.r.getD id .dead with
  | .obj false l=>match DR l with
   |some ⟨t,x⟩=>.one (.c (.ptr t) (YW l+1) x)
   |none=>.one .dead
  |_=>.one .dead
 |_=>.one .dead
def Un(s:St):List Nat->Option (List Nat)
 | []=>some []
 |y::l=>match B4 s y with
  |some id=>match Un s l with
   |some m=>some (id::m)
   |none=>none
  |none=>none
def ndB:List Nat->Bool
 | []=>true
 |a::l=>!l.contains a&&ndB l
def JO(Y:List Nat)(s:St):Option St:=match Y with
 | []=>some s
 |Y=>match Un s Y with
  |some ids=>bif ndB ids then some ⟨λi=>bif Y.contains i then YQ s i else(Ah ids s).t i,(Ah ids s).r⟩else none
  |none=>none
theorem Yc{c:Cl}(h:c.own=false):frz c.v0=c.v0:=by
 cases c with
 |c t d x=>
  cases t with
  |int k=>rfl
  |bool=>rfl
  |str=>rfl
  |unit=>rfl
  |pair a b=>rfl
  |sl t=>cases d with
   |zero=>exact List.singleton_inj.1 (Bd (.sl t) 0 x)
   |succ d=>cases h
  |ptr t=>cases d with
   |zero=>exact List.singleton_inj.1 (Bd (.ptr t) 0 x)
   |succ d=>cases h
  |clo g t=>exact List.singleton_inj.1 (Bd (.clo g t) 0 x)
  |osl t=>cases d with
   |zero=>exact List.singleton_inj.1 (Bd (.osl t) 0 x)
   |succ d=>cases x with
    |none=>rfl
    |some y=>cases h
 |_=>rfl
theorem BZ{y id:Nat}(h:B4 s y=some id):(s.r.getD id .dead).isRo=false/\(s.t y).stay=false/\Ka (s.r.getD id .dead).v/\(∀r,(YQ s y).v r=(s.r.getD id .dead).v)/\(s.t y).v s.r=LE id (s.r.getD id .dead).v:=by
 unfold B4 at h;split at h
 case h_3=>cases h
 ·rename_i id' hy
  split at h
  case h_2=>cases h
  rename_i t d xs hr;cases h;rw [hr];refine⟨rfl,by rw [hy];rfl,⟨true,_,_,_,rfl,λh=>by cases h⟩,λr=>?_,?_⟩
  ·unfold YQ
   rw [hy];simp only [hr];show arr (decide (0<d+1)) t.w (tyV t (d+1-1)) t.dflt xs=arr true t.w (tyV t d) t.dflt xs;simp
  ·rw [hy]
   show V.rs id [] 0 (Ab s.r id []).len=_
   have:(Ab s.r id []).len=xs.length:=by
    show(s.r.getD id .dead).len=_;rw [hr];rfl
   rw [this];rfl
 ·rename_i id' hy
  split at h
  case h_2=>cases h
  rename_i l hr;split at h
  case h_2=>cases h
  rename_i D hf;obtain⟨hb,h⟩:=A1 h;cases h;rw [bAE,Bool.not_eq_true']at hb;have hl:0<l.length:=by
   rcases Nat.eq_zero_or_pos l.length with e|e
   ·rw [e]at hb;cases hb.2
   ·exact e
  rw [hr];refine⟨rfl,by rw [hy];rfl,⟨false,_,_,_,rfl,λ_=>⟨by simpa using hl,rfl⟩⟩,λr=>?_,?_⟩
  ·obtain⟨t,x⟩:=D
   unfold YQ;rw [hy];simp only [hr,hf];show A7 (decide (0<YW l+1)) (tyV t (YW l+1-1) x)=A7 true (l.map Cl.v0);have e3:tyV t (YW l) x=l.map Cl.v0:=Aap _ _ _ hf hb.1;rw [Nat.add_sub_cancel,e3,dT (Nat.succ_pos _)]
  ·rw [hy];rfl
theorem JF{s:St}: ∀ {Y ids:List Nat},Un s Y=some ids->(∀y∈Y,∃id∈ids,B4 s y=some id)/\(∀id∈ids,∃y∈Y,B4 s y=some id)
 | [],ids,h=>by cases h;simp
 |y::Y,ids,h=>by
  unfold Un at h;split at h
  case h_2=>grind
  split at h
  case h_2=>grind
  rename_i m hm;obtain⟨h1,h2⟩:=JF hm
  grind
theorem V6{s:St}: ∀ {Y ids:List Nat},Un s Y=some ids->ndB ids=true->∀x∈Y,∀y∈Y,∀id,B4 s x=some id->B4 s y=some id->x=y
 | [],_,_,_,x,hx,_,_,_,_,_=>by cases hx
 |z::Y,ids,h,hn,x,hx,y,hy,id,h1,h2=>by
  unfold Un at h;split at h
  case h_2=>cases h
  rename_i id0 hid;split at h
  case h_2=>cases h
  rename_i m hm;cases h;have hn:(!m.contains id0&&ndB m)=true:=hn;rw [bAE,Bool.not_eq_true']at hn;have out: ∀u∈Y,B4 s u≠some id0:=by
   intro u hu he;obtain⟨i,hi,hi2⟩:=(JF hm).1 u hu
   grind
  by_cases ex:x=z
  ·grind
  ·have hx':x∈Y:=(List.mem_cons.1 hx).resolve_left ex
   by_cases ey:y=z
   ·grind
   ·exact V6 hm hn.2 x hx' y ((List.mem_cons.1 hy).resolve_left ey) id h1 h2
theorem NS{C:Ctx}{N:Nat}{a:Act}{w:World}(h:JO Y s=some s1)(hs:AI C N s.den a w){w':World}(hB:Below w.heap.size w w'):
  ∃D ρ F T,PR C N s1.den.σ ρ F s1.den.t a w' D T/\(∀x b,T x b->x∈Y)/\∀x id,x<N->B4 s x=some id->a.tmps.getD x undef=ρ id:=by
 obtain⟨hdf,hdd,D0,ρ0,F0,hcr0⟩:=hs;obtain⟨D,ρ,F,hcr⟩:=hcr0.below hB;have hsz:a.tmps.size=N:=by simpa using hcr.sz
 have base: ∀ {s1:St} {F1:Nat->Nat->Prop},CR C s1.den.σ ((List.range N).map s1.den.t) a.tmps w' D ρ F1->(∀x,N<=x->s1.den.t x= .dead)->PR C N s1.den.σ ρ F1 s1.den.t a w' D (λ_=>noF):=by
  intro s1 F1 hc hd;refine⟨hdf,hsz,hd,hc.wr,λx hx=>?_,λ_ _ h=>h.elim,λ_ _ _ _ h=>h,λ_ _ _ _ h=>h.elim,λ_ _ h=>h.elim,hc.fr,hc.Fn,hc.D1,hc.D2,hc.rt,hc.ml,λ_ _ _ h=>h⟩
  have h1:=hc.tm x (by simpa using hx)
  rw [AV hx]at h1;exact h1
 have hval: ∀x id,x<N->B4 s x=some id->a.tmps.getD x undef=ρ id:=by
  intro x id hx hid;obtain⟨g1,g2,⟨s0,sz0,n0,f0,g3,g4⟩,g5,g6⟩:=BZ hid;have hr:=hcr.tm x (by simpa using hx)
  rw [AV hx]at hr;have e0:s.den.t x=LE id (s.r.getD id .dead).v:=g6;rw [e0]at hr;have e3:s.den.σ.getD id .dead=(s.r.getD id .dead).v:=An _ _;have hlt:id<s.r.length:=by
   rcases Nat.lt_or_ge id s.r.length with h|h
   ·exact h
   ·rw [gDE,List.getElem?_eq_none h]at g1;cases g1
  have hrel:=hcr.wr.rel id (by simpa [St.den]using hlt)
  rw [e3]at hrel;exact VH g3 g4 (by rw [e3]) hrel hr
 unfold JO at h;split at h
 ·cases h
  exact⟨D,ρ,F,λ_=>noF,base hcr hdd,λ_ _ h=>h.elim,hval⟩
 split at h
 case h_2=>cases h
 rename_i ids hids;obtain⟨hn,h⟩:=A1 h;cases h;obtain⟨v1,v2⟩:=JF hids;have hlt: ∀j∈ids,j<s.r.length:=by
  intro j hj;obtain⟨y,_,hy⟩:=v2 j hj;have hr:=(BZ hy).1;rcases Nat.lt_or_ge j s.r.length with h|h
  ·exact h
  ·rw [gDE,List.getElem?_eq_none h]at hr;cases hr
 obtain⟨F1,hcr1,hF1⟩:=Cu ids hcr hlt;have hp:=base (s1:=Ah ids s) hcr1 (B6 ids hdd);have hYN: ∀y∈Y,y<N:=by
  intro y hy;obtain⟨id,_,hi⟩:=v1 y hy;obtain⟨_,_,⟨s0,_,_,_,h1,_⟩,_,h2⟩:=BZ hi;rcases Nat.lt_or_ge y N with h|h
  ·exact h
  ·have:=hdd y h
   have e:(s.t y).v s.r= .dead:=this;rw [h2,h1]at e;cases s0<;>cases e
 have hnot: ∀ {x:Nat},x∉Y->Y.contains x=false:=by
  intro x hx;cases hc:Y.contains x with
  |false=>rfl
  |true=>exact absurd (by simpa using hc) hx
 refine⟨D,ρ,F1,λx b=>x∈Y/\∃id,B4 s x=some id/\F id b,⟨hdf,hsz,λx hx=>?_,hp.wr,λx hx=>?_,λx b hb=>?_,λi x b hb hT=>?_,λx y b hxy h1 h2=>?_,λx b hb=>?_,hp.fr,hp.Fn,hp.D1,hp.D2,hp.rt,hp.ml,λx b hx hb=>?_⟩,λx b hb=>hb.1,hval⟩
 ·have hxY:x∉Y:=λh=>absurd (hYN x h) (Nat.not_lt.2 hx)
  show(bif Y.contains x then YQ s x else(Ah ids s).t x).v _= .dead;rw [hnot hxY];exact B6 ids hdd x hx
 ·by_cases hxY:x∈Y
  ·obtain⟨id,hi,hid⟩:=v1 x hxY
   obtain⟨g1,g2,⟨s0,sz0,n0,f0,g3,g4⟩,g5,g6⟩:=BZ hid;have hc:Y.contains x=true:=by simpa using hxY
   show Rel D _ _ ((bif Y.contains x then YQ s x else(Ah ids s).t x).v _) (a.tmps.getD x undef) _;rw [hc,cond_true,g5];have hr:=hcr.tm x (by simpa using hx)
   rw [AV hx]at hr;have e0:s.den.t x=LE id (s.r.getD id .dead).v:=g6;rw [e0]at hr;have e3:s.den.σ.getD id .dead=(s.r.getD id .dead).v:=An _ _;have hrel:=hcr.wr.rel id (by simpa [St.den]using hlt id hi)
   rw [e3]at hrel;have ecv:a.tmps.getD x undef=ρ id:=VH g3 g4 (by rw [e3]) hrel hr
   rw [ecv];refine Rel.fp_congr (λb=>⟨λhb=>⟨hxY,id,hid,hb⟩,fun⟨_,i,hi,hb⟩=>?_⟩) (Rel.noR_mono hrel)
   rw [hid]at hi;cases hi;exact hb
  ·show Rel D _ _ ((bif Y.contains x then YQ s x else(Ah ids s).t x).v _) (a.tmps.getD x undef) _
   rw [hnot hxY,cond_false];exact Rel.fp_congr (λb=>⟨λh=>h.elim,λh=>absurd h.1 hxY⟩) (hp.tm x hx)
 ·obtain⟨_,id,_,hb⟩:=hb
  exact hcr.wr.dD id b hb
 ·obtain⟨hxY,id,hid,hb2⟩:=hT
  obtain⟨g1,g2⟩:=hF1 i b hb;obtain⟨id',hi',he⟩:=v1 x hxY;rw [hid]at he;cases he;exact hcr.wr.disj i id b (λe=>g2 (e▸hi')) g1 hb2
 ·obtain⟨hxY,id1,hid1,hb1⟩:=h1
  obtain⟨hyY,id2,hid2,hb2⟩:=h2;by_cases e:id1=id2
  ·subst e
   exact hxy (V6 hids hn x hxY y hyY id1 hid1 hid2)
  ·exact hcr.wr.disj id1 id2 b e hb1 hb2
 ·obtain⟨_,id,_,hb⟩:=hb
  exact hcr.Fn id b hb
 ·exact absurd (hYN x hb.1) (Nat.not_lt.2 hx)
theorem NT(h:JO Y s=some s1):Kp (λ_=>true) s s1:=by
 unfold JO at h;split at h
 ·cases h;exact Kp.refl _ _
 split at h
 case h_2=>grind
 rename_i ids hids;cases hn:ndB ids with
 |false=>grind
 |true=>
 rw [hn]at h;cases h;obtain⟨v1,v2⟩:=JF hids;have hk:=JM ids s λj hj=>by
  obtain⟨y,_,hy⟩:=v2 j hj;exact(BZ hy).1
 refine⟨λi hi hs=>?_,hk.r,hk.l⟩
 have hiY:i∉Y:=by
  intro h;obtain⟨id,_,hid⟩:=v1 i h;rw [(BZ hid).2.1]at hs;grind
 show(bif Y.contains i then YQ s i else(Ah ids s).t i)=s.t i;have hc:Y.contains i=false:=by
  grind
 rw [hc];exact hk.t i hi hs
def St.promA:List (Option Nat)->St->St
 | [],s=>s
 |none::ds,s=>St.promA ds s
 |some d::ds,s=>bif(s.t d).own then St.promA ds (s.add d ((s.t d).prom s.r.length))else St.promA ds s
theorem Ao.trans: ∀ {v v' v'':V},Ao v v'->Ao v' v''->Ao v v'':=by
 have dd: ∀v'',Ao .dead v''->v''= .dead:=by
  intro v'' h;rcases h with h|h
  ·exact h
  trivial
 intro v
 induction v with
 |many t n f ih=>
  intro v' v'' h h';rcases h with rfl|⟨g,rfl,h⟩
  ·rw [dd _ h'];exact Ao.dead _
  ·rcases h' with rfl|⟨g',rfl,h'⟩
   ·exact Ao.dead _
   ·exact .inr ⟨g',rfl,λk hk=>ih k (h k hk) (h' k hk)⟩
 |c v=>
  intro v' v'' h h';rcases h with rfl|h
  ·rw [dd _ h'];exact Ao.dead _
  ·rcases h with rfl|⟨rfl,own,sz,f,rfl⟩
   ·grind
   ·rcases h' with rfl|h'
    ·exact Ao.dead _
    ·exact .inr (Sub.trans (.inr ⟨rfl,own,sz,f,rfl⟩) h')
 |dead=>grind
 |nd s own sz n f _=>
  intro v' v'' h h';rcases h with rfl|h
  ·rw [dd _ h'];exact Ao.dead _
  ·have h0:=h
   obtain⟨g,rfl,_⟩:=h;rcases h' with rfl|h'
   ·exact Ao.dead _
   ·exact .inr (Sub.trans h0 h')
 |rs id p off len=>
  intro v' v'' h h';rcases h with rfl|h
  ·rw [dd _ h'];exact Ao.dead _
  ·subst h
   grind
 |rp id p i k=>
  intro v' v'' h h';rcases h with rfl|h
  ·rw [dd _ h'];exact Ao.dead _
  ·subst h
   exact h'
structure Yy(ds:List (Option Nat))(S:Ms)(s:St):Prop where
 σ:S.σ=s.den.σ
 t: ∀i,Ao (S.t i) (s.den.t i)
 o: ∀i,some i∈ds->((s.t i).own=true->(s.t i).stay=true)/\(S.t i=s.den.t i\/((s.t i).own=false/\AE (S.t i)=false))
theorem Vm(h:y.stay=true)(r r':List Aa):y.v r=y.v r':=by
 have c1: ∀y:Cl,y.stay=true->y.v r=y.v r':=by intro y h;cases y<;>first|rfl|cases h
 have cl: ∀l:List Cl,l.all Cl.stay=true->l.map (Cl.v r)=l.map (Cl.v r'):=λl h=>List.map_congr_left λy hy=>c1 y (aET.1 h y hy)
 cases y with
 |one y=>exact c1 y h
 |new l=>rfl
 |agg l=>exact congrArg Ac (cl l h)
 |pk t l=>exact congrArg (pkL t) (cl l h)
 |tup l=>
  refine congrArg C8 (List.map_congr_left λp hp=>?_)
  rw [cl p.2 (aET.1 h p hp)]
theorem ZT(y:Sl)(m:Nat):(y.chk m).own=y.own:=by
 have c1: ∀y:Cl,(y.chk m).own=y.own:=by
  intro y;cases y with
  |rf id p=>show(bif Nat.blt id m then Cl.rf id p else .dead).own=_;cases Nat.blt id m<;>rfl
  |rs id p a b=>show(bif Nat.blt id m then Cl.rs id p a b else .dead).own=_;cases Nat.blt id m<;>rfl
  |rp id p a b=>show(bif Nat.blt id m then Cl.rp id p a b else .dead).own=_;cases Nat.blt id m<;>rfl
  |_=>rfl
 have cl: ∀l:List Cl,(l.map (Cl.chk m)).any Cl.own=l.any Cl.own:=by
  grind
 cases y with
 |one y=>exact c1 y
 |new l=>rfl
 |agg l=>exact cl l
 |pk t l=>exact cl l
 |tup l=>
  show(l.map _).any _=l.any _;rw [List.any_map]
  congr 1
  funext p
  obtain⟨b,l⟩:=p;cases b with
  |true=>grind
  |false=>
   cases l with
   |nil=>rfl
   |cons y l=>exact c1 y
theorem OD:AE ((y.prom m).1.v r)=false:=by
 have pc: ∀ (m0 m:Nat) (y:Cl),((y.prom m0 m).1).own=false:=by
  intro m0 m y;cases y with
  |c t d x=>cases t<;>cases d<;>first|rfl|(cases x<;>rfl)|(show(bif Nat.blt 0 _ then(Cl.rp m [] 0 0,_)else(Cl.dead,_)).1.own=false;cases Nat.blt 0 _<;>rfl)
  |rf id p=>show(bif Nat.blt id m0 then Cl.rf id p else .dead).own=_;cases Nat.blt id m0<;>rfl
  |rs id p a b=>show(bif Nat.blt id m0 then Cl.rs id p a b else .dead).own=_;cases Nat.blt id m0<;>rfl
  |rp id p a b=>show(bif Nat.blt id m0 then Cl.rp id p a b else .dead).own=_;cases Nat.blt id m0<;>rfl
  |_=>rfl
 have pl: ∀ (m0:Nat) (l:List Cl) (m:Nat),((BQ m0 m l).1).any Cl.own=false:=by
  intro m0 l
  induction l with
  |nil=>intro m;rfl
  |cons y l ih=>intro m;show(((y.prom m0 m).1).own||((BQ m0 _ l).1).any Cl.own)=false;rw [pc,ih];rfl
 have pp: ∀ (m0:Nat) (l:List (Bool×List Cl)) (m:Nat),((Da m0 m l).1).any (λp=>if p.1 then p.2.any Cl.own else(p.2.getD 0 .dead).own)=false:=by
  intro m0 l
  induction l with
  |nil=>intro m;rfl
  |cons p l ih=>
   intro m;show((if(HV m0 m p).1.1 then(HV m0 m p).1.2.any Cl.own else((HV m0 m p).1.2.getD 0 .dead).own)||((Da m0 _ l).1).any _)=false
   rw [ih,Bool.or_false];obtain⟨b,l⟩:=p;cases b with
   |true=>exact pl m0 l m
   |false=>exact pc m0 m _
 rw [Sl.own_v];cases y with
 |one y=>exact pc m m y
 |new l=>show(bif Nat.blt 0 l.length then(Sl.one (.rp m [] 0 0),[Aa.obj false l])else(.one .dead,[])).1.own=false;cases Nat.blt 0 l.length<;>rfl
 |agg l=>exact pl m l m
 |pk t l=>exact pl m l m
 |tup l=>exact pp m l m
theorem pn: ∀ (v:V) (m:Nat),AE (Go.Ve.prom v m).1=false:=by
 have pf: ∀ (g:Nat->Nat->V×List V),(∀k m,AE (g k m).1=false)->∀n m,∀x∈(Bx g n m).1,AE x=false:=by
  intro g hg n m
  induction n with
  |zero=>intro x hx;cases hx
  |succ n ih=>
   intro x hx;unfold Bx at hx
   grind
 intro v
 induction v with
 |many t n f ih=>
  intro m;show((List.range n).any λk=>AE ((Bx (λk=>Go.Ve.prom (f k)) n m).1.getD k .dead))=false
  rw [List.any_eq_false];intro k _;have h:=pf (λk=>Go.Ve.prom (f k)) (λk m=>ih k m) n m
  rw [gDE];cases hx:(Bx (λk=>Go.Ve.prom (f k)) n m).1[k]? with
  |none=>trivial
  |some x=>grind
 |nd s own sz n f _=>
  intro m;cases own with
  |false=>cases s<;>rfl
  |true=>cases s with
   |true=>rfl
   |false=>
    show AE (if 0<sz then(V.rp m [] 0 0,[V.nd false true sz n f])else(.dead,[])).1=false
    split<;>rfl
 |_=>intro m;rfl
theorem Js: ∀ (ds:List (Option Nat)) (S:Ms) (s:St),Yy ds S s->(∀i,Ao ((Go.Ve.promA ds S).t i) ((s.promA ds).den.t i))/\(Go.Ve.promA ds S).σ=(s.promA ds).den.σ:=by
 intro ds
 induction ds with
 |nil=>intro S s h;exact⟨h.t,h.σ⟩
 |cons d ds ih=>
  intro S s h;have hrest: ∀i,some i∈ds->some i∈d::ds:=λi hi=>mCM _ hi
  cases d with
  |none=>exact ih S s ⟨h.σ,h.t,λi hi=>h.o i (hrest i hi)⟩
  |some d=>
   show(∀i,Ao ((if AE (S.t d)then Go.Ve.promA ds ⟨Az S.t d (Go.Ve.prom (S.t d) S.σ.length).1,S.σ++(Go.Ve.prom (S.t d) S.σ.length).2⟩else Go.Ve.promA ds S).t i) ((bif(s.t d).own then St.promA ds (s.add d ((s.t d).prom s.r.length))else St.promA ds s).den.t i))/\
    (if AE (S.t d)then Go.Ve.promA ds ⟨Az S.t d (Go.Ve.prom (S.t d) S.σ.length).1,S.σ++(Go.Ve.prom (S.t d) S.σ.length).2⟩else Go.Ve.promA ds S).σ=(bif(s.t d).own then St.promA ds (s.add d ((s.t d).prom s.r.length))else St.promA ds s).den.σ
   obtain⟨_,hd⟩:=h.o d (List.mem_cons_self ..);cases ho:(s.t d).own with
   |false=>
    have:AE (S.t d)=false:=by
     rcases hd with e|e
     ·rw [e];show AE ((s.t d).v s.r)=false;rw [Sl.own_v,ho]
     ·exact e.2
    rw [this];exact ih S s ⟨h.σ,h.t,λi hi=>h.o i (hrest i hi)⟩
   |true=>
    have e:S.t d=(s.t d).v s.r:=by
     rcases hd with e|e
     ·exact e
     ·rw [ho]at e;cases e.1
    have:AE (S.t d)=true:=by rw [e,Sl.own_v,ho]
    rw [this];have hl:S.σ.length=s.r.length:=by rw [h.σ];show(s.r.map Aa.v).length=_;exact List.length_map ..
    obtain⟨a1,a2⟩:=W0 (s:=s) (d:=d) (y:=s.t d)
    have hself:(s.add d ((s.t d).prom s.r.length)).t d=((s.t d).prom s.r.length).1:=by
     have hu: ∀ (t:Nat->Sl) (y:Sl),AD t d y d=y:=λt y=>by unfold AD;rw [Nat.beq_refl];rfl
     unfold St.add;split
     ·exact hu _ _
     ·exact hu (λi=>(s.t i).chk s.r.length) _
    have hother: ∀i,i≠d->(s.add d ((s.t d).prom s.r.length)).t i=s.t i\/(s.add d ((s.t d).prom s.r.length)).t i=(s.t i).chk s.r.length:=by
     intro i hi;unfold St.add;split
     ·exact .inl (AU hi)
     ·exact .inr (AU (t:=λi=>(s.t i).chk s.r.length) hi)
    refine ih _ _ ⟨?_,λi=>?_,λi hi=>?_⟩
    ·show S.σ++(Go.Ve.prom (S.t d) S.σ.length).2=_
     rw [e,hl,h.σ];exact a2
    ·have h1:=a1 i
     show Ao (Az S.t d (Go.Ve.prom (S.t d) S.σ.length).1 i) _;rw [e,hl];unfold Az at h1⊢;by_cases hid:i=d
     ·rw [if_pos hid]at h1⊢;exact h1
     ·rw [if_neg hid]at h1⊢;exact(h.t i).trans h1
    ·obtain⟨k1,k2⟩:=h.o i (hrest i hi)
     by_cases hid:i=d
     ·subst hid
      rw [hself]
      have hno:(((s.t i).prom s.r.length).1).own=false:=by
       have:=OD (y:=s.t i) (m:=s.r.length) (r:=s.r);rw [Sl.own_v]at this;exact this
      refine⟨(λh=>by rw [hno]at h;cases h),.inr ⟨hno,?_⟩⟩
      show AE (Az S.t i (Go.Ve.prom (S.t i) S.σ.length).1 i)=false;unfold Az;rw [if_pos rfl];exact pn _ _
     ·have hV:Az S.t d (Go.Ve.prom (S.t d) S.σ.length).1 i=S.t i:=by unfold Az;rw [if_neg hid]
      have hcase:(s.t i).own=true->(s.add d ((s.t d).prom s.r.length)).t i=s.t i:=λhoi=>by
       rcases hother i hid with h'|h'
       ·exact h'
       ·rw [h',Sl.chk_stay (k1 hoi)]
      have hown:((s.add d ((s.t d).prom s.r.length)).t i).own=(s.t i).own:=by
       rcases hother i hid with h'|h'
       ·rw [h']
       ·rw [h',ZT]
      refine⟨λhoi=>?_,?_⟩
      ·rw [hown]at hoi
       rw [hcase hoi];exact k1 hoi
      ·cases hoi:(s.t i).own with
       |false=>
        refine .inr ⟨by rw [hown,hoi],?_⟩
        show AE (Az S.t d (Go.Ve.prom (S.t d) S.σ.length).1 i)=false;rw [hV];rcases k2 with k2|k2
        ·rw [k2];show AE ((s.t i).v s.r)=false;rw [Sl.own_v,hoi]
        ·exact k2.2
       |true=>
        left;show Az S.t d (Go.Ve.prom (S.t d) S.σ.length).1 i=_;rw [hV];rcases k2 with k2|k2
        ·rw [k2]
         show(s.t i).v s.r=((s.add d ((s.t d).prom s.r.length)).t i).v _;rw [hcase hoi];exact Vm (k1 hoi) _ _
        ·rw [hoi]at k2;cases k2.1
theorem add_kp{d:Nat}{p:Sl×List Aa}:Kp (λi=>decide (i≠d)) s (s.add d p):=by
 unfold St.add;split
 ·exact⟨λi hi _=>AU (of_decide_eq_true hi),λ_ _ _=>rfl,Nat.le_refl _⟩
 ·refine⟨λi hi hs=>?_,λid hl hid=>?_,by simp⟩
  ·show AD (λi=>(s.t i).chk s.r.length) d p.1 i=s.t i
   rw [AU (of_decide_eq_true hi)];exact Sl.chk_stay hs _
  grind
theorem Hf: ∀ (l:List Oper) (s:St),Kp (Ai l) s (s.promA (l.map (·.dst)))
 | [],s=>Kp.refl _ _
 |o::l,s=>by
  have hc: ∀i,Ai (o::l) i=true->o.dst≠some i/\Ai l i=true:=by
   intro i h
   have hc:Ai (o::l) i=((match o.dst with
    |some e=>!Nat.beq e i
    |none=>true)&&Ai l i):=rfl
   rw [hc,bAE]at h;refine⟨λhd=>?_,h.2⟩
   simp_all
  rw [List.map_cons];cases hd:o.dst with
  |none=>exact(Hf l s).weak λi hi=>(hc i hi).2
  |some d=>
   show Kp _ s (bif(s.t d).own then St.promA (l.map (·.dst)) (s.add d ((s.t d).prom s.r.length))else St.promA (l.map (·.dst)) s)
   cases (s.t d).own with
   |false=>exact(Hf l s).weak λi hi=>(hc i hi).2
   |true=>
    exact Kp.trans add_kp (Hf l _) (λi hi=>dT λe=>(hc i hi).1 (by grind)) λi hi=>(hc i hi).2
def Cl.clr(id:Nat):Cl->Cl
 | .rf j p=>bif Nat.beq j id then .dead else .rf j p
 | .rs j p off len=>bif Nat.beq j id then .dead else .rs j p off len
 | .rp j p i k=>bif Nat.beq j id then .dead else .rp j p i k
 |y=>y
def Sl.clr(id:Nat):Sl->Sl
 | .one y=>.one (y.clr id)
 | .new l=>.new l
 | .agg l=>.agg (l.map (Cl.clr id))
 | .pk t l=>.pk t (l.map (Cl.clr id))
 | .tup l=>.tup (l.map λp=>(p.1,p.2.map (Cl.clr id)))
theorem Cl.clr_v{r':List Aa}(hr: ∀id,id≠m->r'.getD id .dead=r.getD id .dead)(y:Cl):Ao (y.v r) ((y.clr m).v r'):=by
 cases y with
 |rf id p=>
  show Ao _ ((bif Nat.beq id m then Cl.dead else .rf id p).v r');cases hb:Nat.beq id m with
  |true=>exact Ao.dead _
  |false=>
   show Ao (V.rs id p 0 (Ab r id p).len) (V.rs id p 0 (Ab r' id p).len);unfold Ab;rw [hr id (λe=>by simp_all)]
   exact Ao.refl _
 |rs id p off len=>
  show Ao _ ((bif Nat.beq id m then Cl.dead else .rs id p off len).v r');cases Nat.beq id m with
  |true=>exact Ao.dead _
  |false=>exact Ao.refl _
 |rp id p off len=>
  show Ao _ ((bif Nat.beq id m then Cl.dead else .rp id p off len).v r');cases Nat.beq id m with
  |true=>exact Ao.dead _
  |false=>exact Ao.refl _
 |_=>exact Ao.refl _
theorem Sl.clr_v{r r':List Aa}{m:Nat}(hr: ∀id,id≠m->r'.getD id .dead=r.getD id .dead)(y:Sl):Ao (y.v r) ((y.clr m).v r'):=by
 have agg: ∀l:List Cl,Ao (Ac (l.map (Cl.v r))) (Ac ((l.map (Cl.clr m)).map (Cl.v r'))):=by
  intro l;refine Ao.mk (by simp) λk _=>?_
  rw [List.map_map];exact BM rfl rfl (λy=>Cl.clr_v hr y) k
 cases y with
 |one c=>exact Cl.clr_v hr c
 |new l=>exact Ao.refl _
 |agg l=>exact agg l
 |pk t l=>
  refine Ao.pk (by simp) λk _=>?_
  rw [List.map_map];exact BM rfl rfl (λy=>Cl.clr_v hr y) k
 |tup l=>
  refine Ao.tup (by simp) λk hk=>?_
  have hk:k<l.length:=by simpa using hk
  simp only [gDE,List.getElem?_map,gEE hk,Option.map_some,Option.getD_some];generalize l[k]=p;obtain⟨b,q⟩:=p;cases b with
  |true=>exact agg q
  |false=>
   have:=BM (l:=q) (f:=Cl.v r) (g:=λy=>(y.clr m).v r') rfl rfl (λy=>Cl.clr_v hr y) 0
   grind
theorem Sl.clr_stay(h:y.stay=true)(m:Nat):y.clr m=y:=by
 have c1: ∀y:Cl,y.stay=true->y.clr m=y:=by intro y h;cases y<;>first|rfl|cases h
 cases y with
 |one y=>exact congrArg Sl.one (c1 y h)
 |new l=>rfl
 |agg l=>exact congrArg Sl.agg (AC λy hy=>c1 y (aET.1 h y hy))
 |pk t l=>exact congrArg (Sl.pk t) (AC λy hy=>c1 y (aET.1 h y hy))
 |tup l=>
  refine congrArg Sl.tup (AC λp hp=>?_)
  obtain⟨b,q⟩:=p;exact congrArg (Prod.mk b) (AC λy hy=>c1 y (aET.1 (aET.1 h _ hp) y hy))
theorem ZS(y:Sl)(m:Nat):(y.clr m).own=y.own:=by
 have c1: ∀y:Cl,(y.clr m).own=y.own:=by
  intro y;cases y with
  |rf id p=>show(bif Nat.beq id m then Cl.dead else .rf id p).own=_;cases Nat.beq id m<;>rfl
  |rs id p a b=>show(bif Nat.beq id m then Cl.dead else .rs id p a b).own=_;cases Nat.beq id m<;>rfl
  |rp id p a b=>show(bif Nat.beq id m then Cl.dead else .rp id p a b).own=_;cases Nat.beq id m<;>rfl
  |_=>rfl
 have cl: ∀l:List Cl,(l.map (Cl.clr m)).any Cl.own=l.any Cl.own:=by
  grind
 cases y with
 |one y=>exact c1 y
 |new l=>rfl
 |agg l=>exact cl l
 |pk t l=>exact cl l
 |tup l=>
  show(l.map _).any _=l.any _;rw [List.any_map]
  congr 1
  funext p
  obtain⟨b,l⟩:=p;cases b with
  |true=>exact cl l
  |false=>
   cases l with
   |nil=>rfl
   |cons y l=>exact c1 y
def B5:Sl->Aa
 | .one (.c (.ptr t) (d+1) x)=>.obj false (Am t d x)
 | .one (.c (.sl t) (d+1) xs)=>.arr false t d xs
 | .new l=>.obj false l
 |_=>.dead
def Hr:Sl->Bool
 | .one (.c (.ptr t) (_+1) _)=>Nat.blt 0 t.w
 | .one (.c (.sl _) (_+1) _)=>true
 | .new l=>Nat.blt 0 l.length
 |_=>false
def Ox(id:Nat):Aa->Cl
 | .obj _ _=>.rp id [] 0 0
 |_=>.rf id []
def St.back1(p:Nat×Nat)(s:St):St:=⟨AD (λi=>(s.t i).clr p.2) p.1 (.one (Ox p.2 (B5 (s.t p.1)))),s.r.set p.2 (B5 (s.t p.1))⟩
theorem WQ(i:Nat):(s.back1 p).t i=AD (λi=>(s.t i).clr p.2) p.1 (.one (Ox p.2 (B5 (s.t p.1)))) i:=rfl
theorem Mi{i:Nat}(h:i≠p.1):(s.back1 p).t i=(s.t i).clr p.2:=(WQ i).trans (AU h)
def St.backs:List (Nat×Nat)->St->St
 | [],s=>s
 |p::B,s=>St.backs B (s.back1 p)
theorem UB(t:Ty)(d:Nat)(x:t.T):(Am t d x).length=t.w:=by
 have:=congrArg List.length (Bu t d x);rw [List.length_map,Aq]at this
 grind
theorem Ce(h:Hr y=true):y.stay=true/\(∀r,y.v r=(B5 y).v)/\Ka (B5 y).v/\∀ (r:List Aa) (id:Nat),id<r.length->(Sl.one (Ox id (B5 y))).v (r.set id (B5 y))=LE id (B5 y).v:=by
 unfold Hr at h;split at h
 case h_4=>grind
 ·rename_i t d x
  have hw:0<t.w:=blE h;refine⟨rfl,λr=>?_,⟨false,_,_,_,rfl,λ_=>⟨by simpa [UB]using hw,rfl⟩⟩,λr id hid=>rfl⟩
  show A7 (decide (0<d+1)) (tyV t (d+1-1) x)=A7 true ((Am t d x).map Cl.v0);rw [Bu];rfl
 ·rename_i t d xs
  refine⟨rfl,λr=>?_,⟨true,_,_,_,rfl,λh=>by grind⟩,λr id hid=>?_⟩
  ·rfl
  ·show V.rs id [] 0 (Ab (r.set id (.arr false t d xs)) id []).len=_
   have:(Ab (r.set id (.arr false t d xs)) id []).len=xs.length:=by
    show((r.set id (.arr false t d xs)).getD id .dead).len=_;simp [hid];rfl
   rw [this];rfl
 ·rename_i l
  have hw:0<l.length:=blE h;exact⟨rfl,λr=>rfl,⟨false,_,_,_,rfl,λ_=>⟨by simpa using hw,rfl⟩⟩,λr id hid=>rfl⟩
theorem WR{ds:List (Option Nat)}{S:Ms}(h:Yy ds S s)(hd:some p.1∉ds)(hp:p.2<s.r.length)(he:S.t p.1=s.den.t p.1)(hr:Hr (s.t p.1)=true):
  Yy ds ⟨Az S.t p.1 (LE p.2 (S.t p.1)),S.σ.set p.2 (S.t p.1)⟩ (s.back1 p):=by
 obtain⟨h1,h2,h3,h4⟩:=Ce hr;have e:S.t p.1=(B5 (s.t p.1)).v:=he.trans (h2 _)
 have hg: ∀id,id≠p.2->(s.r.set p.2 (B5 (s.t p.1))).getD id .dead=s.r.getD id .dead:=λid hid=>by
  simp only [gDE];rw [List.getElem?_set_ne (Ne.symm hid)]
 have hother: ∀i,i≠p.1->(s.back1 p).t i=(s.t i).clr p.2:=λi hi=>Mi hi
 refine⟨?_,λi=>?_,λi hi=>?_⟩
 ·show S.σ.set p.2 (S.t p.1)=(s.r.set p.2 (B5 (s.t p.1))).map Aa.v
  rw [h.σ,List.map_set,e];rfl
 ·show Ao (Az S.t p.1 (LE p.2 (S.t p.1)) i) _
  unfold Az;by_cases hi:i=p.1
  ·subst hi
   rw [if_pos rfl,e]
   have e2:(s.back1 p).t p.1= .one (Ox p.2 (B5 (s.t p.1))):=by
    rw [WQ];unfold AD;rw [Nat.beq_refl];rfl
   show Ao _ (((s.back1 p).t p.1).v _);rw [e2];rw [show(s.back1 p).r=s.r.set p.2 (B5 (s.t p.1))from rfl,h4 s.r p.2 hp]
   exact Ao.refl _
  ·rw [if_neg hi]
   show Ao _ (((s.back1 p).t i).v _);rw [hother i hi];exact(h.t i).trans (Sl.clr_v hg (s.t i))
 ·have hne:i≠p.1:=λe=>hd (e▸hi)
  obtain⟨k1,k2⟩:=h.o i hi;have hV:Az S.t p.1 (LE p.2 (S.t p.1)) i=S.t i:=by unfold Az;rw [if_neg hne]
  have hoo:((s.back1 p).t i).own=(s.t i).own:=by rw [hother i hne,ZS]
  refine⟨λho=>?_,?_⟩
  ·rw [hoo]at ho
   rw [hother i hne,Sl.clr_stay (k1 ho)];exact k1 ho
  ·show Az S.t p.1 (LE p.2 (S.t p.1)) i=_\/(_/\AE (Az S.t p.1 (LE p.2 (S.t p.1)) i)=false)
   rw [hV];cases ho:(s.t i).own with
   |false=>
    right;refine⟨by rw [hoo,ho],?_⟩
    rcases k2 with k2|k2
    ·rw [k2];show AE ((s.t i).v s.r)=false;rw [Sl.own_v,ho]
    ·exact k2.2
   |true=>
    left;rcases k2 with k2|k2
    ·rw [k2]
     show(s.t i).v s.r=((s.back1 p).t i).v _;rw [hother i hne,Sl.clr_stay (k1 ho)];exact Vm (k1 ho) _ _
    ·rw [ho]at k2;cases k2.1
theorem JV{ds:List (Option Nat)}: ∀ (B:List (Nat×Nat)) (S:Ms) (s:St),Yy ds S s->(B.map (·.1)).Nodup->(∀p∈B,some p.1∉ds/\p.2<s.r.length/\S.t p.1=s.den.t p.1/\Hr (s.t p.1)=true)->Yy ds (Go.Ve.backs B S) (St.backs B s)
 | [],S,s,h,_,_=>h
 |p::B,S,s,h,hn,hB=>by
  obtain⟨h1,h2,h3,h4⟩:=hB p (List.mem_cons_self ..);rw [List.map_cons,List.nodup_cons]at hn;refine JV B _ _ (WR h h1 h2 h3 h4) hn.2 λq hq=>?_
  obtain⟨g1,g2,g3,g4⟩:=hB q (mCM _ hq);have hne:q.1≠p.1:=λe=>hn.1 (e▸List.mem_map.2 ⟨q,hq,rfl⟩)
  have hst:=(Ce g4).1
  have e1:(s.back1 p).t q.1=s.t q.1:=by
   rw [Mi hne,Sl.clr_stay hst]
  refine⟨g1,by show q.2<(s.r.set _ _).length;grind,?_,by grind⟩
  show Az S.t p.1 _ q.1=((s.back1 p).t q.1).v _;unfold Az;rw [if_neg hne,g3,e1];exact Vm hst _ _
theorem Mh: ∀ (B:List (Nat×Nat)) (s:St),(∀i,(∀p∈B,p.1≠i)->(s.t i).stay=true->(St.backs B s).t i=s.t i)/\(∀id,(∀p∈B,p.2≠id)->(St.backs B s).r.getD id .dead=s.r.getD id .dead)/\(St.backs B s).r.length=s.r.length
 | [],s=>⟨λ_ _ _=>rfl,λ_ _=>rfl,rfl⟩
 |p::B,s=>by
  obtain⟨h1,h2,h3⟩:=Mh B (s.back1 p);refine⟨λi hi hs=>?_,λid hid=>?_,h3.trans (by show(s.r.set _ _).length=_;simp)⟩
  ·have e:(s.back1 p).t i=s.t i:=by
    rw [Mi λe=>hi p (List.mem_cons_self ..) e.symm,Sl.clr_stay hs]
   refine(h1 i (λq hq=>hi q (mCM _ hq)) (by grind)).trans e
  ·refine(h2 id λq hq=>hid q (mCM _ hq)).trans ?_
   show(s.r.set _ _).getD id .dead=_
   grind
def rerefs(id:Nat)(v:V):List Nat->(Nat->V)->(Nat->V)
 | [],t=>t
 |y::Y,t=>rerefs id v Y (Az t y (LE id v))
theorem PR.reref{C:Ctx}{N:Nat}{σ:List V}{ρ:Nat->Value}{F:Nat->Nat->Prop}{a:Act}{w:World}{D:Nat->Prop}{T:Nat->Nat->Prop}{id:Nat}{v:V}(hid:id<σ.length)(hg:σ.getD id .dead=v)(hv:Ka v): ∀ (Y:List Nat) (t:Nat->V),PR C N σ ρ F t a w D T->
  (∀y∈Y,y<N/\a.tmps.getD y undef=ρ id/\∀b,¬T y b)->PR C N σ ρ F (rerefs id v Y t) a w D T
 | [],t,h,_=>h
 |y::Y,t,h,hY=>by
  obtain⟨h1,h2,h3⟩:=hY y (List.mem_cons_self ..);refine PR.reref hid hg hv Y _ ⟨h.df,h.sz,λx hx=>?_,h.wr,λx hx=>?_,h.tD,h.tF,h.tT,h.tn,h.fr,h.Fn,h.D1,h.D2,h.rt,h.ml,h.tx⟩ λz hz=>hY z (mCM _ hz)
  ·have: ¬x=y:=by omega
   simp [Az,this,if_false];exact h.dd x hx
  ·by_cases he:x=y
   ·subst he
    simp only [Az,if_true];rw [h2];obtain⟨s0,sz,n,f,e1,e2⟩:=hv;have hrel:=h.wr.rel id hid;rw [hg,e1]at hrel;rw [e1]at hg⊢;exact Rel.fp_congr (λb=>⟨λh=>h.elim,λh=>absurd h (h3 b)⟩) (PA hid hg e2 hrel)
   ·simp only [Az,he,if_false]
    exact h.tm x hx
def St.rerefs(id:Nat)(R:Aa):List Nat->St->St
 | [],s=>s
 |y::Y,s=>St.rerefs id R Y ⟨AD s.t y (.one (Ox id R)),s.r⟩
theorem Ks{ds:List (Option Nat)}{id:Nat}{R:Aa}(hR:Ka R.v): ∀ (Y:List Nat) (S:Ms) (s:St),Yy ds S s->(s.r.getD id .dead)=R->(∀y∈Y,some y∉ds)->Yy ds ⟨Go.Ve.rerefs id R.v Y S.t,S.σ⟩ (St.rerefs id R Y s)
 | [],S,s,h,_,_=>h
 |y::Y,S,s,h,hr,hY=>by
  have hne: ∀i,some i∈ds->i≠y:=λi hi e=>hY y (List.mem_cons_self ..) (e▸hi)
  have hself:(Sl.one (Ox id R)).v s.r=LE id R.v:=by
   cases R with
   |obj ro l=>rfl
   |arr ro t d xs=>
    show V.rs id [] 0 (Ab s.r id []).len=_
    have:(Ab s.r id []).len=xs.length:=by
     show(s.r.getD id .dead).len=_;rw [hr];rfl
    rw [this];rfl
   |dead=>obtain⟨_,_,_,_,e,_⟩:=hR;cases e
   |opt ro t d x=>
    obtain⟨_,_,_,_,e,_⟩:=hR;cases x with
    |none=>cases e
    |some xs=>
     show V.rs id [] 0 (Ab s.r id []).len=_
     have:(Ab s.r id []).len=xs.length:=by
      show(s.r.getD id .dead).len=_;rw [hr];rfl
     rw [this];rfl
  refine Ks hR Y ⟨Az S.t y (LE id R.v),S.σ⟩ ⟨AD s.t y (.one (Ox id R)),s.r⟩ ⟨h.σ,λi=>?_,λi hi=>?_⟩ hr λz hz=>hY z (mCM _ hz)
  ·show Ao (Az S.t y (LE id R.v) i) ((AD s.t y (.one (Ox id R)) i).v s.r)
   unfold Az;by_cases he:i=y
   ·subst he
    rw [if_pos rfl];have:AD s.t i (.one (Ox id R)) i= .one (Ox id R):=by unfold AD;simp
    rw [this,hself];exact Ao.refl _
   ·rw [if_neg he,AU he];exact h.t i
  ·have he:=hne i hi
   obtain⟨k1,k2⟩:=h.o i hi;show((AD s.t y (.one (Ox id R)) i).own=true->(AD s.t y (.one (Ox id R)) i).stay=true)/\(Az S.t y (LE id R.v) i=(AD s.t y (.one (Ox id R)) i).v s.r\/((AD s.t y (.one (Ox id R)) i).own=false/\AE (Az S.t y (LE id R.v) i)=false));unfold Az;rw [if_neg he,AU he];exact⟨k1,k2⟩
theorem MV{id:Nat}{R:Aa}: ∀ (Y:List Nat) (s:St),(St.rerefs id R Y s).r=s.r/\∀i,i∉Y->(St.rerefs id R Y s).t i=s.t i
 | [],s=>⟨rfl,λ_ _=>rfl⟩
 |y::Y,s=>by
  obtain⟨h1,h2⟩:=MV Y ⟨AD s.t y (.one (Ox id R)),s.r⟩;refine⟨h1,λi hi=>(h2 i λh=>hi (mCM _ h)).trans ?_⟩
  exact AU λe=>hi (e▸List.mem_cons_self ..)
end Go.Ve


namespace Go.Ve
open Go Go.Ve
variable{a:Act}{ops:Array Oper}{C:Ctx}{E:Env}{fs:List Nat}{late:List Oper}{σ σ':List V}{N d id k m n sz:Nat}{F:Nat->Nat->Prop}{f:Nat->Nat->V}{D:Nat->Prop}{ρ:Nat->Value}{o o1 o2 o3:Oper}{x y:Operand}{A:PtR}{s s':St}{t:TypeId}{cv:Value}{w:World}
theorem VG{q:List (Nat×Nat)}(hnode:sub q (σ.getD id .dead)= .nd true true sz n f)(h:Ag σ ρ w (.rs id q 0 n) cv):
  id<σ.length/\At w q (σ.getD id .dead) (ρ id) (.nd true true sz n f) cv:=by
 obtain⟨hid,sz',n',f',cn,hat,hle,hcv⟩:=h;have e:=(At.sub hat).trans hnode;cases e;refine⟨hid,?_⟩;have:cv=cn:=by
  rcases hcv with⟨b,o,cap,rfl,rfl⟩|⟨h0,_,_,h1,_⟩
  ·simp [As]
  grind
 grind
def elI0(E:Env)(t:TypeId):Option TI:=((E.Θ.look t).bind (·.elem)).bind E.Θ.look
section
variable {P:Program} {Θ:Tab}
theorem Qk(hΘ:Θ.OK P){C:Ctx}{N:Nat}{s:St}{o:Oper}{t:TypeId}{x y:Operand}{a:Act}{w:World}{d:Nat}
  (ho:o.op= .call ⟨.builtin .append,#[x,y],#[t,t]⟩) (hdst:o.dst=some d) (hdn:d<N) {ti:TI} (hti:((Θ.look t).bind (·.elem)).bind Θ.look=some ti) (hby:0<ti.bytes) (hw:0<ti.ty.w)
  {id:Nat} {q:AR} (hx:s.ev x=some (.one (.rf id q))) {ro:Bool} {dx:Nat} {xs:List ti.ty.T} (hnode:Ab s.r id q= .arr ro ti.ty dx xs)
  {ys:List ti.ty.T} {dy:Nat} {js:List Nat} (hy:UD s ti.ty id (s.ev y)=some (dy,ys,js)) (hdk:dOK ti.ty dy dx=true) (hlim:xs.length+ys.length<=NA ti.bytes) (hs:AI C N s.den a w):
  ∃v' w',(execOp a.eval o).run P w= .ok (.value v') w'/\AI C N ⟨Az (λi=>AK s.r.length [] (rrV id q s.r.length ((Ah js s).den.t i))) d (.rs (s.r.length+1) [] 0 (xs.length+ys.length)),
   ((Ah js s).den.σ.set id (upd q ((Ah js s).den.σ.getD id .dead) .dead)++ [.dead])++ [arr true ti.ty.w (tyV ti.ty dx) ti.ty.dflt (xs++ys)]⟩ (a.put (some d) v') w'/\
   ∃D ρ F,CR C ((Ah js s).den.σ.set id (upd q ((Ah js s).den.σ.getD id .dead) .dead)++ [sub q ((Ah js s).den.σ.getD id .dead)]) (((List.range N).map (Ah js s).den.t).map (rrV id q s.r.length)) a.tmps w D ρ F/\∀c,c<w.heap.size->¬F s.r.length c->w'.heap[c]? =w.heap[c]?:=by
 obtain⟨hdf,hdd,D,ρ,F,hcr⟩:=hs;obtain⟨e,hsl,_⟩:=CV hΘ hti;have hY:=Ic hcr hdd hy;obtain⟨⟨Fy,hrd,hFy,hFd⟩,hjs2⟩:=hY;rw [show tyV ti.ty dy=tyV ti.ty dx from funext λz=>CJ _ _ _ z (JP hdk)]at hrd
 have hidj:id∉js:=λh=>(hjs2 id h).2 rfl
 have hlσ:s.den.σ.length=s.r.length:=by simp [St.den]
 -- the drop
 obtain⟨F1,hcr1,hF1⟩:=Cu js hcr (λj hj=>(hjs2 j hj).1)
 have hdd1:=B6 js (N:=N) hdd
 -- the row
 have hrx:=BB hcr hdd x;rw [AZ hx]at hrx;have hrx:Rel D w (Ag s.den.σ ρ w) (.rs id q 0 (Ab s.r id q).len) (a.eval x) noF:=hrx
 have hsub:sub q (s.den.σ.getD id .dead)=arr true ti.ty.w (tyV ti.ty dx) ti.ty.dflt xs:=by
  have:=AP (r:=s.r) (id:=id) (p:=q) (by rw [hnode];simp)
  rw [hnode]at this;exact this
 rw [hnode]at hrx;obtain⟨hid,hat⟩:=VG (show sub q (s.den.σ.getD id .dead)=V.nd true true ti.ty.w xs.length (λi k=>(tyV ti.ty dx (xs.getD i ti.ty.dflt)).getD k .dead)from hsub) hrx.1
 have hid1:id<s.r.length:=by rw [<-hlσ];exact hid
 have hσ1: ∀ (js:List Nat) (s:St),id∉js->(Ah js s).den.σ.getD id .dead=s.den.σ.getD id .dead:=by
  intro js
  induction js with
  |nil=>exact λ_ _=>rfl
  |cons j js ih=>
   intro s hj;simp only [List.mem_cons,not_or]at hj;show(Ah js (IB j s)).den.σ.getD id .dead=_;rw [ih _ hj.2];show((s.r.set j .dead).map Aa.v).getD id .dead=_;rw [An];show _=(s.r.map Aa.v).getD id .dead;rw [An,gDE,List.getElem?_set_ne (Ne.symm hj.1),<-gDE]
 have hσ1:=hσ1 js s hidj;have hl1:(Ah js s).den.σ.length=s.r.length:=by simp [St.den,H8]
 rw [<-hσ1]at hat
 -- it is cut out
 obtain⟨ρ2,F2,hcr2,hρ2,hρ2',hF2⟩:=CR.reroot hcr1 (by rw [hl1];exact hid1) hat
 rw [hl1]at hcr2 hρ2 hρ2';obtain⟨m,hm⟩: ∃m,m=s.r.length:=⟨_,rfl⟩;rw [<-hm]at hcr2 hρ2 hρ2' hl1 hid1;have hl2:((Ah js s).den.σ.set id (upd q ((Ah js s).den.σ.getD id .dead) .dead)).length=m:=by rw [List.length_set];exact hl1
 have hlast: ∀v:V,((Ah js s).den.σ.set id (upd q ((Ah js s).den.σ.getD id .dead) .dead)++ [v]).getD m .dead=v:=λv=>by
  rw [gDE,gAR (by rw [hl2];exact Nat.le_refl _),hl2];simp
 have hrow:Rel D w noR (arr true ti.ty.w (tyV ti.ty dx) ti.ty.dflt xs) (a.eval x) (F2 m):=by
  have:=hcr2.wr.rel m (by rw [List.length_append,hl2];exact Nat.lt_succ_self m)
  rw [hlast,hσ1,hsub,hρ2]at this;exact this
 have hF2D: ∀b,D b->¬F2 m b:=λb hb h=>hcr2.wr.dD m b h hb
 have hF2o: ∀i b,F2 i b->∃j,F j b/\j∉js:=λi b h=>by
  obtain⟨j,h1⟩:=hF2 i b h;obtain⟨h2,h3⟩:=hF1 j b h1;exact⟨j,h2,h3⟩
 have hb:(xs.length+ys.length)*ti.bytes<=140737488355328:=by
  rw [Nat.mul_comm];exact(Nat.mul_comm _ _▸(Nat.le_div_iff_mul_le hby).1 hlim)
 have h63:xs.length+ys.length<=maxLen:=by
  have:xs.length+ys.length<=(xs.length+ys.length)*ti.bytes:=Nat.le_mul_of_pos_right _ hby;simp only [maxLen];omega
 obtain⟨v',w',fp,hrun,hos,htp,hout,hdr,hsz,hbl,hr',hfp⟩:=Rel.append (P:=P) (ty:=o.type) (f:=λi k=>(tyV ti.ty dx (xs.getD i ti.ty.dflt)).getD k .dead) hsl hw hrow hF2D hcr.wr.Dlt hrd
  (λi k c hi hk hF=>by
   obtain⟨j,hj,hFj⟩:=hFy i k c hi hk hF;refine⟨hcr.wr.dD j c hFj,λhx=>?_⟩
   obtain⟨j2,h2,h3⟩:=hF2o m c hx;exact hcr.wr.disj j j2 c (λe=>h3 (e▸hj)) hFj h2) hFd h63 hb
 have hdrop:=CR.drop hcr2 (j:=m) (by rw [List.length_append,hl2];exact Nat.lt_succ_self m)
 have hfpG: ∀b,fp b->(F2 m b\/∃j∈js,F j b)\/w.heap.size<=b:=by
  intro b hb;rcases hfp b hb with h1|⟨i,k,hi,hk,h1⟩|h1
  ·exact .inl (.inl h1)
  ·obtain⟨j,hj,hFj⟩:=hFy i k b hi hk h1
   exact .inl (.inr ⟨j,hj,hFj⟩)
  ·exact .inr h1
 have hr2:Rel D w' noR (arr true ti.ty.w (tyV ti.ty dx) ti.ty.dflt (xs++ys)) v' fp:=
  Rel.sub (Mg rfl rfl (λ_ _ _=>rfl) (λ_ _ _=>rfl)) hr'
 have hc:=CR.own hdrop (G:=λb=>F2 m b\/∃j∈js,F j b) (D':=D) (λi b hb hG=>by
   split at hb
   ·exact hb.elim
   ·rename_i hne
    rcases hG with h1|⟨j,hj,hFj⟩
    ·exact hcr2.wr.disj i m b hne hb h1
    ·obtain⟨j2,h2,h3⟩:=hF2o i b hb
     exact hcr.wr.disj j j2 b (λe=>h3 (e▸hj)) hFj h2)
  (λb hb hG=>hG.elim (hF2D b hb) fun⟨j,_,hFj⟩=>hcr.wr.dD j b hFj hb)
  (λb hG=>hG.elim (λh=>hcr2.Fn m b h) fun⟨j,_,hFj⟩=>hcr.Fn j b hFj) hos htp hout hdr hsz
  (λc hc hG=>hbl c hc λh=>hG (.inl h)) hr2 hfpG (λ_ h=>h) (λ_ h=>.inl h)
  (λb hb=>⟨Nat.lt_of_lt_of_le (hcr.wr.Dlt b hb) hsz,λh=>by
   rcases hfpG b h with(h1|⟨j,_,hFj⟩)|h2
   ·exact hF2D b hb h1
   ·exact hcr.wr.dD j b hFj hb
   ·have:=hcr.wr.Dlt b hb;omega⟩) d
 have hl3:(((Ah js s).den.σ.set id (upd q ((Ah js s).den.σ.getD id .dead) .dead)++ [sub q ((Ah js s).den.σ.getD id .dead)]).set m .dead)=(Ah js s).den.σ.set id (upd q ((Ah js s).den.σ.getD id .dead) .dead)++ [.dead]:=by
  rw [List.set_append_right _ _ (by rw [hl2];exact Nat.le_refl _),hl2];simp
 rw [hl3]at hc
 have hl4:((Ah js s).den.σ.set id (upd q ((Ah js s).den.σ.getD id .dead) .dead)++ [V.dead]).length=m+1:=by
  rw [List.length_append,List.length_set,hl1];rfl
 rw [hl4,show prom (arr true ti.ty.w (tyV ti.ty dx) ti.ty.dflt (xs++ys)) (m+1)=(.rs (m+1) [] 0 (xs++ys).length,[arr true ti.ty.w (tyV ti.ty dx) ti.ty.dflt (xs++ys)])from rfl,List.length_append]at hc
 have hex:(execOp a.eval o).run P w= .ok (.value v') w':=by
  unfold execOp;simp only [ho,resolve,invoke,builtin,Sem.run_bind,Sem.run_pure,Result.andThen_ok,List.map_toArray,List.map_cons,List.map_nil,hrun]
 rw [<-hm];refine⟨v',w',hex,⟨hdf,λz hz=>?_,?_⟩,D,ρ2,F2,hcr2,λc hc hF=>hbl c hc hF⟩
 ·show Az (λi=>AK m [] (rrV id q m ((Ah js s).den.t i))) d (V.rs (m+1) [] 0 (xs.length+ys.length)) z= .dead
  unfold Az;rw [if_neg (by omega)]
  show AK m [] (rrV id q m ((Ah js s).den.t z))= .dead;rw [hdd1 z hz];rfl
 ·rw [List.map_map,List.map_map,Cn hdn]at hc
  exact hc
theorem app_in(hΘ:Θ.OK P){C:Ctx}{N:Nat}{s:St}{o:Oper}{t:TypeId}{x y:Operand}{a:Act}{w:World}{d:Nat}{next:Act->World->Prop}{Q:Exit->Act->World->Prop}
  (ho:o.op= .call ⟨.builtin .append,#[x,y],#[t,t]⟩) (hdst:o.dst=some d) (hdn:d<N) {ti:TI} (hti:((Θ.look t).bind (·.elem)).bind Θ.look=some ti) (hby:0<ti.bytes) (hw:0<ti.ty.w)
  {id:Nat} {q:AR} (hx:s.ev x=some (.one (.rf id q))) {ro:Bool} {dx:Nat} {xs:List ti.ty.T} (hnode:Ab s.r id q= .arr ro ti.ty dx xs)
  {ys:List ti.ty.T} {dy:Nat} {js:List Nat} (hy:UD s ti.ty id (s.ev y)=some (dy,ys,js)) (hdk:dOK ti.ty dy dx=true) (hlim:xs.length+ys.length<=NA ti.bytes) (hs:AI C N s.den a w)
  (hn: ∀v' w',AI C N ⟨Az (λi=>AK s.r.length [] (rrV id q s.r.length ((Ah js s).den.t i))) d (.rs (s.r.length+1) [] 0 (xs.length+ys.length)),
   ((Ah js s).den.σ.set id (upd q ((Ah js s).den.σ.getD id .dead) .dead)++ [.dead])++ [arr true ti.ty.w (tyV ti.ty dx) ti.ty.dflt (xs++ys)]⟩ (a.put (some d) v') w'->next (a.put (some d) v') w'):o.wp P a w next Q:=by
 obtain⟨v',w',hrun,hs',_⟩:=Qk hΘ ho hdst hdn hti hby hw hx hnode hy hdk hlim hs;unfold Oper.wp;rw [hrun,Oper.upon_value,hdst]
 grind
def ZX(d:Nat):Operand->Bool
 | .tmp z=>!Nat.beq z d
 | .const _=>true
 |_=>false
theorem Aar{t:Nat->V}{v:V}(h:ZX d x=true):Ms.ev ⟨Az t d v,σ⟩ x=Ms.ev ⟨t,σ'⟩ x:=by
 cases x with
 |tmp z=>
  show Az t d v z=t z;unfold Az;rw [if_neg]
  rintro rfl
  simp [ZX]at h
 |const c=>rfl
 |_=>rfl
def rowF(o1 o2 o3:Oper):Option ((Nat×TypeId×Operand×Operand)×(Nat×TypeId×Operand×Operand)×TypeId):=match o1.op,o1.dst,o2.op,o2.dst,o3.op,o3.dst with
 | .call c,some d,.indexAddr t2 u v,some e,.store t3 (.tmp e') (.tmp d'),none=>(match c.callee,c.args.toList,c.argTypes.toList with
  | .builtin .append,[x,y],[t,t']=>bif Nat.beq t t'&&Nat.beq e e'&&Nat.beq d d'&& !Nat.beq d e&&ZX d u&&ZX d v then some ((d,t,x,y),(e,t2,u,v),t3)else none
  |_,_,_=>none)
 |_,_,_,_,_,_=>none
theorem Jh{e:Nat}{t2 t3:TypeId}{u v:Operand}(h:rowF o1 o2 o3=some ((d,t,x,y),(e,t2,u,v),t3)):
  o1.op= .call ⟨.builtin .append,#[x,y],#[t,t]⟩/\o1.dst=some d/\o2.op= .indexAddr t2 u v/\o2.dst=some e/\o3.op= .store t3 (.tmp e) (.tmp d)/\o3.dst=none/\d≠e/\ZX d u=true/\ZX d v=true:=by
 unfold rowF at h;split at h
 case h_2=>cases h
 rename_i c d0 t20 u0 v0 e0 t30 e' d' h1 h2 h3 h4 h5 h6;split at h
 case h_2=>cases h
 rename_i x0 y0 t0 t' hc ha hat;obtain⟨hb,h⟩:=A1 h;cases h;simp only [bAE,Bool.not_eq_true']at hb;obtain⟨⟨⟨⟨⟨b1,b2⟩,b3⟩,b4⟩,b5⟩,b6⟩:=hb;have b1:=bqE b1;have b2:=bqE b2;have b3:=bqE b3;subst b1 b2 b3;refine⟨?_,h2,h3,h4,h5,h6,(λe=>by rw [e,Nat.beq_refl]at b4;cases b4),b5,b6⟩
 rw [h1];obtain⟨ce,ar,at'⟩:=c;obtain⟨ar⟩:=ar;obtain⟨at'⟩:=at'
 grind
def P3(E:Env)(s:St)(m id:Nat)(q:AR)(o:Oper):Bool:=match o.op with
 | .fieldAddr t _ k=>match(E.Θ.look t).bind (·.flds[k]?)with
  |some _=>true
  |none=>false
 | .move _=>true
 | .indexAddr _ _ _=>true
 | .load t (.tmp z)=>match E.Θ.look t,s.t z with
  |some ti,.one (.rp id' p _ k)=>!hit id (q.map λx=>x.2) [(m,[])] id' p&&(Ab s.r id' p).live&&Nat.ble (k+ti.ty.w) (Ab s.r id' p).w&&Nat.blt 0 ti.ty.w
  |some ti,.one (.c (.ptr u) 0 _)=>Nat.ble ti.ty.w u.w&&Nat.blt 0 ti.ty.w
  |_,_=>false
 |_=>false
def U8(E:Env)(s:St)(late:List Oper)(o1 o2 o3:Oper):Option PtR:=match rowF o1 o2 o3 with
 |some ((d,t,x,y),(e,t2,u,v),t3)=>(match elI0 E t,elI0 E t2,E.Θ.look t3,s.ev x with
  |some ti,some ti2,some ti3,some (.one (.rf id q))=>(match Ab s.r id q,UD s ti.ty id (s.ev y)with
   | .arr _ t' dx xs,some (dy,ys,js)=>if ht:t'=ti.ty then(match(Ah js s).ev u,(Ah js s).ev v with
     |some (.one (.rf id' p)),some (.one (.c (.int _) _ i))=>bif Nat.beq id' id&&Nat.blt 0 ti.bytes&&Nat.blt 0 ti.ty.w&&dOK ti.ty dy dx&&Nat.beq ti3.ty.w 1&&Nat.beq (Ab (Ah js s).r id p).w ti2.ty.w&&Nat.beq ti2.ty.w 1&&(Ab (Ah js s).r id p).live&&Nat.blt d E.h.n&&Nat.blt e E.h.n&& !E.h.fz.contains e&&late.all (P3 E (Ah js s) s.r.length id q)then
       (match VW q (p++ [(i.toNat,0)]),((Ah js s).r.getD id .dead).setAt p i.toNat 0 (.c (.sl ti.ty) (dx+1) (Aay (ht▸xs) ys))with
       |some c,some r0=>some ⟨(((0:Int)<=i/\i<(((Ab (Ah js s).r id p).len:Nat):Int))/\c.p)/\H5 (ht▸xs)+H5 ys<=NA ti.bytes,@instDecidableAnd _ _ (@instDecidableAnd _ _ inferInstance c.dec) inferInstance,
         ⟨λz=>bif Nat.beq z d||Nat.beq z e then .one .dead else((Ah js s).t z).kill id ((p++ [(i.toNat,0)]:AR).map λz=>z.2) [(s.r.length,[]),(s.r.length+1,[])],(Ah js s).r.set id r0++ [.dead,.dead]⟩⟩
       |_,_=>none)else none
     |_,_=>none)else none
   |_,_=>none)
  |_,_,_,_=>none)
 |none=>none
theorem ev_G{t:Nat->V}{v0 y:V}{G:V->V}(hx:ZX d x=true)(he:Ms.ev ⟨t,σ⟩ x=y)(hG:G y=y):Ms.ev ⟨Az (λi=>G (t i)) d v0,σ'⟩ x=y:=by
 rw [Aar (σ':=σ') hx];cases x with
 |tmp z=>
  show G (t z)=y;rw [show t z=y from he,hG]
 |const c=>trivial
 |_=>trivial
theorem Yt{a b:Nat}(h:Nat.blt a b=true):a<b:=by simp_all
theorem GOK.row{Q:AR}:GOK (λv=>A5 id Q (m+1) (AK m [] (rrV id Q m v))) id (Q.map (·.2)) [(m,[]),(m+1,[])]:=by
 have hj: ∀id' q,hit id (Q.map (·.2)) [(m,[]),(m+1,[])] id' q=false->id'≠m/\id'≠m+1/\¬ (id'=id/\AW Q q=true):=λid' q h=>
  ⟨λe=>(C7 h).2 m [] (by simp) ⟨e,rfl⟩,λe=>(C7 h).2 (m+1) [] (by simp) ⟨e,rfl⟩,(C7 h).1⟩
 have hk: ∀id' (q:AR),id'≠m->¬ (id'=m/\AW [] q=true):=λ_ _ h h'=>h h'.1
 refine⟨A2.comp (Cq _ _ _) (A2.comp (Ba _ _) (CL _ _ _)),λid' q off len h=>?_,λid' q i k h=>?_⟩
 ·obtain⟨h1,h2,h3⟩:=hj _ _ h
  simp [rrV,if_neg h3,AK,if_neg (hk id' q h1),A5,if_neg h2]
 ·obtain⟨h1,h2,h3⟩:=hj _ _ h
  simp [rrV,if_neg h3,AK,if_neg (hk id' q h1),A5,if_neg h2]
theorem OJ{p:AR}{x:Nat×Nat}{y:V}(hok:Le p (σ.getD id .dead))(hσ:σ'.getD id .dead=upd (p++ [x]) (σ.getD id .dead) y):AS σ' id p=AS σ id p:=by
 unfold AS;rw [hσ,DJ _ _ _ _ hok,I7 _ _ _ hok];cases sub p (σ.getD id .dead)<;>rfl
theorem U6(hΘ:E.Θ.OK P){next:Act->World->Prop}{Q:Exit->Act->World->Prop}(h:U8 E s late o1 o2 o3=some A)(hp:A.p)(hs:AI C E.h.n s.den a w)
  (hn: ∀a' w',AI C E.h.n A.s.den a' w'->next a' w'):o1.wp P a w (λa1 w1=>o2.wp P a1 w1 (λa2 w2=>o3.wp P a2 w2 next Q) Q) Q:=by
 unfold U8 at h;split at h
 case h_2=>cases h
 rename_i d t x y e t2 u v t3 hrow;obtain⟨ho1,hd1,ho2,hd2,ho3,hd3,hde,hnu,hnv⟩:=Jh hrow;split at h
 case h_2=>cases h
 rename_i ti ti2 ti3 id q hti hti2 hti3 hx;split at h
 case h_2=>cases h
 rename_i ro t' dx xs dy ys js hnode hy;split at h
 case isFalse=>cases h
 rename_i ht;subst ht;split at h
 case h_2=>cases h
 rename_i id' p kk di i hu hv;obtain⟨hb,h⟩:=A1 h;simp only [bAE,Bool.not_eq_true']at hb;obtain⟨⟨⟨⟨⟨⟨⟨⟨⟨⟨⟨b1,b2⟩,b3⟩,b4⟩,b5⟩,b6⟩,b7⟩,b8⟩,b9⟩,b10⟩,b11⟩,_⟩:=hb;have b1:=bqE b1;subst b1;have b5:=bqE b5;have b6:=bqE b6;have b7:=bqE b7;have b9:=Yt b9;have b10:=Yt b10;split at h
 case h_2=>cases h
 rename_i c r0 hc hset;cases h;obtain⟨⟨⟨hi0,hil⟩,hcp⟩,hlim⟩:=hp;obtain rfl:=IK _ _ _ hc hcp;have hY: ∀j∈js,j<s.r.length/\j≠id':=by
  obtain⟨_,_,D,ρ,F,hcr⟩:=hs;exact(Ic hcr ‹_› hy).js
 refine app_in hΘ ho1 hd1 b9 hti (Kf b2) (Kf b3) hx hnode hy b4 (by simpa [H5]using hlim) hs λv' w' hs1=>?_
 have hsd: ∃D ρ F,CR C (Ah js s).den.σ ((List.range E.h.n).map (Ah js s).den.t) a.tmps w D ρ F/\∀x,E.h.n<=x->(Ah js s).den.t x= .dead:=by
  obtain⟨_,hdd,D,ρ,F,hcr⟩:=hs;obtain⟨F1,hcr1,_⟩:=Cu js hcr (λj hj=>(hY j hj).1)
  exact⟨D,ρ,F1,hcr1,B6 js hdd⟩
 obtain⟨D1,ρ1,F1,hcr1,hdd1⟩:=hsd;have hru:=BB hcr1 hdd1 u;rw [AZ hu]at hru;have hru:Rel D1 w (Ag (Ah js s).den.σ ρ1 w) (.rs id' p 0 (Ab (Ah js s).r id' p).len) (a.eval u) noF:=hru;obtain⟨⟨hid,_,_,_,_,hat,_,_⟩,_⟩:=hru;have hok:=At.ok hat;have hidr:id'<(Ah js s).r.length:=by simpa [St.den]using hid
 have hl:(Ah js s).r.length=s.r.length:=H8 js s;obtain⟨m,hm⟩: ∃m,m=s.r.length:=⟨_,rfl⟩;rw [<-hm]at hs1 hl;simp only [<-hm]at hn;generalize hS1:((Ah js s).den.σ.set id' (upd (p++ [(i.toNat,0)]) ((Ah js s).den.σ.getD id' .dead) .dead)++ [.dead])++ [arr true ti.ty.w (tyV ti.ty dx) ti.ty.dflt (xs++ys)]=σ1 at hs1;generalize hT1:Az (λi_1=>AK m [] (rrV id' (p++ [(i.toNat,0)]) m ((Ah js s).den.t i_1))) d (.rs (m+1) [] 0 (xs.length+ys.length))=T1 at hs1
 have hlσ:(Ah js s).den.σ.length=m:=by rw [<-hl];simp [St.den]
 have hσid:σ1.getD id' .dead=upd (p++ [(i.toNat,0)]) ((Ah js s).den.σ.getD id' .dead) .dead:=by
  rw [<-hS1,Aw (by simp;omega),Aw (by simp;omega),Af (by omega)]
 have hσm1:σ1.getD (m+1) .dead=arr true ti.ty.w (tyV ti.ty dx) ti.ty.dflt (xs++ys):=by
  rw [<-hS1,gDE,gAR (by simp;omega)]
  simp [hlσ]
 have hsz1:AS σ1 id' p=ti2.ty.w:=by
  rw [OJ hok hσid,<-b6];exact B0 b8
 have hidm:id'≠m:=by omega
 obtain⟨e2,hsl,_⟩:=CV hΘ hti2;refine IZ (h:=E.h) (K:=λS'=>S'=⟨Az T1 e (.rp id' p i.toNat 0),σ1⟩) ?_ hs1 λS' a2 w2 hS' hs2=>?_
 ·unfold vop
  rw [ho2]
  have hu1:Ms.ev ⟨T1,σ1⟩ u= .rs id' p 0 (Ab (Ah js s).r id' p).len:=by
   rw [<-hT1];exact ev_G (G:=λv=>AK m [] (rrV id' (p++ [(i.toNat,0)]) m v)) (t:=(Ah js s).den.t) (σ:=(Ah js s).den.σ) hnu (AZ hu) (by simp [rrV,H6,AK,hidm])
  have hv1:Ms.ev ⟨T1,σ1⟩ v= .c (.int kk i):=by
   rw [<-hT1];exact ev_G (G:=λv=>AK m [] (rrV id' (p++ [(i.toNat,0)]) m v)) (t:=(Ah js s).den.t) (σ:=(Ah js s).den.σ) hnv (AZ hv) rfl
  show M1 P σ1 (Ms.ev ⟨T1,σ1⟩) (.indexAddr t2 u v) _;unfold M1
  dsimp only
  rw [hu1,hv1,hsl];refine⟨hsz1,by omega,⟨hi0,hil⟩,.rp id' p i.toNat 0,by rw [Nat.zero_add];exact Sub.refl _,?_⟩
  show Ms.res _ E.h o2.dst _=_;rw [hd2];unfold Ms.res;simp only [b10,if_true,b11];simp [prom]
 ·subst hS'
  refine IZ (h:=E.h) (K:=λS'=>S'=⟨λz=>A5 id' (p++ [(i.toNat,0)]) (m+1) (Az T1 e (.rp id' p i.toNat 0) z),
   (σ1.set id' (upd (p++ [(i.toNat,0)]) (σ1.getD id' .dead) (σ1.getD (m+1) .dead))).set (m+1) .dead⟩) ?_ hs2 λS' a3 w3 hS' hs3=>hn a3 w3 ?_
  ·unfold vop
   rw [ho3];refine⟨hd3,?_⟩;have he1:Ms.ev ⟨Az T1 e (.rp id' p i.toNat 0),σ1⟩ (.tmp e)= .rp id' p i.toNat 0:=by
    show Az T1 e _ e=_;unfold Az;rw [if_pos rfl]
   have he2:Ms.ev ⟨Az T1 e (.rp id' p i.toNat 0),σ1⟩ (.tmp d)= .rs (m+1) [] 0 (xs.length+ys.length):=by
    show Az T1 e _ d=_;rw [<-hT1];unfold Az;rw [if_neg hde,if_pos rfl]
   rw [he1,he2,hΘ.ty hti3];unfold UR;refine⟨rfl,⟨b5.symm,by rw [hsz1,b7,b5];exact Nat.le_refl _⟩,?_⟩
   rw [b5];show Nk id' p i.toNat 0 (.rs (m+1) [] 0 (xs.length+ys.length)) [] σ1 _;unfold Nk;have hsub:sub [] (σ1.getD (m+1) .dead)= .nd true true ti.ty.w (xs++ys).length λi k=>(tyV ti.ty dx ((xs++ys).getD i ti.ty.dflt)).getD k .dead:=hσm1
   simp only [hsub];have hne:m+1≠id':=by omega
   rw [if_neg (λh=>hne h.1)]
   refine⟨⟨trivial,by simp,hne⟩,?_⟩
   rfl
  ·subst hS'
   have hG:GOK (λv=>A5 id' (p++ [(i.toNat,0)]) (m+1) (AK m [] (rrV id' (p++ [(i.toNat,0)]) m v))) id' ((p++ [(i.toNat,0)]:AR).map λz=>z.2) [(m,[]),(m+1,[])]:=GOK.row
   have hlen: ∀id2 q2,hit id' ((p++ [(i.toNat,0)]:AR).map λz=>z.2) [(m,[]),(m+1,[])] id2 q2=false->(Ab ((Ah js s).r.set id' r0++ [Aa.dead,Aa.dead]) id2 q2).len=(Ab (Ah js s).r id2 q2).len:=by
    intro id2 q2 hh;have h1:id2≠m/\id2≠m+1:=⟨λe=>(C7 hh).2 m [] (by simp) ⟨e,rfl⟩,λe=>(C7 hh).2 (m+1) [] (by simp) ⟨e,rfl⟩⟩
    rcases Nat.lt_or_ge id2 m with h2|h2
    ·have e1:Ab ((Ah js s).r.set id' r0++ [Aa.dead,Aa.dead]) id2 q2=Ab ((Ah js s).r.set id' r0) id2 q2:=by
      unfold Ab;rw [gDE,gAL (by simp;omega),<-gDE]
     rw [e1];by_cases he:id2=id'
     ·subst he
      rw [BA hidr];refine JA p _ _ hset q2 ?_;cases hp2:pre ((p++ [(i.toNat,0)]:AR).map λz=>z.2) q2 with
      |false=>rfl
      |true=>
       unfold hit at hh;rw [Nat.beq_refl,hp2]at hh;cases hh
     ·rw [Bg he]
    ·have e1:Ab ((Ah js s).r.set id' r0++ [Aa.dead,Aa.dead]) id2 q2=Ab (Ah js s).r id2 q2:=by
      unfold Ab;rw [gDE,gDE,List.getElem?_eq_none (by simp;omega),List.getElem?_eq_none (by omega)]
     rw [e1]
   refine hs3.sub ?_ (λj hj=>?_) λz=>?_
   ·rw [<-hS1]
    simp [St.den]
   ·have hσd: ∀j,(Ah js s).den.σ.getD j .dead=((Ah js s).r.getD j .dead).v:=λj=>An _ _
    have hσo: ∀j,m<=j->(Ah js s).den.σ.getD j .dead= .dead:=λj hj=>by rw [gDE,List.getElem?_eq_none (by omega)];rfl
    have hR: ∀j,(((Ah js s).r.set id' r0++ [Aa.dead,Aa.dead]).map Aa.v).getD j .dead=if j=id' then r0.v else(Ah js s).den.σ.getD j .dead:=by
     intro j;rw [An];by_cases hje:j=id'
     ·subst hje
      rw [if_pos rfl,gDE,gAL (by simp;omega),List.getElem?_set_self hidr];rfl
     ·rw [if_neg hje,hσd]
      rcases Nat.lt_or_ge j m with h2|h2
      ·rw [gDE,gAL (by simp;omega),List.getElem?_set_ne (Ne.symm hje),<-gDE]
      ·rw [gDE,gDE,gAR (by simp;omega),List.getElem?_eq_none (l:=(Ah js s).r) (by omega)]
       simp only [List.length_set,hl]
       match hk:j-m with
       |0=>rfl
       |1=>rfl
       |k+2=>rfl
    show Sub _ ((((Ah js s).r.set id' r0++ [Aa.dead,Aa.dead]).map Aa.v).getD j .dead);rw [hR,hσid,hσm1,HG];by_cases hj1:j=m+1
    ·subst hj1
     rw [if_neg (by omega),hσo (m+1) (by omega),Af (by simpa using hj)]
     exact Sub.refl _
    ·rw [Ad (Ne.symm hj1)]
     by_cases hje:j=id'
     ·subst hje
      rw [if_pos rfl,Af (by simp at hj;omega),hσd]
      exact D7 (Sub.refl _) p _ _ hset
     ·rw [if_neg hje,Ad (Ne.symm hje),<-hS1]
      rcases Nat.lt_or_ge j m with h2|h2
      ·rw [Aw (by simp;omega),Aw (by simp;omega),Ad (Ne.symm hje)]
       exact Sub.refl _
      ·have hj2:j=m:=by
        simp [<-hS1,hlσ]at hj;omega
       rw [hσo j (by omega),Aw (by simp;omega),gDE,gAR (by simp;omega)]
       simp only [List.length_set,hlσ,hj2,Nat.sub_self];exact Sub.refl _
   ·show Ao (A5 id' (p++ [(i.toNat,0)]) (m+1) (Az T1 e (.rp id' p i.toNat 0) z)) (Sl.v _ (bif Nat.beq z d||Nat.beq z e then .one .dead else _))
    cases hz:(Nat.beq z d||Nat.beq z e)with
    |true=>exact Ao.dead _
    |false=>
     rw [Bool.or_eq_false_iff]at hz;have hzd:z≠d:=λe=>by rw [e,Nat.beq_refl]at hz;cases hz.1
     have hze:z≠e:=λe=>by rw [e,Nat.beq_refl]at hz;cases hz.2
     rw [<-hT1];unfold Az;rw [if_neg hze,if_neg hzd];exact Sl.kill_v hG hlen ((Ah js s).t z)
theorem XH(wr:Bj σ w D ρ F){p:List (Nat×Nat)}{i:Nat}(h:Ag σ ρ w (.rp id p i k) cv): ∃b off,cv= .pointer (some ⟨b,off,none⟩)/\F id b:=by
 obtain⟨hid,s,sz,n,f,b,o,cap,hat,hi,hk,rfl⟩:=h;obtain⟨fp1,hr,hsub,_⟩:=Dt (w':=w) p _ _ _ _ _ (wr.rel id hid) (λb hb h'=>wr.dD id b h' hb) hat
 refine⟨b,_,rfl,hsub b ?_⟩;rcases hr with⟨h0,_⟩|⟨b',o',cap',G,he,_,_,_,_,_,h6⟩
 ·omega
 ·obtain⟨rfl,_,_⟩:=Ap he
  exact((h6 rfl).2.2.2 b).2 (.inl rfl)
theorem X3(hΘ:E.Θ.OK P){C:Ctx}{m id:Nat}{q:AR}{ops:Array Oper}{fs:List Nat}{a:Act}{w w':World}{σ2:List V}(hdd: ∀x,N<=x->s.den.t x= .dead)
  (h1: ∃D ρ F,CR C s.den.σ ((List.range N).map s.den.t) a.tmps w D ρ F) (h2: ∃D ρ F,CR C σ2 (((List.range N).map s.den.t).map (rrV id q m)) a.tmps w D ρ F/\∀c,c<w.heap.size->¬F m c->w'.heap[c]? =w.heap[c]?)
  (hl: ∀f∈fs,∀o,ops[f]? =some o->P3 E s m id q o=true):FlL P ops fs a w w':=by
 intro f hf o ho t x hop ad had;have h:=hl f hf o ho;unfold P3 at h;rw [hop]at h;cases x with
 |tmp z=>
  dsimp only at h
  obtain⟨D1,ρ1,F1,hcr1⟩:=h1;obtain⟨D2,ρ2,F2,hcr2,hsame⟩:=h2;have had:a.tmps.getD z undef= .pointer (some ad):=had
  have hsz: ∀ (ti:TI),E.Θ.look t=some ti->∀s,(sizeOf t).run P w= .ok s w->s=ti.ty.w:=λti hti s hs=>by
   obtain⟨d,i,z,hu,hi,_,his,_⟩:=Cz (hΘ.ty hti);unfold Go.sizeOf typeInfo at hs;rw [Sem.run_bind,Sem.run_bind]at hs;have e:(Go.program.run P w:Result Program)= .ok P w:=rfl;rw [e]at hs;simp only [Result.andThen_ok,hi]at hs;have his:i.size=ti.ty.w:=his;have hs:Result.ok i.size w= .ok s w:=hs;cases hs;exact his
  have hz:s.den.t z≠.dead->z<N:=λhne=>by
   rcases Nat.lt_or_ge z N with h|h
   ·exact h
   ·exact absurd (hdd z h) hne
  split at h
  case h_3=>cases h
  ·rename_i ti id' p i k hti hsz1
   simp only [bAE,Bool.not_eq_true']at h;obtain⟨⟨⟨g1,g2⟩,g3⟩,g4⟩:=h;have g3:=blE g3;have g4:=Kf g4;have hv:s.den.t z= .rp id' p i k:=by show(s.t z).v s.r=_;rw [hsz1];rfl
   have hzN:=hz (by rw [hv];simp)
   have r1:=hcr1.tm z (by simpa using hzN)
   have r2:=hcr2.tm z (by simpa using hzN)
   have e1:((List.range N).map s.den.t).getD z .dead= .rp id' p i k:=by rw [AV hzN,hv]
   have e2:(((List.range N).map s.den.t).map (rrV id q m)).getD z .dead= .rp id' p i k:=by
    have:(((List.range N).map s.den.t).map (rrV id q m)).getD z .dead=rrV id q m (s.den.t z):=by simp [hzN]
    rw [this,hv];exact if_neg (C7 g1).1
   rw [e1,had]at r1;rw [e2,had]at r2;obtain⟨s0,sz,n,f0,b,o0,cap,hid,hat,hi,hk,he,_,hns,_,_⟩:=Jg hcr1.wr r1.1;obtain⟨b2,off2,he2,hF⟩:=XH hcr2.wr r2.1;have hbb:b2=b:=by rw [he]at he2;cases he2;rfl
   subst hbb;have hnsz:sz=(Ab s.r id' p).w:=by rw [<-hns];exact B0 g2
   have hne:id'≠m:=λe=>(C7 g1).2 m [] (by simp) ⟨e,rfl⟩
   have hblk:w'.heap[b2]? =w.heap[b2]?:=hsame b2 (hcr2.wr.lt _ _ hF) λhm=>hcr2.wr.disj id' m b2 hne hF hm
   have hcells: ∀k',k+k'<sz->∃y,w.cell? ⟨b2,o0+i*sz+(k+k'),none⟩=some y:=λk' hk'=>by
    obtain⟨fp1,hr,_,_⟩:=Dt (w':=w) p _ _ _ _ _ (hcr1.wr.rel id' hid) (λb hb h'=>hcr1.wr.dD id' b h' hb) hat
    rcases hr with⟨h0,_⟩|⟨b',o',cap',G,he',_,_,_,h5,_⟩
    ·omega
    ·obtain⟨rfl,rfl,_⟩:=Ap he'
     obtain⟨y,hy,_⟩:=h5 i (k+k') hi hk';exact⟨y,hy⟩
   cases he;refine⟨hblk,?_,λs1 hs1 k' hk'=>?_⟩
   ·obtain⟨y,hy⟩:=hcells 0 (by omega)
    exact⟨y,by simpa [Nat.add_assoc]using hy⟩
   ·rw [hsz ti hti s1 hs1]at hk'
    obtain⟨y,hy⟩:=hcells k' (by omega)
    refine⟨y,?_⟩;rw [AT rfl];simpa [Nat.add_assoc]using hy
  ·rename_i ti u xv hti hsz1
   simp only [bAE]at h;obtain⟨g3,g4⟩:=h;have g3:=blE g3;have g4:=Kf g4;have hv:s.den.t z=A7 false (tyV u 0 xv):=by show(s.t z).v s.r=_;rw [hsz1];rfl
   have hzN:=hz (by rw [hv];simp [A7])
   have r2:=hcr2.tm z (by simpa using hzN)
   have e2:(((List.range N).map s.den.t).map (rrV id q m)).getD z .dead=A7 false (tyV u 0 xv):=by
    have:(((List.range N).map s.den.t).map (rrV id q m)).getD z .dead=rrV id q m (s.den.t z):=by simp [hzN]
    rw [this,hv];rfl
   rw [e2,had]at r2;have hul:(tyV u 0 xv).length=u.w:=Aq u 0 xv;rcases r2 with⟨_,h0,_⟩|⟨b,o0,cap,G,he,_,_,_,h5,h6,_⟩
   ·cases h0
   ·have hb:=(h6 rfl).1 (by rw [hul];omega)
    have hblk:w'.heap[b]? =w.heap[b]?:=hsame b (hcr2.wr.Dlt b hb) λhm=>hcr2.wr.dD m b hm hb
    have hcells: ∀k',k'<u.w->∃y,w.cell? ⟨b,o0+k',none⟩=some y:=λk' hk'=>by
     obtain⟨y,hy,_⟩:=h5 0 k' (by omega) (by rw [hul];exact hk')
     exact⟨y,by simpa using hy⟩
    cases he;refine⟨hblk,?_,λs1 hs1 k' hk'=>?_⟩
    ·obtain⟨y,hy⟩:=hcells 0 (by omega)
     exact⟨y,by simpa using hy⟩
    ·rw [hsz ti hti s1 hs1]at hk'
     obtain⟨y,hy⟩:=hcells k' (by omega)
     refine⟨y,?_⟩;rw [AT rfl];exact hy
 |_=>cases h
def flT(E:Env)(ops:Array Oper)(fs:List Nat):Bool:=fs.all λf=>match ops[f]? with
 |some o=>AaO o.op&&(match o.op with
  | .fieldAddr t _ k=>match(E.Θ.look t).bind (·.flds[k]?)with
   |some _=>true
   |none=>false
  |_=>true)
 |none=>true
theorem Y1(hΘ:E.Θ.OK P)(h:flT E ops fs=true):FlT P ops fs:=by
 intro f hf o ho;have h1:=aET.1 h f hf;rw [ho]at h1;simp at h1;refine⟨h1.1,λt x k hop=>?_⟩
 have h2:=h1.2;rw [hop]at h2
 dsimp only at h2
 split at h2
 case h_2=>grind
 rename_i p hp;obtain⟨off,sz⟩:=p;cases hl:E.Θ.look t with
 |none=>grind
 |some i=>
  rw [hl]at hp;exact⟨off,sz,hΘ.fld hl hp⟩
theorem ZI(hΘ:E.Θ.OK P){ops:Array Oper}{n:Nat}{fs:List Nat}(h:U8 E s late o1 o2 o3=some A)(hp:A.p)(hs:AI C E.h.n s.den a w)
  (hon:ops[n]? =some o1) (hlate: ∀f∈fs,∀o,ops[f]? =some o->o∈late) (hft:FlT P ops fs):FlH P ops n fs a w:=by
 unfold U8 at h;split at h
 case h_2=>cases h
 rename_i d t x y e t2 u v t3 hrow;obtain⟨ho1,hd1,ho2,hd2,ho3,hd3,hde,hnu,hnv⟩:=Jh hrow;split at h
 case h_2=>cases h
 rename_i ti ti2 ti3 id q hti hti2 hti3 hx;split at h
 case h_2=>cases h
 rename_i ro t' dx xs dy ys js hnode hy;split at h
 case isFalse=>cases h
 rename_i ht;subst ht;split at h
 case h_2=>cases h
 rename_i id' p kk di i hu hv;obtain⟨hb,h⟩:=A1 h;simp only [bAE,Bool.not_eq_true']at hb;obtain⟨⟨⟨⟨⟨⟨⟨⟨⟨⟨⟨b1,b2⟩,b3⟩,b4⟩,b5⟩,b6⟩,b7⟩,b8⟩,b9⟩,b10⟩,b11⟩,b12⟩:=hb;have b1:=bqE b1;subst b1;have b5:=bqE b5;have b6:=bqE b6;have b7:=bqE b7;have b9:=Yt b9;have b10:=Yt b10;split at h
 case h_2=>cases h
 rename_i c r0 hc hset;cases h;obtain⟨⟨⟨hi0,hil⟩,hcp⟩,hlim⟩:=hp;obtain rfl:=IK _ _ _ hc hcp;have hY: ∀j∈js,j<s.r.length/\j≠id':=by
  obtain⟨_,_,D,ρ,F,hcr⟩:=hs;exact(Ic hcr ‹_› hy).js
 obtain⟨v',w',hrun,_,D,ρ,F,hcr2,hsame⟩:=Qk hΘ ho1 hd1 b9 hti (Kf b2) (Kf b3) hx hnode hy b4 (by simpa [H5]using hlim) hs
 have hsd:(∃D ρ F,CR C (Ah js s).den.σ ((List.range E.h.n).map (Ah js s).den.t) a.tmps w D ρ F)/\∀x,E.h.n<=x->(Ah js s).den.t x= .dead:=by
  obtain⟨_,hdd,D,ρ,F,hcr⟩:=hs;obtain⟨F1,hcr1,_⟩:=Cu js hcr (λj hj=>(hY j hj).1)
  exact⟨⟨D,ρ,F1,hcr1⟩,B6 js hdd⟩
 intro on hon';obtain rfl:on=o1:=Option.some.inj (hon'.symm.trans hon);refine⟨v',w',hrun,FlT.same hft (X3 hΘ hsd.2 hsd.1 ⟨D,ρ,F,hcr2,hsame⟩ λf hf o ho=>aET.1 b12 o (hlate f hf o ho))⟩
theorem U7(h:U8 E s late o1 o2 o3=some A):Kp (Ai [o1,o2,o3]) s A.s:=by
 unfold U8 at h;split at h
 case h_2=>cases h
 rename_i d t x y e t2 u v t3 hrow;obtain⟨_,hd1,_,hd2,_,_,_,_,_⟩:=Jh hrow;split at h
 case h_2=>cases h
 rename_i ti ti2 ti3 id q hti hti2 hti3 hx;split at h
 case h_2=>cases h
 rename_i ro t' dx xs dy ys js hnode hy;split at h
 case isFalse=>cases h
 rename_i ht;split at h
 case h_2=>cases h
 rename_i id' p kk di i hu hv;generalize hcond:(Nat.beq id' id&&Nat.blt 0 ti.bytes&&Nat.blt 0 ti.ty.w&&dOK ti.ty dy dx&&Nat.beq ti3.ty.w 1&&Nat.beq (Ab (Ah js s).r id p).w ti2.ty.w&&Nat.beq ti2.ty.w 1&&(Ab (Ah js s).r id p).live&&Nat.blt d E.h.n&&Nat.blt e E.h.n&& !E.h.fz.contains e&&late.all (P3 E (Ah js s) s.r.length id q))=cond at h;cases cond with
 |false=>cases h
 |true=>
 simp only [cond_true]at h;split at h
 case h_2=>cases h
 rename_i c r0 hc hset;cases h;have k0:Kp (Ai [o1,o2,o3]) s (Ah js s):=(JM js s (O8 hy)).weak λ_ _=>rfl
 refine k0.trans ⟨λj hj hst=>?_,λid2 hid hro=>?_,by simp⟩ (λ_ h=>h) λ_ h=>h
 ·have hjd:Nat.beq j d=false/\Nat.beq j e=false:=by
   refine⟨?_,?_⟩
   ·cases hb:Nat.beq j d with
    |false=>rfl
    |true=>
     have:=bqE hb;subst this;simp [Ai,hd1]at hj
   ·cases hb:Nat.beq j e with
    |false=>rfl
    |true=>
     have:=bqE hb;subst this;simp [Ai,hd2]at hj
  show(bif Nat.beq j d||Nat.beq j e then Sl.one .dead else _)=_;rw [hjd.1,hjd.2];exact Sl.kill_stay hst _ _ _
 ·have hne:id2≠id:=by
   rintro rfl
   rw [D8 hset]at hro;cases hro
  show((Ah js s).r.set id r0++ [Aa.dead,Aa.dead]).getD id2 .dead=_;rw [gDE,gAL (by simpa using hid),List.getElem?_set_ne (Ne.symm hne),<-gDE]
end
theorem CR.frz1{ts:List V}{cts:Array Value}(h:CR C σ ts cts w D ρ F){j:Nat}(hj:j<σ.length)(ho:σ.getD j .dead= .nd false true sz 1 f)(hk:k<sz):
  UK C (σ.set j (upd [(0,k)] (σ.getD j .dead) (Go.Ve.frz (f 0 k)))) (ts.map (AK j [(0,k)])) cts w:=by
 have hr0:=h.wr.rel j hj;rw [ho]at hr0;rcases hr0 with⟨h0,_⟩|⟨b,o,cap,G,hcv,hcap,hmax,hs,hr,_,hown⟩
 ·cases h0
 obtain⟨hb,hnb,hdis,hfp⟩:=hown rfl;have hGF: ∀k' x,k'<sz->G 0 k' x->F j x:=λk' x hk' hx=>(hfp x).2 (.inr ⟨0,k',Nat.one_pos,hk',hx⟩)
 have hF: ∀i x,(if i=j then λx=>F j x/\¬G 0 k x else F i) x->F i x/\¬G 0 k x:=by
  intro i x hx;split at hx
  ·rename_i e;subst e;exact hx
  ·rename_i e
   exact⟨hx,λhg=>h.wr.disj i j x e hx (hGF k x hk hg)⟩
 refine⟨λx=>D x\/G 0 k x,ρ,λi=>if i=j then λx=>F j x/\¬G 0 k x else F i,⟨λi hi=>?_,λi l x hil h1 h2=>h.wr.disj i l x hil (hF _ _ h1).1 (hF _ _ h2).1,λi x hx hd=>?_,λx hx=>?_,λi x hi hx=>h.wr.out i x (by simpa using hi) (hF _ _ hx).1⟩,by simpa using h.sz,λt ht=>?_,h.fr,λi x hx=>h.Fn i x (hF _ _ hx).1,λx hx=>.inl (h.D1 x hx),λx hx hlt=>?_,h.rt,by simpa using h.ml⟩
 ·have hi:i<σ.length:=by simpa using hi
  by_cases he:i=j
  ·subst he
   rw [Af hj,ho];simp only [if_true];obtain⟨G',hG'⟩: ∃G':Nat->Nat->Nat->Prop,G'=λi' k'=>if i'=0/\k'=k then noF else G i' k':=⟨_,rfl⟩
   have g0:G' 0 k=noF:=by rw [hG'];exact if_pos ⟨rfl,rfl⟩
   have gi: ∀i' k',¬ (i'=0/\k'=k)->G' i' k'=G i' k':=λi' k' e=>by rw [hG'];exact if_neg e
   have gg: ∀i' k' x,G' i' k' x->¬ (i'=0/\k'=k)/\G i' k' x:=λi' k' x hx=>by
    by_cases e:i'=0/\k'=k
    ·rw [e.1,e.2,g0]at hx;exact hx.elim
    ·rw [gi _ _ e]at hx;exact⟨e,hx⟩
   refine .inr ⟨b,o,cap,G',hcv,hcap,hmax,hs,λi' k' hi' hk'=>?_,λe=>(by cases e),λ_=>⟨hb,λi' k' hi' hk' hx=>hnb i' k' hi' hk' (gg _ _ _ hx).2,λi1 k1 i2 k2 x a1 a2 a3 a4 a5 g1 g2=>hdis i1 k1 i2 k2 x a1 a2 a3 a4 a5 (gg _ _ _ g1).2 (gg _ _ _ g2).2,λx=>?_⟩⟩
   ·obtain⟨x,hx,hrx⟩:=hr i' k' hi' hk'
    refine⟨x,hx,?_⟩;obtain rfl:i'=0:=by omega
    by_cases e:k'=k
    ·subst e
     simp only [and_self,if_true];rw [g0];exact Rel.frz _ _ _ hrx
    ·simp only [e,and_false,if_false]
     rw [gi 0 k' λh=>e h.2]
     exact Rel.mono (λ_ h=>.inl h) (λ_ _ h=>h) _ _ _ (λ_ _=>rfl) hrx
   ·constructor
    ·rintro ⟨h1,h2⟩
     rcases(hfp x).1 h1 with e|⟨i',k',hi',hk',hg⟩
     ·exact .inl e
     ·refine .inr ⟨i',k',hi',hk',?_⟩
      rw [gi _ _ λe=>h2 (by rw [<-e.1,<-e.2];exact hg)]
      exact hg
    ·rintro (e|⟨i',k',hi',hk',hg⟩)
     ·subst e
      exact⟨(hfp _).2 (.inl rfl),hnb 0 k Nat.one_pos hk⟩
     ·obtain⟨e,hg⟩:=gg _ _ _ hg
      obtain rfl:i'=0:=by omega
      refine⟨hGF k' x hk' hg,λhg2=>hdis 0 k' 0 k x hi' hk' hi' hk (.inr λe2=>e ⟨rfl,e2⟩) hg hg2⟩
  ·rw [Ad (Ne.symm he)]
   simp only [he,if_false];exact Rel.mono (λ_ h=>.inl h) (λ_ _ h=>h) _ _ _ (λ_ _=>rfl) (h.wr.rel i hi)
 ·obtain⟨h1,h2⟩:=hF i x hx
  exact hd.elim (h.wr.dD i x h1) h2
 ·exact hx.elim (h.wr.Dlt x) λhg=>h.wr.lt j x (hGF k x hk hg)
 ·simp at ht
  have e1:(ts.map (AK j [(0,k)])).getD t .dead=AK j [(0,k)] (ts.getD t .dead):=by simp [ht]
  rw [e1];refine Rel.mono (λ_ h=>.inl h) (λ_ _ h=>h) _ _ _ (λ_ _=>rfl) ((Ba _ _).rel (R':=Ag (σ.set j (upd [(0,k)] (σ.getD j .dead) (Go.Ve.frz (f 0 k)))) ρ w) (λ_ _=>rfl) ?_ ?_ _ _ noF (λ_ h=>h) (h.tm t ht))
  ·rintro id q off len cv ⟨hid,sz',n',f',cn,ha,r⟩
   simp only [AK];split
   ·exact λ_ h=>h
   ·rename_i hne
    refine⟨⟨by simpa using hid,?_⟩,λ_ h=>h⟩
    by_cases e:id=j
    ·subst e
     rw [Af hj];obtain⟨f2,h2⟩:=At.keep (x:=Go.Ve.frz (f 0 k)) [(0,k)] q _ _ (by rw [ho];exact⟨rfl,Nat.one_pos,hk,trivial⟩) (by simpa using hne) ha
     exact⟨sz',n',f2,cn,h2,r⟩
    ·rw [Ad (Ne.symm e)]
     exact⟨sz',n',f',cn,ha,r⟩
  ·rintro id q i' k' cv ⟨hid,s',sz',n',f',b',o',cap',ha,r⟩
   simp only [AK];split
   ·exact λ_ h=>h
   ·rename_i hne
    refine⟨⟨by simpa using hid,?_⟩,λ_ h=>h⟩
    by_cases e:id=j
    ·subst e
     rw [Af hj];obtain⟨f2,h2⟩:=At.keep (x:=Go.Ve.frz (f 0 k)) [(0,k)] q _ _ (by rw [ho];exact⟨rfl,Nat.one_pos,hk,trivial⟩) (by simpa using hne) ha
     exact⟨s',sz',n',f2,b',o',cap',h2,r⟩
    ·rw [Ad (Ne.symm e)]
     exact⟨s',sz',n',f',b',o',cap',ha,r⟩
 ·rcases hx with hx|hx
  ·exact h.D2 x hx hlt
  ·exact(h.Fn j x (hGF k x hk hx)).elim .inr λhge=>absurd hlt (Nat.not_lt.2 hge)
def Aao(id k:Nat)(s:St):Option St:=match s.r.getD id .dead with
 | .obj false l=>match l.getD k .dead with
  | .c (.sl t) (_+1) xs=>match(s.r.getD id .dead).setAt [] 0 k (.c (.sl t) 0 xs)with
   |some r0=>some ⟨λi=>(s.t i).kill id [k] [],s.r.set id r0⟩
   |none=>none
  |_=>some s
 |_=>some s
theorem Yf(h:Aao id k s=some s')(hs:AI C N s.den a w):AI C N s'.den a w/\Kp (λ_=>true) s s':=by
 unfold Aao at h;split at h
 case h_2=>cases h;exact⟨hs,Kp.refl _ _⟩
 rename_i l hr;split at h
 case h_2=>cases h;exact⟨hs,Kp.refl _ _⟩
 rename_i t d xs hl;split at h
 case h_2=>cases h
 rename_i r0 hset;cases h;have hid:id<s.r.length:=by
  rcases Nat.lt_or_ge id s.r.length with h|h
  ·exact h
  ·rw [gDE,List.getElem?_eq_none h]at hr;cases hr
 have hkl:k<l.length:=by
  rcases Nat.lt_or_ge k l.length with h|h
  ·exact h
  ·rw [gDE,List.getElem?_eq_none h]at hl;cases hl
 have hσ:s.den.σ.getD id .dead=A7 true (l.map Cl.v0):=by
  show(s.r.map Aa.v).getD id .dead=_;rw [An,hr];rfl
 obtain⟨hd,hdd,D,ρ,F,hcr⟩:=hs;have hf:=hcr.frz1 (by simpa [St.den]using hid) hσ (by simpa using hkl)
 have hcell:Go.Ve.frz ((l.map Cl.v0).getD k .dead)=(Cl.c (.sl t) 0 xs).v0:=by
  have:(l.map Cl.v0).getD k .dead=(l.getD k .dead).v0:=by
   simp [gDE,List.getElem?_map,gEE hkl]
  rw [this,hl];exact P6 (t:=.sl t) rfl _ _
 have hlen: ∀id' q,hit id [k] [] id' q=false->(Ab (s.r.set id r0) id' q).len=(Ab s.r id' q).len:=by
  intro id' q hq;by_cases e:id'=id
  ·subst e
   have hp:pre [k] q=false:=by
    unfold hit at hq;simpa using hq
   have h1:=JA [] _ _ hset q hp;unfold Ab;have e2:(s.r.set id' r0).getD id' .dead=r0:=by simp [gDE,hid]
   rw [e2];exact h1
  ·rw [Bg e]
 have hk:=λy=>Sl.kill_v (r:=s.r) (r':=s.r.set id r0) (GOK.kill (id:=id) (P:=[(0,k)])) hlen y
 refine⟨⟨hd,λi hi=>?_,?_⟩,⟨λi _ hst=>Sl.kill_stay hst _ _ _,λid' _ hro=>?_,by simp⟩⟩
 ·have h0:(s.t i).v s.r= .dead:=hdd i hi
  have h1:=hk (s.t i);rw [h0]at h1;rcases h1 with h|h
  ·exact h
  ·exact h
 ·obtain⟨D',ρ',F',hc'⟩:=hf
  refine⟨D',ρ',F',hc'.sub (by simp [St.den]) (λi _=>?_) (by simp) λi hi=>?_⟩
  ·by_cases e:i=id
   ·subst e
    rw [Af (by simpa [St.den]using hid)]
    show Sub (upd [(0,k)] _ (Go.Ve.frz ((l.map Cl.v0).getD k .dead))) (((s.r.set i r0).map Aa.v).getD i .dead);rw [hcell];rw [An];have e2:(s.r.set i r0).getD i .dead=r0:=by simp [gDE,hid]
    rw [e2];have e3:s.den.σ.getD i .dead=(s.r.getD i .dead).v:=An _ _;rw [e3];exact Jd [] _ _ hset
   ·rw [Ad (Ne.symm e)]
    show Sub ((s.r.map Aa.v).getD i .dead) (((s.r.set id r0).map Aa.v).getD i .dead);rw [An,An];have e2:(s.r.set id r0).getD i .dead=s.r.getD i .dead:=by simp only [gDE,List.getElem?_set_ne (Ne.symm e)]
    rw [e2];exact Sub.refl _
  ·have hi:i<N:=by simpa using hi
   have e1:(((List.range N).map s.den.t).map (AK id [(0,k)])).getD i .dead=AK id [(0,k)] ((s.t i).v s.r):=by simp [hi,St.den]
   rw [e1,AV hi];exact hk (s.t i)
 ·have hne:id'≠id:=by
   rintro rfl
   rw [hr]at hro;cases hro
  simp only [gDE,List.getElem?_set_ne (Ne.symm hne)]
def NJ(id:Nat):List Nat->St->Option St
 | [],s=>some s
 |k::l,s=>match Aao id k s with
  |some s'=>NJ id l s'
  |none=>none
theorem JH{C:Ctx}{N:Nat}{id:Nat}{a:Act}{w:World}: ∀ (l:List Nat) {s s':St},NJ id l s=some s'->AI C N s.den a w->AI C N s'.den a w/\Kp (λ_=>true) s s'
 | [],s,s',h,hs=>by cases h;exact⟨hs,Kp.refl _ _⟩
 |k::l,s,s',h,hs=>by
  unfold NJ at h;split at h
  case h_2=>cases h
  rename_i s1 h1;obtain⟨g1,g2⟩:=Yf h1 hs;obtain⟨g3,g4⟩:=JH l h g1;exact⟨g3,g2.trans g4 (λ_ _=>rfl) λ_ _=>rfl⟩
def frzO(E:Env)(s:St)(o:Oper):Option St:=match o.op,o.dst with
 | .load t (.tmp z),some d=>bif E.h.fz.contains (4000000+d)then(match s.t z,E.Θ.look t with
  | .one (.rp id [] 0 k),some i=>NJ id ((List.range i.ty.w).map λj=>k+j) s
  |_,_=>some s)else some s
 |_,_=>some s
theorem Aan(h:frzO E s o=some s')(hs:AI C N s.den a w):AI C N s'.den a w/\Kp (λ_=>true) s s':=by
 have triv:some s=some s'->AI C N s'.den a w/\Kp (λ_=>true) s s':=λe=>by cases e;exact⟨hs,Kp.refl _ _⟩
 unfold frzO at h;split at h
 case h_2=>exact triv h
 rename_i t z d _ _;cases hb:E.h.fz.contains (4000000+d)with
 |false=>rw [hb]at h;exact triv h
 |true=>
  rw [hb]at h;simp only [cond_true]at h;split at h
  ·exact JH _ h hs
  ·exact triv h
def frzP(E:Env)(s:St)(o:Oper):Option St:=match o.op with
 | .store t (.tmp z) _=>bif E.h.fz.contains (5000000+z)then(match s.t z,E.Θ.look t with
  | .one (.rp id [] 0 k),some i=>NJ id ((List.range i.ty.w).map λj=>k+j) s
  |_,_=>some s)else some s
 |_=>some s
theorem Aam(h:frzP E s o=some s')(hs:AI C N s.den a w):AI C N s'.den a w/\Kp (λ_=>true) s s':=by
 have triv:some s=some s'->AI C N s'.den a w/\Kp (λ_=>true) s s':=λe=>by cases e;exact⟨hs,Kp.refl _ _⟩
 unfold frzP at h;split at h
 case h_2=>exact triv h
 rename_i t z _ _;cases hb:E.h.fz.contains (5000000+z)with
 |false=>rw [hb]at h;exact triv h
 |true=>
  rw [hb]at h;simp only [cond_true]at h;split at h
  ·exact JH _ h hs
  ·exact triv h
end Go.Ve

