/- The typed machine: lists of operations in memory; regions that draw their order. -/
import Derived.Test.YtmmmafnkggaknaaGreatTj
import Derived.Test.YtmmmafnkggaknaaGreatTu
import Derived.Test.YtmmmafnkggaknaaGreatVwa
set_option linter.all false
namespace Go.Ve
variable{p:AZ}{r r':Af}{c:Cl}{h:Cs}{i id k:Nat}{g:Nat->Bool}{d:Option Nat}{v x:Option Sl}{ti:Option TI}{P:Program}{y:Sl}{s s' s1:St}{Θ:Tab}
theorem Uv{C:Ctx}{N:Nat}(hΘ:Θ.OK P){s s':St}{o:Oper}{t:TypeId}{x v:Operand}{a:Act}{w:World}{next:Act->World->Prop}{Q:Exit->Act->World->Prop}
  (ho:o.op=.store t x v) (hdst:o.dst=none) (h:Iq s (Θ.look t) (s.ev x) (s.ev v)=some s') (hs:AR C N s.den a w) (hn:∀a' w',AR C N s'.den a' w'->next a' w'):o.wp P a w next Q:=by
 obtain⟨hd,hdd,D,ρ,F,u⟩:=hs;unfold Iq at h;split at h
 case h_2=>cases h
 rename_i ti id p i k y hti hx hv;split at h
 case h_2=>cases h
 rename_i l hl;obtain⟨hb,h⟩:=Bb h;simp only[bAE]at hb;obtain⟨⟨h1,h2⟩,h3⟩:=hb;have h1:=bqE h1;have h2:=blE h2;have hnsz:=Ci h3;obtain⟨hpl,hcv,_⟩:=CL (r:=s.r) hl;obtain⟨d,tii,z,hdt,hit,hz,his,_⟩:=CN (hΘ.ty hti);simp only at his;have J:=BY u hdd x;rw[Bh hx]at J;have J:Rel D w (Au s.den.σ ρ w) (.rp id p i k) (a.eval x) noF:=J;obtain⟨s0,sz,n,f,b,o',cap,hid,ha,hi,hk,had,_,hns,_,_⟩:=Jf u.wr J.1;have hrv:=BY u hdd v;rw[Bh hv]at hrv;obtain⟨⟨U,B⟩,_⟩:=Ce (λv cv h=>Au.one h) hpl hrv
 rw[hcv]at U B;have hlen:(l.map (Cl.v s.r)).length=l.length:=List.length_map ..
 have hcr2:CR C s.den.σ ((List.range N).map s.den.t++ .rp id p i k::l.map (Cl.v s.r)) (a.tmps.toList++ .pointer (some ⟨b,(o'+i*sz)+k,none⟩)::(a.eval v).cells.toList).toArray w D ρ F:=by
  have W:a.tmps.size=N:=by simpa using u.sz
  refine⟨u.wr,by simp[W,U],λj hj=>?_,u.fr,u.Fn,u.D1,u.D2,u.rt,u.ml⟩
  by_cases Z:j<N
  .rw[AG (by simpa using Z)]
   have h1:=u.tm j (by simpa using Z)
   have e:(a.tmps.toList++ .pointer (some ⟨b,(o'+i*sz)+k,none⟩)::(a.eval v).cells.toList).toArray.getD j undef=a.tmps.getD j undef:=by
    simp[gAL,W,Z]
   rw[e];exact h1
  .obtain⟨m,rfl⟩:∃m,j=N+m:=⟨j-N,by omega⟩
   have e1:((List.range N).map s.den.t++ .rp id p i k::l.map (Cl.v s.r)).getD (N+m) .dead=(.rp id p i k::l.map (Cl.v s.r)).getD m .dead:=by
    simp[gAR]
   have e2:(a.tmps.toList++ .pointer (some ⟨b,(o'+i*sz)+k,none⟩)::(a.eval v).cells.toList).toArray.getD (N+m) undef=(.pointer (some ⟨b,(o'+i*sz)+k,none⟩)::(a.eval v).cells.toList).getD m undef:=by
    simp only[Array.getD_eq_getD_getElem?,List.getElem?_toArray,gDE];rw[gAR (by simp;omega)]
    simp[W]
   rw[e1,e2];cases m with
   |zero=>rw[had]at J;exact J
   |succ m=>
    simp at hj;have:=B m (by simpa using hj)
    simpa using this
 obtain⟨w',hrun,hdd',hcr3⟩:=PW (P:=P) l.length l (a.eval v).cells.toList 0 s s' w ρ F hcr2 (by simpa using u.sz) hdd (by simpa using U) (by show k+0+l.length<=AT (s.r.map Af.v) id p;rw[hnsz];omega) h
 have hsv:(storeVar t ⟨b,(o'+i*sz)+k,none⟩ (a.eval v)).run P w=.ok () w':=by
  simp only[storeVar,Sem.run_bind,sizeOf,typeInfo];have e:(a.eval v).cells.size=ti.ty.w:=by rw[U,hlen,h1]
  simp[hit,his,hrun,e]
 have hex:(execOp a.eval o).run P w=.ok .skip w':=by
  unfold execOp;rw[ho];simp[Instr.storeAt,had,Instr.sureAddr,hsv]
 unfold Oper.wp;rw[hex,Oper.upon_skip,hdst];exact hn a w' ⟨hd,hdd',hcr3⟩
structure PD where
 p:Prop
 dec:Decidable p
def Vn:AZ->AZ->Option PD
 |[],[]=>some ⟨True,inferInstance⟩
 |(i,k)::p,(j,l)::q=>bif Nat.beq k l then(match Vn p q with
  |some c=>some ⟨(i<=j/\j<=i)/\c.p,@instDecidableAnd _ _ inferInstance c.dec⟩
  |none=>none)else none
 |_,_=>none
def IP:∀(p q:AZ) (c:PD),Vn p q=some c->c.p->p=q
 |[],[],_,_,_=>rfl
 |(i,k)::p,(j,l)::q,c,h,hc=>by
  unfold Vn at h;cases e:Nat.beq k l with
  |false=>grind
  |true=>
   rw[e]at h;split at h
   case h_2=>grind
   rename_i c' u;cases h;rw[bqE e,IP p q c' u hc.2,Nat.le_antisymm hc.1.1 hc.1.2]
 |[],_::_,_,h,_=>by cases h
 |_::_,[],_,h,_=>by cases h
structure PtR where
 p:Prop
 dec:Decidable p
 s:St
variable{A:PtR}
def UC(s:St):Option TI->Option Sl->Option Sl->Option PtR
 |some ti,some (.one (.rp id p i k)),some (.one (.rs id' q off len))=>bif Nat.beq id' id&&Nat.beq ti.ty.w 1&&Nat.ble (k+1) (Ai s.r id p).w&&(Ai s.r id p).live then(match Vn q (p++[(i,k)])with
  |some c=>match Ai s.r id q with
   |.arr false t d xs=>match(s.r.getD id .dead).setAt p i k (.c (.sl t) (d+1) (Mq off len xs t.dflt))with
    |some e=>some ⟨c.p,c.dec,⟨λx=>(s.t x).kill id ((p++[(i,k)]).map (·.2)) [],s.r.set id e⟩⟩
    |none=>none
   |_=>none
  |none=>none)else none
 |_,_,_=>none
theorem W2{C:Ctx}{N:Nat}(hΘ:Θ.OK P){s:St}{o:Oper}{t:TypeId}{x v:Operand}{a:Act}{w:World}{next:Act->World->Prop}{Q:Exit->Act->World->Prop}{A:PtR}
  (ho:o.op=.store t x v) (hdst:o.dst=none) (h:UC s (Θ.look t) (s.ev x) (s.ev v)=some A) (hp:A.p) (hs:AR C N s.den a w) (hn:∀a' w',AR C N A.s.den a' w'->next a' w'):o.wp P a w next Q:=by
 obtain⟨hd,hdd,D,ρ,F,B⟩:=hs;unfold UC at h;split at h
 case h_2=>cases h
 rename_i ti id p i k id' q off len hti hx hv;obtain⟨hb,h⟩:=Bb h;simp only[bAE]at hb;obtain⟨⟨⟨h0,h1⟩,h2⟩,h3⟩:=hb;have h0:=bqE h0;subst h0;have h1:=bqE h1;have h2:=blE h2;split at h
 case h_2=>cases h
 rename_i c hc;split at h
 case h_2=>cases h
 rename_i u d xs hnode;split at h
 case h_2=>cases h
 rename_i r0 hset;cases h;obtain rfl:=IP _ _ _ hc hp;have hnsz:=Ci h3;obtain⟨d1,tii,z,hdt,hity,hz,his,_⟩:=CN (hΘ.ty hti);simp only at his;have U:=BY B hdd x;rw[Bh hx]at U;have U:Rel D w (Au s.den.σ ρ w) (.rp id' p i k) (a.eval x) noF:=U;obtain⟨s0,sz,n,f,b,o',cap,hid,ha,hi,hk,had,_,hns,_,_⟩:=Jf B.wr U.1;have W:=BY B hdd v;rw[Bh hv]at W;have W:Rel D w (Au s.den.σ ρ w) (.rs id' (p++[(i,k)]) off len) (a.eval v) noF:=W;have hone:(a.eval v).oneCell'=true:=Au.one W.1;have hsz:a.tmps.size=N:=by simpa using B.sz
 have hcr2:CR C s.den.σ ((List.range N).map s.den.t++V.rp id' p i k::[V.rs id' (p++[(i,k)]) off len]) (a.tmps.toList++Value.pointer (some ⟨b,(o'+i*sz)+k,none⟩)::[a.eval v]).toArray w D ρ F:=by
  refine⟨B.wr,by simp[hsz],λj hj=>?_,B.fr,B.Fn,B.D1,B.D2,B.rt,B.ml⟩
  by_cases hjt:j<N
  .rw[AG (by simpa using hjt)]
   have h1:=B.tm j (by simpa using hjt)
   have e:(a.tmps.toList++Value.pointer (some ⟨b,(o'+i*sz)+k,none⟩)::[a.eval v]).toArray.getD j undef=a.tmps.getD j undef:=by
    simp[gAL,hsz,hjt]
   rw[e];exact h1
  .obtain⟨m,rfl⟩:∃m,j=N+m:=⟨j-N,by omega⟩
   have e1:((List.range N).map s.den.t++V.rp id' p i k::[V.rs id' (p++[(i,k)]) off len]).getD (N+m) .dead=([V.rp id' p i k,V.rs id' (p++[(i,k)]) off len]:List V).getD m .dead:=by
    simp[gAR]
   have e2:(a.tmps.toList++Value.pointer (some ⟨b,(o'+i*sz)+k,none⟩)::[a.eval v]).toArray.getD (N+m) undef=([Value.pointer (some ⟨b,(o'+i*sz)+k,none⟩),a.eval v]:List Value).getD m undef:=by
    simp only[Array.getD_eq_getD_getElem?,List.getElem?_toArray,gDE];rw[gAR (by simp;omega)]
    simp[hsz]
   rw[e1,e2];simp at hj
   match m with
   |0=>rw[had]at U;exact U
   |1=>exact W
   |m+2=>omega
 have hnode2:sub (p++[(i,k)]) (s.den.σ.getD id' .dead)=arr true u.w (tyV u d) u.dflt xs:=by
  have:=A1 (r:=s.r) (id:=id') (p:=p++[(i,k)]) (by rw[hnode];simp)
  rw[hnode]at this;exact this
 obtain⟨X,hX⟩:∃X:V,X=.nd true true u.w len λa b=>(tyV u d (xs.getD (a+off) u.dflt)).getD b .dead:=⟨_,rfl⟩
 have hput:MV id' p i k (.rs id' (p++[(i,k)]) off len) [] s.den.σ (λcs' σ2 G2=>σ2=s.den.σ.set id' (upd (p++[(i,k)]) (s.den.σ.getD id' .dead) X)/\G2=AQ id' (p++[(i,k)])):=by
  unfold MV;simp only[hnode2,arr];rw[if_pos ⟨trivial,trivial⟩];refine⟨?_,trivial⟩;rw[hX]
 obtain⟨G2,σ2,b1,o1,ρ1,F1,⟨y,hy⟩,hfz,h1c,⟨ofs,had1,hoff⟩,hGm,⟨hσ2,hGG⟩,hns1,hcr1⟩:=H2 hcr2 (by simpa using hsz) (by show k<AT (s.r.map Af.v) id' p;rw[hnsz];omega) hput
 subst hσ2;subst hGG;simp only[Value.pointer.injEq,Option.some.injEq,Addr.mk.injEq,and_true]at had1;obtain⟨rfl,had1⟩:=had1;obtain rfl:ofs=o'+i*sz:=by omega
 have hidr:id'<s.r.length:=by simpa [St.den]using hid
 have hG:GOK (AQ id' (p++[(i,k)])) id' ((p++[(i,k)]).map (·.2)) []:=GOK.kill
 have hlen:∀Z q2,hit id' ((p++[(i,k)]).map (·.2)) [] Z q2=false->(Ai (s.r.set id' r0) Z q2).len=(Ai s.r Z q2).len:=by
  intro Z q2 hh;by_cases he:Z=id'
  .subst he
   rw[Cb hidr];refine Kx p _ _ hset q2 ?_;cases hp2:pre ((p++[(i,k)]).map (·.2)) q2 with
   |false=>rfl
   |true=>
    unfold hit at hh;rw[Nat.beq_refl,hp2]at hh;cases hh
  .rw[Bs he]
 have hsub:∀j,Sub ((s.den.σ.set id' (upd (p++[(i,k)]) (s.den.σ.getD id' .dead) X)).getD j .dead) (((s.r.set id' r0).map Af.v).getD j .dead):=λj=>by
  refine HY ?_ j;show Sub (upd (p++[(i,k)]) ((s.r.map Af.v).getD id' .dead) X) r0.v;rw[AA];refine Hn ?_ p _ _ hset;rw[hX];show Sub _ (arr true u.w (tyV u d) u.dflt (Mq off len xs u.dflt));unfold arr;have hl:(Mq off len xs u.dflt).length=len:=by simp[Mq]
  rw[hl];refine⟨_,rfl,λa2 b2 ha2 hb2=>?_⟩
  have e:(Mq off len xs u.dflt).getD a2 u.dflt=xs.getD (a2+off) u.dflt:=by
   simp[Mq,ha2,Nat.add_comm]
  rw[e];exact Sub.refl _
 have hs':AR C N (St.den ⟨λx=>(s.t x).kill id' ((p++[(i,k)]).map (·.2)) [],s.r.set id' r0⟩) a (w.setCell ⟨b,o1,none⟩ (a.eval v)):=by
  have kv:=λj=>Sl.kill_v hG hlen (s.t j)
  refine⟨hd,λj hj=>?_,D,ρ1,F1,?_⟩
  .have h2:(s.t j).v s.r=.dead:=hdd j hj
   have h1:=kv j;rw[h2,hG.m.dead]at h1;exact Ax.of_dead h1
  .have hcr3:=hcr1.left (by simpa using hsz)
   have e3:(a.tmps.toList).toArray=a.tmps:=by simp
   rw[e3]at hcr3;refine hcr3.sub (by simp[St.den]) (λj _=>hsub j) (by simp) λj hj=>?_
   have hj:j<N:=by simpa using hj
   have:=kv j;simpa [hj,St.den]using this
 have hsv:(storeVar t ⟨b,(o'+i*sz)+k,none⟩ (a.eval v)).run P w=.ok () (w.setCell ⟨b,o1,none⟩ (a.eval v)):=by
  have J:(a.eval v).cells.toList=[a.eval v]:=by
   have:=(Rel.cells1 W (λ_ _ h=>Au.one h) rfl).1
   rw[this]
  simp only[storeVar,Sem.run_bind,sizeOf,typeInfo];have e:(a.eval v).cells.size=ti.ty.w:=by rw[h1,<-Array.length_toList,J];rfl
  have ea:(⟨b,(o'+i*sz)+k,none⟩:Addr).add 0=⟨b,o1,none⟩:=by rw[AX rfl,hoff];rfl
  have hrun:(storeCells ⟨b,(o'+i*sz)+k,none⟩ (a.eval v).cells.toList 0).run P w=.ok () (w.setCell ⟨b,o1,none⟩ (a.eval v)):=by
   rw[J];simp only[storeCells,Sem.run_bind,ea];rw[run_store P w _ _ .plain hone,hy];simp only[hfz,Bool.false_eq_true,if_false];rfl
  simp[hity,his,hrun,e]
 have hex:(execOp a.eval o).run P w=.ok .skip (w.setCell ⟨b,o1,none⟩ (a.eval v)):=by
  unfold execOp;rw[ho];simp[Instr.storeAt,had,Instr.sureAddr,hsv]
 unfold Oper.wp;rw[hex,Oper.upon_skip,hdst];exact hn a _ hs'
def Cl.stay:Cl->Bool
 |.rf _ _=>false
 |.rs _ _ _ _=>false
 |.rp _ _ _ _=>false
 |_=>true
def Sl.stay:Sl->Bool
 |.one y=>y.stay
 |.new _=>true
 |.agg l=>l.all Cl.stay
 |.pk _ l=>l.all Cl.stay
 |.tup l=>l.all λp=>p.2.all Cl.stay
theorem AS{α:Type}{f:α->α}{l:List α}(h:∀y∈l,f y=y):l.map f=l:=by
 have:=List.map_congr_left h
 simp_all
theorem Sl.chk_stay(h:y.stay=true)(m:Nat):y.chk m=y:=by
 have c1:∀y:Cl,y.stay=true->y.chk m=y:=by intro y h;cases y<;>first|rfl|cases h
 cases y with
 |one y=>exact congrArg Sl.one (c1 y h)
 |new l=>rfl
 |agg l=>exact congrArg Sl.agg (AS λy e=>c1 y (aET.1 h y e))
 |pk t l=>exact congrArg (Sl.pk t) (AS λy e=>c1 y (aET.1 h y e))
 |tup l=>
  refine congrArg Sl.tup (AS λp u=>?_)
  obtain⟨b,m⟩:=p;exact congrArg (Prod.mk b) (AS λy e=>c1 y (aET.1 (aET.1 h _ u) y e))
theorem Sl.kill_stay(h:y.stay=true)(id:Nat)(ks:List Nat)(j:Mv):y.kill id ks j=y:=by
 have c1:∀y:Cl,y.stay=true->y.kill id ks j=y:=by intro y h;cases y<;>first|rfl|cases h
 cases y with
 |one y=>exact congrArg Sl.one (c1 y h)
 |new l=>rfl
 |agg l=>exact congrArg Sl.agg (AS λy e=>c1 y (aET.1 h y e))
 |pk t l=>exact congrArg (Sl.pk t) (AS λy e=>c1 y (aET.1 h y e))
 |tup l=>
  refine congrArg Sl.tup (AS λp u=>?_)
  obtain⟨b,m⟩:=p;exact congrArg (Prod.mk b) (AS λy e=>c1 y (aET.1 (aET.1 h _ u) y e))
def Af.isRo:Af->Bool
 |.obj ro _=>ro
 |.arr ro _ _ _=>ro
 |.opt ro _ _ _=>ro
 |.dead=>true
theorem LM{e:Af}{q:AZ}(h:LN r q=some e):r.isRo=false:=by
 unfold LN at h;split at h
 case h_2=>grind
 split at h
 case h_3=>grind
 .rfl
 rfl
structure Kp(g:Nat->Bool)(s s':St):Prop where
 t:∀i,g i=true->(s.t i).stay=true->s'.t i=s.t i
 r:∀id,id<s.r.length->(s.r.getD id .dead).isRo=true->s'.r.getD id .dead=s.r.getD id .dead
 l:s.r.length<=s'.r.length
def Kp.refl(g:Nat->Bool)(s:St):Kp g s s:=⟨λ_ _ _=>rfl,λ_ _ _=>rfl,Nat.le_refl _⟩
theorem Kp.trans{g1 g2:Nat->Bool}{Z:St}(u:Kp g1 s s1)(W:Kp g2 s1 Z)(U:∀i,g i=true->g1 i=true)(J:∀i,g i=true->g2 i=true):Kp g s Z:=by
 refine⟨λi hi hs=>?_,λid hl B=>?_,Nat.le_trans u.l W.l⟩
 .have e:=u.t i (U i hi) hs
  rw[W.t i (J i hi) (by grind),e]
 .have e:=u.r id hl B
  rw[W.r id (Nat.lt_of_lt_of_le hl u.l) (by grind),e]
def Kp.weak{e:Nat->Bool}(h:Kp e s s')(B:∀i,g i=true->e i=true):Kp g s s':=⟨λi u=>h.t i (B i u),h.r,h.l⟩
def AY{t:Nat->Sl}{d:Nat}(h:i≠d):AJ t d y i=t i:=by
 unfold AJ;rw[BI h];rfl
theorem O9(u:s.put h d y=some s'):(∃new,s'.r=s.r++new)/\(∀i,d≠some i->(s.t i).stay=true->s'.t i=s.t i)/\(s'.r=s.r->∀i,d≠some i->s'.t i=s.t i):=by
 unfold St.put at u;cases d with
 |none=>simp_all
 |some d=>
  simp only at u;cases W:Nat.blt d h.n with
  |false=>grind
  |true=>
   rw[W]at u;simp only[cond_true]at u;cases U:h.fz.contains d with
   |true=>
    rw[U]at u;split at u
    .cases u
     exact⟨⟨[],by simp⟩,λi B _=>AY λe=>B (by rw[e]),λ_ i B=>AY λe=>B (by rw[e])⟩
    .cases u
   |false=>
    rw[U]at u;simp only[cond_false,Option.some.injEq]at u;subst u;unfold St.add;split
    .exact⟨⟨[],by simp⟩,λi B _=>AY λe=>B (by rw[e]),λ_ i B=>AY λe=>B (by rw[e])⟩
    .rename_i q new _
     refine⟨⟨q::new,rfl⟩,λi B J=>?_,λZ=>?_⟩
     .show AJ (λi=>(s.t i).chk s.r.length) d (y.prom s.r.length).1 i=s.t i
      rw[AY (λe=>B (by rw[e]))]
      exact Sl.chk_stay J _
     grind
theorem O8(e:s.put h d y=some s'):Kp (λi=>decide (d≠some i)) s s':=by
 obtain⟨⟨new,J⟩,ht,_⟩:=O9 e;refine⟨λi B hs=>ht i (of_decide_eq_true B) hs,λid U u=>?_,by grind⟩
 grind
theorem Kd(h:r.setCell i k c=some r'):r.isRo=false:=by
 cases r with
 |dead=>cases h
 |opt=>cases h
 |obj ro l=>cases ro with
  |true=>cases h
  |false=>rfl
 |arr ro t d xs=>cases ro with
  |true=>cases h
  |false=>rfl
theorem IL(h:r.setAt p i k c=some r'):r.isRo=false:=by
 cases p with
 |nil=>exact Kd h
 |cons a p=>
  unfold Af.setAt at h;split at h
  .split at h
   .exact Kd h
   grind
  grind
theorem W0{r r':List Af}{j:Mv}(h:NQ id p i k c r=some (r',j)):∀id',(r.getD id' .dead).isRo=true->r'.getD id' .dead=r.getD id' .dead:=by
 intro id' u
 have W:∀x B y,(r.getD id .dead).setAt p i k y=some B->(r.set id x).getD id' .dead=r.getD id' .dead:=by
  intro x B y hs;have:id'≠id:=by
   rintro rfl
   rw[IL hs]at u;cases u
  simp only[gDE,List.getElem?_set_ne (Ne.symm this)]
 unfold NQ at h;split at h
 .rename_i J
  cases U:Nat.beq J id with
  |true=>rw[U]at h;cases h
  |false=>
   rw[U]at h;simp only[cond_false]at h;split at h
   case h_2=>cases h
   rename_i t d xs hj;split at h
   case h_2=>cases h
   rename_i B hs;cases h;have:id'≠J:=by rintro rfl;rw[hj]at u;cases u
   have e:((r.set id B).set J .dead).getD id' .dead=(r.set id B).getD id' .dead:=by
    simp only[gDE,List.getElem?_set_ne (Ne.symm this)]
   rw[e];exact W _ _ _ hs
 .rename_i J a q
  cases U:Nat.beq J id with
  |true=>rw[U]at h;cases h
  |false=>
   rw[U]at h;simp only[cond_false]at h;split at h
   case h_2=>cases h
   rename_i t d xs hj;split at h
   case h_2=>cases h
   rename_i r1 B Z hs;cases h;have h1:id'≠J:=by
    rintro rfl
    rw[LM Z]at u;cases u
   have h2:id'≠id:=by
    rintro rfl
    rw[IL hs]at u;cases u
   simp only[gDE,List.getElem?_set_ne (Ne.symm h2)];rcases Nat.lt_or_ge id' r.length with h3|h3
   .rw[gAL (by simpa using h3),List.getElem?_set_ne (Ne.symm h1)]
   .rw[List.getElem?_eq_none (l:=r) h3]
    by_cases h4:id'=r.length
    .subst h4
     rw[gAR (by simp)]
     simp
    .rw[List.getElem?_eq_none (by simp;omega)]
 .obtain⟨U,h⟩:=Bb h
  split at h
  case h_2=>cases h
  rename_i B hs;cases h;exact W _ _ _ hs
theorem Y7:∀(m k:Nat) (cs:List Cl) (s s':St),W1 id p i m k cs s=some s'->Kp (λ_=>true) s s':=by
 intro m
 induction m with
 |zero=>intro k cs s s' h;cases cs<;>cases h;exact Kp.refl _ _
 |succ m u=>
  intro k cs s s' h;cases cs with
  |nil=>cases h;exact Kp.refl _ _
  |cons c cs=>
   unfold W1 at h;split at h
   case h_2=>grind
   rename_i r' J e;refine Kp.trans ⟨λx _ B=>Sl.kill_stay B _ _ _,λid' _=>W0 e id',by obtain⟨_,_,_,_,_,U,_⟩:=UB e [];grind⟩ (u _ _ _ _ h) (λ_ _=>rfl) λ_ _=>rfl
theorem Uw(h:Iq s ti x v=some s'):Kp (λ_=>true) s s':=by
 unfold Iq at h;split at h
 case h_2=>grind
 split at h
 case h_2=>grind
 rename_i ti id p i k y _ l u;cases e:(Nat.beq l.length ti.ty.w&&Nat.ble (k+ti.ty.w) (Ai s.r id p).w&&(Ai s.r id p).live)with
 |false=>grind
 |true=>rw[e]at h;exact Y7 _ _ _ _ _ h
theorem W3(h:UC s ti x v=some A):Kp (λ_=>true) s A.s:=by
 unfold UC at h;split at h
 case h_2=>cases h
 rename_i ti id p i k id' q off len;cases W:(Nat.beq id' id&&Nat.beq ti.ty.w 1&&Nat.ble (k+1) (Ai s.r id p).w&&(Ai s.r id p).live)with
 |false=>grind
 |true=>
 rw[W]at h;split at h
 case h_2=>cases h
 split at h
 case h_2=>cases h
 split at h
 case h_2=>cases h
 rename_i Z e;cases h;refine⟨λj _ J=>Sl.kill_stay J _ _ _,λu U B=>?_,by simp⟩
 have:u≠id:=by
  rintro rfl
  rw[IL e]at B;grind
 grind
theorem Sl.kH_stay(h:y.stay=true)(r:List Af)(j:Nat):y.kH r j=y:=by
 cases y with
 |one c=>
  cases c with
  |rf=>cases h
  |rs=>cases h
  |rp=>cases h
  |_=>rfl
 |new=>rfl
 |agg=>exact Sl.kill_stay h j [] []
 |tup=>exact Sl.kill_stay h j [] []
 |pk=>exact Sl.kill_stay h j [] []
theorem KF:∀(js:List Nat) (s:St),(∀j∈js,(s.r.getD j .dead).isRo=false\/s.r.getD j .dead=.dead)->Kp (λ_=>true) s (Ap js s)
 |[],s,_=>Kp.refl _ _
 |j::js,s,h=>by
  have W:Kp (λ_=>true) s (HL j s):=by
   refine⟨λi _ B=>Sl.kH_stay B _ _,λid u U=>?_,by rw[JG];simp⟩
   by_cases e:j=id
   .subst e
    rcases h j (List.mem_cons_self ..)with h2|h2
    .grind
    .show(s.r.set j .dead).getD j .dead=_
     rw[h2];simp[u]
   .exact N0 e
  refine W.trans (KF js (HL j s) λi B=>?_) (λ_ _=>rfl) λ_ _=>rfl
  by_cases J:i=j
  .subst J
   right;show(s.r.set i .dead).getD i .dead=.dead
   grind
  .have:(HL j s).r.getD i .dead=s.r.getD i .dead:=N0 (Ne.symm J)
   grind
def JF(js:List Nat)(s:St)(h:∀j∈js,(s.r.getD j .dead).isRo=false):Kp (λ_=>true) s (Ap js s):=KF js s λj e=>.inl (h j e)
def Sl.gv_stay(h:y.stay=true)(r:List Af)(j:Nat)(z:Cl):y.gv r j z=y:=by
 unfold Sl.gv;split
 .cases h
 .exact Sl.kH_stay h r j
theorem XE{j:Nat}(h:VT j s=some s'):Kp (λ_=>true) s s':=by
 obtain⟨l,t,x,W,B,Z,rfl⟩:=Kz h;refine⟨λi _ U=>Sl.gv_stay U _ _ _,λid J u=>N0 λe=>?_,by simp⟩
 rw[<-e,B]at u
 trivial
def IV:∀(xs:List Operand) {s s':St},Nj xs s=some s'->Kp (λ_=>true) s s'
 |[],s,s',h=>by cases h;exact Kp.refl _ _
 |x::xs,s,s',h=>by
  unfold Nj at h;split at h
  .split at h
   case h_2=>grind
   rename_i e;exact(XE e).trans (IV xs h) (λ_ _=>rfl) λ_ _=>rfl
  .exact IV xs h
theorem Sl.mapC_stay(h:y.stay=true)(id:Nat)(q:AZ)(m:Nat):y.mapC (Cl.rr id q m)=y:=by
 have c1:∀y:Cl,y.stay=true->y.rr id q m=y:=by intro y h;cases y<;>first|rfl|cases h
 cases y with
 |one y=>exact congrArg Sl.one (c1 y h)
 |new l=>rfl
 |agg l=>exact congrArg Sl.agg (AS λy e=>c1 y (aET.1 h y e))
 |pk t l=>exact congrArg (Sl.pk t) (AS λy e=>c1 y (aET.1 h y e))
 |tup l=>
  refine congrArg Sl.tup (AS λp u=>?_)
  obtain⟨b,m⟩:=p;exact congrArg (Prod.mk b) (AS λy e=>c1 y (aET.1 (aET.1 h _ u) y e))
theorem LJ(h:YF s x=some s'):Kp (λ_=>true) s s':=by
 unfold YF at h;split at h
 case h_2=>cases h;exact Kp.refl _ _
 rename_i id b J
 have U:∀(u R:Af),LN (s.r.getD id .dead) (b::J)=some u->Kp (λ_=>true) s ⟨λi=>(s.t i).mapC (Cl.rr id (b::J) s.r.length),s.r.set id u++[R]⟩:=by
  intro u R e;refine⟨λi _ hi=>Sl.mapC_stay hi _ _ _,λid' Z B=>?_,by simp⟩
  have W:id'≠id:=by
   rintro rfl
   rw[LM e]at B;grind
  grind
 split at h
 case h_2=>cases h;exact Kp.refl _ _
 grind
theorem Sl.mapK_stay(h:y.stay=true)(id:Nat)(q:AZ)(m:Nat):y.mapC (Cl.rk id q m)=y:=by
 have c1:∀y:Cl,y.stay=true->y.rk id q m=y:=by intro y h;cases y<;>first|rfl|cases h
 cases y with
 |one y=>exact congrArg Sl.one (c1 y h)
 |new l=>rfl
 |agg l=>exact congrArg Sl.agg (AS λy e=>c1 y (aET.1 h y e))
 |pk t l=>exact congrArg (Sl.pk t) (AS λy e=>c1 y (aET.1 h y e))
 |tup l=>
  refine congrArg Sl.tup (AS λp u=>?_)
  obtain⟨b,m⟩:=p;exact congrArg (Prod.mk b) (AS λy e=>c1 y (aET.1 (aET.1 h _ u) y e))
theorem Aao{x:Operand}(h:cutO s x=some s'):Kp (λ_=>true) s s':=by
 unfold cutO at h;split at h
 case h_2=>exact LJ h
 rename_i y;split at h
 case h_2=>exact LJ h
 rename_i id b q1 U;split at h
 case h_2=>exact LJ h
 rename_i r1 t d v u hn;cases h;refine⟨λi _ J=>?_,λid' Z B=>?_,by simp⟩
 .show(bif Nat.beq i y then Sl.one (.rf s.r.length [])else(s.t i).mapC _)=s.t i
  cases he:Nat.beq i y with
  |false=>exact Sl.mapK_stay J _ _ _
  |true=>
   have e:=bqE he;subst e;rw[U]at J;trivial
 .have W:id'≠id:=by
   rintro rfl
   rw[LM u]at B;grind
  grind
theorem OG{t:Ty}{y:Option Sl}{d:Nat}{ys:List t.T}{js:List Nat}(h:QX s t id y=some (d,ys,js)):∀j∈js,(s.r.getD j .dead).isRo=false:=by
 replace h:=(Wk h).1
 unfold QW at h;split at h
 case h_4=>cases h
 .grind
 .rename_i j q
  split at h
  case h_2=>cases h
  rename_i ro U Z e u;split at h
  case isFalse=>cases h
  cases J:Nat.beq j id with
  |true=>rw[J]at h;cases h
  |false=>
   rw[J]at h;simp only[cond_false]at h;cases hd:Nat.beq t.dep 0 with
   |true=>rw[hd]at h;cases h;intro j W;cases W
   |false=>
    rw[hd]at h;simp only[cond_false]at h;split at h
    case h_2=>cases h
    cases ro with
    |true=>cases h
    |false=>
     cases h;intro i B;simp at B;subst B;have u:s.r.getD i .dead=.arr false U d e:=u;rw[u];rfl
 grind
theorem Qa{i:Option TI}{y:Option Sl}{A:LR}(h:I9 s i x y=some A):∀j∈A.js,(s.r.getD j .dead).isRo=false:=by
 unfold I9 at h;split at h
 .cases h
 rename_i ti;obtain⟨Z,h⟩:=Bb h;split at h
 case h_3=>cases h
 .split at h
  case h_2=>cases h
  rename_i e;cases h;exact OG e
 .split at h
  case h_2=>cases h
  rename_i W d xs J;split at h
  case isFalse=>cases h
  rename_i B;subst B;split at h
  case h_2=>cases h
  rename_i d' ys js e;obtain⟨U,h⟩:=Bb h;cases h;intro j u;rcases List.mem_cons.1 u with rfl|u
  .rw[J];rfl
  .exact OG e j u
theorem Ze(wr:∀{l m:List Cl}{js:List (Option Nat)},K2 s.r l=some (m,js)->∀j∈QC js,(s.r.getD j .dead).isRo=false){n:Nat}{ps:List (Nat×Option Sl)}{i:Option TI}{A:LR}(h:tBSM s n ps i=some A):∀j∈A.js,(s.r.getD j .dead).isRo=false:=by
 unfold tBSM at h;split at h
 case h_2=>grind
 grind
def KZ{r:List Af}:∀{l m:List Cl}{js:List (Option Nat)},K2 r l=some (m,js)->∀j∈QC js,(r.getD j .dead).isRo=false
 |[],m,js,h=>by cases h;intro j u;cases u
 |y::l,m,js,h=>by
  unfold K2 at h;split at h
  .rename_i B;cases B
  .rename_i id Z B
   cases B;split at h
   case h_2=>cases h
   rename_i t d xs e;split at h
   case h_2=>cases h
   rename_i W J U;cases h;intro j u;rcases List.mem_cons.1 u with rfl|u
   .rw[e];rfl
   .exact KZ U j u
  .rename_i y' Z hne B
   cases B;cases hi:y.imm with
   |false=>grind
   |true=>
    rw[hi]at h;split at h
    case h_2=>cases h
    rename_i W J U;cases h;exact λj u=>KZ (l:=l) U j u
def UI{Γ:List EnW}{f:FuncId}{xs:List (Option Sl)}{A:Wx}{u:A.α}(e:Ml Γ s f xs=some A)(B:A.st u=some s1):Kp (λ_=>true) s s1:=by
 unfold Ml at e;cases e
def AaK:List Operand->St->Option St
 |[],s=>some s
 |x::xs,s=>match cutO s x with
  |some s'=>AaK xs s'
  |none=>none
def V7{C:Ctx}{N:Nat}{a:Act}{w:World}:∀(xs:List Operand) {s s':St},AaK xs s=some s'->AR C N s.den a w->AR C N s'.den a w
 |[],s,s',h,hs=>by cases h;grind
 |x::xs,s,s',h,hs=>by
  unfold AaK at h;split at h
  case h_2=>grind
  rename_i e;exact V7 xs h (Aan e hs)
def V8:∀(xs:List Operand) {s s':St},AaK xs s=some s'->Kp (λ_=>true) s s'
 |[],s,s',h=>by cases h;exact Kp.refl _ _
 |x::xs,s,s',h=>by
  unfold AaK at h;split at h
  case h_2=>grind
  rename_i e;exact(Aao e).trans (V8 xs h) (λ_ _=>rfl) λ_ _=>rfl
end Go.Ve


namespace Go.Ve
variable{r:List Af}{Y:List Nat}{m:Nat}{p:Nat×Nat}{y:Sl}{s s1:St}
def backs:List (Nat×Nat)->Ms->Ms
 |[],S=>S
 |p::B,S=>backs B ⟨AI S.t p.1 (Kh p.2 (S.t p.1)),S.σ.set p.2 (S.t p.1)⟩
def J1(v:V):Prop:=∃s sz n f,v=.nd s true sz n f/\(s=false->0<sz/\n=1)
def PR.backs{C:Ctx}{N:Nat}{a:Act}{w:World}{D:Nat->Prop}{ρ:Nat->Value}:∀(B:List (Nat×Nat)) (t:Nat->V) (σ:List V) (F:Nat->Nat->Prop) (T:Nat->Nat->Prop),PR C N σ ρ F t a w D T->
  (B.map (·.1)).Nodup->(B.map (·.2)).Nodup->(∀p∈B,p.1<N/\p.2<σ.length/\σ.getD p.2 .dead=.dead/\a.tmps.getD p.1 undef=ρ p.2/\J1 (t p.1))->
  ∃F' T',PR C N (Go.Ve.backs B ⟨t,σ⟩).σ ρ F' (Go.Ve.backs B ⟨t,σ⟩).t a w D T'/\∀x b,T' x b->T x b/\x∉B.map (·.1)
 |[],t,σ,F,T,h,_,_,_=>⟨F,T,h,λx b u=>⟨u,by simp⟩⟩
 |p::B,t,σ,F,T,h,hn1,hn2,hB=>by
  obtain⟨h1,h2,h3,h4,s,sz,n,f,h5,Z⟩:=hB p (List.mem_cons_self ..);have u:=h.back2 h1 h2 h3 h5 Z h4;rw[List.map_cons,List.nodup_cons]at hn1 hn2;obtain⟨F',T',U,W⟩:=PR.backs B _ _ _ _ u hn1.2 hn2.2 λq J=>by
   obtain⟨g1,g2,g3,g4,g5⟩:=hB q (mCM _ J);have e1:q.1≠p.1:=λe=>hn1.1 (e▸List.mem_map.2 ⟨q,J,rfl⟩)
   have e2:q.2≠p.2:=λe=>hn2.1 (e▸List.mem_map.2 ⟨q,J,rfl⟩)
   refine⟨g1,by simpa using g2,?_,g4,?_⟩
   .refine Eq.trans ?_ g3
    simp only[gDE];rw[List.getElem?_set_ne (Ne.symm e2)]
   .simp[AI,e1,if_false]
    exact g5
  refine⟨F',T',U,λx b u=>?_⟩
  obtain⟨k1,k2⟩:=W x b u;refine⟨k1.2,?_⟩;rw[List.map_cons,List.mem_cons];exact λh=>h.elim k1.1 k2
def Ys:List Cl->Nat
 |[]=>0
 |.c t d _::l=>bif Nat.ble (NF d t.dep) (Ys l)then Ys l else NF d t.dep
 |_::l=>Ys l
def UV(D:Nat):Cl->Bool
 |.c t d _=>Nat.beq (NF d t.dep) (NF D t.dep)
 |_=>false
theorem Aai(D:Nat):∀(l:List Cl) (y:Dy),Ha l=some y->l.all (UV D)=true->tyV y.t D y.x=l.map Cl.v0:=by
 intro l
 induction l with
 |nil=>intro y h _;cases h;rfl
 |cons a l U=>
  intro y h hs;rw[List.all_cons,bAE]at hs;unfold Ha at h;split at h
  case h_2=>cases h
  rename_i t d x;have e:=bqE hs.1;rw[H9,H9]at e;obtain⟨W,h⟩:=Bb h;have u:[cV t d x]=tyV t D x:=by rw[BM W,KO e]
  split at h
  .cases h
   exact u.symm
  .rename_i b l'
   split at h
   case h_2=>cases h
   rename_i J B Z;cases h;show tyV t D x++tyV J D B=cV t d x::_;rw[U _ Z hs.2,<-u];rfl
def Cm(s:St)(y:Nat):Option Nat:=match s.t y with
 |.one (.rf id [])=>match s.r.getD id .dead with
  |.arr false _ _ _=>some id
  |_=>none
 |.one (.rp id [] 0 0)=>match s.r.getD id .dead with
  |.obj false l=>match Ha l with
   |some _=>bif l.all (UV (Ys l))&& !Nat.beq l.length 0 then some id else none
   |none=>none
  |_=>none
 |_=>none
def Yk(s:St)(y:Nat):Sl:=match s.t y with
 |.one (.rf id [])=>match s.r.getD id .dead with
  |.arr false t d xs=>.one (.c (.sl t) (d+1) xs)
  |_=>.one .dead
 |.one (.rp id [] 0 0)=>match s.r.getD id .dead with
  |.obj false l=>match Ha l with
   |some ⟨t,x⟩=>.one (.c (.ptr t) (Ys l+1) x)
   |none=>.one .dead
  |_=>.one .dead
 |_=>.one .dead
def QE(s:St):List Nat->Option (List Nat)
 |[]=>some []
 |y::l=>match Cm s y with
  |some id=>match QE s l with
   |some m=>some (id::m)
   |none=>none
  |none=>none
def ndB:List Nat->Bool
 |[]=>true
 |a::l=>!l.contains a&&ndB l
def JH(Y:List Nat)(s:St):Option St:=match Y with
 |[]=>some s
 |Y=>match QE s Y with
  |some e=>bif ndB e then some ⟨λi=>bif Y.contains i then Yk s i else(Ap e s).t i,(Ap e s).r⟩else none
  |none=>none
theorem XG{c:Cl}(h:c.own=false):frz c.v0=c.v0:=by
 cases c with
 |c t d x=>
  cases t with
  |int k=>rfl
  |bool=>rfl
  |str=>rfl
  |unit=>rfl
  |pair a b=>rfl
  |sl t=>cases d with
   |zero=>exact List.singleton_inj.1 (Bl (.sl t) 0 x)
   |succ d=>cases h
  |ptr t=>cases d with
   |zero=>exact List.singleton_inj.1 (Bl (.ptr t) 0 x)
   |succ d=>cases h
  |clo g t=>exact List.singleton_inj.1 (Bl (.clo g t) 0 x)
  |osl t=>cases d with
   |zero=>exact List.singleton_inj.1 (Bl (.osl t) 0 x)
   |succ d=>cases x with
    |none=>rfl
    |some y=>cases h
 |_=>rfl
theorem Ch{y id:Nat}(h:Cm s y=some id):(s.r.getD id .dead).isRo=false/\(s.t y).stay=false/\J1 (s.r.getD id .dead).v/\(∀r,(Yk s y).v r=(s.r.getD id .dead).v)/\(s.t y).v s.r=Kh id (s.r.getD id .dead).v:=by
 unfold Cm at h;split at h
 case h_3=>cases h
 .rename_i id' u
  split at h
  case h_2=>cases h
  rename_i t d xs B;cases h;rw[B];refine⟨rfl,by rw[u];rfl,⟨true,_,_,_,rfl,λh=>by cases h⟩,λr=>?_,?_⟩
  .unfold Yk
   rw[u];simp only[B];show arr (decide (0<d+1)) t.w (tyV t (d+1-1)) t.dflt xs=arr true t.w (tyV t d) t.dflt xs;simp
  .rw[u]
   show V.rs id [] 0 (Ai s.r id []).len=_
   have:(Ai s.r id []).len=xs.length:=by
    show(s.r.getD id .dead).len=_;rw[B];rfl
   rw[this];rfl
 .rename_i id' u
  split at h
  case h_2=>cases h
  rename_i l B;split at h
  case h_2=>cases h
  rename_i D U;obtain⟨J,h⟩:=Bb h;cases h;rw[bAE,Bool.not_eq_true']at J;have W:0<l.length:=by
   rcases Nat.eq_zero_or_pos l.length with e|e
   .rw[e]at J;cases J.2
   .exact e
  rw[B];refine⟨rfl,by rw[u];rfl,⟨false,_,_,_,rfl,λ_=>⟨by simpa using W,rfl⟩⟩,λr=>?_,?_⟩
  .obtain⟨t,x⟩:=D
   unfold Yk;rw[u];simp only[B,U];show Bj (decide (0<Ys l+1)) (tyV t (Ys l+1-1) x)=Bj true (l.map Cl.v0);have Z:tyV t (Ys l) x=l.map Cl.v0:=Aai _ _ _ U J.1;rw[Nat.add_sub_cancel,Z,dT (Nat.succ_pos _)]
  .rw[u];rfl
theorem JA{s:St}:∀{Y e:List Nat},QE s Y=some e->(∀y∈Y,∃id∈e,Cm s y=some id)/\(∀id∈e,∃y∈Y,Cm s y=some id)
 |[],e,h=>by cases h;simp
 |y::Y,e,h=>by
  unfold QE at h;split at h
  case h_2=>grind
  split at h
  case h_2=>grind
  rename_i m u;obtain⟨J,B⟩:=JA u
  grind
theorem Vv{s:St}:∀{Y e:List Nat},QE s Y=some e->ndB e=true->∀x∈Y,∀y∈Y,∀id,Cm s x=some id->Cm s y=some id->x=y
 |[],_,_,_,x,hx,_,_,_,_,_=>by cases hx
 |z::Y,e,h,J,x,hx,y,hy,id,h1,h2=>by
  unfold QE at h;split at h
  case h_2=>cases h
  rename_i B hid;split at h
  case h_2=>cases h
  rename_i m W;cases h;have J:(!m.contains B&&ndB m)=true:=J;rw[bAE,Bool.not_eq_true']at J;have out:∀u∈Y,Cm s u≠some B:=by
   intro u Z he;obtain⟨i,hi,hi2⟩:=(JA W).1 u Z
   grind
  by_cases ex:x=z
  .grind
  .have U:x∈Y:=(List.mem_cons.1 hx).resolve_left ex
   by_cases ey:y=z
   .grind
   .exact Vv W J.2 x U y ((List.mem_cons.1 hy).resolve_left ey) id h1 h2
theorem Nt{C:Ctx}{N:Nat}{a:Act}{w:World}(h:JH Y s=some s1)(hs:AR C N s.den a w){w':World}(hB:Below w.heap.size w w'):
  ∃D ρ F T,PR C N s1.den.σ ρ F s1.den.t a w' D T/\(∀x b,T x b->x∈Y)/\∀x id,x<N->Cm s x=some id->a.tmps.getD x undef=ρ id:=by
 obtain⟨hdf,hdd,D0,ρ0,F0,hcr0⟩:=hs;obtain⟨D,ρ,F,B⟩:=hcr0.below hB;have hsz:a.tmps.size=N:=by simpa using B.sz
 have base:∀{s1:St}{F1:Nat->Nat->Prop},CR C s1.den.σ ((List.range N).map s1.den.t) a.tmps w' D ρ F1->(∀x,N<=x->s1.den.t x=.dead)->PR C N s1.den.σ ρ F1 s1.den.t a w' D (λ_=>noF):=by
  intro s1 F1 hc hd;refine⟨hdf,hsz,hd,hc.wr,λx Z=>?_,λ_ _ h=>h.elim,λ_ _ _ _ h=>h,λ_ _ _ _ h=>h.elim,λ_ _ h=>h.elim,hc.fr,hc.Fn,hc.D1,hc.D2,hc.rt,hc.ml,λ_ _ _ h=>h⟩
  have h1:=hc.tm x (by simpa using Z)
  rw[AV Z]at h1;exact h1
 have hval:∀x id,x<N->Cm s x=some id->a.tmps.getD x undef=ρ id:=by
  intro x id Z hid;obtain⟨g1,g2,⟨s0,sz0,n0,f0,g3,g4⟩,g5,g6⟩:=Ch hid;have hr:=B.tm x (by simpa using Z)
  rw[AV Z]at hr;have e0:s.den.t x=Kh id (s.r.getD id .dead).v:=g6;rw[e0]at hr;have e3:s.den.σ.getD id .dead=(s.r.getD id .dead).v:=AA _ _;have hlt:id<s.r.length:=by
   rcases Nat.lt_or_ge id s.r.length with h|h
   .exact h
   .rw[gDE,List.getElem?_eq_none h]at g1;cases g1
  have J:=B.wr.rel id (by simpa [St.den]using hlt)
  rw[e3]at J;exact U3 g3 g4 (by rw[e3]) J hr
 unfold JH at h;split at h
 .cases h
  exact⟨D,ρ,F,λ_=>noF,base B hdd,λ_ _ h=>h.elim,hval⟩
 split at h
 case h_2=>cases h
 rename_i U hids;obtain⟨hn,h⟩:=Bb h;cases h;obtain⟨v1,v2⟩:=JA hids;have hlt:∀j∈U,j<s.r.length:=by
  intro j hj;obtain⟨y,_,hy⟩:=v2 j hj;have hr:=(Ch hy).1;rcases Nat.lt_or_ge j s.r.length with h|h
  .exact h
  .rw[gDE,List.getElem?_eq_none h]at hr;cases hr
 obtain⟨F1,hcr1,hF1⟩:=CJ U B hlt;have hp:=base (s1:=Ap U s) hcr1 (BZ U hdd);have hYN:∀y∈Y,y<N:=by
  intro y hy;obtain⟨id,_,hi⟩:=v1 y hy;obtain⟨_,_,⟨s0,_,_,_,h1,_⟩,_,h2⟩:=Ch hi;rcases Nat.lt_or_ge y N with h|h
  .exact h
  .have:=hdd y h
   have e:(s.t y).v s.r=.dead:=this;rw[h2,h1]at e;cases s0<;>cases e
 have hnot:∀{x:Nat},x∉Y->Y.contains x=false:=by
  intro x Z;cases hc:Y.contains x with
  |false=>rfl
  |true=>exact absurd (by simpa using hc) Z
 refine⟨D,ρ,F1,λx b=>x∈Y/\∃id,Cm s x=some id/\F id b,⟨hdf,hsz,λx Z=>?_,hp.wr,λx Z=>?_,λx b W=>?_,λi x b W hT=>?_,λx y b hxy h1 h2=>?_,λx b W=>?_,hp.fr,hp.Fn,hp.D1,hp.D2,hp.rt,hp.ml,λx b Z W=>?_⟩,λx b W=>W.1,hval⟩
 .have u:x∉Y:=λh=>absurd (hYN x h) (Nat.not_lt.2 Z)
  show(bif Y.contains x then Yk s x else(Ap U s).t x).v _=.dead;rw[hnot u];exact BZ U hdd x Z
 .by_cases u:x∈Y
  .obtain⟨id,hi,hid⟩:=v1 x u
   obtain⟨g1,g2,⟨s0,sz0,n0,f0,g3,g4⟩,g5,g6⟩:=Ch hid;have hc:Y.contains x=true:=by simpa using u
   show Rel D _ _ ((bif Y.contains x then Yk s x else(Ap U s).t x).v _) (a.tmps.getD x undef) _;rw[hc,cond_true,g5];have hr:=B.tm x (by simpa using Z)
   rw[AV Z]at hr;have e0:s.den.t x=Kh id (s.r.getD id .dead).v:=g6;rw[e0]at hr;have e3:s.den.σ.getD id .dead=(s.r.getD id .dead).v:=AA _ _;have J:=B.wr.rel id (by simpa [St.den]using hlt id hi)
   rw[e3]at J;have ecv:a.tmps.getD x undef=ρ id:=U3 g3 g4 (by rw[e3]) J hr
   rw[ecv];refine Rel.fp_congr (λb=>⟨λW=>⟨u,id,hid,W⟩,fun⟨_,i,hi,W⟩=>?_⟩) (Rel.noR_mono J)
   rw[hid]at hi;cases hi;exact W
  .show Rel D _ _ ((bif Y.contains x then Yk s x else(Ap U s).t x).v _) (a.tmps.getD x undef) _
   rw[hnot u,cond_false];exact Rel.fp_congr (λb=>⟨λh=>h.elim,λh=>absurd h.1 u⟩) (hp.tm x Z)
 .obtain⟨_,id,_,W⟩:=W
  exact B.wr.dD id b W
 .obtain⟨u,id,hid,hb2⟩:=hT
  obtain⟨g1,g2⟩:=hF1 i b W;obtain⟨id',hi',he⟩:=v1 x u;rw[hid]at he;cases he;exact B.wr.disj i id b (λe=>g2 (e▸hi')) g1 hb2
 .obtain⟨u,id1,hid1,hb1⟩:=h1
  obtain⟨hyY,id2,hid2,hb2⟩:=h2;by_cases e:id1=id2
  .subst e
   exact hxy (Vv hids hn x u y hyY id1 hid1 hid2)
  .exact B.wr.disj id1 id2 b e hb1 hb2
 .obtain⟨_,id,_,W⟩:=W
  exact B.Fn id b W
 .exact absurd (hYN x W.1) (Nat.not_lt.2 Z)
theorem Nu(h:JH Y s=some s1):Kp (λ_=>true) s s1:=by
 unfold JH at h;split at h
 .cases h;exact Kp.refl _ _
 split at h
 case h_2=>grind
 rename_i e u;cases hn:ndB e with
 |false=>grind
 |true=>
 rw[hn]at h;cases h;obtain⟨W,U⟩:=JA u;have B:=JF e s λj hj=>by
  obtain⟨y,_,Z⟩:=U j hj;exact(Ch Z).1
 refine⟨λi hi hs=>?_,B.r,B.l⟩
 have hiY:i∉Y:=by
  intro h;obtain⟨id,_,J⟩:=W i h;rw[(Ch J).2.1]at hs;grind
 show(bif Y.contains i then Yk s i else(Ap e s).t i)=s.t i;have hc:Y.contains i=false:=by
  grind
 rw[hc];exact B.t i hi hs
def St.promA:List (Option Nat)->St->St
 |[],s=>s
 |none::ds,s=>St.promA ds s
 |some d::ds,s=>bif(s.t d).own then St.promA ds (s.add d ((s.t d).prom s.r.length))else St.promA ds s
theorem Ax.trans:∀{v v' e:V},Ax v v'->Ax v' e->Ax v e:=by
 have dd:∀e,Ax .dead e->e=.dead:=by
  intro e h;rcases h with h|h
  .exact h
  trivial
 intro v
 induction v with
 |many t n f J=>
  intro v' e h u;rcases h with rfl|⟨g,rfl,h⟩
  .rw[dd _ u];exact Ax.dead _
  .rcases u with rfl|⟨W,rfl,u⟩
   .exact Ax.dead _
   .exact .inr ⟨W,rfl,λk B=>J k (h k B) (u k B)⟩
 |c v=>
  intro v' e h u;rcases h with rfl|h
  .rw[dd _ u];exact Ax.dead _
  .rcases h with rfl|⟨rfl,own,sz,f,rfl⟩
   .grind
   .rcases u with rfl|u
    .exact Ax.dead _
    .exact .inr (Sub.trans (.inr ⟨rfl,own,sz,f,rfl⟩) u)
 |dead=>grind
 |nd s own sz n f _=>
  intro v' e h u;rcases h with rfl|h
  .rw[dd _ u];exact Ax.dead _
  .have U:=h
   obtain⟨g,rfl,_⟩:=h;rcases u with rfl|u
   .exact Ax.dead _
   .exact .inr (Sub.trans U u)
 |rs id p off len=>
  intro v' e h u;rcases h with rfl|h
  .rw[dd _ u];exact Ax.dead _
  .subst h
   grind
 |rp id p i k=>
  intro v' e h u;rcases h with rfl|h
  .rw[dd _ u];exact Ax.dead _
  .subst h
   exact u
structure XY(ds:List (Option Nat))(S:Ms)(s:St):Prop where
 σ:S.σ=s.den.σ
 t:∀i,Ax (S.t i) (s.den.t i)
 o:∀i,some i∈ds->((s.t i).own=true->(s.t i).stay=true)/\(S.t i=s.den.t i\/((s.t i).own=false/\AL (S.t i)=false))
theorem OV(h:y.stay=true)(r r':List Af):y.v r=y.v r':=by
 have c1:∀y:Cl,y.stay=true->y.v r=y.v r':=by intro y h;cases y<;>first|rfl|cases h
 have cl:∀l:List Cl,l.all Cl.stay=true->l.map (Cl.v r)=l.map (Cl.v r'):=λl h=>List.map_congr_left λy e=>c1 y (aET.1 h y e)
 cases y with
 |one y=>exact c1 y h
 |new l=>rfl
 |agg l=>exact congrArg An (cl l h)
 |pk t l=>exact congrArg (pkL t) (cl l h)
 |tup l=>
  refine congrArg Do (List.map_congr_left λp u=>?_)
  rw[cl p.2 (aET.1 h p u)]
theorem ZF(y:Sl)(m:Nat):(y.chk m).own=y.own:=by
 have c1:∀y:Cl,(y.chk m).own=y.own:=by
  intro y;cases y with
  |rf id p=>show(bif Nat.blt id m then Cl.rf id p else .dead).own=_;cases Nat.blt id m<;>rfl
  |rs id p a b=>show(bif Nat.blt id m then Cl.rs id p a b else .dead).own=_;cases Nat.blt id m<;>rfl
  |rp id p a b=>show(bif Nat.blt id m then Cl.rp id p a b else .dead).own=_;cases Nat.blt id m<;>rfl
  |_=>rfl
 have cl:∀l:List Cl,(l.map (Cl.chk m)).any Cl.own=l.any Cl.own:=by
  grind
 cases y with
 |one y=>exact c1 y
 |new l=>rfl
 |agg l=>exact cl l
 |pk t l=>exact cl l
 |tup l=>
  show(l.map _).any _=l.any _;rw[List.any_map]
  congr 1
  funext p
  obtain⟨b,l⟩:=p;cases b with
  |true=>grind
  |false=>
   cases l with
   |nil=>rfl
   |cons y l=>exact c1 y
theorem N6:AL ((y.prom m).1.v r)=false:=by
 have B:∀(e m:Nat) (y:Cl),((y.prom e m).1).own=false:=by
  intro e m y;cases y with
  |c t d x=>cases t<;>cases d<;>first|rfl|(cases x<;>rfl)|(show(bif Nat.blt 0 _ then(Cl.rp m [] 0 0,_)else(Cl.dead,_)).1.own=false;cases Nat.blt 0 _<;>rfl)
  |rf id p=>show(bif Nat.blt id e then Cl.rf id p else .dead).own=_;cases Nat.blt id e<;>rfl
  |rs id p a b=>show(bif Nat.blt id e then Cl.rs id p a b else .dead).own=_;cases Nat.blt id e<;>rfl
  |rp id p a b=>show(bif Nat.blt id e then Cl.rp id p a b else .dead).own=_;cases Nat.blt id e<;>rfl
  |_=>rfl
 have u:∀(e:Nat) (l:List Cl) (m:Nat),((B3 e m l).1).any Cl.own=false:=by
  intro e l
  induction l with
  |nil=>intro m;rfl
  |cons y l J=>intro m;show(((y.prom e m).1).own||((B3 e _ l).1).any Cl.own)=false;rw[B,J];rfl
 have U:∀(e:Nat) (l:List (Bool×List Cl)) (m:Nat),((Dm e m l).1).any (λp=>if p.1 then p.2.any Cl.own else(p.2.getD 0 .dead).own)=false:=by
  intro e l
  induction l with
  |nil=>intro m;rfl
  |cons p l J=>
   intro m;show((if(H4 e m p).1.1 then(H4 e m p).1.2.any Cl.own else((H4 e m p).1.2.getD 0 .dead).own)||((Dm e _ l).1).any _)=false
   rw[J,Bool.or_false];obtain⟨b,l⟩:=p;cases b with
   |true=>exact u e l m
   |false=>exact B e m _
 rw[Sl.own_v];cases y with
 |one y=>exact B m m y
 |new l=>show(bif Nat.blt 0 l.length then(Sl.one (.rp m [] 0 0),[Af.obj false l])else(.one .dead,[])).1.own=false;cases Nat.blt 0 l.length<;>rfl
 |agg l=>exact u m l m
 |pk t l=>exact u m l m
 |tup l=>exact U m l m
theorem pn:∀(v:V) (m:Nat),AL (Go.Ve.prom v m).1=false:=by
 have B:∀(g:Nat->Nat->V×List V),(∀k m,AL (g k m).1=false)->∀n m,∀x∈(BN g n m).1,AL x=false:=by
  intro g J n m
  induction n with
  |zero=>intro x e;cases e
  |succ n u=>
   intro x e;unfold BN at e
   grind
 intro v
 induction v with
 |many t n f u=>
  intro m;show((List.range n).any λk=>AL ((BN (λk=>Go.Ve.prom (f k)) n m).1.getD k .dead))=false
  rw[List.any_eq_false];intro k _;have h:=B (λk=>Go.Ve.prom (f k)) (λk m=>u k m) n m
  rw[gDE];cases e:(BN (λk=>Go.Ve.prom (f k)) n m).1[k]? with
  |none=>trivial
  |some x=>grind
 |nd s own sz n f _=>
  intro m;cases own with
  |false=>cases s<;>rfl
  |true=>cases s with
   |true=>rfl
   |false=>
    show AL (if 0<sz then(V.rp m [] 0 0,[V.nd false true sz n f])else(.dead,[])).1=false
    split<;>rfl
 |_=>intro m;rfl
theorem Jn:∀(ds:List (Option Nat)) (S:Ms) (s:St),XY ds S s->(∀i,Ax ((Go.Ve.promA ds S).t i) ((s.promA ds).den.t i))/\(Go.Ve.promA ds S).σ=(s.promA ds).den.σ:=by
 intro ds
 induction ds with
 |nil=>intro S s h;exact⟨h.t,h.σ⟩
 |cons d ds ih=>
  intro S s h;have B:∀i,some i∈ds->some i∈d::ds:=λi Z=>mCM _ Z
  cases d with
  |none=>exact ih S s ⟨h.σ,h.t,λi Z=>h.o i (B i Z)⟩
  |some d=>
   show(∀i,Ax ((if AL (S.t d)then Go.Ve.promA ds ⟨AI S.t d (Go.Ve.prom (S.t d) S.σ.length).1,S.σ++(Go.Ve.prom (S.t d) S.σ.length).2⟩else Go.Ve.promA ds S).t i) ((bif(s.t d).own then St.promA ds (s.add d ((s.t d).prom s.r.length))else St.promA ds s).den.t i))/\
    (if AL (S.t d)then Go.Ve.promA ds ⟨AI S.t d (Go.Ve.prom (S.t d) S.σ.length).1,S.σ++(Go.Ve.prom (S.t d) S.σ.length).2⟩else Go.Ve.promA ds S).σ=(bif(s.t d).own then St.promA ds (s.add d ((s.t d).prom s.r.length))else St.promA ds s).den.σ
   obtain⟨_,hd⟩:=h.o d (List.mem_cons_self ..);cases ho:(s.t d).own with
   |false=>
    have:AL (S.t d)=false:=by
     rcases hd with e|e
     .rw[e];show AL ((s.t d).v s.r)=false;rw[Sl.own_v,ho]
     .exact e.2
    rw[this];exact ih S s ⟨h.σ,h.t,λi Z=>h.o i (B i Z)⟩
   |true=>
    have e:S.t d=(s.t d).v s.r:=by
     rcases hd with e|e
     .exact e
     .rw[ho]at e;cases e.1
    have:AL (S.t d)=true:=by rw[e,Sl.own_v,ho]
    rw[this];have hl:S.σ.length=s.r.length:=by rw[h.σ];show(s.r.map Af.v).length=_;exact List.length_map ..
    obtain⟨a1,a2⟩:=Ws (s:=s) (d:=d) (y:=s.t d)
    have hself:(s.add d ((s.t d).prom s.r.length)).t d=((s.t d).prom s.r.length).1:=by
     have hu:∀(t:Nat->Sl) (y:Sl),AJ t d y d=y:=λt y=>by unfold AJ;rw[Nat.beq_refl];rfl
     unfold St.add;split
     .exact hu _ _
     .exact hu (λi=>(s.t i).chk s.r.length) _
    have U:∀i,i≠d->(s.add d ((s.t d).prom s.r.length)).t i=s.t i\/(s.add d ((s.t d).prom s.r.length)).t i=(s.t i).chk s.r.length:=by
     intro i Z;unfold St.add;split
     .exact .inl (AY Z)
     .exact .inr (AY (t:=λi=>(s.t i).chk s.r.length) Z)
    refine ih _ _ ⟨?_,λi=>?_,λi Z=>?_⟩
    .show S.σ++(Go.Ve.prom (S.t d) S.σ.length).2=_
     rw[e,hl,h.σ];exact a2
    .have h1:=a1 i
     show Ax (AI S.t d (Go.Ve.prom (S.t d) S.σ.length).1 i) _;rw[e,hl];unfold AI at h1⊢;by_cases J:i=d
     .rw[if_pos J]at h1⊢;exact h1
     .rw[if_neg J]at h1⊢;exact(h.t i).trans h1
    .obtain⟨k1,k2⟩:=h.o i (B i Z)
     by_cases J:i=d
     .subst J
      rw[hself]
      have hno:(((s.t i).prom s.r.length).1).own=false:=by
       have:=N6 (y:=s.t i) (m:=s.r.length) (r:=s.r);rw[Sl.own_v]at this;exact this
      refine⟨(λh=>by rw[hno]at h;cases h),.inr ⟨hno,?_⟩⟩
      show AL (AI S.t i (Go.Ve.prom (S.t i) S.σ.length).1 i)=false;unfold AI;rw[if_pos rfl];exact pn _ _
     .have hV:AI S.t d (Go.Ve.prom (S.t d) S.σ.length).1 i=S.t i:=by unfold AI;rw[if_neg J]
      have W:(s.t i).own=true->(s.add d ((s.t d).prom s.r.length)).t i=s.t i:=λu=>by
       rcases U i J with h'|h'
       .exact h'
       .rw[h',Sl.chk_stay (k1 u)]
      have hown:((s.add d ((s.t d).prom s.r.length)).t i).own=(s.t i).own:=by
       rcases U i J with h'|h'
       .rw[h']
       .rw[h',ZF]
      refine⟨λu=>?_,?_⟩
      .rw[hown]at u
       rw[W u];exact k1 u
      .cases u:(s.t i).own with
       |false=>
        refine .inr ⟨by rw[hown,u],?_⟩
        show AL (AI S.t d (Go.Ve.prom (S.t d) S.σ.length).1 i)=false;rw[hV];rcases k2 with k2|k2
        .rw[k2];show AL ((s.t i).v s.r)=false;rw[Sl.own_v,u]
        .exact k2.2
       |true=>
        left;show AI S.t d (Go.Ve.prom (S.t d) S.σ.length).1 i=_;rw[hV];rcases k2 with k2|k2
        .rw[k2]
         show(s.t i).v s.r=((s.add d ((s.t d).prom s.r.length)).t i).v _;rw[W u];exact OV (k1 u) _ _
        .rw[u]at k2;cases k2.1
theorem add_kp{d:Nat}{p:Sl×List Af}:Kp (λi=>decide (i≠d)) s (s.add d p):=by
 unfold St.add;split
 .exact⟨λi e _=>AY (of_decide_eq_true e),λ_ _ _=>rfl,Nat.le_refl _⟩
 .refine⟨λi e hs=>?_,λid B u=>?_,by simp⟩
  .show AJ (λi=>(s.t i).chk s.r.length) d p.1 i=s.t i
   rw[AY (of_decide_eq_true e)];exact Sl.chk_stay hs _
  grind
theorem Hv:∀(l:List Oper) (s:St),Kp (Av l) s (s.promA (l.map (·.dst)))
 |[],s=>Kp.refl _ _
 |o::l,s=>by
  have B:∀i,Av (o::l) i=true->o.dst≠some i/\Av l i=true:=by
   intro i h
   have B:Av (o::l) i=((match o.dst with
    |some e=>!Nat.beq e i
    |none=>true)&&Av l i):=rfl
   rw[B,bAE]at h;refine⟨λhd=>?_,h.2⟩
   simp_all
  rw[List.map_cons];cases hd:o.dst with
  |none=>exact(Hv l s).weak λi u=>(B i u).2
  |some d=>
   show Kp _ s (bif(s.t d).own then St.promA (l.map (·.dst)) (s.add d ((s.t d).prom s.r.length))else St.promA (l.map (·.dst)) s)
   cases (s.t d).own with
   |false=>exact(Hv l s).weak λi u=>(B i u).2
   |true=>
    exact Kp.trans add_kp (Hv l _) (λi u=>dT λe=>(B i u).1 (by grind)) λi u=>(B i u).2
def Cl.clr(id:Nat):Cl->Cl
 |.rf j p=>bif Nat.beq j id then .dead else .rf j p
 |.rs j p off len=>bif Nat.beq j id then .dead else .rs j p off len
 |.rp j p i k=>bif Nat.beq j id then .dead else .rp j p i k
 |y=>y
def Sl.clr(id:Nat):Sl->Sl
 |.one y=>.one (y.clr id)
 |.new l=>.new l
 |.agg l=>.agg (l.map (Cl.clr id))
 |.pk t l=>.pk t (l.map (Cl.clr id))
 |.tup l=>.tup (l.map λp=>(p.1,p.2.map (Cl.clr id)))
theorem Cl.clr_v{r':List Af}(u:∀id,id≠m->r'.getD id .dead=r.getD id .dead)(y:Cl):Ax (y.v r) ((y.clr m).v r'):=by
 cases y with
 |rf id p=>
  show Ax _ ((bif Nat.beq id m then Cl.dead else .rf id p).v r');cases B:Nat.beq id m with
  |true=>exact Ax.dead _
  |false=>
   show Ax (V.rs id p 0 (Ai r id p).len) (V.rs id p 0 (Ai r' id p).len);unfold Ai;rw[u id (λe=>by simp_all)]
   exact Ax.refl _
 |rs id p off len=>
  show Ax _ ((bif Nat.beq id m then Cl.dead else .rs id p off len).v r');cases Nat.beq id m with
  |true=>exact Ax.dead _
  |false=>exact Ax.refl _
 |rp id p off len=>
  show Ax _ ((bif Nat.beq id m then Cl.dead else .rp id p off len).v r');cases Nat.beq id m with
  |true=>exact Ax.dead _
  |false=>exact Ax.refl _
 |_=>exact Ax.refl _
theorem Sl.clr_v{r r':List Af}{m:Nat}(e:∀id,id≠m->r'.getD id .dead=r.getD id .dead)(y:Sl):Ax (y.v r) ((y.clr m).v r'):=by
 have agg:∀l:List Cl,Ax (An (l.map (Cl.v r))) (An ((l.map (Cl.clr m)).map (Cl.v r'))):=by
  intro l;refine Ax.mk (by simp) λk _=>?_
  rw[List.map_map];exact BV rfl rfl (λy=>Cl.clr_v e y) k
 cases y with
 |one c=>exact Cl.clr_v e c
 |new l=>exact Ax.refl _
 |agg l=>exact agg l
 |pk t l=>
  refine Ax.pk (by simp) λk _=>?_
  rw[List.map_map];exact BV rfl rfl (λy=>Cl.clr_v e y) k
 |tup l=>
  refine Ax.tup (by simp) λk u=>?_
  have u:k<l.length:=by simpa using u
  simp only[gDE,List.getElem?_map,gEE u,Option.map_some,Option.getD_some];generalize l[k]=p;obtain⟨b,q⟩:=p;cases b with
  |true=>exact agg q
  |false=>
   have:=BV (l:=q) (f:=Cl.v r) (g:=λy=>(y.clr m).v r') rfl rfl (λy=>Cl.clr_v e y) 0
   grind
theorem Sl.clr_stay(h:y.stay=true)(m:Nat):y.clr m=y:=by
 have c1:∀y:Cl,y.stay=true->y.clr m=y:=by intro y h;cases y<;>first|rfl|cases h
 cases y with
 |one y=>exact congrArg Sl.one (c1 y h)
 |new l=>rfl
 |agg l=>exact congrArg Sl.agg (AS λy e=>c1 y (aET.1 h y e))
 |pk t l=>exact congrArg (Sl.pk t) (AS λy e=>c1 y (aET.1 h y e))
 |tup l=>
  refine congrArg Sl.tup (AS λp u=>?_)
  obtain⟨b,q⟩:=p;exact congrArg (Prod.mk b) (AS λy e=>c1 y (aET.1 (aET.1 h _ u) y e))
theorem ZE(y:Sl)(m:Nat):(y.clr m).own=y.own:=by
 have c1:∀y:Cl,(y.clr m).own=y.own:=by
  intro y;cases y with
  |rf id p=>show(bif Nat.beq id m then Cl.dead else .rf id p).own=_;cases Nat.beq id m<;>rfl
  |rs id p a b=>show(bif Nat.beq id m then Cl.dead else .rs id p a b).own=_;cases Nat.beq id m<;>rfl
  |rp id p a b=>show(bif Nat.beq id m then Cl.dead else .rp id p a b).own=_;cases Nat.beq id m<;>rfl
  |_=>rfl
 have cl:∀l:List Cl,(l.map (Cl.clr m)).any Cl.own=l.any Cl.own:=by
  grind
 cases y with
 |one y=>exact c1 y
 |new l=>rfl
 |agg l=>exact cl l
 |pk t l=>exact cl l
 |tup l=>
  show(l.map _).any _=l.any _;rw[List.any_map]
  congr 1
  funext p
  obtain⟨b,l⟩:=p;cases b with
  |true=>exact cl l
  |false=>
   cases l with
   |nil=>rfl
   |cons y l=>exact c1 y
def B5:Sl->Af
 |.one (.c (.ptr t) (d+1) x)=>.obj false (AB t d x)
 |.one (.c (.sl t) (d+1) xs)=>.arr false t d xs
 |.new l=>.obj false l
 |_=>.dead
def DX:Sl->Bool
 |.one (.c (.ptr t) (_+1) _)=>Nat.blt 0 t.w
 |.one (.c (.sl _) (_+1) _)=>true
 |.new l=>Nat.blt 0 l.length
 |_=>false
def MC(id:Nat):Af->Cl
 |.obj _ _=>.rp id [] 0 0
 |_=>.rf id []
def St.back1(p:Nat×Nat)(s:St):St:=⟨AJ (λi=>(s.t i).clr p.2) p.1 (.one (MC p.2 (B5 (s.t p.1)))),s.r.set p.2 (B5 (s.t p.1))⟩
def Wg(i:Nat):(s.back1 p).t i=AJ (λi=>(s.t i).clr p.2) p.1 (.one (MC p.2 (B5 (s.t p.1)))) i:=rfl
def LV{i:Nat}(h:i≠p.1):(s.back1 p).t i=(s.t i).clr p.2:=(Wg i).trans (AY h)
def St.backs:List (Nat×Nat)->St->St
 |[],s=>s
 |p::B,s=>St.backs B (s.back1 p)
theorem QU(t:Ty)(d:Nat)(x:t.T):(AB t d x).length=t.w:=by
 have:=congrArg List.length (BL t d x);rw[List.length_map,Ay]at this
 grind
theorem Cj(h:DX y=true):y.stay=true/\(∀r,y.v r=(B5 y).v)/\J1 (B5 y).v/\∀(r:List Af) (id:Nat),id<r.length->(Sl.one (MC id (B5 y))).v (r.set id (B5 y))=Kh id (B5 y).v:=by
 unfold DX at h;split at h
 case h_4=>grind
 .rename_i t d x
  have u:0<t.w:=blE h;refine⟨rfl,λr=>?_,⟨false,_,_,_,rfl,λ_=>⟨by simpa [QU]using u,rfl⟩⟩,λr id e=>rfl⟩
  show Bj (decide (0<d+1)) (tyV t (d+1-1) x)=Bj true ((AB t d x).map Cl.v0);rw[BL];rfl
 .rename_i t d xs
  refine⟨rfl,λr=>?_,⟨true,_,_,_,rfl,λh=>by grind⟩,λr id e=>?_⟩
  .rfl
  .show V.rs id [] 0 (Ai (r.set id (.arr false t d xs)) id []).len=_
   have:(Ai (r.set id (.arr false t d xs)) id []).len=xs.length:=by
    show((r.set id (.arr false t d xs)).getD id .dead).len=_;simp[e];rfl
   rw[this];rfl
 .rename_i l
  have u:0<l.length:=blE h;exact⟨rfl,λr=>rfl,⟨false,_,_,_,rfl,λ_=>⟨by simpa using u,rfl⟩⟩,λr id e=>rfl⟩
theorem Wh{ds:List (Option Nat)}{S:Ms}(h:XY ds S s)(hd:some p.1∉ds)(hp:p.2<s.r.length)(he:S.t p.1=s.den.t p.1)(hr:DX (s.t p.1)=true):
  XY ds ⟨AI S.t p.1 (Kh p.2 (S.t p.1)),S.σ.set p.2 (S.t p.1)⟩ (s.back1 p):=by
 obtain⟨h1,h2,h3,h4⟩:=Cj hr;have e:S.t p.1=(B5 (s.t p.1)).v:=he.trans (h2 _)
 have hg:∀id,id≠p.2->(s.r.set p.2 (B5 (s.t p.1))).getD id .dead=s.r.getD id .dead:=λid Z=>by
  simp only[gDE];rw[List.getElem?_set_ne (Ne.symm Z)]
 have u:∀i,i≠p.1->(s.back1 p).t i=(s.t i).clr p.2:=λi U=>LV U
 refine⟨?_,λi=>?_,λi U=>?_⟩
 .show S.σ.set p.2 (S.t p.1)=(s.r.set p.2 (B5 (s.t p.1))).map Af.v
  rw[h.σ,List.map_set,e];rfl
 .show Ax (AI S.t p.1 (Kh p.2 (S.t p.1)) i) _
  unfold AI;by_cases U:i=p.1
  .subst U
   rw[if_pos rfl,e]
   have e2:(s.back1 p).t p.1=.one (MC p.2 (B5 (s.t p.1))):=by
    rw[Wg];unfold AJ;rw[Nat.beq_refl];rfl
   show Ax _ (((s.back1 p).t p.1).v _);rw[e2];rw[show(s.back1 p).r=s.r.set p.2 (B5 (s.t p.1))from rfl,h4 s.r p.2 hp]
   exact Ax.refl _
  .rw[if_neg U]
   show Ax _ (((s.back1 p).t i).v _);rw[u i U];exact(h.t i).trans (Sl.clr_v hg (s.t i))
 .have J:i≠p.1:=λe=>hd (e▸U)
  obtain⟨k1,k2⟩:=h.o i U;have hV:AI S.t p.1 (Kh p.2 (S.t p.1)) i=S.t i:=by unfold AI;rw[if_neg J]
  have W:((s.back1 p).t i).own=(s.t i).own:=by rw[u i J,ZE]
  refine⟨λB=>?_,?_⟩
  .rw[W]at B
   rw[u i J,Sl.clr_stay (k1 B)];exact k1 B
  .show AI S.t p.1 (Kh p.2 (S.t p.1)) i=_\/(_/\AL (AI S.t p.1 (Kh p.2 (S.t p.1)) i)=false)
   rw[hV];cases B:(s.t i).own with
   |false=>
    right;refine⟨by rw[W,B],?_⟩
    rcases k2 with k2|k2
    .rw[k2];show AL ((s.t i).v s.r)=false;rw[Sl.own_v,B]
    .exact k2.2
   |true=>
    left;rcases k2 with k2|k2
    .rw[k2]
     show(s.t i).v s.r=((s.back1 p).t i).v _;rw[u i J,Sl.clr_stay (k1 B)];exact OV (k1 B) _ _
    .rw[B]at k2;cases k2.1
theorem JM{ds:List (Option Nat)}:∀(B:List (Nat×Nat)) (S:Ms) (s:St),XY ds S s->(B.map (·.1)).Nodup->(∀p∈B,some p.1∉ds/\p.2<s.r.length/\S.t p.1=s.den.t p.1/\DX (s.t p.1)=true)->XY ds (Go.Ve.backs B S) (St.backs B s)
 |[],S,s,h,_,_=>h
 |p::B,S,s,h,hn,hB=>by
  obtain⟨h1,h2,Z,W⟩:=hB p (List.mem_cons_self ..);rw[List.map_cons,List.nodup_cons]at hn;refine JM B _ _ (Wh h h1 h2 Z W) hn.2 λq U=>?_
  obtain⟨g1,g2,g3,g4⟩:=hB q (mCM _ U);have J:q.1≠p.1:=λe=>hn.1 (e▸List.mem_map.2 ⟨q,U,rfl⟩)
  have u:=(Cj g4).1
  have e1:(s.back1 p).t q.1=s.t q.1:=by
   rw[LV J,Sl.clr_stay u]
  refine⟨g1,by show q.2<(s.r.set _ _).length;grind,?_,by grind⟩
  show AI S.t p.1 _ q.1=((s.back1 p).t q.1).v _;unfold AI;rw[if_neg J,g3,e1];exact OV u _ _
theorem LU:∀(B:List (Nat×Nat)) (s:St),(∀i,(∀p∈B,p.1≠i)->(s.t i).stay=true->(St.backs B s).t i=s.t i)/\(∀id,(∀p∈B,p.2≠id)->(St.backs B s).r.getD id .dead=s.r.getD id .dead)/\(St.backs B s).r.length=s.r.length
 |[],s=>⟨λ_ _ _=>rfl,λ_ _=>rfl,rfl⟩
 |p::B,s=>by
  obtain⟨h1,Z,W⟩:=LU B (s.back1 p);refine⟨λi U hs=>?_,λid J=>?_,W.trans (by show(s.r.set _ _).length=_;simp)⟩
  .have e:(s.back1 p).t i=s.t i:=by
    rw[LV λe=>U p (List.mem_cons_self ..) e.symm,Sl.clr_stay hs]
   refine(h1 i (λq u=>U q (mCM _ u)) (by grind)).trans e
  .refine(Z id λq u=>J q (mCM _ u)).trans ?_
   show(s.r.set _ _).getD id .dead=_
   grind
def rerefs(id:Nat)(v:V):List Nat->(Nat->V)->(Nat->V)
 |[],t=>t
 |y::Y,t=>rerefs id v Y (AI t y (Kh id v))
theorem PR.reref{C:Ctx}{N:Nat}{σ:List V}{ρ:Nat->Value}{F:Nat->Nat->Prop}{a:Act}{w:World}{D:Nat->Prop}{T:Nat->Nat->Prop}{id:Nat}{v:V}(u:id<σ.length)(B:σ.getD id .dead=v)(U:J1 v):∀(Y:List Nat) (t:Nat->V),PR C N σ ρ F t a w D T->
  (∀y∈Y,y<N/\a.tmps.getD y undef=ρ id/\∀b,¬T y b)->PR C N σ ρ F (rerefs id v Y t) a w D T
 |[],t,h,_=>h
 |y::Y,t,h,hY=>by
  obtain⟨h1,h2,h3⟩:=hY y (List.mem_cons_self ..);refine PR.reref u B U Y _ ⟨h.df,h.sz,λx J=>?_,h.wr,λx J=>?_,h.tD,h.tF,h.tT,h.tn,h.fr,h.Fn,h.D1,h.D2,h.rt,h.ml,h.tx⟩ λz hz=>hY z (mCM _ hz)
  .have:¬x=y:=by omega
   simp[AI,this,if_false];exact h.dd x J
  .by_cases W:x=y
   .subst W
    simp only[AI,if_true];rw[h2];obtain⟨s0,sz,n,f,Z,e2⟩:=U;have e:=h.wr.rel id u;rw[B,Z]at e;rw[Z]at B⊢;exact Rel.fp_congr (λb=>⟨λh=>h.elim,λh=>absurd h (h3 b)⟩) (Lf u B e2 e)
   .simp only[AI,W,if_false]
    exact h.tm x J
def St.rerefs(id:Nat)(R:Af):List Nat->St->St
 |[],s=>s
 |y::Y,s=>St.rerefs id R Y ⟨AJ s.t y (.one (MC id R)),s.r⟩
theorem Kf{ds:List (Option Nat)}{id:Nat}{R:Af}(W:J1 R.v):∀(Y:List Nat) (S:Ms) (s:St),XY ds S s->(s.r.getD id .dead)=R->(∀y∈Y,some y∉ds)->XY ds ⟨Go.Ve.rerefs id R.v Y S.t,S.σ⟩ (St.rerefs id R Y s)
 |[],S,s,h,_,_=>h
 |y::Y,S,s,h,hr,hY=>by
  have U:∀i,some i∈ds->i≠y:=λi J e=>hY y (List.mem_cons_self ..) (e▸J)
  have u:(Sl.one (MC id R)).v s.r=Kh id R.v:=by
   cases R with
   |obj ro l=>rfl
   |arr ro t d xs=>
    show V.rs id [] 0 (Ai s.r id []).len=_
    have:(Ai s.r id []).len=xs.length:=by
     show(s.r.getD id .dead).len=_;rw[hr];rfl
    rw[this];rfl
   |dead=>obtain⟨_,_,_,_,e,_⟩:=W;cases e
   |opt ro t d x=>
    obtain⟨_,_,_,_,e,_⟩:=W;cases x with
    |none=>cases e
    |some xs=>
     show V.rs id [] 0 (Ai s.r id []).len=_
     have:(Ai s.r id []).len=xs.length:=by
      show(s.r.getD id .dead).len=_;rw[hr];rfl
     rw[this];rfl
  refine Kf W Y ⟨AI S.t y (Kh id R.v),S.σ⟩ ⟨AJ s.t y (.one (MC id R)),s.r⟩ ⟨h.σ,λi=>?_,λi J=>?_⟩ hr λz Z=>hY z (mCM _ Z)
  .show Ax (AI S.t y (Kh id R.v) i) ((AJ s.t y (.one (MC id R)) i).v s.r)
   unfold AI;by_cases B:i=y
   .subst B
    rw[if_pos rfl];have:AJ s.t i (.one (MC id R)) i=.one (MC id R):=by unfold AJ;simp
    rw[this,u];exact Ax.refl _
   .rw[if_neg B,AY B];exact h.t i
  .have B:=U i J
   obtain⟨k1,k2⟩:=h.o i J;show((AJ s.t y (.one (MC id R)) i).own=true->(AJ s.t y (.one (MC id R)) i).stay=true)/\(AI S.t y (Kh id R.v) i=(AJ s.t y (.one (MC id R)) i).v s.r\/((AJ s.t y (.one (MC id R)) i).own=false/\AL (AI S.t y (Kh id R.v) i)=false));unfold AI;rw[if_neg B,AY B];exact⟨k1,k2⟩
theorem Mz{id:Nat}{R:Af}:∀(Y:List Nat) (s:St),(St.rerefs id R Y s).r=s.r/\∀i,i∉Y->(St.rerefs id R Y s).t i=s.t i
 |[],s=>⟨rfl,λ_ _=>rfl⟩
 |y::Y,s=>by
  obtain⟨J,B⟩:=Mz Y ⟨AJ s.t y (.one (MC id R)),s.r⟩;refine⟨J,λi u=>(B i λh=>u (mCM _ h)).trans ?_⟩
  exact AY λe=>u (e▸List.mem_cons_self ..)
end Go.Ve


namespace Go.Ve
open Go Go.Ve
variable{a:Act}{ops:Array Oper}{C:Ctx}{E:Env}{fs:List Nat}{late:List Oper}{σ σ':List V}{N d id k m n sz:Nat}{F:Nat->Nat->Prop}{f:Nat->Nat->V}{D:Nat->Prop}{ρ:Nat->Value}{o o1 o2 o3:Oper}{x y:Operand}{A:PtR}{s s':St}{t:TypeId}{cv:Value}{w:World}
theorem U2{q:List (Nat×Nat)}(u:sub q (σ.getD id .dead)=.nd true true sz n f)(h:Au σ ρ w (.rs id q 0 n) cv):
  id<σ.length/\At w q (σ.getD id .dead) (ρ id) (.nd true true sz n f) cv:=by
 obtain⟨B,W,n',f',cn,U,Z,J⟩:=h;have e:=(At.sub U).trans u;cases e;refine⟨B,?_⟩;have:cv=cn:=by
  rcases J with⟨b,o,cap,rfl,rfl⟩|⟨h0,_,_,h1,_⟩
  .simp[AC]
  grind
 grind
def elI0(E:Env)(t:TypeId):Option TI:=((E.Θ.look t).bind (·.elem)).bind E.Θ.look
section
variable {P:Program}{Θ:Tab}
theorem PH(hΘ:Θ.OK P){C:Ctx}{N:Nat}{s:St}{o:Oper}{t:TypeId}{x y:Operand}{a:Act}{w:World}{d:Nat}
  (ho:o.op=.call ⟨.builtin .append,#[x,y],#[t,t]⟩) (hdst:o.dst=some d) (hdn:d<N) {ti:TI} (hti:((Θ.look t).bind (·.elem)).bind Θ.look=some ti) (hby:0<ti.bytes) (hw:0<ti.ty.w)
  {id:Nat}{q:AZ} (hx:s.ev x=some (.one (.rf id q))) {ro:Bool}{dx:Nat}{xs:List ti.ty.T} (W:Ai s.r id q=.arr ro ti.ty dx xs)
  {ys:List ti.ty.T}{dy:Nat}{js:List Nat} (hy:QX s ti.ty id (s.ev y)=some (dy,ys,js)) (hdk:dOK ti.ty dy dx=true) (hlim:xs.length+ys.length<=Nb ti.bytes) (hs:AR C N s.den a w):
  ∃v' w',(execOp a.eval o).run P w=.ok (.value v') w'/\AR C N ⟨AI (λi=>AQ s.r.length [] (rrV id q s.r.length ((Ap js s).den.t i))) d (.rs (s.r.length+1) [] 0 (xs.length+ys.length)),
   ((Ap js s).den.σ.set id (upd q ((Ap js s).den.σ.getD id .dead) .dead)++[.dead])++[arr true ti.ty.w (tyV ti.ty dx) ti.ty.dflt (xs++ys)]⟩ (a.put (some d) v') w'/\
   ∃D ρ F,CR C ((Ap js s).den.σ.set id (upd q ((Ap js s).den.σ.getD id .dead) .dead)++[sub q ((Ap js s).den.σ.getD id .dead)]) (((List.range N).map (Ap js s).den.t).map (rrV id q s.r.length)) a.tmps w D ρ F/\∀c,c<w.heap.size->¬F s.r.length c->w'.heap[c]? =w.heap[c]?:=by
 obtain⟨hdf,hdd,D,ρ,F,B⟩:=hs;obtain⟨e,hsl,_⟩:=DH hΘ hti;have hY:=Il B hdd hy;obtain⟨⟨Fy,hrd,hFy,hFd⟩,hjs2⟩:=hY;rw[show tyV ti.ty dy=tyV ti.ty dx from funext λz=>C9 _ _ _ z (LG hdk)]at hrd
 have hidj:id∉js:=λh=>(hjs2 id h).2 rfl
 have hlσ:s.den.σ.length=s.r.length:=by simp[St.den]
 -- the drop
 obtain⟨F1,hcr1,hF1⟩:=CJ js B (λj hj=>(hjs2 j hj).1)
 have hdd1:=BZ js (N:=N) hdd
 -- the row
 have hrx:=BY B hdd x;rw[Bh hx]at hrx;have hrx:Rel D w (Au s.den.σ ρ w) (.rs id q 0 (Ai s.r id q).len) (a.eval x) noF:=hrx
 have hsub:sub q (s.den.σ.getD id .dead)=arr true ti.ty.w (tyV ti.ty dx) ti.ty.dflt xs:=by
  have:=A1 (r:=s.r) (id:=id) (p:=q) (by rw[W];simp)
  rw[W]at this;exact this
 rw[W]at hrx;obtain⟨hid,hat⟩:=U2 (show sub q (s.den.σ.getD id .dead)=V.nd true true ti.ty.w xs.length (λi k=>(tyV ti.ty dx (xs.getD i ti.ty.dflt)).getD k .dead)from hsub) hrx.1
 have hid1:id<s.r.length:=by rw[<-hlσ];exact hid
 have Z:∀(js:List Nat) (s:St),id∉js->(Ap js s).den.σ.getD id .dead=s.den.σ.getD id .dead:=by
  intro js
  induction js with
  |nil=>exact λ_ _=>rfl
  |cons j js ih=>
   intro s hj;simp only[List.mem_cons,not_or]at hj;show(Ap js (HL j s)).den.σ.getD id .dead=_;rw[ih _ hj.2];show((s.r.set j .dead).map Af.v).getD id .dead=_;rw[AA];show _=(s.r.map Af.v).getD id .dead;rw[AA,gDE,List.getElem?_set_ne (Ne.symm hj.1),<-gDE]
 have Z:=Z js s hidj;have hl1:(Ap js s).den.σ.length=s.r.length:=by simp[St.den,Ih]
 rw[<-Z]at hat
 -- it is cut out
 obtain⟨ρ2,F2,u,hρ2,hρ2',hF2⟩:=CR.reroot hcr1 (by rw[hl1];exact hid1) hat
 rw[hl1]at u hρ2 hρ2';obtain⟨m,hm⟩:∃m,m=s.r.length:=⟨_,rfl⟩;rw[<-hm]at u hρ2 hρ2' hl1 hid1;have hl2:((Ap js s).den.σ.set id (upd q ((Ap js s).den.σ.getD id .dead) .dead)).length=m:=by rw[List.length_set];exact hl1
 have hlast:∀v:V,((Ap js s).den.σ.set id (upd q ((Ap js s).den.σ.getD id .dead) .dead)++[v]).getD m .dead=v:=λv=>by
  rw[gDE,gAR (by rw[hl2];exact Nat.le_refl _),hl2];simp
 have hrow:Rel D w noR (arr true ti.ty.w (tyV ti.ty dx) ti.ty.dflt xs) (a.eval x) (F2 m):=by
  have:=u.wr.rel m (by rw[List.length_append,hl2];exact Nat.lt_succ_self m)
  rw[hlast,Z,hsub,hρ2]at this;exact this
 have hF2D:∀b,D b->¬F2 m b:=λb U h=>u.wr.dD m b h U
 have hF2o:∀i b,F2 i b->∃j,F j b/\j∉js:=λi b h=>by
  obtain⟨j,h1⟩:=hF2 i b h;obtain⟨h2,h3⟩:=hF1 j b h1;exact⟨j,h2,h3⟩
 have U:(xs.length+ys.length)*ti.bytes<=140737488355328:=by
  rw[Nat.mul_comm];exact(Nat.mul_comm _ _▸(Nat.le_div_iff_mul_le hby).1 hlim)
 have h63:xs.length+ys.length<=maxLen:=by
  have:xs.length+ys.length<=(xs.length+ys.length)*ti.bytes:=Nat.le_mul_of_pos_right _ hby;simp only[maxLen];omega
 obtain⟨v',w',fp,hrun,hos,htp,hout,hdr,hsz,hbl,hr',hfp⟩:=Rel.append (P:=P) (ty:=o.type) (f:=λi k=>(tyV ti.ty dx (xs.getD i ti.ty.dflt)).getD k .dead) hsl hw hrow hF2D B.wr.Dlt hrd
  (λi k c hi hk hF=>by
   obtain⟨j,hj,J⟩:=hFy i k c hi hk hF;refine⟨B.wr.dD j c J,λhx=>?_⟩
   obtain⟨j2,h2,h3⟩:=hF2o m c hx;exact B.wr.disj j j2 c (λe=>h3 (e▸hj)) J h2) hFd h63 U
 have hdrop:=CR.drop u (j:=m) (by rw[List.length_append,hl2];exact Nat.lt_succ_self m)
 have hfpG:∀b,fp b->(F2 m b\/∃j∈js,F j b)\/w.heap.size<=b:=by
  intro b U;rcases hfp b U with h1|⟨i,k,hi,hk,h1⟩|h1
  .exact .inl (.inl h1)
  .obtain⟨j,hj,J⟩:=hFy i k b hi hk h1
   exact .inl (.inr ⟨j,hj,J⟩)
  .exact .inr h1
 have hr2:Rel D w' noR (arr true ti.ty.w (tyV ti.ty dx) ti.ty.dflt (xs++ys)) v' fp:=
  Rel.sub (LT rfl rfl (λ_ _ _=>rfl) (λ_ _ _=>rfl)) hr'
 have hc:=CR.own hdrop (G:=λb=>F2 m b\/∃j∈js,F j b) (D':=D) (λi b U hG=>by
   split at U
   .exact U.elim
   .rename_i hne
    rcases hG with h1|⟨j,hj,J⟩
    .exact u.wr.disj i m b hne U h1
    .obtain⟨j2,h2,h3⟩:=hF2o i b U
     exact B.wr.disj j j2 b (λe=>h3 (e▸hj)) J h2)
  (λb U hG=>hG.elim (hF2D b U) fun⟨j,_,J⟩=>B.wr.dD j b J U)
  (λb hG=>hG.elim (λh=>u.Fn m b h) fun⟨j,_,J⟩=>B.Fn j b J) hos htp hout hdr hsz
  (λc hc hG=>hbl c hc λh=>hG (.inl h)) hr2 hfpG (λ_ h=>h) (λ_ h=>.inl h)
  (λb U=>⟨Nat.lt_of_lt_of_le (B.wr.Dlt b U) hsz,λh=>by
   rcases hfpG b h with(h1|⟨j,_,J⟩)|h2
   .exact hF2D b U h1
   .exact B.wr.dD j b J U
   .have:=B.wr.Dlt b U;omega⟩) d
 have hl3:(((Ap js s).den.σ.set id (upd q ((Ap js s).den.σ.getD id .dead) .dead)++[sub q ((Ap js s).den.σ.getD id .dead)]).set m .dead)=(Ap js s).den.σ.set id (upd q ((Ap js s).den.σ.getD id .dead) .dead)++[.dead]:=by
  rw[List.set_append_right _ _ (by rw[hl2];exact Nat.le_refl _),hl2];simp
 rw[hl3]at hc
 have hl4:((Ap js s).den.σ.set id (upd q ((Ap js s).den.σ.getD id .dead) .dead)++[V.dead]).length=m+1:=by
  rw[List.length_append,List.length_set,hl1];rfl
 rw[hl4,show prom (arr true ti.ty.w (tyV ti.ty dx) ti.ty.dflt (xs++ys)) (m+1)=(.rs (m+1) [] 0 (xs++ys).length,[arr true ti.ty.w (tyV ti.ty dx) ti.ty.dflt (xs++ys)])from rfl,List.length_append]at hc
 have hex:(execOp a.eval o).run P w=.ok (.value v') w':=by
  unfold execOp;simp only[ho,resolve,invoke,builtin,Sem.run_bind,Sem.run_pure,Result.andThen_ok,List.map_toArray,List.map_cons,List.map_nil,hrun]
 rw[<-hm];refine⟨v',w',hex,⟨hdf,λz hz=>?_,?_⟩,D,ρ2,F2,u,λc hc hF=>hbl c hc hF⟩
 .show AI (λi=>AQ m [] (rrV id q m ((Ap js s).den.t i))) d (V.rs (m+1) [] 0 (xs.length+ys.length)) z=.dead
  unfold AI;rw[if_neg (by omega)]
  show AQ m [] (rrV id q m ((Ap js s).den.t z))=.dead;rw[hdd1 z hz];rfl
 .rw[List.map_map,List.map_map,C0 hdn]at hc
  exact hc
theorem app_in(U:Θ.OK P){C:Ctx}{N:Nat}{s:St}{o:Oper}{t:TypeId}{x y:Operand}{a:Act}{w:World}{d:Nat}{next:Act->World->Prop}{Q:Exit->Act->World->Prop}
  (ho:o.op=.call ⟨.builtin .append,#[x,y],#[t,t]⟩) (e:o.dst=some d) (Z:d<N) {ti:TI} (W:((Θ.look t).bind (·.elem)).bind Θ.look=some ti) (hby:0<ti.bytes) (hw:0<ti.ty.w)
  {id:Nat}{q:AZ} (hx:s.ev x=some (.one (.rf id q))) {ro:Bool}{dx:Nat}{xs:List ti.ty.T} (u:Ai s.r id q=.arr ro ti.ty dx xs)
  {ys:List ti.ty.T}{dy:Nat}{js:List Nat} (hy:QX s ti.ty id (s.ev y)=some (dy,ys,js)) (hdk:dOK ti.ty dy dx=true) (J:xs.length+ys.length<=Nb ti.bytes) (hs:AR C N s.den a w)
  (hn:∀v' w',AR C N ⟨AI (λi=>AQ s.r.length [] (rrV id q s.r.length ((Ap js s).den.t i))) d (.rs (s.r.length+1) [] 0 (xs.length+ys.length)),
   ((Ap js s).den.σ.set id (upd q ((Ap js s).den.σ.getD id .dead) .dead)++[.dead])++[arr true ti.ty.w (tyV ti.ty dx) ti.ty.dflt (xs++ys)]⟩ (a.put (some d) v') w'->next (a.put (some d) v') w'):o.wp P a w next Q:=by
 obtain⟨v',w',B,hs',_⟩:=PH U ho e Z W hby hw hx u hy hdk J hs;unfold Oper.wp;rw[B,Oper.upon_value,e]
 grind
def ZL(d:Nat):Operand->Bool
 |.tmp z=>!Nat.beq z d
 |.const _=>true
 |_=>false
theorem Aak{t:Nat->V}{v:V}(h:ZL d x=true):Ms.ev ⟨AI t d v,σ⟩ x=Ms.ev ⟨t,σ'⟩ x:=by
 cases x with
 |tmp z=>
  show AI t d v z=t z;unfold AI;rw[if_neg]
  rintro rfl
  simp[ZL]at h
 |const c=>rfl
 |_=>rfl
def rowF(o1 o2 o3:Oper):Option ((Nat×TypeId×Operand×Operand)×(Nat×TypeId×Operand×Operand)×TypeId):=match o1.op,o1.dst,o2.op,o2.dst,o3.op,o3.dst with
 |.call c,some d,.indexAddr t2 u v,some e,.store t3 (.tmp e') (.tmp d'),none=>(match c.callee,c.args.toList,c.argTypes.toList with
  |.builtin .append,[x,y],[t,t']=>bif Nat.beq t t'&&Nat.beq e e'&&Nat.beq d d'&& !Nat.beq d e&&ZL d u&&ZL d v then some ((d,t,x,y),(e,t2,u,v),t3)else none
  |_,_,_=>none)
 |_,_,_,_,_,_=>none
theorem Jg{e:Nat}{t2 t3:TypeId}{u v:Operand}(h:rowF o1 o2 o3=some ((d,t,x,y),(e,t2,u,v),t3)):
  o1.op=.call ⟨.builtin .append,#[x,y],#[t,t]⟩/\o1.dst=some d/\o2.op=.indexAddr t2 u v/\o2.dst=some e/\o3.op=.store t3 (.tmp e) (.tmp d)/\o3.dst=none/\d≠e/\ZL d u=true/\ZL d v=true:=by
 unfold rowF at h;split at h
 case h_2=>cases h
 rename_i c d0 t20 u0 v0 e0 t30 e' d' h1 h2 h3 h4 h5 h6;split at h
 case h_2=>cases h
 rename_i x0 y0 t0 t' hc ha Z;obtain⟨W,h⟩:=Bb h;cases h;simp only[bAE,Bool.not_eq_true']at W;obtain⟨⟨⟨⟨⟨U,J⟩,B⟩,b4⟩,b5⟩,b6⟩:=W;have U:=bqE U;have J:=bqE J;have B:=bqE B;subst U J B;refine⟨?_,h2,h3,h4,h5,h6,(λe=>by rw[e,Nat.beq_refl]at b4;cases b4),b5,b6⟩
 rw[h1];obtain⟨ce,ar,at'⟩:=c;obtain⟨ar⟩:=ar;obtain⟨at'⟩:=at'
 grind
def Ps(E:Env)(s:St)(m id:Nat)(q:AZ)(o:Oper):Bool:=match o.op with
 |.fieldAddr t _ k=>match(E.Θ.look t).bind (·.flds[k]?)with
  |some _=>true
  |none=>false
 |.move _=>true
 |.indexAddr _ _ _=>true
 |.load t (.tmp z)=>match E.Θ.look t,s.t z with
  |some ti,.one (.rp id' p _ k)=>!hit id (q.map λx=>x.2) [(m,[])] id' p&&(Ai s.r id' p).live&&Nat.ble (k+ti.ty.w) (Ai s.r id' p).w&&Nat.blt 0 ti.ty.w
  |some ti,.one (.c (.ptr u) 0 _)=>Nat.ble ti.ty.w u.w&&Nat.blt 0 ti.ty.w
  |_,_=>false
 |_=>false
def UA(E:Env)(s:St)(late:List Oper)(o1 o2 o3:Oper):Option PtR:=match rowF o1 o2 o3 with
 |some ((d,t,x,y),(e,t2,u,v),t3)=>(match elI0 E t,elI0 E t2,E.Θ.look t3,s.ev x with
  |some ti,some ti2,some ti3,some (.one (.rf id q))=>(match Ai s.r id q,QX s ti.ty id (s.ev y)with
   |.arr _ t' dx xs,some (dy,ys,js)=>if ht:t'=ti.ty then(match(Ap js s).ev u,(Ap js s).ev v with
     |some (.one (.rf id' p)),some (.one (.c (.int _) _ i))=>bif Nat.beq id' id&&Nat.blt 0 ti.bytes&&Nat.blt 0 ti.ty.w&&dOK ti.ty dy dx&&Nat.beq ti3.ty.w 1&&Nat.beq (Ai (Ap js s).r id p).w ti2.ty.w&&Nat.beq ti2.ty.w 1&&(Ai (Ap js s).r id p).live&&Nat.blt d E.h.n&&Nat.blt e E.h.n&& !E.h.fz.contains e&&late.all (Ps E (Ap js s) s.r.length id q)then
       (match Vn q (p++[(i.toNat,0)]),((Ap js s).r.getD id .dead).setAt p i.toNat 0 (.c (.sl ti.ty) (dx+1) (Aaq (ht▸xs) ys))with
       |some c,some r0=>some ⟨(((0:Int)<=i/\i<(((Ai (Ap js s).r id p).len:Nat):Int))/\c.p)/\Ib (ht▸xs)+Ib ys<=Nb ti.bytes,@instDecidableAnd _ _ (@instDecidableAnd _ _ inferInstance c.dec) inferInstance,
         ⟨λz=>bif Nat.beq z d||Nat.beq z e then .one .dead else((Ap js s).t z).kill id ((p++[(i.toNat,0)]:AZ).map λz=>z.2) [(s.r.length,[]),(s.r.length+1,[])],(Ap js s).r.set id r0++[.dead,.dead]⟩⟩
       |_,_=>none)else none
     |_,_=>none)else none
   |_,_=>none)
  |_,_,_,_=>none)
 |none=>none
theorem ev_G{t:Nat->V}{v0 y:V}{G:V->V}(e:ZL d x=true)(u:Ms.ev ⟨t,σ⟩ x=y)(B:G y=y):Ms.ev ⟨AI (λi=>G (t i)) d v0,σ'⟩ x=y:=by
 rw[Aak (σ':=σ') e];cases x with
 |tmp z=>
  show G (t z)=y;rw[show t z=y from u,B]
 |const c=>trivial
 |_=>trivial
theorem XV{a b:Nat}(h:Nat.blt a b=true):a<b:=by simp_all
theorem GOK.row{Q:AZ}:GOK (λv=>Bm id Q (m+1) (AQ m [] (rrV id Q m v))) id (Q.map (·.2)) [(m,[]),(m+1,[])]:=by
 have W:∀id' q,hit id (Q.map (·.2)) [(m,[]),(m+1,[])] id' q=false->id'≠m/\id'≠m+1/\¬ (id'=id/\A9 Q q=true):=λid' q h=>
  ⟨λe=>(Dh h).2 m [] (by simp) ⟨e,rfl⟩,λe=>(Dh h).2 (m+1) [] (by simp) ⟨e,rfl⟩,(Dh h).1⟩
 have U:∀id' (q:AZ),id'≠m->¬ (id'=m/\A9 [] q=true):=λ_ _ h Z=>h Z.1
 refine⟨Ba.comp (C3 _ _ _) (Ba.comp (Bg _ _) (Db _ _ _)),λid' q off len h=>?_,λid' q i k h=>?_⟩
 .obtain⟨J,B,u⟩:=W _ _ h
  simp[rrV,if_neg u,AQ,if_neg (U id' q J),Bm,if_neg B]
 .obtain⟨J,B,u⟩:=W _ _ h
  simp[rrV,if_neg u,AQ,if_neg (U id' q J),Bm,if_neg B]
def Oe{p:AZ}{x:Nat×Nat}{y:V}(e:KV p (σ.getD id .dead))(u:σ'.getD id .dead=upd (p++[x]) (σ.getD id .dead) y):AT σ' id p=AT σ id p:=by
 unfold AT;rw[u,DY _ _ _ _ e,Jb _ _ _ e];cases sub p (σ.getD id .dead)<;>rfl
theorem Uy(hΘ:E.Θ.OK P){next:Act->World->Prop}{Q:Exit->Act->World->Prop}(h:UA E s late o1 o2 o3=some A)(hp:A.p)(hs:AR C E.h.n s.den a w)
  (hn:∀a' w',AR C E.h.n A.s.den a' w'->next a' w'):o1.wp P a w (λa1 w1=>o2.wp P a1 w1 (λa2 w2=>o3.wp P a2 w2 next Q) Q) Q:=by
 unfold UA at h;split at h
 case h_2=>cases h
 rename_i d t x y e t2 u v t3 hrow;obtain⟨ho1,hd1,ho2,hd2,ho3,hd3,hde,hnu,hnv⟩:=Jg hrow;split at h
 case h_2=>cases h
 rename_i ti ti2 ti3 id q hti hti2 hti3 hx;split at h
 case h_2=>cases h
 rename_i ro t' dx xs dy ys js hnode hy;split at h
 case isFalse=>cases h
 rename_i ht;subst ht;split at h
 case h_2=>cases h
 rename_i id' p kk di i hu hv;obtain⟨hb,h⟩:=Bb h;simp only[bAE,Bool.not_eq_true']at hb;obtain⟨⟨⟨⟨⟨⟨⟨⟨⟨⟨⟨b1,b2⟩,b3⟩,b4⟩,b5⟩,b6⟩,b7⟩,b8⟩,b9⟩,b10⟩,b11⟩,_⟩:=hb;have b1:=bqE b1;subst b1;have b5:=bqE b5;have b6:=bqE b6;have b7:=bqE b7;have b9:=XV b9;have b10:=XV b10;split at h
 case h_2=>cases h
 rename_i c r0 hc hset;cases h;obtain⟨⟨⟨hi0,hil⟩,hcp⟩,hlim⟩:=hp;obtain rfl:=IP _ _ _ hc hcp;have hY:∀j∈js,j<s.r.length/\j≠id':=by
  obtain⟨_,_,D,ρ,F,hcr⟩:=hs;exact(Il hcr ‹_› hy).js
 refine app_in hΘ ho1 hd1 b9 hti (KP b2) (KP b3) hx hnode hy b4 (by simpa [Ib]using hlim) hs λv' w' hs1=>?_
 have hsd:∃D ρ F,CR C (Ap js s).den.σ ((List.range E.h.n).map (Ap js s).den.t) a.tmps w D ρ F/\∀x,E.h.n<=x->(Ap js s).den.t x=.dead:=by
  obtain⟨_,hdd,D,ρ,F,hcr⟩:=hs;obtain⟨F1,hcr1,_⟩:=CJ js hcr (λj hj=>(hY j hj).1)
  exact⟨D,ρ,F1,hcr1,BZ js hdd⟩
 obtain⟨D1,ρ1,F1,hcr1,hdd1⟩:=hsd;have hru:=BY hcr1 hdd1 u;rw[Bh hu]at hru;have hru:Rel D1 w (Au (Ap js s).den.σ ρ1 w) (.rs id' p 0 (Ai (Ap js s).r id' p).len) (a.eval u) noF:=hru;obtain⟨⟨hid,_,_,_,_,hat,_,_⟩,_⟩:=hru;have hok:=At.ok hat;have hidr:id'<(Ap js s).r.length:=by simpa [St.den]using hid
 have hl:(Ap js s).r.length=s.r.length:=Ih js s;obtain⟨m,hm⟩:∃m,m=s.r.length:=⟨_,rfl⟩;rw[<-hm]at hs1 hl;simp only[<-hm]at hn;generalize hS1:((Ap js s).den.σ.set id' (upd (p++[(i.toNat,0)]) ((Ap js s).den.σ.getD id' .dead) .dead)++[.dead])++[arr true ti.ty.w (tyV ti.ty dx) ti.ty.dflt (xs++ys)]=B at hs1;generalize hT1:AI (λi_1=>AQ m [] (rrV id' (p++[(i.toNat,0)]) m ((Ap js s).den.t i_1))) d (.rs (m+1) [] 0 (xs.length+ys.length))=T1 at hs1
 have hlσ:(Ap js s).den.σ.length=m:=by rw[<-hl];simp[St.den]
 have Z:B.getD id' .dead=upd (p++[(i.toNat,0)]) ((Ap js s).den.σ.getD id' .dead) .dead:=by
  rw[<-hS1,AG (by simp;omega),AG (by simp;omega),Aq (by omega)]
 have W:B.getD (m+1) .dead=arr true ti.ty.w (tyV ti.ty dx) ti.ty.dflt (xs++ys):=by
  rw[<-hS1,gDE,gAR (by simp;omega)]
  simp[hlσ]
 have hsz1:AT B id' p=ti2.ty.w:=by
  rw[Oe hok Z,<-b6];exact Ci b8
 have hidm:id'≠m:=by omega
 obtain⟨e2,hsl,_⟩:=DH hΘ hti2;refine I2 (h:=E.h) (K:=λS'=>S'=⟨AI T1 e (.rp id' p i.toNat 0),B⟩) ?_ hs1 λS' a2 w2 hS' hs2=>?_
 .unfold vop
  rw[ho2]
  have hu1:Ms.ev ⟨T1,B⟩ u=.rs id' p 0 (Ai (Ap js s).r id' p).len:=by
   rw[<-hT1];exact ev_G (G:=λv=>AQ m [] (rrV id' (p++[(i.toNat,0)]) m v)) (t:=(Ap js s).den.t) (σ:=(Ap js s).den.σ) hnu (Bh hu) (by simp[rrV,Id,AQ,hidm])
  have hv1:Ms.ev ⟨T1,B⟩ v=.c (.int kk i):=by
   rw[<-hT1];exact ev_G (G:=λv=>AQ m [] (rrV id' (p++[(i.toNat,0)]) m v)) (t:=(Ap js s).den.t) (σ:=(Ap js s).den.σ) hnv (Bh hv) rfl
  show MG P B (Ms.ev ⟨T1,B⟩) (.indexAddr t2 u v) _;unfold MG
  dsimp only
  rw[hu1,hv1,hsl];refine⟨hsz1,by omega,⟨hi0,hil⟩,.rp id' p i.toNat 0,by rw[Nat.zero_add];exact Sub.refl _,?_⟩
  show Ms.res _ E.h o2.dst _=_;rw[hd2];unfold Ms.res;simp only[b10,if_true,b11];simp[prom]
 .subst hS'
  refine I2 (h:=E.h) (K:=λS'=>S'=⟨λz=>Bm id' (p++[(i.toNat,0)]) (m+1) (AI T1 e (.rp id' p i.toNat 0) z),
   (B.set id' (upd (p++[(i.toNat,0)]) (B.getD id' .dead) (B.getD (m+1) .dead))).set (m+1) .dead⟩) ?_ hs2 λS' a3 w3 hS' hs3=>hn a3 w3 ?_
  .unfold vop
   rw[ho3];refine⟨hd3,?_⟩;have he1:Ms.ev ⟨AI T1 e (.rp id' p i.toNat 0),B⟩ (.tmp e)=.rp id' p i.toNat 0:=by
    show AI T1 e _ e=_;unfold AI;rw[if_pos rfl]
   have he2:Ms.ev ⟨AI T1 e (.rp id' p i.toNat 0),B⟩ (.tmp d)=.rs (m+1) [] 0 (xs.length+ys.length):=by
    show AI T1 e _ d=_;rw[<-hT1];unfold AI;rw[if_neg hde,if_pos rfl]
   rw[he1,he2,hΘ.ty hti3];unfold Ug;refine⟨rfl,⟨b5.symm,by rw[hsz1,b7,b5];exact Nat.le_refl _⟩,?_⟩
   rw[b5];show MV id' p i.toNat 0 (.rs (m+1) [] 0 (xs.length+ys.length)) [] B _;unfold MV;have hsub:sub [] (B.getD (m+1) .dead)=.nd true true ti.ty.w (xs++ys).length λi k=>(tyV ti.ty dx ((xs++ys).getD i ti.ty.dflt)).getD k .dead:=W
   simp only[hsub];have hne:m+1≠id':=by omega
   rw[if_neg (λh=>hne h.1)]
   refine⟨⟨trivial,by simp,hne⟩,?_⟩
   rfl
  .subst hS'
   have hG:GOK (λv=>Bm id' (p++[(i.toNat,0)]) (m+1) (AQ m [] (rrV id' (p++[(i.toNat,0)]) m v))) id' ((p++[(i.toNat,0)]:AZ).map λz=>z.2) [(m,[]),(m+1,[])]:=GOK.row
   have hlen:∀J q2,hit id' ((p++[(i.toNat,0)]:AZ).map λz=>z.2) [(m,[]),(m+1,[])] J q2=false->(Ai ((Ap js s).r.set id' r0++[Af.dead,Af.dead]) J q2).len=(Ai (Ap js s).r J q2).len:=by
    intro J q2 hh;have h1:J≠m/\J≠m+1:=⟨λe=>(Dh hh).2 m [] (by simp) ⟨e,rfl⟩,λe=>(Dh hh).2 (m+1) [] (by simp) ⟨e,rfl⟩⟩
    rcases Nat.lt_or_ge J m with h2|h2
    .have e1:Ai ((Ap js s).r.set id' r0++[Af.dead,Af.dead]) J q2=Ai ((Ap js s).r.set id' r0) J q2:=by
      unfold Ai;rw[gDE,gAL (by simp;omega),<-gDE]
     rw[e1];by_cases he:J=id'
     .subst he
      rw[Cb hidr];refine Kx p _ _ hset q2 ?_;cases hp2:pre ((p++[(i.toNat,0)]:AZ).map λz=>z.2) q2 with
      |false=>rfl
      |true=>
       unfold hit at hh;rw[Nat.beq_refl,hp2]at hh;cases hh
     .rw[Bs he]
    .have e1:Ai ((Ap js s).r.set id' r0++[Af.dead,Af.dead]) J q2=Ai (Ap js s).r J q2:=by
      unfold Ai;rw[gDE,gDE,List.getElem?_eq_none (by simp;omega),List.getElem?_eq_none (by omega)]
     rw[e1]
   refine hs3.sub ?_ (λj hj=>?_) λz=>?_
   .rw[<-hS1]
    simp[St.den]
   .have hσd:∀j,(Ap js s).den.σ.getD j .dead=((Ap js s).r.getD j .dead).v:=λj=>AA _ _
    have hσo:∀j,m<=j->(Ap js s).den.σ.getD j .dead=.dead:=λj hj=>by rw[gDE,List.getElem?_eq_none (by omega)];rfl
    have hR:∀j,(((Ap js s).r.set id' r0++[Af.dead,Af.dead]).map Af.v).getD j .dead=if j=id' then r0.v else(Ap js s).den.σ.getD j .dead:=by
     intro j;rw[AA];by_cases U:j=id'
     .subst U
      rw[if_pos rfl,gDE,gAL (by simp;omega),List.getElem?_set_self hidr];rfl
     .rw[if_neg U,hσd]
      rcases Nat.lt_or_ge j m with h2|h2
      .rw[gDE,gAL (by simp;omega),List.getElem?_set_ne (Ne.symm U),<-gDE]
      .rw[gDE,gDE,gAR (by simp;omega),List.getElem?_eq_none (l:=(Ap js s).r) (by omega)]
       simp only[List.length_set,hl]
       match hk:j-m with
       |0=>rfl
       |1=>rfl
       |k+2=>rfl
    show Sub _ ((((Ap js s).r.set id' r0++[Af.dead,Af.dead]).map Af.v).getD j .dead);rw[hR,Z,W,J5];by_cases hj1:j=m+1
    .subst hj1
     rw[if_neg (by omega),hσo (m+1) (by omega),Aq (by simpa using hj)]
     exact Sub.refl _
    .rw[Ao (Ne.symm hj1)]
     by_cases U:j=id'
     .subst U
      rw[if_pos rfl,Aq (by simp at hj;omega),hσd]
      exact Hn (Sub.refl _) p _ _ hset
     .rw[if_neg U,Ao (Ne.symm U),<-hS1]
      rcases Nat.lt_or_ge j m with h2|h2
      .rw[AG (by simp;omega),AG (by simp;omega),Ao (Ne.symm U)]
       exact Sub.refl _
      .have hj2:j=m:=by
        simp[<-hS1,hlσ]at hj;omega
       rw[hσo j (by omega),AG (by simp;omega),gDE,gAR (by simp;omega)]
       simp only[List.length_set,hlσ,hj2,Nat.sub_self];exact Sub.refl _
   .show Ax (Bm id' (p++[(i.toNat,0)]) (m+1) (AI T1 e (.rp id' p i.toNat 0) z)) (Sl.v _ (bif Nat.beq z d||Nat.beq z e then .one .dead else _))
    cases hz:(Nat.beq z d||Nat.beq z e)with
    |true=>exact Ax.dead _
    |false=>
     rw[Bool.or_eq_false_iff]at hz;have hzd:z≠d:=λe=>by rw[e,Nat.beq_refl]at hz;cases hz.1
     have hze:z≠e:=λe=>by rw[e,Nat.beq_refl]at hz;cases hz.2
     rw[<-hT1];unfold AI;rw[if_neg hze,if_neg hzd];exact Sl.kill_v hG hlen ((Ap js s).t z)
theorem Xb(wr:BG σ w D ρ F){p:List (Nat×Nat)}{i:Nat}(h:Au σ ρ w (.rp id p i k) cv):∃b off,cv=.pointer (some ⟨b,off,none⟩)/\F id b:=by
 obtain⟨u,s,sz,n,f,b,o,cap,B,hi,hk,rfl⟩:=h;obtain⟨fp1,U,e,_⟩:=DF (w':=w) p _ _ _ _ _ (wr.rel id u) (λb Z h'=>wr.dD id b h' Z) B
 refine⟨b,_,rfl,e b ?_⟩;rcases U with⟨h0,_⟩|⟨b',o',J,G,W,_,_,_,_,_,h6⟩
 .omega
 .obtain⟨rfl,_,_⟩:=Az W
  exact((h6 rfl).2.2.2 b).2 (.inl rfl)
theorem Xz(hΘ:E.Θ.OK P){C:Ctx}{m id:Nat}{q:AZ}{ops:Array Oper}{fs:List Nat}{a:Act}{w w':World}{σ2:List V}(hdd:∀x,N<=x->s.den.t x=.dead)
  (h1:∃D ρ F,CR C s.den.σ ((List.range N).map s.den.t) a.tmps w D ρ F) (h2:∃D ρ F,CR C σ2 (((List.range N).map s.den.t).map (rrV id q m)) a.tmps w D ρ F/\∀c,c<w.heap.size->¬F m c->w'.heap[c]? =w.heap[c]?)
  (hl:∀f∈fs,∀o,ops[f]? =some o->Ps E s m id q o=true):FlL P ops fs a w w':=by
 intro f hf o ho t x hop ad had;have h:=hl f hf o ho;unfold Ps at h;rw[hop]at h;cases x with
 |tmp z=>
  dsimp only at h
  obtain⟨D1,ρ1,F1,Z⟩:=h1;obtain⟨D2,ρ2,F2,J,hsame⟩:=h2;have had:a.tmps.getD z undef=.pointer (some ad):=had
  have hsz:∀(ti:TI),E.Θ.look t=some ti->∀s,(sizeOf t).run P w=.ok s w->s=ti.ty.w:=λti hti s hs=>by
   obtain⟨d,i,z,hu,hi,_,his,_⟩:=CN (hΘ.ty hti);unfold Go.sizeOf typeInfo at hs;rw[Sem.run_bind,Sem.run_bind]at hs;have e:(Go.program.run P w:Result Program)=.ok P w:=rfl;rw[e]at hs;simp only[Result.andThen_ok,hi]at hs;have his:i.size=ti.ty.w:=his;have hs:Result.ok i.size w=.ok s w:=hs;cases hs;exact his
  have hz:s.den.t z≠.dead->z<N:=λhne=>by
   rcases Nat.lt_or_ge z N with h|h
   .exact h
   .exact absurd (hdd z h) hne
  split at h
  case h_3=>cases h
  .rename_i ti id' p i k hti hsz1
   simp only[bAE,Bool.not_eq_true']at h;obtain⟨⟨⟨g1,g2⟩,g3⟩,g4⟩:=h;have g3:=blE g3;have g4:=KP g4;have hv:s.den.t z=.rp id' p i k:=by show(s.t z).v s.r=_;rw[hsz1];rfl
   have U:=hz (by rw[hv];simp)
   have r1:=Z.tm z (by simpa using U)
   have r2:=J.tm z (by simpa using U)
   have e1:((List.range N).map s.den.t).getD z .dead=.rp id' p i k:=by rw[AV U,hv]
   have e2:(((List.range N).map s.den.t).map (rrV id q m)).getD z .dead=.rp id' p i k:=by
    have:(((List.range N).map s.den.t).map (rrV id q m)).getD z .dead=rrV id q m (s.den.t z):=by simp[U]
    rw[this,hv];exact if_neg (Dh g1).1
   rw[e1,had]at r1;rw[e2,had]at r2;obtain⟨s0,sz,n,f0,b,o0,cap,hid,hat,hi,hk,he,_,hns,_,_⟩:=Jf Z.wr r1.1;obtain⟨b2,off2,he2,hF⟩:=Xb J.wr r2.1;have hbb:b2=b:=by rw[he]at he2;cases he2;rfl
   subst hbb;have hnsz:sz=(Ai s.r id' p).w:=by rw[<-hns];exact Ci g2
   have hne:id'≠m:=λe=>(Dh g1).2 m [] (by simp) ⟨e,rfl⟩
   have hblk:w'.heap[b2]? =w.heap[b2]?:=hsame b2 (J.wr.lt _ _ hF) λhm=>J.wr.disj id' m b2 hne hF hm
   have B:∀k',k+k'<sz->∃y,w.cell? ⟨b2,o0+i*sz+(k+k'),none⟩=some y:=λk' W=>by
    obtain⟨fp1,hr,_,_⟩:=DF (w':=w) p _ _ _ _ _ (Z.wr.rel id' hid) (λb hb h'=>Z.wr.dD id' b h' hb) hat
    rcases hr with⟨h0,_⟩|⟨b',o',cap',G,he',_,_,_,h5,_⟩
    .omega
    .obtain⟨rfl,rfl,_⟩:=Az he'
     obtain⟨y,hy,_⟩:=h5 i (k+k') hi W;exact⟨y,hy⟩
   cases he;refine⟨hblk,?_,λs1 hs1 k' W=>?_⟩
   .obtain⟨y,hy⟩:=B 0 (by omega)
    exact⟨y,by simpa [Nat.add_assoc]using hy⟩
   .rw[hsz ti hti s1 hs1]at W
    obtain⟨y,hy⟩:=B k' (by omega)
    refine⟨y,?_⟩;rw[AX rfl];simpa [Nat.add_assoc]using hy
  .rename_i ti u xv hti hsz1
   simp only[bAE]at h;obtain⟨g3,g4⟩:=h;have g3:=blE g3;have g4:=KP g4;have hv:s.den.t z=Bj false (tyV u 0 xv):=by show(s.t z).v s.r=_;rw[hsz1];rfl
   have U:=hz (by rw[hv];simp[Bj])
   have r2:=J.tm z (by simpa using U)
   have e2:(((List.range N).map s.den.t).map (rrV id q m)).getD z .dead=Bj false (tyV u 0 xv):=by
    have:(((List.range N).map s.den.t).map (rrV id q m)).getD z .dead=rrV id q m (s.den.t z):=by simp[U]
    rw[this,hv];rfl
   rw[e2,had]at r2;have hul:(tyV u 0 xv).length=u.w:=Ay u 0 xv;rcases r2 with⟨_,h0,_⟩|⟨b,o0,cap,G,he,_,_,_,h5,h6,_⟩
   .cases h0
   .have hb:=(h6 rfl).1 (by rw[hul];omega)
    have hblk:w'.heap[b]? =w.heap[b]?:=hsame b (J.wr.Dlt b hb) λhm=>J.wr.dD m b hm hb
    have B:∀k',k'<u.w->∃y,w.cell? ⟨b,o0+k',none⟩=some y:=λk' W=>by
     obtain⟨y,hy,_⟩:=h5 0 k' (by omega) (by rw[hul];exact W)
     exact⟨y,by simpa using hy⟩
    cases he;refine⟨hblk,?_,λs1 hs1 k' W=>?_⟩
    .obtain⟨y,hy⟩:=B 0 (by omega)
     exact⟨y,by simpa using hy⟩
    .rw[hsz ti hti s1 hs1]at W
     obtain⟨y,hy⟩:=B k' (by omega)
     refine⟨y,?_⟩;rw[AX rfl];exact hy
 |_=>cases h
def flT(E:Env)(ops:Array Oper)(fs:List Nat):Bool:=fs.all λf=>match ops[f]? with
 |some o=>AaJ o.op&&(match o.op with
  |.fieldAddr t _ k=>match(E.Θ.look t).bind (·.flds[k]?)with
   |some _=>true
   |none=>false
  |_=>true)
 |none=>true
theorem YB(u:E.Θ.OK P)(h:flT E ops fs=true):FlT P ops fs:=by
 intro f hf o Z;have e:=aET.1 h f hf;rw[Z]at e;simp at e;refine⟨e.1,λt x k B=>?_⟩
 have J:=e.2;rw[B]at J
 dsimp only at J
 split at J
 case h_2=>grind
 rename_i p U;obtain⟨off,sz⟩:=p;cases W:E.Θ.look t with
 |none=>grind
 |some i=>
  rw[W]at U;exact⟨off,sz,u.fld W U⟩
theorem Zo(Z:E.Θ.OK P){ops:Array Oper}{n:Nat}{fs:List Nat}(h:UA E s late o1 o2 o3=some A)(hp:A.p)(hs:AR C E.h.n s.den a w)
  (hon:ops[n]? =some o1) (U:∀f∈fs,∀o,ops[f]? =some o->o∈late) (hft:FlT P ops fs):FlH P ops n fs a w:=by
 unfold UA at h;split at h
 case h_2=>cases h
 rename_i d t x y e t2 u v t3 hrow;obtain⟨ho1,hd1,ho2,hd2,ho3,hd3,hde,hnu,hnv⟩:=Jg hrow;split at h
 case h_2=>cases h
 rename_i ti ti2 ti3 id q hti hti2 hti3 hx;split at h
 case h_2=>cases h
 rename_i ro t' dx xs dy ys js J hy;split at h
 case isFalse=>cases h
 rename_i ht;subst ht;split at h
 case h_2=>cases h
 rename_i id' p kk di i hu hv;obtain⟨hb,h⟩:=Bb h;simp only[bAE,Bool.not_eq_true']at hb;obtain⟨⟨⟨⟨⟨⟨⟨⟨⟨⟨⟨b1,b2⟩,b3⟩,b4⟩,b5⟩,b6⟩,b7⟩,b8⟩,b9⟩,b10⟩,b11⟩,b12⟩:=hb;have b1:=bqE b1;subst b1;have b5:=bqE b5;have b6:=bqE b6;have b7:=bqE b7;have b9:=XV b9;have b10:=XV b10;split at h
 case h_2=>cases h
 rename_i c r0 hc hset;cases h;obtain⟨⟨⟨hi0,hil⟩,hcp⟩,hlim⟩:=hp;obtain rfl:=IP _ _ _ hc hcp;have hY:∀j∈js,j<s.r.length/\j≠id':=by
  obtain⟨_,_,D,ρ,F,W⟩:=hs;exact(Il W ‹_› hy).js
 obtain⟨v',w',hrun,_,D,ρ,F,hcr2,B⟩:=PH Z ho1 hd1 b9 hti (KP b2) (KP b3) hx J hy b4 (by simpa [Ib]using hlim) hs
 have hsd:(∃D ρ F,CR C (Ap js s).den.σ ((List.range E.h.n).map (Ap js s).den.t) a.tmps w D ρ F)/\∀x,E.h.n<=x->(Ap js s).den.t x=.dead:=by
  obtain⟨_,hdd,D,ρ,F,W⟩:=hs;obtain⟨F1,hcr1,_⟩:=CJ js W (λj hj=>(hY j hj).1)
  exact⟨⟨D,ρ,F1,hcr1⟩,BZ js hdd⟩
 intro on hon';obtain rfl:on=o1:=Option.some.inj (hon'.symm.trans hon);refine⟨v',w',hrun,FlT.same hft (Xz Z hsd.2 hsd.1 ⟨D,ρ,F,hcr2,B⟩ λf hf o ho=>aET.1 b12 o (U f hf o ho))⟩
theorem Uz(h:UA E s late o1 o2 o3=some A):Kp (Av [o1,o2,o3]) s A.s:=by
 unfold UA at h;split at h
 case h_2=>cases h
 rename_i d t x y e t2 u v t3 W;obtain⟨_,hd1,_,hd2,_,_,_,_,_⟩:=Jg W;split at h
 case h_2=>cases h
 rename_i ti B ti3 id q hti hti2 hti3 hx;split at h
 case h_2=>cases h
 rename_i ro t' dx xs dy ys js hnode hy;split at h
 case isFalse=>cases h
 rename_i ht;split at h
 case h_2=>cases h
 rename_i id' p kk di i hu hv;generalize hcond:(Nat.beq id' id&&Nat.blt 0 ti.bytes&&Nat.blt 0 ti.ty.w&&dOK ti.ty dy dx&&Nat.beq ti3.ty.w 1&&Nat.beq (Ai (Ap js s).r id p).w B.ty.w&&Nat.beq B.ty.w 1&&(Ai (Ap js s).r id p).live&&Nat.blt d E.h.n&&Nat.blt e E.h.n&& !E.h.fz.contains e&&late.all (Ps E (Ap js s) s.r.length id q))=cond at h;cases cond with
 |false=>cases h
 |true=>
 simp only[cond_true]at h;split at h
 case h_2=>cases h
 rename_i c r0 hc U;cases h;have k0:Kp (Av [o1,o2,o3]) s (Ap js s):=(JF js s (OG hy)).weak λ_ _=>rfl
 refine k0.trans ⟨λj hj hst=>?_,λJ hid Z=>?_,by simp⟩ (λ_ h=>h) λ_ h=>h
 .have hjd:Nat.beq j d=false/\Nat.beq j e=false:=by
   refine⟨?_,?_⟩
   .cases hb:Nat.beq j d with
    |false=>rfl
    |true=>
     have:=bqE hb;subst this;simp[Av,hd1]at hj
   .cases hb:Nat.beq j e with
    |false=>rfl
    |true=>
     have:=bqE hb;subst this;simp[Av,hd2]at hj
  show(bif Nat.beq j d||Nat.beq j e then Sl.one .dead else _)=_;rw[hjd.1,hjd.2];exact Sl.kill_stay hst _ _ _
 .have hne:J≠id:=by
   rintro rfl
   rw[IL U]at Z;cases Z
  show((Ap js s).r.set id r0++[Af.dead,Af.dead]).getD J .dead=_;rw[gDE,gAL (by simpa using hid),List.getElem?_set_ne (Ne.symm hne),<-gDE]
end
theorem CR.frz1{ts:List V}{cts:Array Value}(h:CR C σ ts cts w D ρ F){j:Nat}(hj:j<σ.length)(ho:σ.getD j .dead=.nd false true sz 1 f)(hk:k<sz):
  Wy C (σ.set j (upd [(0,k)] (σ.getD j .dead) (Go.Ve.frz (f 0 k)))) (ts.map (AQ j [(0,k)])) cts w:=by
 have hr0:=h.wr.rel j hj;rw[ho]at hr0;rcases hr0 with⟨h0,_⟩|⟨b,o,cap,G,hcv,hcap,hmax,hs,hr,_,hown⟩
 .cases h0
 obtain⟨hb,hnb,hdis,hfp⟩:=hown rfl;have Z:∀k' x,k'<sz->G 0 k' x->F j x:=λk' x B u=>(hfp x).2 (.inr ⟨0,k',Nat.one_pos,B,u⟩)
 have hF:∀i x,(if i=j then λx=>F j x/\¬G 0 k x else F i) x->F i x/\¬G 0 k x:=by
  intro i x u;split at u
  .rename_i e;subst e;exact u
  .rename_i e
   exact⟨u,λW=>h.wr.disj i j x e u (Z k x hk W)⟩
 refine⟨λx=>D x\/G 0 k x,ρ,λi=>if i=j then λx=>F j x/\¬G 0 k x else F i,⟨λi hi=>?_,λi l x hil h1 h2=>h.wr.disj i l x hil (hF _ _ h1).1 (hF _ _ h2).1,λi x u hd=>?_,λx u=>?_,λi x hi u=>h.wr.out i x (by simpa using hi) (hF _ _ u).1⟩,by simpa using h.sz,λt ht=>?_,h.fr,λi x u=>h.Fn i x (hF _ _ u).1,λx u=>.inl (h.D1 x u),λx u hlt=>?_,h.rt,by simpa using h.ml⟩
 .have hi:i<σ.length:=by simpa using hi
  by_cases he:i=j
  .subst he
   rw[Aq hj,ho];simp only[if_true];obtain⟨G',hG'⟩:∃G':Nat->Nat->Nat->Prop,G'=λi' k'=>if i'=0/\k'=k then noF else G i' k':=⟨_,rfl⟩
   have g0:G' 0 k=noF:=by rw[hG'];exact if_pos ⟨rfl,rfl⟩
   have gi:∀i' k',¬ (i'=0/\k'=k)->G' i' k'=G i' k':=λi' k' e=>by rw[hG'];exact if_neg e
   have gg:∀i' k' x,G' i' k' x->¬ (i'=0/\k'=k)/\G i' k' x:=λi' k' x u=>by
    by_cases e:i'=0/\k'=k
    .rw[e.1,e.2,g0]at u;exact u.elim
    .rw[gi _ _ e]at u;exact⟨e,u⟩
   refine .inr ⟨b,o,cap,G',hcv,hcap,hmax,hs,λi' k' J B=>?_,λe=>(by cases e),λ_=>⟨hb,λi' k' J B u=>hnb i' k' J B (gg _ _ _ u).2,λi1 k1 i2 k2 x a1 a2 a3 a4 a5 g1 g2=>hdis i1 k1 i2 k2 x a1 a2 a3 a4 a5 (gg _ _ _ g1).2 (gg _ _ _ g2).2,λx=>?_⟩⟩
   .obtain⟨x,u,hrx⟩:=hr i' k' J B
    refine⟨x,u,?_⟩;obtain rfl:i'=0:=by omega
    by_cases e:k'=k
    .subst e
     simp only[and_self,if_true];rw[g0];exact Rel.frz _ _ _ hrx
    .simp only[e,and_false,if_false]
     rw[gi 0 k' λh=>e h.2]
     exact Rel.mono (λ_ h=>.inl h) (λ_ _ h=>h) _ _ _ (λ_ _=>rfl) hrx
   .constructor
    .rintro ⟨h1,h2⟩
     rcases(hfp x).1 h1 with e|⟨i',k',J,B,W⟩
     .exact .inl e
     .refine .inr ⟨i',k',J,B,?_⟩
      rw[gi _ _ λe=>h2 (by rw[<-e.1,<-e.2];exact W)]
      exact W
    .rintro (e|⟨i',k',J,B,W⟩)
     .subst e
      exact⟨(hfp _).2 (.inl rfl),hnb 0 k Nat.one_pos hk⟩
     .obtain⟨e,W⟩:=gg _ _ _ W
      obtain rfl:i'=0:=by omega
      refine⟨Z k' x B W,λhg2=>hdis 0 k' 0 k x J B J hk (.inr λe2=>e ⟨rfl,e2⟩) W hg2⟩
  .rw[Ao (Ne.symm he)]
   simp only[he,if_false];exact Rel.mono (λ_ h=>.inl h) (λ_ _ h=>h) _ _ _ (λ_ _=>rfl) (h.wr.rel i hi)
 .obtain⟨h1,h2⟩:=hF i x u
  exact hd.elim (h.wr.dD i x h1) h2
 .exact u.elim (h.wr.Dlt x) λW=>h.wr.lt j x (Z k x hk W)
 .simp at ht
  have e1:(ts.map (AQ j [(0,k)])).getD t .dead=AQ j [(0,k)] (ts.getD t .dead):=by simp[ht]
  rw[e1];refine Rel.mono (λ_ h=>.inl h) (λ_ _ h=>h) _ _ _ (λ_ _=>rfl) ((Bg _ _).rel (R':=Au (σ.set j (upd [(0,k)] (σ.getD j .dead) (Go.Ve.frz (f 0 k)))) ρ w) (λ_ _=>rfl) ?_ ?_ _ _ noF (λ_ h=>h) (h.tm t ht))
  .rintro id q off len cv ⟨hid,U,n',f',cn,ha,r⟩
   simp only[AQ];split
   .exact λ_ h=>h
   .rename_i hne
    refine⟨⟨by simpa using hid,?_⟩,λ_ h=>h⟩
    by_cases e:id=j
    .subst e
     rw[Aq hj];obtain⟨f2,h2⟩:=At.keep (x:=Go.Ve.frz (f 0 k)) [(0,k)] q _ _ (by rw[ho];exact⟨rfl,Nat.one_pos,hk,trivial⟩) (by simpa using hne) ha
     exact⟨U,n',f2,cn,h2,r⟩
    .rw[Ao (Ne.symm e)]
     exact⟨U,n',f',cn,ha,r⟩
  .rintro id q i' k' cv ⟨hid,s',U,n',f',b',o',cap',ha,r⟩
   simp only[AQ];split
   .exact λ_ h=>h
   .rename_i hne
    refine⟨⟨by simpa using hid,?_⟩,λ_ h=>h⟩
    by_cases e:id=j
    .subst e
     rw[Aq hj];obtain⟨f2,h2⟩:=At.keep (x:=Go.Ve.frz (f 0 k)) [(0,k)] q _ _ (by rw[ho];exact⟨rfl,Nat.one_pos,hk,trivial⟩) (by simpa using hne) ha
     exact⟨s',U,n',f2,b',o',cap',h2,r⟩
    .rw[Ao (Ne.symm e)]
     exact⟨s',U,n',f',b',o',cap',ha,r⟩
 .rcases u with u|u
  .exact h.D2 x u hlt
  .exact(h.Fn j x (Z k x hk u)).elim .inr λhge=>absurd hlt (Nat.not_lt.2 hge)
def Aah(id k:Nat)(s:St):Option St:=match s.r.getD id .dead with
 |.obj false l=>match l.getD k .dead with
  |.c (.sl t) (_+1) xs=>match(s.r.getD id .dead).setAt [] 0 k (.c (.sl t) 0 xs)with
   |some e=>some ⟨λi=>(s.t i).kill id [k] [],s.r.set id e⟩
   |none=>none
  |_=>some s
 |_=>some s
theorem XJ(h:Aah id k s=some s')(hs:AR C N s.den a w):AR C N s'.den a w/\Kp (λ_=>true) s s':=by
 unfold Aah at h;split at h
 case h_2=>cases h;exact⟨hs,Kp.refl _ _⟩
 rename_i l hr;split at h
 case h_2=>cases h;exact⟨hs,Kp.refl _ _⟩
 rename_i t d xs hl;split at h
 case h_2=>cases h
 rename_i u J;cases h;have B:id<s.r.length:=by
  rcases Nat.lt_or_ge id s.r.length with h|h
  .exact h
  .rw[gDE,List.getElem?_eq_none h]at hr;cases hr
 have hkl:k<l.length:=by
  rcases Nat.lt_or_ge k l.length with h|h
  .exact h
  .rw[gDE,List.getElem?_eq_none h]at hl;cases hl
 have hσ:s.den.σ.getD id .dead=Bj true (l.map Cl.v0):=by
  show(s.r.map Af.v).getD id .dead=_;rw[AA,hr];rfl
 obtain⟨hd,hdd,D,ρ,F,hcr⟩:=hs;have hf:=hcr.frz1 (by simpa [St.den]using B) hσ (by simpa using hkl)
 have U:Go.Ve.frz ((l.map Cl.v0).getD k .dead)=(Cl.c (.sl t) 0 xs).v0:=by
  have:(l.map Cl.v0).getD k .dead=(l.getD k .dead).v0:=by
   simp[gDE,List.getElem?_map,gEE hkl]
  rw[this,hl];exact Pv (t:=.sl t) rfl _ _
 have hlen:∀id' q,hit id [k] [] id' q=false->(Ai (s.r.set id u) id' q).len=(Ai s.r id' q).len:=by
  intro id' q hq;by_cases e:id'=id
  .subst e
   have hp:pre [k] q=false:=by
    unfold hit at hq;simpa using hq
   have h1:=Kx [] _ _ J q hp;unfold Ai;have e2:(s.r.set id' u).getD id' .dead=u:=by simp[gDE,B]
   rw[e2];exact h1
  .rw[Bs e]
 have hk:=λy=>Sl.kill_v (r:=s.r) (r':=s.r.set id u) (GOK.kill (id:=id) (P:=[(0,k)])) hlen y
 refine⟨⟨hd,λi W=>?_,?_⟩,⟨λi _ hst=>Sl.kill_stay hst _ _ _,λid' _ Z=>?_,by simp⟩⟩
 .have h0:(s.t i).v s.r=.dead:=hdd i W
  have h1:=hk (s.t i);rw[h0]at h1;rcases h1 with h|h
  .exact h
  .exact h
 .obtain⟨D',ρ',F',hc'⟩:=hf
  refine⟨D',ρ',F',hc'.sub (by simp[St.den]) (λi _=>?_) (by simp) λi W=>?_⟩
  .by_cases e:i=id
   .subst e
    rw[Aq (by simpa [St.den]using B)]
    show Sub (upd [(0,k)] _ (Go.Ve.frz ((l.map Cl.v0).getD k .dead))) (((s.r.set i u).map Af.v).getD i .dead);rw[U];rw[AA];have e2:(s.r.set i u).getD i .dead=u:=by simp[gDE,B]
    rw[e2];have e3:s.den.σ.getD i .dead=(s.r.getD i .dead).v:=AA _ _;rw[e3];exact Ld [] _ _ J
   .rw[Ao (Ne.symm e)]
    show Sub ((s.r.map Af.v).getD i .dead) (((s.r.set id u).map Af.v).getD i .dead);rw[AA,AA];have e2:(s.r.set id u).getD i .dead=s.r.getD i .dead:=by simp only[gDE,List.getElem?_set_ne (Ne.symm e)]
    rw[e2];exact Sub.refl _
  .have W:i<N:=by simpa using W
   have e1:(((List.range N).map s.den.t).map (AQ id [(0,k)])).getD i .dead=AQ id [(0,k)] ((s.t i).v s.r):=by simp[W,St.den]
   rw[e1,AV W];exact hk (s.t i)
 .have hne:id'≠id:=by
   rintro rfl
   rw[hr]at Z;cases Z
  simp only[gDE,List.getElem?_set_ne (Ne.symm hne)]
def Nk(id:Nat):List Nat->St->Option St
 |[],s=>some s
 |k::l,s=>match Aah id k s with
  |some s'=>Nk id l s'
  |none=>none
def JB{C:Ctx}{N:Nat}{id:Nat}{a:Act}{w:World}:∀(l:List Nat) {s s':St},Nk id l s=some s'->AR C N s.den a w->AR C N s'.den a w/\Kp (λ_=>true) s s'
 |[],s,s',h,hs=>by cases h;exact⟨hs,Kp.refl _ _⟩
 |k::l,s,s',h,hs=>by
  unfold Nk at h;split at h
  case h_2=>cases h
  rename_i s1 e;obtain⟨g1,g2⟩:=XJ e hs;obtain⟨B,u⟩:=JB l h g1;exact⟨B,g2.trans u (λ_ _=>rfl) λ_ _=>rfl⟩
def frzO(E:Env)(s:St)(o:Oper):Option St:=match o.op,o.dst with
 |.load t (.tmp z),some d=>bif E.h.fz.contains (4000000+d)then(match s.t z,E.Θ.look t with
  |.one (.rp id [] 0 k),some i=>Nk id ((List.range i.ty.w).map λj=>k+j) s
  |_,_=>some s)else some s
 |_,_=>some s
theorem Aag(h:frzO E s o=some s')(hs:AR C N s.den a w):AR C N s'.den a w/\Kp (λ_=>true) s s':=by
 have u:some s=some s'->AR C N s'.den a w/\Kp (λ_=>true) s s':=λe=>by cases e;exact⟨hs,Kp.refl _ _⟩
 unfold frzO at h;split at h
 case h_2=>exact u h
 rename_i t z d _ _;cases B:E.h.fz.contains (4000000+d)with
 |false=>rw[B]at h;exact u h
 |true=>
  rw[B]at h;simp only[cond_true]at h;split at h
  .exact JB _ h hs
  .exact u h
def frzP(E:Env)(s:St)(o:Oper):Option St:=match o.op with
 |.store t (.tmp z) _=>bif E.h.fz.contains (5000000+z)then(match s.t z,E.Θ.look t with
  |.one (.rp id [] 0 k),some i=>Nk id ((List.range i.ty.w).map λj=>k+j) s
  |_,_=>some s)else some s
 |_=>some s
theorem Aaf(h:frzP E s o=some s')(hs:AR C N s.den a w):AR C N s'.den a w/\Kp (λ_=>true) s s':=by
 have u:some s=some s'->AR C N s'.den a w/\Kp (λ_=>true) s s':=λe=>by cases e;exact⟨hs,Kp.refl _ _⟩
 unfold frzP at h;split at h
 case h_2=>exact u h
 rename_i t z _ _;cases B:E.h.fz.contains (5000000+z)with
 |false=>rw[B]at h;exact u h
 |true=>
  rw[B]at h;simp only[cond_true]at h;split at h
  .exact JB _ h hs
  .exact u h
end Go.Ve

