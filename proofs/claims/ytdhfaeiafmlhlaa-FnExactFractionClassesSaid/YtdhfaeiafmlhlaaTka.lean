/- The typed machine: lists of operations in memory; regions that draw their order. -/
import Derived.Test.YtdhfaeiafmlhlaaTj
import Derived.Test.YtdhfaeiafmlhlaaTu
import Derived.Test.YtdhfaeiafmlhlaaVwa
set_option linter.all false
namespace Go.Ve
variable{p:AX}{r r':Ab}{c:Cl}{h:Cw}{d i id k:Nat}{g:Nat->Bool}{v x:Option Sl}{ti:Option TI}{P:Program}{y:Sl}{s s' s1:St}{Θ:Tab}
theorem WQ{C:Ctx}{N:Nat}(hΘ:Θ.OK P){s s':St}{o:Oper}{t:TypeId}{x v:Operand}{a:Act}{w:World}{next:Act->World->Prop}{Q:Exit->Act->World->Prop}
  (ho:o.op=.store t x v) (hdst:o.dst=none) (h:IW s (Θ.look t) (s.ev x) (s.ev v)=some s') (hs:AQ C N s.den a w) (hn:∀a' w',AQ C N s'.den a' w'->next a' w'):o.wp P a w next Q:=by
 obtain⟨hd,hdd,D,ρ,F,B⟩:=hs;unfold IW at h;split at h
 case h_2=>cases h
 rename_i ti id p i k y hti hx hv;split at h
 case h_2=>cases h
 rename_i l hl;obtain⟨hb,h⟩:=A9 h;simp only[bAE]at hb;obtain⟨⟨h1,h2⟩,h3⟩:=hb;have h1:=bqE h1;have h2:=blE h2;have hnsz:=Ci h3;obtain⟨hpl,hcv,_⟩:=CJ (r:=s.r) hl;obtain⟨d,tii,z,hdt,hit,hz,his,_⟩:=CO (hΘ.ty hti);simp only at his;have O:=By B hdd x;rw[A7 hx]at O;have O:Rel D w (Ak s.den.σ ρ w) (.rp id p i k) (a.eval x) noF:=O;obtain⟨s0,sz,n,f,b,o',cap,hid,ha,hi,hk,had,_,hns,_,_⟩:=JU B.wr O.1;have hrv:=By B hdd v;rw[A7 hv]at hrv;obtain⟨⟨U,J⟩,_⟩:=Ce (λv cv h=>Ak.one h) hpl hrv
 rw[hcv]at U J;have hlen:(l.map (Cl.v s.r)).length=l.length:=List.length_map ..
 have hcr2:CR C s.den.σ ((List.range N).map s.den.t++ .rp id p i k::l.map (Cl.v s.r)) (a.tmps.toList++ .pointer (some ⟨b,(o'+i*sz)+k,none⟩)::(a.eval v).cells.toList).toArray w D ρ F:=by
  have W:a.tmps.size=N:=by simpa using B.sz
  refine⟨B.wr,by simp[W,U],λj hj=>?_,B.fr,B.Fn,B.D1,B.D2,B.rt,B.ml⟩
  by_cases Z:j<N
  .rw[AD (by simpa using Z)]
   have h1:=B.tm j (by simpa using Z)
   have e:(a.tmps.toList++ .pointer (some ⟨b,(o'+i*sz)+k,none⟩)::(a.eval v).cells.toList).toArray.getD j undef=a.tmps.getD j undef:=by
    simp[gAL,W,Z]
   rw[e];exact h1
  .obtain⟨m,rfl⟩:∃m,j=N+m:=⟨j-N,by omega⟩
   have e1:((List.range N).map s.den.t++ .rp id p i k::l.map (Cl.v s.r)).getD (N+m) .dead=(.rp id p i k::l.map (Cl.v s.r)).getD m .dead:=by
    simp[gAR]
   have e2:(a.tmps.toList++ .pointer (some ⟨b,(o'+i*sz)+k,none⟩)::(a.eval v).cells.toList).toArray.getD (N+m) undef=(.pointer (some ⟨b,(o'+i*sz)+k,none⟩)::(a.eval v).cells.toList).getD m undef:=by
    simp only[Array.getD_eq_getD_getElem?,List.getElem?_toArray,gDE];rw[gAR (by simp;omega)]
    simp[W]
   rw[e1,e2];cases m with
   |zero=>rw[had]at O;exact O
   |succ m=>
    simp at hj;have:=J m (by simpa using hj)
    simpa using this
 obtain⟨w',hrun,hdd',hcr3⟩:=U8 (P:=P) l.length l (a.eval v).cells.toList 0 s s' w ρ F hcr2 (by simpa using B.sz) hdd (by simpa using U) (by show k+0+l.length<=A2 (s.r.map Ab.v) id p;rw[hnsz];omega) h
 have hsv:(storeVar t ⟨b,(o'+i*sz)+k,none⟩ (a.eval v)).run P w=.ok () w':=by
  simp only[storeVar,Sem.run_bind,sizeOf,typeInfo];have e:(a.eval v).cells.size=ti.ty.w:=by rw[U,hlen,h1]
  simp[hit,his,hrun,e]
 have hex:(execOp a.eval o).run P w=.ok .skip w':=by
  unfold execOp;rw[ho];simp[Instr.storeAt,had,Instr.sureAddr,hsv]
 unfold Oper.wp;rw[hex,Oper.upon_skip,hdst];exact hn a w' ⟨hd,hdd',hcr3⟩
structure PD where
 p:Prop
 dec:Decidable p
def XM:AX->AX->Option PD
 |[],[]=>some ⟨True,inferInstance⟩
 |(i,k)::p,(j,l)::q=>bif Nat.beq k l then(match XM p q with
  |some c=>some ⟨(i<=j/\j<=i)/\c.p,@instDecidableAnd _ _ inferInstance c.dec⟩
  |none=>none)else none
 |_,_=>none
def Jn:∀(p q:AX) (c:PD),XM p q=some c->c.p->p=q
 |[],[],_,_,_=>rfl
 |(i,k)::p,(j,l)::q,c,h,hc=>by
  unfold XM at h;cases e:Nat.beq k l with
  |false=>grind
  |true=>
   rw[e]at h;split at h
   case h_2=>grind
   rename_i c' B;cases h;rw[bqE e,Jn p q c' B hc.2,Nat.le_antisymm hc.1.1 hc.1.2]
 |[],_::_,_,h,_=>by cases h
 |_::_,[],_,h,_=>by cases h
structure PtR where
 p:Prop
 dec:Decidable p
 s:St
variable{A:PtR}
def WY(s:St):Option TI->Option Sl->Option Sl->Option PtR
 |some ti,some (.one (.rp id p i k)),some (.one (.rs id' q off len))=>bif Nat.beq id' id&&Nat.beq ti.ty.w 1&&Nat.ble (k+1) (Af s.r id p).w&&(Af s.r id p).live then(match XM q (p++[(i,k)])with
  |some c=>match Af s.r id q with
   |.arr false t d xs=>match(s.r.getD id .dead).setAt p i k (.c (.sl t) (d+1) (Vm off len xs t.dflt))with
    |some e=>some ⟨c.p,c.dec,⟨λx=>(s.t x).kill id ((p++[(i,k)]).map (·.2)) [],s.r.set id e⟩⟩
    |none=>none
   |_=>none
  |none=>none)else none
 |_,_,_=>none
theorem Zv{C:Ctx}{N:Nat}(hΘ:Θ.OK P){s:St}{o:Oper}{t:TypeId}{x v:Operand}{a:Act}{w:World}{next:Act->World->Prop}{Q:Exit->Act->World->Prop}{A:PtR}
  (ho:o.op=.store t x v) (hdst:o.dst=none) (h:WY s (Θ.look t) (s.ev x) (s.ev v)=some A) (hp:A.p) (hs:AQ C N s.den a w) (hn:∀a' w',AQ C N A.s.den a' w'->next a' w'):o.wp P a w next Q:=by
 obtain⟨hd,hdd,D,ρ,F,B⟩:=hs;unfold WY at h;split at h
 case h_2=>cases h
 rename_i ti id p i k id' q off len hti hx hv;obtain⟨hb,h⟩:=A9 h;simp only[bAE]at hb;obtain⟨⟨⟨h0,h1⟩,h2⟩,h3⟩:=hb;have h0:=bqE h0;subst h0;have h1:=bqE h1;have h2:=blE h2;split at h
 case h_2=>cases h
 rename_i c hc;split at h
 case h_2=>cases h
 rename_i u d xs hnode;split at h
 case h_2=>cases h
 rename_i r0 hset;cases h;obtain rfl:=Jn _ _ _ hc hp;have hnsz:=Ci h3;obtain⟨d1,tii,z,hdt,hity,hz,his,_⟩:=CO (hΘ.ty hti);simp only at his;have O:=By B hdd x;rw[A7 hx]at O;have O:Rel D w (Ak s.den.σ ρ w) (.rp id' p i k) (a.eval x) noF:=O;obtain⟨s0,sz,n,f,b,o',cap,hid,ha,hi,hk,had,_,hns,_,_⟩:=JU B.wr O.1;have U:=By B hdd v;rw[A7 hv]at U;have U:Rel D w (Ak s.den.σ ρ w) (.rs id' (p++[(i,k)]) off len) (a.eval v) noF:=U;have hone:(a.eval v).oneCell'=true:=Ak.one U.1;have Z:a.tmps.size=N:=by simpa using B.sz
 have hcr2:CR C s.den.σ ((List.range N).map s.den.t++V.rp id' p i k::[V.rs id' (p++[(i,k)]) off len]) (a.tmps.toList++Value.pointer (some ⟨b,(o'+i*sz)+k,none⟩)::[a.eval v]).toArray w D ρ F:=by
  refine⟨B.wr,by simp[Z],λj hj=>?_,B.fr,B.Fn,B.D1,B.D2,B.rt,B.ml⟩
  by_cases hjt:j<N
  .rw[AD (by simpa using hjt)]
   have h1:=B.tm j (by simpa using hjt)
   have e:(a.tmps.toList++Value.pointer (some ⟨b,(o'+i*sz)+k,none⟩)::[a.eval v]).toArray.getD j undef=a.tmps.getD j undef:=by
    simp[gAL,Z,hjt]
   rw[e];exact h1
  .obtain⟨m,rfl⟩:∃m,j=N+m:=⟨j-N,by omega⟩
   have e1:((List.range N).map s.den.t++V.rp id' p i k::[V.rs id' (p++[(i,k)]) off len]).getD (N+m) .dead=([V.rp id' p i k,V.rs id' (p++[(i,k)]) off len]:List V).getD m .dead:=by
    simp[gAR]
   have e2:(a.tmps.toList++Value.pointer (some ⟨b,(o'+i*sz)+k,none⟩)::[a.eval v]).toArray.getD (N+m) undef=([Value.pointer (some ⟨b,(o'+i*sz)+k,none⟩),a.eval v]:List Value).getD m undef:=by
    simp only[Array.getD_eq_getD_getElem?,List.getElem?_toArray,gDE];rw[gAR (by simp;omega)]
    simp[Z]
   rw[e1,e2];simp at hj
   match m with
   |0=>rw[had]at O;exact O
   |1=>exact U
   |m+2=>omega
 have hnode2:sub (p++[(i,k)]) (s.den.σ.getD id' .dead)=arr true u.w (tyV u d) u.dflt xs:=by
  have:=AV (r:=s.r) (id:=id') (p:=p++[(i,k)]) (by rw[hnode];simp)
  rw[hnode]at this;exact this
 obtain⟨X,hX⟩:∃X:V,X=.nd true true u.w len λa b=>(tyV u d (xs.getD (a+off) u.dflt)).getD b .dead:=⟨_,rfl⟩
 have hput:Ov id' p i k (.rs id' (p++[(i,k)]) off len) [] s.den.σ (λcs' σ2 G2=>σ2=s.den.σ.set id' (upd (p++[(i,k)]) (s.den.σ.getD id' .dead) X)/\G2=AJ id' (p++[(i,k)])):=by
  unfold Ov;simp only[hnode2,arr];rw[if_pos ⟨trivial,trivial⟩];refine⟨?_,trivial⟩;rw[hX]
 obtain⟨G2,σ2,b1,o1,ρ1,F1,⟨y,hy⟩,hfz,h1c,⟨ofs,had1,hoff⟩,hGm,⟨hσ2,hGG⟩,hns1,hcr1⟩:=Iw hcr2 (by simpa using Z) (by show k<A2 (s.r.map Ab.v) id' p;rw[hnsz];omega) hput
 subst hσ2;subst hGG;simp only[Value.pointer.injEq,Option.some.injEq,Addr.mk.injEq,and_true]at had1;obtain⟨rfl,had1⟩:=had1;obtain rfl:ofs=o'+i*sz:=by omega
 have hidr:id'<s.r.length:=by simpa [St.den]using hid
 have hG:GOK (AJ id' (p++[(i,k)])) id' ((p++[(i,k)]).map (·.2)) []:=GOK.kill
 have hlen:∀W q2,hit id' ((p++[(i,k)]).map (·.2)) [] W q2=false->(Af (s.r.set id' r0) W q2).len=(Af s.r W q2).len:=by
  intro W q2 hh;by_cases he:W=id'
  .subst he
   rw[BP hidr];refine Kg p _ _ hset q2 ?_;cases hp2:pre ((p++[(i,k)]).map (·.2)) q2 with
   |false=>rfl
   |true=>
    unfold hit at hh;rw[Nat.beq_refl,hp2]at hh;cases hh
  .rw[Bq he]
 have hsub:∀j,Sub ((s.den.σ.set id' (upd (p++[(i,k)]) (s.den.σ.getD id' .dead) X)).getD j .dead) (((s.r.set id' r0).map Ab.v).getD j .dead):=λj=>by
  refine Ir ?_ j;show Sub (upd (p++[(i,k)]) ((s.r.map Ab.v).getD id' .dead) X) r0.v;rw[Aw];refine HG ?_ p _ _ hset;rw[hX];show Sub _ (arr true u.w (tyV u d) u.dflt (Vm off len xs u.dflt));unfold arr;have hl:(Vm off len xs u.dflt).length=len:=by simp[Vm]
  rw[hl];refine⟨_,rfl,λa2 b2 ha2 hb2=>?_⟩
  have e:(Vm off len xs u.dflt).getD a2 u.dflt=xs.getD (a2+off) u.dflt:=by
   simp[Vm,ha2,Nat.add_comm]
  rw[e];exact Sub.refl _
 have hs':AQ C N (St.den ⟨λx=>(s.t x).kill id' ((p++[(i,k)]).map (·.2)) [],s.r.set id' r0⟩) a (w.setCell ⟨b,o1,none⟩ (a.eval v)):=by
  have kv:=λj=>Sl.kill_v hG hlen (s.t j)
  refine⟨hd,λj hj=>?_,D,ρ1,F1,?_⟩
  .have h2:(s.t j).v s.r=.dead:=hdd j hj
   have h1:=kv j;rw[h2,hG.m.dead]at h1;exact Ax.of_dead h1
  .have hcr3:=hcr1.left (by simpa using Z)
   have e3:(a.tmps.toList).toArray=a.tmps:=by simp
   rw[e3]at hcr3;refine hcr3.sub (by simp[St.den]) (λj _=>hsub j) (by simp) λj hj=>?_
   have hj:j<N:=by simpa using hj
   have:=kv j;simpa [hj,St.den]using this
 have hsv:(storeVar t ⟨b,(o'+i*sz)+k,none⟩ (a.eval v)).run P w=.ok () (w.setCell ⟨b,o1,none⟩ (a.eval v)):=by
  have J:(a.eval v).cells.toList=[a.eval v]:=by
   have:=(Rel.cells1 U (λ_ _ h=>Ak.one h) rfl).1
   rw[this]
  simp only[storeVar,Sem.run_bind,sizeOf,typeInfo];have e:(a.eval v).cells.size=ti.ty.w:=by rw[h1,<-Array.length_toList,J];rfl
  have ea:(⟨b,(o'+i*sz)+k,none⟩:Addr).add 0=⟨b,o1,none⟩:=by rw[A3 rfl,hoff];rfl
  have hrun:(storeCells ⟨b,(o'+i*sz)+k,none⟩ (a.eval v).cells.toList 0).run P w=.ok () (w.setCell ⟨b,o1,none⟩ (a.eval v)):=by
   rw[J];simp only[storeCells,Sem.run_bind,ea];rw[run_store P w _ _ .plain hone,hy];simp only[hfz,Bool.false_eq_true,if_false];rfl
  simp[hity,his,hrun,e]
 have hex:(execOp a.eval o).run P w=.ok .skip (w.setCell ⟨b,o1,none⟩ (a.eval v)):=by
  unfold execOp;rw[ho];simp[Instr.storeAt,had,Instr.sureAddr,hsv]
 unfold Oper.wp;rw[hex,Oper.upon_skip,hdst];exact hn a _ hs'
def Cl.stay:Cl->Bool
 |.rf _ _=>false
 |.rs _ _ _ _=>false
 |.rp _ _ _ _=>false
 |.rm _ _=>false
 |_=>true
def Sl.stay:Sl->Bool
 |.one y=>y.stay
 |.new _=>true
 |.agg l=>l.all Cl.stay
 |.pk _ l=>l.all Cl.stay
 |.tup l=>l.all λp=>p.2.all Cl.stay
theorem AI{α:Type}{f:α->α}{l:List α}(h:∀y∈l,f y=y):l.map f=l:=by
 have:=List.map_congr_left h
 simp_all
theorem Sl.chk_stay(h:y.stay=true)(m:Nat):y.chk m=y:=by
 have c1:∀y:Cl,y.stay=true->y.chk m=y:=by intro y h;cases y<;>first|rfl|cases h
 cases y with
 |one y=>exact congrArg Sl.one (c1 y h)
 |new l=>rfl
 |agg l=>exact congrArg Sl.agg (AI λy e=>c1 y (aET.1 h y e))
 |pk t l=>exact congrArg (Sl.pk t) (AI λy e=>c1 y (aET.1 h y e))
 |tup l=>
  refine congrArg Sl.tup (AI λp B=>?_)
  obtain⟨b,m⟩:=p;exact congrArg (Prod.mk b) (AI λy e=>c1 y (aET.1 (aET.1 h _ B) y e))
theorem Sl.kill_stay(h:y.stay=true)(id:Nat)(ks:List Nat)(j:Mv):y.kill id ks j=y:=by
 have c1:∀y:Cl,y.stay=true->y.kill id ks j=y:=by intro y h;cases y<;>first|rfl|cases h
 cases y with
 |one y=>exact congrArg Sl.one (c1 y h)
 |new l=>rfl
 |agg l=>exact congrArg Sl.agg (AI λy e=>c1 y (aET.1 h y e))
 |pk t l=>exact congrArg (Sl.pk t) (AI λy e=>c1 y (aET.1 h y e))
 |tup l=>
  refine congrArg Sl.tup (AI λp B=>?_)
  obtain⟨b,m⟩:=p;exact congrArg (Prod.mk b) (AI λy e=>c1 y (aET.1 (aET.1 h _ B) y e))
def Ab.isRo:Ab->Bool
 |.obj ro _=>ro
 |.arr ro _ _ _=>ro
 |.opt ro _ _ _=>ro
 |.mp ro _ _ _=>ro
 |.dead=>true
theorem Nk{e:Ab}{q:AX}(h:Nl r q=some e):r.isRo=false:=by
 unfold Nl at h;split at h
 case h_2=>grind
 split at h
 case h_3=>grind
 .rfl
 rfl
structure Kp(g:Nat->Bool)(s s':St):Prop where
 t:∀i,g i=true->(s.t i).stay=true->s'.t i=s.t i
 r:∀id,id<s.r.length->(s.r.getD id .dead).isRo=true->s'.r.getD id .dead=s.r.getD id .dead
 l:s.r.length<=s'.r.length
def Kp.refl(g:Nat->Bool)(s:St):Kp g s s:=⟨λ_ _ _=>rfl,λ_ _ _=>rfl,Nat.le_refl _⟩
theorem Kp.trans{g1 g2:Nat->Bool}{Z:St}(B:Kp g1 s s1)(W:Kp g2 s1 Z)(U:∀i,g i=true->g1 i=true)(O:∀i,g i=true->g2 i=true):Kp g s Z:=by
 refine⟨λi hi hs=>?_,λid hl J=>?_,Nat.le_trans B.l W.l⟩
 .have e:=B.t i (U i hi) hs
  rw[W.t i (O i hi) (by grind),e]
 .have e:=B.r id hl J
  rw[W.r id (Nat.lt_of_lt_of_le hl B.l) (by grind),e]
def Kp.weak{e:Nat->Bool}(h:Kp e s s')(B:∀i,g i=true->e i=true):Kp g s s':=⟨λi hi=>h.t i (B i hi),h.r,h.l⟩
def A4{t:Nat->Sl}(h:i≠d):AK t d y i=t i:=by
 unfold AK;rw[BB h];rfl
theorem Ua{d:Option Nat}(B:s.put h d y=some s'):(∃new,s'.r=s.r++new)/\(∀i,d≠some i->(s.t i).stay=true->s'.t i=s.t i)/\(s'.r=s.r->∀i,d≠some i->s'.t i=s.t i):=by
 unfold St.put at B;cases d with
 |none=>simp_all
 |some d=>
  simp only at B;cases U:Nat.blt d h.n with
  |false=>grind
  |true=>
   rw[U]at B;simp only[cond_true]at B;cases O:h.fz.contains d with
   |true=>
    rw[O]at B;split at B
    .cases B
     exact⟨⟨[],by simp⟩,λi hi _=>A4 λe=>hi (by rw[e]),λ_ i hi=>A4 λe=>hi (by rw[e])⟩
    .cases B
   |false=>
    rw[O]at B;simp only[cond_false,Option.some.injEq]at B;subst B;unfold St.add;split
    .exact⟨⟨[],by simp⟩,λi hi _=>A4 λe=>hi (by rw[e]),λ_ i hi=>A4 λe=>hi (by rw[e])⟩
    .rename_i q new _
     refine⟨⟨q::new,rfl⟩,λi hi J=>?_,λW=>?_⟩
     .show AK (λi=>(s.t i).chk s.r.length) d (y.prom s.r.length).1 i=s.t i
      rw[A4 (λe=>hi (by rw[e]))]
      exact Sl.chk_stay J _
     grind
theorem Q9{d:Option Nat}(B:s.put h d y=some s'):Kp (λi=>decide (d≠some i)) s s':=by
 obtain⟨⟨new,O⟩,ht,_⟩:=Ua B;refine⟨λi hi e=>ht i (of_decide_eq_true hi) e,λid U J=>?_,by grind⟩
 grind
theorem Ll(h:r.setCell i k c=some r'):r.isRo=false:=by
 cases r with
 |dead=>cases h
 |opt=>cases h
 |mp=>cases h
 |obj ro l=>cases ro with
  |true=>cases h
  |false=>rfl
 |arr ro t d xs=>cases ro with
  |true=>cases h
  |false=>rfl
theorem HH(h:r.setAt p i k c=some r'):r.isRo=false:=by
 cases p with
 |nil=>exact Ll h
 |cons a p=>
  unfold Ab.setAt at h;split at h
  .split at h
   .exact Ll h
   grind
  grind
theorem Zt{r r':List Ab}{j:Mv}(h:Px id p i k c r=some (r',j)):∀id',(r.getD id' .dead).isRo=true->r'.getD id' .dead=r.getD id' .dead:=by
 intro id' B
 have key:∀x J y,(r.getD id .dead).setAt p i k y=some J->(r.set id x).getD id' .dead=r.getD id' .dead:=by
  intro x J y O;have:id'≠id:=by
   rintro rfl
   rw[HH O]at B;cases B
  simp only[gDE,List.getElem?_set_ne (Ne.symm this)]
 unfold Px at h;split at h
 .rename_i U
  cases W:Nat.beq U id with
  |true=>rw[W]at h;cases h
  |false=>
   rw[W]at h;simp only[cond_false]at h;split at h
   case h_2=>cases h
   rename_i t d xs hj;split at h
   case h_2=>cases h
   rename_i J O;cases h;have:id'≠U:=by rintro rfl;rw[hj]at B;cases B
   have e:((r.set id J).set U .dead).getD id' .dead=(r.set id J).getD id' .dead:=by
    simp only[gDE,List.getElem?_set_ne (Ne.symm this)]
   rw[e];exact key _ _ _ O
 .rename_i U a q
  cases W:Nat.beq U id with
  |true=>rw[W]at h;cases h
  |false=>
   rw[W]at h;simp only[cond_false]at h;split at h
   case h_2=>cases h
   rename_i t d xs hj;split at h
   case h_2=>cases h
   rename_i r1 J Z O;cases h;have h1:id'≠U:=by
    rintro rfl
    rw[Nk Z]at B;cases B
   have h2:id'≠id:=by
    rintro rfl
    rw[HH O]at B;cases B
   simp only[gDE,List.getElem?_set_ne (Ne.symm h2)];rcases Nat.lt_or_ge id' r.length with h3|h3
   .rw[gAL (by simpa using h3),List.getElem?_set_ne (Ne.symm h1)]
   .rw[List.getElem?_eq_none (l:=r) h3]
    by_cases h4:id'=r.length
    .subst h4
     rw[gAR (by simp)]
     simp
    .rw[List.getElem?_eq_none (by simp;omega)]
 .obtain⟨W,h⟩:=A9 h
  split at h
  case h_2=>cases h
  rename_i J O;cases h;exact key _ _ _ O
theorem AbX:∀(m k:Nat) (cs:List Cl) (s s':St),Zu id p i m k cs s=some s'->Kp (λ_=>true) s s':=by
 intro m
 induction m with
 |zero=>intro k cs s s' h;cases cs<;>cases h;exact Kp.refl _ _
 |succ m B=>
  intro k cs s s' h;cases cs with
  |nil=>cases h;exact Kp.refl _ _
  |cons c cs=>
   unfold Zu at h;split at h
   case h_2=>grind
   rename_i r' O e;refine Kp.trans ⟨λx _ J=>Sl.kill_stay J _ _ _,λid' _=>Zt e id',by obtain⟨_,_,_,_,_,U,_⟩:=WX e [];grind⟩ (B _ _ _ _ h) (λ_ _=>rfl) λ_ _=>rfl
theorem WR(h:IW s ti x v=some s'):Kp (λ_=>true) s s':=by
 unfold IW at h;split at h
 case h_2=>grind
 split at h
 case h_2=>grind
 rename_i ti id p i k y _ l B;cases e:(Nat.beq l.length ti.ty.w&&Nat.ble (k+ti.ty.w) (Af s.r id p).w&&(Af s.r id p).live)with
 |false=>grind
 |true=>rw[e]at h;exact AbX _ _ _ _ _ h
theorem Zw(h:WY s ti x v=some A):Kp (λ_=>true) s A.s:=by
 unfold WY at h;split at h
 case h_2=>cases h
 rename_i ti id p i k id' q off len;cases U:(Nat.beq id' id&&Nat.beq ti.ty.w 1&&Nat.ble (k+1) (Af s.r id p).w&&(Af s.r id p).live)with
 |false=>grind
 |true=>
 rw[U]at h;split at h
 case h_2=>cases h
 split at h
 case h_2=>cases h
 split at h
 case h_2=>cases h
 rename_i W e;cases h;refine⟨λj _ hj=>Sl.kill_stay hj _ _ _,λB O J=>?_,by simp⟩
 have:B≠id:=by
  rintro rfl
  rw[HH e]at J;grind
 grind
theorem Sl.kH_stay(h:y.stay=true)(r:List Ab)(j:Nat):y.kH r j=y:=by
 cases y with
 |one c=>
  cases c with
  |rf=>cases h
  |rs=>cases h
  |rp=>cases h
  |rm=>cases h
  |_=>rfl
 |new=>rfl
 |agg=>exact Sl.kill_stay h j [] []
 |tup=>exact Sl.kill_stay h j [] []
 |pk=>exact Sl.kill_stay h j [] []
theorem L4:∀(js:List Nat) (s:St),(∀j∈js,(s.r.getD j .dead).isRo=false\/s.r.getD j .dead=.dead)->Kp (λ_=>true) s (Ap js s)
 |[],s,_=>Kp.refl _ _
 |j::js,s,h=>by
  have U:Kp (λ_=>true) s (H8 j s):=by
   refine⟨λi _ hi=>Sl.kH_stay hi _ _,λid B O=>?_,by rw[Kx];simp⟩
   by_cases e:j=id
   .subst e
    rcases h j (List.mem_cons_self ..)with h2|h2
    .grind
    .show(s.r.set j .dead).getD j .dead=_
     rw[h2];simp[B]
   .exact JT e
  refine U.trans (L4 js (H8 j s) λi hi=>?_) (λ_ _=>rfl) λ_ _=>rfl
  by_cases J:i=j
  .subst J
   right;show(s.r.set i .dead).getD i .dead=.dead
   grind
  .have:(H8 j s).r.getD i .dead=s.r.getD i .dead:=JT (Ne.symm J)
   grind
def Kw(js:List Nat)(s:St)(h:∀j∈js,(s.r.getD j .dead).isRo=false):Kp (λ_=>true) s (Ap js s):=L4 js s λj hj=>.inl (h j hj)
def Sl.gv_stay(h:y.stay=true)(r:List Ab)(j:Nat)(z:Cl):y.gv r j z=y:=by
 unfold Sl.gv;split
 .cases h
 .exact Sl.kH_stay h r j
theorem Aak{j:Nat}(h:Yp j s=some s'):Kp (λ_=>true) s s':=by
 obtain⟨l,t,x,hj,J,U,rfl⟩:=LT h;refine⟨λi _ hi=>Sl.gv_stay hi _ _ _,λid O B=>JT λe=>?_,by simp⟩
 rw[<-e,J]at B
 trivial
def Ju:∀(xs:List Operand) {s s':St},OW xs s=some s'->Kp (λ_=>true) s s'
 |[],s,s',h=>by cases h;exact Kp.refl _ _
 |x::xs,s,s',h=>by
  unfold OW at h;split at h
  .split at h
   case h_2=>grind
   rename_i e;exact(Aak e).trans (Ju xs h) (λ_ _=>rfl) λ_ _=>rfl
  .exact Ju xs h
theorem Sl.mapC_stay(h:y.stay=true)(id:Nat)(q:AX)(m:Nat):y.mapC (Cl.rr id q m)=y:=by
 have c1:∀y:Cl,y.stay=true->y.rr id q m=y:=by intro y h;cases y<;>first|rfl|cases h
 cases y with
 |one y=>exact congrArg Sl.one (c1 y h)
 |new l=>rfl
 |agg l=>exact congrArg Sl.agg (AI λy e=>c1 y (aET.1 h y e))
 |pk t l=>exact congrArg (Sl.pk t) (AI λy e=>c1 y (aET.1 h y e))
 |tup l=>
  refine congrArg Sl.tup (AI λp B=>?_)
  obtain⟨b,m⟩:=p;exact congrArg (Prod.mk b) (AI λy e=>c1 y (aET.1 (aET.1 h _ B) y e))
theorem Nj(h:Abu s x=some s'):Kp (λ_=>true) s s':=by
 unfold Abu at h;split at h
 case h_2=>cases h;exact Kp.refl _ _
 rename_i id b O
 have key:∀(B R:Ab),Nl (s.r.getD id .dead) (b::O)=some B->Kp (λ_=>true) s ⟨λi=>(s.t i).mapC (Cl.rr id (b::O) s.r.length),s.r.set id B++[R]⟩:=by
  intro B R e;refine⟨λi _ hi=>Sl.mapC_stay hi _ _ _,λid' W J=>?_,by simp⟩
  have U:id'≠id:=by
   rintro rfl
   rw[Nk e]at J;grind
  grind
 split at h
 case h_2=>cases h;exact Kp.refl _ _
 grind
theorem Sl.mapK_stay(h:y.stay=true)(id:Nat)(q:AX)(m:Nat):y.mapC (Cl.rk id q m)=y:=by
 have c1:∀y:Cl,y.stay=true->y.rk id q m=y:=by intro y h;cases y<;>first|rfl|cases h
 cases y with
 |one y=>exact congrArg Sl.one (c1 y h)
 |new l=>rfl
 |agg l=>exact congrArg Sl.agg (AI λy e=>c1 y (aET.1 h y e))
 |pk t l=>exact congrArg (Sl.pk t) (AI λy e=>c1 y (aET.1 h y e))
 |tup l=>
  refine congrArg Sl.tup (AI λp B=>?_)
  obtain⟨b,m⟩:=p;exact congrArg (Prod.mk b) (AI λy e=>c1 y (aET.1 (aET.1 h _ B) y e))
theorem Add{x:Operand}(h:cutO s x=some s'):Kp (λ_=>true) s s':=by
 unfold cutO at h;split at h
 case h_2=>exact Nj h
 rename_i y;split at h
 case h_2=>exact Nj h
 rename_i id b q1 O;split at h
 case h_2=>exact Nj h
 rename_i r1 t d v B hn;cases h;refine⟨λi _ hi=>?_,λid' W J=>?_,by simp⟩
 .show(bif Nat.beq i y then Sl.one (.rf s.r.length [])else(s.t i).mapC _)=s.t i
  cases Z:Nat.beq i y with
  |false=>exact Sl.mapK_stay hi _ _ _
  |true=>
   have e:=bqE Z;subst e;rw[O]at hi;trivial
 .have U:id'≠id:=by
   rintro rfl
   rw[Nk B]at J;grind
  grind
theorem Qs{t:Ty}{y:Option Sl}{ys:List t.T}{js:List Nat}(h:Wh s t id y=some (d,ys,js)):∀j∈js,(s.r.getD j .dead).isRo=false:=by
 replace h:=(YP h).1
 unfold Wg at h;split at h
 case h_4=>cases h
 .grind
 .rename_i j q
  split at h
  case h_2=>cases h
  rename_i ro t' O e B;split at h
  case isFalse=>cases h
  cases J:Nat.beq j id with
  |true=>rw[J]at h;cases h
  |false=>
   rw[J]at h;simp only[cond_false]at h;cases hd:Nat.beq t.dep 0 with
   |true=>rw[hd]at h;cases h;intro j hj;cases hj
   |false=>
    rw[hd]at h;simp only[cond_false]at h;split at h
    case h_2=>cases h
    cases ro with
    |true=>cases h
    |false=>
     cases h;intro i hi;simp at hi;subst hi;have B:s.r.getD i .dead=.arr false t' d e:=B;rw[B];rfl
 grind
theorem Vl{i:Option TI}{y:Option Sl}{A:LR}(h:JK s i x y=some A):∀j∈A.js,(s.r.getD j .dead).isRo=false:=by
 unfold JK at h;split at h
 .cases h
 rename_i ti;obtain⟨U,h⟩:=A9 h;split at h
 case h_3=>cases h
 .split at h
  case h_2=>cases h
  rename_i e;cases h;exact Qs e
 .split at h
  case h_2=>cases h
  rename_i t' d xs J;split at h
  case isFalse=>cases h
  rename_i B;subst B;split at h
  case h_2=>cases h
  rename_i W ys js e;obtain⟨O,h⟩:=A9 h;cases h;intro j hj;rcases List.mem_cons.1 hj with rfl|hj
  .rw[J];rfl
  .exact Qs e j hj
theorem Ab5(wr:∀{l m:List Cl}{js:List (Option Nat)},Mt s.r l=some (m,js)->∀j∈VY js,(s.r.getD j .dead).isRo=false){n:Nat}{ps:List (Nat×Option Sl)}{i:Option TI}{A:LR}(h:tBSM s n ps i=some A):∀j∈A.js,(s.r.getD j .dead).isRo=false:=by
 unfold tBSM at h;split at h
 case h_2=>grind
 grind
def Mq{r:List Ab}:∀{l m:List Cl}{js:List (Option Nat)},Mt r l=some (m,js)->∀j∈VY js,(r.getD j .dead).isRo=false
 |[],m,js,h=>by cases h;intro j hj;cases hj
 |y::l,m,js,h=>by
  unfold Mt at h;split at h
  .rename_i B;cases B
  .rename_i id W B
   cases B;split at h
   case h_2=>cases h
   rename_i t d xs e;split at h
   case h_2=>cases h
   rename_i U J O;cases h;intro j hj;rcases List.mem_cons.1 hj with rfl|hj
   .rw[e];rfl
   .exact Mq O j hj
  .rename_i y' W Z B
   cases B;cases hi:y.imm with
   |false=>grind
   |true=>
    rw[hi]at h;split at h
    case h_2=>cases h
    rename_i U J O;cases h;exact λj hj=>Mq (l:=l) O j hj
theorem NY{u:Ty}{xs:List u.T}(h:r.setPath p u d xs=some r'):r.isRo=false:=by
 unfold Ab.setPath at h;split at h
 .split at h
  .rfl
  grind
 .exact HH h
theorem Lj{id:Nat}:∀(LD:List (C9×Nat)) (ys:List (Σ t:Ty,t.T)) (r r':List Ab),C1 LD ys r=some r'->(r.getD id .dead).isRo=true->r'.getD id .dead=r.getD id .dead
 |[],[],r,r',h,_=>by cases h;rfl
 |(a,d)::LD,⟨.sl u,xs⟩::ys,r,r',h,hro=>by
  unfold C1 at h;split at h
  case h_2=>grind
  rename_i x J;have B:a.1≠id:=λe=>by rw[<-e,NY J]at hro;grind
  rw[Lj LD ys _ _ h (by grind),JT B]
 |[],_::_,_,_,h,_=>by cases h
 |_::_,[],_,_,h,_=>by cases h
 |_::_,⟨.int _,_⟩::_,_,_,h,_=>by cases h
 |_::_,⟨.bool,_⟩::_,_,_,h,_=>by cases h
 |_::_,⟨.str,_⟩::_,_,_,h,_=>by cases h
 |_::_,⟨.unit,_⟩::_,_,_,h,_=>by cases h
 |_::_,⟨.ptr _,_⟩::_,_,_,h,_=>by cases h
 |_::_,⟨.clo _ _,_⟩::_,_,_,h,_=>by cases h
 |_::_,⟨.osl _,_⟩::_,_,_,h,_=>by cases h
 |_::_,⟨.mp _ _,_⟩::_,_,_,h,_=>by cases h
 |_::_,⟨.pair _ _,_⟩::_,_,_,h,_=>by cases h
theorem Sl.killP_stay(h:y.stay=true)(f:Nat->AX->Bool):y.killP f=y:=by
 have c1:∀y:Cl,y.stay=true->y.killP f=y:=by intro y h;cases y<;>first|rfl|cases h
 cases y with
 |one y=>exact congrArg Sl.one (c1 y h)
 |new l=>rfl
 |agg l=>exact congrArg Sl.agg (AI λy e=>c1 y (aET.1 h y e))
 |pk t l=>exact congrArg (Sl.pk t) (AI λy e=>c1 y (aET.1 h y e))
 |tup l=>
  refine congrArg Sl.tup (AI λp B=>?_)
  obtain⟨b,m⟩:=p;exact congrArg (Prod.mk b) (AI λy e=>c1 y (aET.1 (aET.1 h _ B) y e))
theorem W4{Γ:List EnW}{f:FuncId}{xs:List (Option Sl)}{A:Y4}{u:A.α}(O:NS Γ s f xs=some A)(B:A.st u=some s1):Kp (λ_=>true) s s1:=by
 unfold NS at O;split at O
 case h_2=>grind
 rename_i e he;split at O
 case h_2=>grind
 rename_i z LD Z;cases W:Mj (LD.map (·.1))with
 |false=>grind
 |true=>
 rw[W]at O;cases O
 have B:(match C1 LD (wOf (Dl e.S.ps) u.2) s.r with
  |some r'=>some ⟨λi=>(s.t i).killP (Aae (LD.map (·.1)) s.r.length),r'⟩
  |none=>none)=some s1:=B
 split at B
 case h_2=>grind
 rename_i r' J;cases B;exact⟨λi _ hi=>Sl.killP_stay hi _,λid _ U=>Lj LD _ _ _ J U,by
  rw[(JP _ _ _ _ J).1];simp⟩
def Adz:List Operand->St->Option St
 |[],s=>some s
 |x::xs,s=>match cutO s x with
  |some s'=>Adz xs s'
  |none=>none
def YB{C:Ctx}{N:Nat}{a:Act}{w:World}:∀(xs:List Operand) {s s':St},Adz xs s=some s'->AQ C N s.den a w->AQ C N s'.den a w
 |[],s,s',h,hs=>by cases h;grind
 |x::xs,s,s',h,hs=>by
  unfold Adz at h;split at h
  case h_2=>grind
  rename_i e;exact YB xs h (Adc e hs)
def YC:∀(xs:List Operand) {s s':St},Adz xs s=some s'->Kp (λ_=>true) s s'
 |[],s,s',h=>by cases h;exact Kp.refl _ _
 |x::xs,s,s',h=>by
  unfold Adz at h;split at h
  case h_2=>grind
  rename_i e;exact(Add e).trans (YC xs h) (λ_ _=>rfl) λ_ _=>rfl
end Go.Ve


namespace Go.Ve
variable{r:List Ab}{Y:List Nat}{m:Nat}{p:Nat×Nat}{y:Sl}{s s1:St}
def backs:List (Nat×Nat)->Ms->Ms
 |[],S=>S
 |p::B,S=>backs B ⟨AF S.t p.1 (Lr p.2 (S.t p.1)),S.σ.set p.2 (S.t p.1)⟩
def K6(v:V):Prop:=∃s sz n f,v=.nd s true sz n f/\(s=false->0<sz/\n=1)
def PR.backs{C:Ctx}{N:Nat}{a:Act}{w:World}{D:Nat->Prop}{ρ:Nat->Value}:∀(B:List (Nat×Nat)) (t:Nat->V) (σ:List V) (F:Nat->Nat->Prop) (T:Nat->Nat->Prop),PR C N σ ρ F t a w D T->
  (B.map (·.1)).Nodup->(B.map (·.2)).Nodup->(∀p∈B,p.1<N/\p.2<σ.length/\σ.getD p.2 .dead=.dead/\a.tmps.getD p.1 undef=ρ p.2/\K6 (t p.1))->
  ∃F' T',PR C N (Go.Ve.backs B ⟨t,σ⟩).σ ρ F' (Go.Ve.backs B ⟨t,σ⟩).t a w D T'/\∀x b,T' x b->T x b/\x∉B.map (·.1)
 |[],t,σ,F,T,h,_,_,_=>⟨F,T,h,λx b J=>⟨J,by simp⟩⟩
 |p::B,t,σ,F,T,h,hn1,hn2,hB=>by
  obtain⟨h1,h2,h3,h4,s,sz,n,f,h5,Z⟩:=hB p (List.mem_cons_self ..);have J:=h.back2 h1 h2 h3 h5 Z h4;rw[List.map_cons,List.nodup_cons]at hn1 hn2;obtain⟨F',T',U,W⟩:=PR.backs B _ _ _ _ J hn1.2 hn2.2 λq O=>by
   obtain⟨g1,g2,g3,g4,g5⟩:=hB q (mCM _ O);have e1:q.1≠p.1:=λe=>hn1.1 (e▸List.mem_map.2 ⟨q,O,rfl⟩)
   have e2:q.2≠p.2:=λe=>hn2.1 (e▸List.mem_map.2 ⟨q,O,rfl⟩)
   refine⟨g1,by simpa using g2,?_,g4,?_⟩
   .refine Eq.trans ?_ g3
    simp only[gDE];rw[List.getElem?_set_ne (Ne.symm e2)]
   .simp[AF,e1,if_false]
    exact g5
  refine⟨F',T',U,λx b J=>?_⟩
  obtain⟨k1,k2⟩:=W x b J;refine⟨k1.2,?_⟩;rw[List.map_cons,List.mem_cons];exact λh=>h.elim k1.1 k2
def Abc:List Cl->Nat
 |[]=>0
 |.c t d _::l=>bif Nat.ble (Pl d t.dep) (Abc l)then Abc l else Pl d t.dep
 |_::l=>Abc l
def sameD(D:Nat):Cl->Bool
 |.c t d _=>Nat.beq (Pl d t.dep) (Pl D t.dep)
 |_=>false
theorem Ac7(D:Nat):∀(l:List Cl) (y:Dy),DD l=some y->l.all (sameD D)=true->tyV y.t D y.x=l.map Cl.v0:=by
 intro l
 induction l with
 |nil=>intro y h _;cases h;rfl
 |cons a l U=>
  intro y h e;rw[List.all_cons,bAE]at e;unfold DD at h;split at h
  case h_2=>cases h
  rename_i t d x;have B:=bqE e.1;rw[IF,IF]at B;obtain⟨W,h⟩:=A9 h;have J:[cV t d x]=tyV t D x:=by rw[BL W,I8 B]
  split at h
  .cases h
   exact J.symm
  .rename_i b l'
   split at h
   case h_2=>cases h
   rename_i t' O Z;cases h;show tyV t D x++tyV t' D O=cV t d x::_;rw[U _ Z e.2,<-J];rfl
def Cn(s:St)(y:Nat):Option Nat:=match s.t y with
 |.one (.rf id [])=>match s.r.getD id .dead with
  |.arr false _ _ _=>some id
  |_=>none
 |.one (.rp id [] 0 0)=>match s.r.getD id .dead with
  |.obj false l=>match DD l with
   |some _=>bif l.all (sameD (Abc l))&& !Nat.beq l.length 0 then some id else none
   |none=>none
  |_=>none
 |_=>none
def Aa2(s:St)(y:Nat):Sl:=match s.t y with
 |.one (.rf id [])=>match s.r.getD id .dead with
  |.arr false t d xs=>.one (.c (.sl t) (d+1) xs)
  |_=>.one .dead
 |.one (.rp id [] 0 0)=>match s.r.getD id .dead with
  |.obj false l=>match DD l with
   |some ⟨t,x⟩=>.one (.c (.ptr t) (Abc l+1) x)
   |none=>.one .dead
  |_=>.one .dead
 |_=>.one .dead
def V1(s:St):List Nat->Option (List Nat)
 |[]=>some []
 |y::l=>match Cn s y with
  |some id=>match V1 s l with
   |some m=>some (id::m)
   |none=>none
  |none=>none
def ndB:List Nat->Bool
 |[]=>true
 |a::l=>!l.contains a&&ndB l
def Ky(Y:List Nat)(s:St):Option St:=match Y with
 |[]=>some s
 |Y=>match V1 s Y with
  |some e=>bif ndB e then some ⟨λi=>bif Y.contains i then Aa2 s i else(Ap e s).t i,(Ap e s).r⟩else none
  |none=>none
theorem Aal{c:Cl}(h:c.own=false):frz c.v0=c.v0:=by
 cases c with
 |c t d x=>
  cases t with
  |int k=>rfl
  |bool=>rfl
  |str=>rfl
  |unit=>rfl
  |pair a b=>rfl
  |sl t=>cases d with
   |zero=>exact List.singleton_inj.1 (Bg (.sl t) 0 x)
   |succ d=>cases h
  |ptr t=>cases d with
   |zero=>exact List.singleton_inj.1 (Bg (.ptr t) 0 x)
   |succ d=>cases h
  |clo g t=>exact List.singleton_inj.1 (Bg (.clo g t) 0 x)
  |mp a b=>cases d with
   |zero=>exact List.singleton_inj.1 (Bg (.mp a b) 0 x)
   |succ d=>cases h
  |osl t=>cases d with
   |zero=>exact List.singleton_inj.1 (Bg (.osl t) 0 x)
   |succ d=>cases x with
    |none=>rfl
    |some y=>cases h
 |_=>rfl
theorem Ch{y id:Nat}(h:Cn s y=some id):(s.r.getD id .dead).isRo=false/\(s.t y).stay=false/\K6 (s.r.getD id .dead).v/\(∀r,(Aa2 s y).v r=(s.r.getD id .dead).v)/\(s.t y).v s.r=Lr id (s.r.getD id .dead).v:=by
 unfold Cn at h;split at h
 case h_3=>cases h
 .rename_i id' B
  split at h
  case h_2=>cases h
  rename_i t d xs J;cases h;rw[J];refine⟨rfl,by rw[B];rfl,⟨true,_,_,_,rfl,λh=>by cases h⟩,λr=>?_,?_⟩
  .unfold Aa2
   rw[B];simp only[J];show arr (decide (0<d+1)) t.w (tyV t (d+1-1)) t.dflt xs=arr true t.w (tyV t d) t.dflt xs;simp
  .rw[B]
   show V.rs id [] 0 (Af s.r id []).len=_
   have:(Af s.r id []).len=xs.length:=by
    show(s.r.getD id .dead).len=_;rw[J];rfl
   rw[this];rfl
 .rename_i id' B
  split at h
  case h_2=>cases h
  rename_i l J;split at h
  case h_2=>cases h
  rename_i D U;obtain⟨O,h⟩:=A9 h;cases h;rw[bAE,Bool.not_eq_true']at O;have W:0<l.length:=by
   rcases Nat.eq_zero_or_pos l.length with e|e
   .rw[e]at O;cases O.2
   .exact e
  rw[J];refine⟨rfl,by rw[B];rfl,⟨false,_,_,_,rfl,λ_=>⟨by simpa using W,rfl⟩⟩,λr=>?_,?_⟩
  .obtain⟨t,x⟩:=D
   unfold Aa2;rw[B];simp only[J,U];show Be (decide (0<Abc l+1)) (tyV t (Abc l+1-1) x)=Be true (l.map Cl.v0);have Z:tyV t (Abc l) x=l.map Cl.v0:=Ac7 _ _ _ U O.1;rw[Nat.add_sub_cancel,Z,dT (Nat.succ_pos _)]
  .rw[B];rfl
theorem Kl{s:St}:∀{Y e:List Nat},V1 s Y=some e->(∀y∈Y,∃id∈e,Cn s y=some id)/\(∀id∈e,∃y∈Y,Cn s y=some id)
 |[],e,h=>by cases h;simp
 |y::Y,e,h=>by
  unfold V1 at h;split at h
  case h_2=>grind
  split at h
  case h_2=>grind
  rename_i m B;obtain⟨O,J⟩:=Kl B
  grind
theorem XV{s:St}:∀{Y e:List Nat},V1 s Y=some e->ndB e=true->∀x∈Y,∀y∈Y,∀id,Cn s x=some id->Cn s y=some id->x=y
 |[],_,_,_,x,hx,_,_,_,_,_=>by cases hx
 |z::Y,e,h,J,x,hx,y,hy,id,h1,h2=>by
  unfold V1 at h;split at h
  case h_2=>cases h
  rename_i B Z;split at h
  case h_2=>cases h
  rename_i m U;cases h;have J:(!m.contains B&&ndB m)=true:=J;rw[bAE,Bool.not_eq_true']at J;have out:∀u∈Y,Cn s u≠some B:=by
   intro u W he;obtain⟨i,hi,hi2⟩:=(Kl U).1 u W
   grind
  by_cases ex:x=z
  .grind
  .have O:x∈Y:=(List.mem_cons.1 hx).resolve_left ex
   by_cases ey:y=z
   .grind
   .exact XV U J.2 x O y ((List.mem_cons.1 hy).resolve_left ey) id h1 h2
theorem O7{C:Ctx}{N:Nat}{a:Act}{w:World}(h:Ky Y s=some s1)(hs:AQ C N s.den a w){w':World}(hB:Below w.heap.size w w'):
  ∃D ρ F T,PR C N s1.den.σ ρ F s1.den.t a w' D T/\(∀x b,T x b->x∈Y)/\∀x id,x<N->Cn s x=some id->a.tmps.getD x undef=ρ id:=by
 obtain⟨hdf,hdd,D0,ρ0,F0,hcr0⟩:=hs;obtain⟨D,ρ,F,J⟩:=hcr0.below hB;have hsz:a.tmps.size=N:=by simpa using J.sz
 have base:∀{s1:St}{F1:Nat->Nat->Prop},CR C s1.den.σ ((List.range N).map s1.den.t) a.tmps w' D ρ F1->(∀x,N<=x->s1.den.t x=.dead)->PR C N s1.den.σ ρ F1 s1.den.t a w' D (λ_=>noF):=by
  intro s1 F1 hc hd;refine⟨hdf,hsz,hd,hc.wr,λx Z=>?_,λ_ _ h=>h.elim,λ_ _ _ _ h=>h,λ_ _ _ _ h=>h.elim,λ_ _ h=>h.elim,hc.fr,hc.Fn,hc.D1,hc.D2,hc.rt,hc.ml,λ_ _ _ h=>h⟩
  have h1:=hc.tm x (by simpa using Z)
  rw[AY Z]at h1;exact h1
 have hval:∀x id,x<N->Cn s x=some id->a.tmps.getD x undef=ρ id:=by
  intro x id Z hid;obtain⟨g1,g2,⟨s0,sz0,n0,f0,g3,g4⟩,g5,g6⟩:=Ch hid;have hr:=J.tm x (by simpa using Z)
  rw[AY Z]at hr;have e0:s.den.t x=Lr id (s.r.getD id .dead).v:=g6;rw[e0]at hr;have e3:s.den.σ.getD id .dead=(s.r.getD id .dead).v:=Aw _ _;have hlt:id<s.r.length:=by
   rcases Nat.lt_or_ge id s.r.length with h|h
   .exact h
   .rw[gDE,List.getElem?_eq_none h]at g1;cases g1
  have O:=J.wr.rel id (by simpa [St.den]using hlt)
  rw[e3]at O;exact Xu g3 g4 (by rw[e3]) O hr
 unfold Ky at h;split at h
 .cases h
  exact⟨D,ρ,F,λ_=>noF,base J hdd,λ_ _ h=>h.elim,hval⟩
 split at h
 case h_2=>cases h
 rename_i U hids;obtain⟨hn,h⟩:=A9 h;cases h;obtain⟨v1,v2⟩:=Kl hids;have hlt:∀j∈U,j<s.r.length:=by
  intro j hj;obtain⟨y,_,hy⟩:=v2 j hj;have hr:=(Ch hy).1;rcases Nat.lt_or_ge j s.r.length with h|h
  .exact h
  .rw[gDE,List.getElem?_eq_none h]at hr;cases hr
 obtain⟨F1,hcr1,hF1⟩:=CH U J hlt;have hp:=base (s1:=Ap U s) hcr1 (BX U hdd);have hYN:∀y∈Y,y<N:=by
  intro y hy;obtain⟨id,_,hi⟩:=v1 y hy;obtain⟨_,_,⟨s0,_,_,_,h1,_⟩,_,h2⟩:=Ch hi;rcases Nat.lt_or_ge y N with h|h
  .exact h
  .have:=hdd y h
   have e:(s.t y).v s.r=.dead:=this;rw[h2,h1]at e;cases s0<;>cases e
 have hnot:∀{x:Nat},x∉Y->Y.contains x=false:=by
  intro x Z;cases hc:Y.contains x with
  |false=>rfl
  |true=>exact absurd (by simpa using hc) Z
 refine⟨D,ρ,F1,λx b=>x∈Y/\∃id,Cn s x=some id/\F id b,⟨hdf,hsz,λx Z=>?_,hp.wr,λx Z=>?_,λx b W=>?_,λi x b W hT=>?_,λx y b hxy h1 h2=>?_,λx b W=>?_,hp.fr,hp.Fn,hp.D1,hp.D2,hp.rt,hp.ml,λx b Z W=>?_⟩,λx b W=>W.1,hval⟩
 .have B:x∉Y:=λh=>absurd (hYN x h) (Nat.not_lt.2 Z)
  show(bif Y.contains x then Aa2 s x else(Ap U s).t x).v _=.dead;rw[hnot B];exact BX U hdd x Z
 .by_cases B:x∈Y
  .obtain⟨id,hi,hid⟩:=v1 x B
   obtain⟨g1,g2,⟨s0,sz0,n0,f0,g3,g4⟩,g5,g6⟩:=Ch hid;have hc:Y.contains x=true:=by simpa using B
   show Rel D _ _ ((bif Y.contains x then Aa2 s x else(Ap U s).t x).v _) (a.tmps.getD x undef) _;rw[hc,cond_true,g5];have hr:=J.tm x (by simpa using Z)
   rw[AY Z]at hr;have e0:s.den.t x=Lr id (s.r.getD id .dead).v:=g6;rw[e0]at hr;have e3:s.den.σ.getD id .dead=(s.r.getD id .dead).v:=Aw _ _;have O:=J.wr.rel id (by simpa [St.den]using hlt id hi)
   rw[e3]at O;have ecv:a.tmps.getD x undef=ρ id:=Xu g3 g4 (by rw[e3]) O hr
   rw[ecv];refine Rel.fp_congr (λb=>⟨λW=>⟨B,id,hid,W⟩,fun⟨_,i,hi,W⟩=>?_⟩) (Rel.noR_mono O)
   rw[hid]at hi;cases hi;exact W
  .show Rel D _ _ ((bif Y.contains x then Aa2 s x else(Ap U s).t x).v _) (a.tmps.getD x undef) _
   rw[hnot B,cond_false];exact Rel.fp_congr (λb=>⟨λh=>h.elim,λh=>absurd h.1 B⟩) (hp.tm x Z)
 .obtain⟨_,id,_,W⟩:=W
  exact J.wr.dD id b W
 .obtain⟨B,id,hid,hb2⟩:=hT
  obtain⟨g1,g2⟩:=hF1 i b W;obtain⟨id',hi',he⟩:=v1 x B;rw[hid]at he;cases he;exact J.wr.disj i id b (λe=>g2 (e▸hi')) g1 hb2
 .obtain⟨B,id1,hid1,hb1⟩:=h1
  obtain⟨hyY,id2,hid2,hb2⟩:=h2;by_cases e:id1=id2
  .subst e
   exact hxy (XV hids hn x B y hyY id1 hid1 hid2)
  .exact J.wr.disj id1 id2 b e hb1 hb2
 .obtain⟨_,id,_,W⟩:=W
  exact J.Fn id b W
 .exact absurd (hYN x W.1) (Nat.not_lt.2 Z)
theorem O8(h:Ky Y s=some s1):Kp (λ_=>true) s s1:=by
 unfold Ky at h;split at h
 .cases h;exact Kp.refl _ _
 split at h
 case h_2=>grind
 rename_i e B;cases hn:ndB e with
 |false=>grind
 |true=>
 rw[hn]at h;cases h;obtain⟨Z,W⟩:=Kl B;have J:=Kw e s λj hj=>by
  obtain⟨y,_,hy⟩:=W j hj;exact(Ch hy).1
 refine⟨λi hi U=>?_,J.r,J.l⟩
 have hiY:i∉Y:=by
  intro h;obtain⟨id,_,O⟩:=Z i h;rw[(Ch O).2.1]at U;grind
 show(bif Y.contains i then Aa2 s i else(Ap e s).t i)=s.t i;have hc:Y.contains i=false:=by
  grind
 rw[hc];exact J.t i hi U
def St.promA:List (Option Nat)->St->St
 |[],s=>s
 |none::ds,s=>St.promA ds s
 |some d::ds,s=>bif(s.t d).own then St.promA ds (s.add d ((s.t d).prom s.r.length))else St.promA ds s
theorem Ax.trans:∀{v v' e:V},Ax v v'->Ax v' e->Ax v e:=by
 have dd:∀e,Ax .dead e->e=.dead:=by
  intro e h;rcases h with h|h
  .exact h
  trivial
 intro v
 induction v with
 |many t n f O=>
  intro v' e h B;rcases h with rfl|⟨g,rfl,h⟩
  .rw[dd _ B];exact Ax.dead _
  .rcases B with rfl|⟨W,rfl,B⟩
   .exact Ax.dead _
   .exact .inr ⟨W,rfl,λk J=>O k (h k J) (B k J)⟩
 |c v=>
  intro v' e h B;rcases h with rfl|h
  .rw[dd _ B];exact Ax.dead _
  .rcases h with rfl|⟨rfl,own,sz,f,rfl⟩
   .grind
   .rcases B with rfl|B
    .exact Ax.dead _
    .exact .inr (Sub.trans (.inr ⟨rfl,own,sz,f,rfl⟩) B)
 |dead=>grind
 |nd s own sz n f _=>
  intro v' e h B;rcases h with rfl|h
  .rw[dd _ B];exact Ax.dead _
  .have U:=h
   obtain⟨g,rfl,_⟩:=h;rcases B with rfl|B
   .exact Ax.dead _
   .exact .inr (Sub.trans U B)
 |rs id p off len=>
  intro v' e h B;rcases h with rfl|h
  .rw[dd _ B];exact Ax.dead _
  .subst h
   grind
 |rm id p=>
  intro v' e h B;rcases h with rfl|h
  .rw[dd _ B];exact Ax.dead _
  .subst h
   grind
 |mp own l=>
  intro v' e h B;rcases h with rfl|h
  .rw[dd _ B];exact Ax.dead _
  .cases h
   exact B
 |rp id p i k=>
  intro v' e h B;rcases h with rfl|h
  .rw[dd _ B];exact Ax.dead _
  .subst h
   exact B
structure AaE(ds:List (Option Nat))(S:Ms)(s:St):Prop where
 σ:S.σ=s.den.σ
 t:∀i,Ax (S.t i) (s.den.t i)
 o:∀i,some i∈ds->((s.t i).own=true->(s.t i).stay=true)/\(S.t i=s.den.t i\/((s.t i).own=false/\AM (S.t i)=false))
theorem QT(h:y.stay=true)(r r':List Ab):y.v r=y.v r':=by
 have c1:∀y:Cl,y.stay=true->y.v r=y.v r':=by intro y h;cases y<;>first|rfl|cases h
 have cl:∀l:List Cl,l.all Cl.stay=true->l.map (Cl.v r)=l.map (Cl.v r'):=λl h=>List.map_congr_left λy e=>c1 y (aET.1 h y e)
 cases y with
 |one y=>exact c1 y h
 |new l=>rfl
 |agg l=>exact congrArg Ai (cl l h)
 |pk t l=>exact congrArg (pkL t) (cl l h)
 |tup l=>
  refine congrArg Dw (List.map_congr_left λp B=>?_)
  rw[cl p.2 (aET.1 h p B)]
theorem Acw(y:Sl)(m:Nat):(y.chk m).own=y.own:=by
 have c1:∀y:Cl,(y.chk m).own=y.own:=by
  intro y;cases y with
  |rf id p=>show(bif Nat.blt id m then Cl.rf id p else .dead).own=_;cases Nat.blt id m<;>rfl
  |rs id p a b=>show(bif Nat.blt id m then Cl.rs id p a b else .dead).own=_;cases Nat.blt id m<;>rfl
  |rp id p a b=>show(bif Nat.blt id m then Cl.rp id p a b else .dead).own=_;cases Nat.blt id m<;>rfl
  |_=>rfl
 have cl:∀l:List Cl,(l.map (Cl.chk m)).any Cl.own=l.any Cl.own:=by
  grind
 cases y with
 |one y=>exact c1 y
 |new l=>rfl
 |agg l=>exact cl l
 |pk t l=>exact cl l
 |tup l=>
  show(l.map _).any _=l.any _;rw[List.any_map]
  congr 1
  funext p
  obtain⟨b,l⟩:=p;cases b with
  |true=>grind
  |false=>
   cases l with
   |nil=>rfl
   |cons y l=>exact c1 y
theorem PX:AM ((y.prom m).1.v r)=false:=by
 have J:∀(e m:Nat) (y:Cl),((y.prom e m).1).own=false:=by
  intro e m y;cases y with
  |c t d x=>cases t<;>cases d<;>first|rfl|(cases x<;>rfl)|(show(bif Nat.blt 0 _ then(Cl.rp m [] 0 0,_)else(Cl.dead,_)).1.own=false;cases Nat.blt 0 _<;>rfl)
  |rf id p=>show(bif Nat.blt id e then Cl.rf id p else .dead).own=_;cases Nat.blt id e<;>rfl
  |rs id p a b=>show(bif Nat.blt id e then Cl.rs id p a b else .dead).own=_;cases Nat.blt id e<;>rfl
  |rp id p a b=>show(bif Nat.blt id e then Cl.rp id p a b else .dead).own=_;cases Nat.blt id e<;>rfl
  |_=>rfl
 have B:∀(e:Nat) (l:List Cl) (m:Nat),((B4 e m l).1).any Cl.own=false:=by
  intro e l
  induction l with
  |nil=>intro m;rfl
  |cons y l O=>intro m;show(((y.prom e m).1).own||((B4 e _ l).1).any Cl.own)=false;rw[J,O];rfl
 have U:∀(e:Nat) (l:List (Bool×List Cl)) (m:Nat),((Dz e m l).1).any (λp=>if p.1 then p.2.any Cl.own else(p.2.getD 0 .dead).own)=false:=by
  intro e l
  induction l with
  |nil=>intro m;rfl
  |cons p l O=>
   intro m;show((if(Iy e m p).1.1 then(Iy e m p).1.2.any Cl.own else((Iy e m p).1.2.getD 0 .dead).own)||((Dz e _ l).1).any _)=false
   rw[O,Bool.or_false];obtain⟨b,l⟩:=p;cases b with
   |true=>exact B e l m
   |false=>exact J e m _
 rw[Sl.own_v];cases y with
 |one y=>exact J m m y
 |new l=>show(bif Nat.blt 0 l.length then(Sl.one (.rp m [] 0 0),[Ab.obj false l])else(.one .dead,[])).1.own=false;cases Nat.blt 0 l.length<;>rfl
 |agg l=>exact B m l m
 |pk t l=>exact B m l m
 |tup l=>exact U m l m
theorem pn:∀(v:V) (m:Nat),AM (Go.Ve.prom v m).1=false:=by
 have J:∀(g:Nat->Nat->V×List V),(∀k m,AM (g k m).1=false)->∀n m,∀x∈(BM g n m).1,AM x=false:=by
  intro g O n m
  induction n with
  |zero=>intro x e;cases e
  |succ n B=>
   intro x e;unfold BM at e
   grind
 intro v
 induction v with
 |many t n f B=>
  intro m;show((List.range n).any λk=>AM ((BM (λk=>Go.Ve.prom (f k)) n m).1.getD k .dead))=false
  rw[List.any_eq_false];intro k _;have h:=J (λk=>Go.Ve.prom (f k)) (λk m=>B k m) n m
  rw[gDE];cases e:(BM (λk=>Go.Ve.prom (f k)) n m).1[k]? with
  |none=>trivial
  |some x=>grind
 |nd s own sz n f _=>
  intro m;cases own with
  |false=>cases s<;>rfl
  |true=>cases s with
   |true=>rfl
   |false=>
    show AM (if 0<sz then(V.rp m [] 0 0,[V.nd false true sz n f])else(.dead,[])).1=false
    split<;>rfl
 |mp own l=>intro m;cases own<;>rfl
 |_=>intro m;rfl
theorem J4:∀(ds:List (Option Nat)) (S:Ms) (s:St),AaE ds S s->(∀i,Ax ((Go.Ve.promA ds S).t i) ((s.promA ds).den.t i))/\(Go.Ve.promA ds S).σ=(s.promA ds).den.σ:=by
 intro ds
 induction ds with
 |nil=>intro S s h;exact⟨h.t,h.σ⟩
 |cons d ds ih=>
  intro S s h;have J:∀i,some i∈ds->some i∈d::ds:=λi hi=>mCM _ hi
  cases d with
  |none=>exact ih S s ⟨h.σ,h.t,λi hi=>h.o i (J i hi)⟩
  |some d=>
   show(∀i,Ax ((if AM (S.t d)then Go.Ve.promA ds ⟨AF S.t d (Go.Ve.prom (S.t d) S.σ.length).1,S.σ++(Go.Ve.prom (S.t d) S.σ.length).2⟩else Go.Ve.promA ds S).t i) ((bif(s.t d).own then St.promA ds (s.add d ((s.t d).prom s.r.length))else St.promA ds s).den.t i))/\
    (if AM (S.t d)then Go.Ve.promA ds ⟨AF S.t d (Go.Ve.prom (S.t d) S.σ.length).1,S.σ++(Go.Ve.prom (S.t d) S.σ.length).2⟩else Go.Ve.promA ds S).σ=(bif(s.t d).own then St.promA ds (s.add d ((s.t d).prom s.r.length))else St.promA ds s).den.σ
   obtain⟨_,hd⟩:=h.o d (List.mem_cons_self ..);cases ho:(s.t d).own with
   |false=>
    have:AM (S.t d)=false:=by
     rcases hd with e|e
     .rw[e];show AM ((s.t d).v s.r)=false;rw[Sl.own_v,ho]
     .exact e.2
    rw[this];exact ih S s ⟨h.σ,h.t,λi hi=>h.o i (J i hi)⟩
   |true=>
    have e:S.t d=(s.t d).v s.r:=by
     rcases hd with e|e
     .exact e
     .rw[ho]at e;cases e.1
    have:AM (S.t d)=true:=by rw[e,Sl.own_v,ho]
    rw[this];have hl:S.σ.length=s.r.length:=by rw[h.σ];show(s.r.map Ab.v).length=_;exact List.length_map ..
    obtain⟨a1,a2⟩:=YW (s:=s) (d:=d) (y:=s.t d)
    have hself:(s.add d ((s.t d).prom s.r.length)).t d=((s.t d).prom s.r.length).1:=by
     have hu:∀(t:Nat->Sl) (y:Sl),AK t d y d=y:=λt y=>by unfold AK;rw[Nat.beq_refl];rfl
     unfold St.add;split
     .exact hu _ _
     .exact hu (λi=>(s.t i).chk s.r.length) _
    have U:∀i,i≠d->(s.add d ((s.t d).prom s.r.length)).t i=s.t i\/(s.add d ((s.t d).prom s.r.length)).t i=(s.t i).chk s.r.length:=by
     intro i hi;unfold St.add;split
     .exact .inl (A4 hi)
     .exact .inr (A4 (t:=λi=>(s.t i).chk s.r.length) hi)
    refine ih _ _ ⟨?_,λi=>?_,λi hi=>?_⟩
    .show S.σ++(Go.Ve.prom (S.t d) S.σ.length).2=_
     rw[e,hl,h.σ];exact a2
    .have h1:=a1 i
     show Ax (AF S.t d (Go.Ve.prom (S.t d) S.σ.length).1 i) _;rw[e,hl];unfold AF at h1⊢;by_cases O:i=d
     .rw[if_pos O]at h1⊢;exact h1
     .rw[if_neg O]at h1⊢;exact(h.t i).trans h1
    .obtain⟨k1,k2⟩:=h.o i (J i hi)
     by_cases O:i=d
     .subst O
      rw[hself]
      have hno:(((s.t i).prom s.r.length).1).own=false:=by
       have:=PX (y:=s.t i) (m:=s.r.length) (r:=s.r);rw[Sl.own_v]at this;exact this
      refine⟨(λh=>by rw[hno]at h;cases h),.inr ⟨hno,?_⟩⟩
      show AM (AF S.t i (Go.Ve.prom (S.t i) S.σ.length).1 i)=false;unfold AF;rw[if_pos rfl];exact pn _ _
     .have hV:AF S.t d (Go.Ve.prom (S.t d) S.σ.length).1 i=S.t i:=by unfold AF;rw[if_neg O]
      have W:(s.t i).own=true->(s.add d ((s.t d).prom s.r.length)).t i=s.t i:=λB=>by
       rcases U i O with h'|h'
       .exact h'
       .rw[h',Sl.chk_stay (k1 B)]
      have Z:((s.add d ((s.t d).prom s.r.length)).t i).own=(s.t i).own:=by
       rcases U i O with h'|h'
       .rw[h']
       .rw[h',Acw]
      refine⟨λB=>?_,?_⟩
      .rw[Z]at B
       rw[W B];exact k1 B
      .cases B:(s.t i).own with
       |false=>
        refine .inr ⟨by rw[Z,B],?_⟩
        show AM (AF S.t d (Go.Ve.prom (S.t d) S.σ.length).1 i)=false;rw[hV];rcases k2 with k2|k2
        .rw[k2];show AM ((s.t i).v s.r)=false;rw[Sl.own_v,B]
        .exact k2.2
       |true=>
        left;show AF S.t d (Go.Ve.prom (S.t d) S.σ.length).1 i=_;rw[hV];rcases k2 with k2|k2
        .rw[k2]
         show(s.t i).v s.r=((s.add d ((s.t d).prom s.r.length)).t i).v _;rw[W B];exact QT (k1 B) _ _
        .rw[B]at k2;cases k2.1
theorem add_kp{d:Nat}{p:Sl×List Ab}:Kp (λi=>decide (i≠d)) s (s.add d p):=by
 unfold St.add;split
 .exact⟨λi hi _=>A4 (of_decide_eq_true hi),λ_ _ _=>rfl,Nat.le_refl _⟩
 .refine⟨λi hi e=>?_,λid J B=>?_,by simp⟩
  .show AK (λi=>(s.t i).chk s.r.length) d p.1 i=s.t i
   rw[A4 (of_decide_eq_true hi)];exact Sl.chk_stay e _
  grind
theorem HQ:∀(l:List Oper) (s:St),Kp (Aq l) s (s.promA (l.map (·.dst)))
 |[],s=>Kp.refl _ _
 |o::l,s=>by
  have B:∀i,Aq (o::l) i=true->o.dst≠some i/\Aq l i=true:=by
   intro i h
   have B:Aq (o::l) i=((match o.dst with
    |some e=>!Nat.beq e i
    |none=>true)&&Aq l i):=rfl
   rw[B,bAE]at h;refine⟨λhd=>?_,h.2⟩
   simp_all
  rw[List.map_cons];cases hd:o.dst with
  |none=>exact(HQ l s).weak λi hi=>(B i hi).2
  |some d=>
   show Kp _ s (bif(s.t d).own then St.promA (l.map (·.dst)) (s.add d ((s.t d).prom s.r.length))else St.promA (l.map (·.dst)) s)
   cases (s.t d).own with
   |false=>exact(HQ l s).weak λi hi=>(B i hi).2
   |true=>
    exact Kp.trans add_kp (HQ l _) (λi hi=>dT λe=>(B i hi).1 (by grind)) λi hi=>(B i hi).2
def Cl.clr(id:Nat):Cl->Cl
 |.rf j p=>bif Nat.beq j id then .dead else .rf j p
 |.rs j p off len=>bif Nat.beq j id then .dead else .rs j p off len
 |.rp j p i k=>bif Nat.beq j id then .dead else .rp j p i k
 |y=>y
def Sl.clr(id:Nat):Sl->Sl
 |.one y=>.one (y.clr id)
 |.new l=>.new l
 |.agg l=>.agg (l.map (Cl.clr id))
 |.pk t l=>.pk t (l.map (Cl.clr id))
 |.tup l=>.tup (l.map λp=>(p.1,p.2.map (Cl.clr id)))
theorem Cl.clr_v{r':List Ab}(B:∀id,id≠m->r'.getD id .dead=r.getD id .dead)(y:Cl):Ax (y.v r) ((y.clr m).v r'):=by
 cases y with
 |rf id p=>
  show Ax _ ((bif Nat.beq id m then Cl.dead else .rf id p).v r');cases J:Nat.beq id m with
  |true=>exact Ax.dead _
  |false=>
   show Ax (V.rs id p 0 (Af r id p).len) (V.rs id p 0 (Af r' id p).len);unfold Af;rw[B id (λe=>by simp_all)]
   exact Ax.refl _
 |rs id p off len=>
  show Ax _ ((bif Nat.beq id m then Cl.dead else .rs id p off len).v r');cases Nat.beq id m with
  |true=>exact Ax.dead _
  |false=>exact Ax.refl _
 |rp id p off len=>
  show Ax _ ((bif Nat.beq id m then Cl.dead else .rp id p off len).v r');cases Nat.beq id m with
  |true=>exact Ax.dead _
  |false=>exact Ax.refl _
 |_=>exact Ax.refl _
theorem Sl.clr_v{r r':List Ab}{m:Nat}(e:∀id,id≠m->r'.getD id .dead=r.getD id .dead)(y:Sl):Ax (y.v r) ((y.clr m).v r'):=by
 have agg:∀l:List Cl,Ax (Ai (l.map (Cl.v r))) (Ai ((l.map (Cl.clr m)).map (Cl.v r'))):=by
  intro l;refine Ax.mk (by simp) λk _=>?_
  rw[List.map_map];exact Bw rfl rfl (λy=>Cl.clr_v e y) k
 cases y with
 |one c=>exact Cl.clr_v e c
 |new l=>exact Ax.refl _
 |agg l=>exact agg l
 |pk t l=>
  refine Ax.pk (by simp) λk _=>?_
  rw[List.map_map];exact Bw rfl rfl (λy=>Cl.clr_v e y) k
 |tup l=>
  refine Ax.tup (by simp) λk B=>?_
  have B:k<l.length:=by simpa using B
  simp only[gDE,List.getElem?_map,gEE B,Option.map_some,Option.getD_some];generalize l[k]=p;obtain⟨b,q⟩:=p;cases b with
  |true=>exact agg q
  |false=>
   have:=Bw (l:=q) (f:=Cl.v r) (g:=λy=>(y.clr m).v r') rfl rfl (λy=>Cl.clr_v e y) 0
   grind
theorem Sl.clr_stay(h:y.stay=true)(m:Nat):y.clr m=y:=by
 have c1:∀y:Cl,y.stay=true->y.clr m=y:=by intro y h;cases y<;>first|rfl|cases h
 cases y with
 |one y=>exact congrArg Sl.one (c1 y h)
 |new l=>rfl
 |agg l=>exact congrArg Sl.agg (AI λy e=>c1 y (aET.1 h y e))
 |pk t l=>exact congrArg (Sl.pk t) (AI λy e=>c1 y (aET.1 h y e))
 |tup l=>
  refine congrArg Sl.tup (AI λp B=>?_)
  obtain⟨b,q⟩:=p;exact congrArg (Prod.mk b) (AI λy e=>c1 y (aET.1 (aET.1 h _ B) y e))
theorem Acv(y:Sl)(m:Nat):(y.clr m).own=y.own:=by
 have c1:∀y:Cl,(y.clr m).own=y.own:=by
  intro y;cases y with
  |rf id p=>show(bif Nat.beq id m then Cl.dead else .rf id p).own=_;cases Nat.beq id m<;>rfl
  |rs id p a b=>show(bif Nat.beq id m then Cl.dead else .rs id p a b).own=_;cases Nat.beq id m<;>rfl
  |rp id p a b=>show(bif Nat.beq id m then Cl.dead else .rp id p a b).own=_;cases Nat.beq id m<;>rfl
  |_=>rfl
 have cl:∀l:List Cl,(l.map (Cl.clr m)).any Cl.own=l.any Cl.own:=by
  grind
 cases y with
 |one y=>exact c1 y
 |new l=>rfl
 |agg l=>exact cl l
 |pk t l=>exact cl l
 |tup l=>
  show(l.map _).any _=l.any _;rw[List.any_map]
  congr 1
  funext p
  obtain⟨b,l⟩:=p;cases b with
  |true=>exact cl l
  |false=>
   cases l with
   |nil=>rfl
   |cons y l=>exact c1 y
def B6:Sl->Ab
 |.one (.c (.ptr t) (d+1) x)=>.obj false (As t d x)
 |.one (.c (.sl t) (d+1) xs)=>.arr false t d xs
 |.new l=>.obj false l
 |_=>.dead
def Hh:Sl->Bool
 |.one (.c (.ptr t) (_+1) _)=>Nat.blt 0 t.w
 |.one (.c (.sl _) (_+1) _)=>true
 |.new l=>Nat.blt 0 l.length
 |_=>false
def N8(id:Nat):Ab->Cl
 |.obj _ _=>.rp id [] 0 0
 |_=>.rf id []
def St.back1(p:Nat×Nat)(s:St):St:=⟨AK (λi=>(s.t i).clr p.2) p.1 (.one (N8 p.2 (B6 (s.t p.1)))),s.r.set p.2 (B6 (s.t p.1))⟩
def YL(i:Nat):(s.back1 p).t i=AK (λi=>(s.t i).clr p.2) p.1 (.one (N8 p.2 (B6 (s.t p.1)))) i:=rfl
def Nt{i:Nat}(h:i≠p.1):(s.back1 p).t i=(s.t i).clr p.2:=(YL i).trans (A4 h)
def St.backs:List (Nat×Nat)->St->St
 |[],s=>s
 |p::B,s=>St.backs B (s.back1 p)
theorem Wf(t:Ty)(d:Nat)(x:t.T):(As t d x).length=t.w:=by
 have:=congrArg List.length (BK t d x);rw[List.length_map,Ay]at this
 grind
theorem Cj(h:Hh y=true):y.stay=true/\(∀r,y.v r=(B6 y).v)/\K6 (B6 y).v/\∀(r:List Ab) (id:Nat),id<r.length->(Sl.one (N8 id (B6 y))).v (r.set id (B6 y))=Lr id (B6 y).v:=by
 unfold Hh at h;split at h
 case h_4=>grind
 .rename_i t d x
  have B:0<t.w:=blE h;refine⟨rfl,λr=>?_,⟨false,_,_,_,rfl,λ_=>⟨by simpa [Wf]using B,rfl⟩⟩,λr id e=>rfl⟩
  show Be (decide (0<d+1)) (tyV t (d+1-1) x)=Be true ((As t d x).map Cl.v0);rw[BK];rfl
 .rename_i t d xs
  refine⟨rfl,λr=>?_,⟨true,_,_,_,rfl,λh=>by grind⟩,λr id e=>?_⟩
  .rfl
  .show V.rs id [] 0 (Af (r.set id (.arr false t d xs)) id []).len=_
   have:(Af (r.set id (.arr false t d xs)) id []).len=xs.length:=by
    show((r.set id (.arr false t d xs)).getD id .dead).len=_;simp[e];rfl
   rw[this];rfl
 .rename_i l
  have B:0<l.length:=blE h;exact⟨rfl,λr=>rfl,⟨false,_,_,_,rfl,λ_=>⟨by simpa using B,rfl⟩⟩,λr id e=>rfl⟩
theorem YM{ds:List (Option Nat)}{S:Ms}(h:AaE ds S s)(hd:some p.1∉ds)(hp:p.2<s.r.length)(he:S.t p.1=s.den.t p.1)(Z:Hh (s.t p.1)=true):
  AaE ds ⟨AF S.t p.1 (Lr p.2 (S.t p.1)),S.σ.set p.2 (S.t p.1)⟩ (s.back1 p):=by
 obtain⟨h1,h2,h3,h4⟩:=Cj Z;have e:S.t p.1=(B6 (s.t p.1)).v:=he.trans (h2 _)
 have hg:∀id,id≠p.2->(s.r.set p.2 (B6 (s.t p.1))).getD id .dead=s.r.getD id .dead:=λid W=>by
  simp only[gDE];rw[List.getElem?_set_ne (Ne.symm W)]
 have B:∀i,i≠p.1->(s.back1 p).t i=(s.t i).clr p.2:=λi hi=>Nt hi
 refine⟨?_,λi=>?_,λi hi=>?_⟩
 .show S.σ.set p.2 (S.t p.1)=(s.r.set p.2 (B6 (s.t p.1))).map Ab.v
  rw[h.σ,List.map_set,e];rfl
 .show Ax (AF S.t p.1 (Lr p.2 (S.t p.1)) i) _
  unfold AF;by_cases hi:i=p.1
  .subst hi
   rw[if_pos rfl,e]
   have e2:(s.back1 p).t p.1=.one (N8 p.2 (B6 (s.t p.1))):=by
    rw[YL];unfold AK;rw[Nat.beq_refl];rfl
   show Ax _ (((s.back1 p).t p.1).v _);rw[e2];rw[show(s.back1 p).r=s.r.set p.2 (B6 (s.t p.1))from rfl,h4 s.r p.2 hp]
   exact Ax.refl _
  .rw[if_neg hi]
   show Ax _ (((s.back1 p).t i).v _);rw[B i hi];exact(h.t i).trans (Sl.clr_v hg (s.t i))
 .have O:i≠p.1:=λe=>hd (e▸hi)
  obtain⟨k1,k2⟩:=h.o i hi;have hV:AF S.t p.1 (Lr p.2 (S.t p.1)) i=S.t i:=by unfold AF;rw[if_neg O]
  have U:((s.back1 p).t i).own=(s.t i).own:=by rw[B i O,Acv]
  refine⟨λJ=>?_,?_⟩
  .rw[U]at J
   rw[B i O,Sl.clr_stay (k1 J)];exact k1 J
  .show AF S.t p.1 (Lr p.2 (S.t p.1)) i=_\/(_/\AM (AF S.t p.1 (Lr p.2 (S.t p.1)) i)=false)
   rw[hV];cases J:(s.t i).own with
   |false=>
    right;refine⟨by rw[U,J],?_⟩
    rcases k2 with k2|k2
    .rw[k2];show AM ((s.t i).v s.r)=false;rw[Sl.own_v,J]
    .exact k2.2
   |true=>
    left;rcases k2 with k2|k2
    .rw[k2]
     show(s.t i).v s.r=((s.back1 p).t i).v _;rw[B i O,Sl.clr_stay (k1 J)];exact QT (k1 J) _ _
    .rw[J]at k2;cases k2.1
theorem KH{ds:List (Option Nat)}:∀(B:List (Nat×Nat)) (S:Ms) (s:St),AaE ds S s->(B.map (·.1)).Nodup->(∀p∈B,some p.1∉ds/\p.2<s.r.length/\S.t p.1=s.den.t p.1/\Hh (s.t p.1)=true)->AaE ds (Go.Ve.backs B S) (St.backs B s)
 |[],S,s,h,_,_=>h
 |p::B,S,s,h,hn,hB=>by
  obtain⟨h1,h2,Z,W⟩:=hB p (List.mem_cons_self ..);rw[List.map_cons,List.nodup_cons]at hn;refine KH B _ _ (YM h h1 h2 Z W) hn.2 λq U=>?_
  obtain⟨g1,g2,g3,g4⟩:=hB q (mCM _ U);have O:q.1≠p.1:=λe=>hn.1 (e▸List.mem_map.2 ⟨q,U,rfl⟩)
  have J:=(Cj g4).1
  have e1:(s.back1 p).t q.1=s.t q.1:=by
   rw[Nt O,Sl.clr_stay J]
  refine⟨g1,by show q.2<(s.r.set _ _).length;grind,?_,by grind⟩
  show AF S.t p.1 _ q.1=((s.back1 p).t q.1).v _;unfold AF;rw[if_neg O,g3,e1];exact QT J _ _
theorem Ns:∀(B:List (Nat×Nat)) (s:St),(∀i,(∀p∈B,p.1≠i)->(s.t i).stay=true->(St.backs B s).t i=s.t i)/\(∀id,(∀p∈B,p.2≠id)->(St.backs B s).r.getD id .dead=s.r.getD id .dead)/\(St.backs B s).r.length=s.r.length
 |[],s=>⟨λ_ _ _=>rfl,λ_ _=>rfl,rfl⟩
 |p::B,s=>by
  obtain⟨h1,Z,W⟩:=Ns B (s.back1 p);refine⟨λi hi U=>?_,λid O=>?_,W.trans (by show(s.r.set _ _).length=_;simp)⟩
  .have e:(s.back1 p).t i=s.t i:=by
    rw[Nt λe=>hi p (List.mem_cons_self ..) e.symm,Sl.clr_stay U]
   refine(h1 i (λq J=>hi q (mCM _ J)) (by grind)).trans e
  .refine(Z id λq J=>O q (mCM _ J)).trans ?_
   show(s.r.set _ _).getD id .dead=_
   grind
def rerefs(id:Nat)(v:V):List Nat->(Nat->V)->(Nat->V)
 |[],t=>t
 |y::Y,t=>rerefs id v Y (AF t y (Lr id v))
theorem PR.reref{C:Ctx}{N:Nat}{σ:List V}{ρ:Nat->Value}{F:Nat->Nat->Prop}{a:Act}{w:World}{D:Nat->Prop}{T:Nat->Nat->Prop}{id:Nat}{v:V}(B:id<σ.length)(J:σ.getD id .dead=v)(U:K6 v):∀(Y:List Nat) (t:Nat->V),PR C N σ ρ F t a w D T->
  (∀y∈Y,y<N/\a.tmps.getD y undef=ρ id/\∀b,¬T y b)->PR C N σ ρ F (rerefs id v Y t) a w D T
 |[],t,h,_=>h
 |y::Y,t,h,hY=>by
  obtain⟨h1,h2,h3⟩:=hY y (List.mem_cons_self ..);refine PR.reref B J U Y _ ⟨h.df,h.sz,λx O=>?_,h.wr,λx O=>?_,h.tD,h.tF,h.tT,h.tn,h.fr,h.Fn,h.D1,h.D2,h.rt,h.ml,h.tx⟩ λz hz=>hY z (mCM _ hz)
  .have:¬x=y:=by omega
   simp[AF,this,if_false];exact h.dd x O
  .by_cases W:x=y
   .subst W
    simp only[AF,if_true];rw[h2];obtain⟨s0,sz,n,f,Z,e2⟩:=U;have e:=h.wr.rel id B;rw[J,Z]at e;rw[Z]at J⊢;exact Rel.fp_congr (λb=>⟨λh=>h.elim,λh=>absurd h (h3 b)⟩) (ML B J e2 e)
   .simp only[AF,W,if_false]
    exact h.tm x O
def St.rerefs(id:Nat)(R:Ab):List Nat->St->St
 |[],s=>s
 |y::Y,s=>St.rerefs id R Y ⟨AK s.t y (.one (N8 id R)),s.r⟩
theorem Lp{ds:List (Option Nat)}{id:Nat}{R:Ab}(O:K6 R.v):∀(Y:List Nat) (S:Ms) (s:St),AaE ds S s->(s.r.getD id .dead)=R->(∀y∈Y,some y∉ds)->AaE ds ⟨Go.Ve.rerefs id R.v Y S.t,S.σ⟩ (St.rerefs id R Y s)
 |[],S,s,h,_,_=>h
 |y::Y,S,s,h,hr,hY=>by
  have U:∀i,some i∈ds->i≠y:=λi hi e=>hY y (List.mem_cons_self ..) (e▸hi)
  have B:(Sl.one (N8 id R)).v s.r=Lr id R.v:=by
   cases R with
   |obj ro l=>rfl
   |arr ro t d xs=>
    show V.rs id [] 0 (Af s.r id []).len=_
    have:(Af s.r id []).len=xs.length:=by
     show(s.r.getD id .dead).len=_;rw[hr];rfl
    rw[this];rfl
   |dead=>obtain⟨_,_,_,_,e,_⟩:=O;cases e
   |mp=>obtain⟨_,_,_,_,e,_⟩:=O;cases e
   |opt ro t d x=>
    obtain⟨_,_,_,_,e,_⟩:=O;cases x with
    |none=>cases e
    |some xs=>
     show V.rs id [] 0 (Af s.r id []).len=_
     have:(Af s.r id []).len=xs.length:=by
      show(s.r.getD id .dead).len=_;rw[hr];rfl
     rw[this];rfl
  refine Lp O Y ⟨AF S.t y (Lr id R.v),S.σ⟩ ⟨AK s.t y (.one (N8 id R)),s.r⟩ ⟨h.σ,λi=>?_,λi hi=>?_⟩ hr λz W=>hY z (mCM _ W)
  .show Ax (AF S.t y (Lr id R.v) i) ((AK s.t y (.one (N8 id R)) i).v s.r)
   unfold AF;by_cases J:i=y
   .subst J
    rw[if_pos rfl];have:AK s.t i (.one (N8 id R)) i=.one (N8 id R):=by unfold AK;simp
    rw[this,B];exact Ax.refl _
   .rw[if_neg J,A4 J];exact h.t i
  .have J:=U i hi
   obtain⟨k1,k2⟩:=h.o i hi;show((AK s.t y (.one (N8 id R)) i).own=true->(AK s.t y (.one (N8 id R)) i).stay=true)/\(AF S.t y (Lr id R.v) i=(AK s.t y (.one (N8 id R)) i).v s.r\/((AK s.t y (.one (N8 id R)) i).own=false/\AM (AF S.t y (Lr id R.v) i)=false));unfold AF;rw[if_neg J,A4 J];exact⟨k1,k2⟩
theorem N5{id:Nat}{R:Ab}:∀(Y:List Nat) (s:St),(St.rerefs id R Y s).r=s.r/\∀i,i∉Y->(St.rerefs id R Y s).t i=s.t i
 |[],s=>⟨rfl,λ_ _=>rfl⟩
 |y::Y,s=>by
  obtain⟨J,B⟩:=N5 Y ⟨AK s.t y (.one (N8 id R)),s.r⟩;refine⟨J,λi hi=>(B i λh=>hi (mCM _ h)).trans ?_⟩
  exact A4 λe=>hi (e▸List.mem_cons_self ..)
end Go.Ve


namespace Go.Ve
open Go Go.Ve
variable{a:Act}{ops:Array Oper}{C:Ctx}{E:Env}{fs:List Nat}{late:List Oper}{σ σ':List V}{N d id k m n sz:Nat}{F:Nat->Nat->Prop}{f:Nat->Nat->V}{D:Nat->Prop}{ρ:Nat->Value}{o o1 o2 o3:Oper}{x y:Operand}{A:PtR}{s s':St}{t:TypeId}{cv:Value}{w:World}
theorem Xt{q:List (Nat×Nat)}(B:sub q (σ.getD id .dead)=.nd true true sz n f)(h:Ak σ ρ w (.rs id q 0 n) cv):
  id<σ.length/\At w q (σ.getD id .dead) (ρ id) (.nd true true sz n f) cv:=by
 obtain⟨J,W,n',f',cn,U,Z,O⟩:=h;have e:=(At.sub U).trans B;cases e;refine⟨J,?_⟩;have:cv=cn:=by
  rcases O with⟨b,o,cap,rfl,rfl⟩|⟨h0,_,_,h1,_⟩
  .simp[AA]
  grind
 grind
def elI0(E:Env)(t:TypeId):Option TI:=((E.Θ.look t).bind (·.elem)).bind E.Θ.look
section
variable {P:Program}{Θ:Tab}
theorem UU(hΘ:Θ.OK P){C:Ctx}{N:Nat}{s:St}{o:Oper}{t:TypeId}{x y:Operand}{a:Act}{w:World}{d:Nat}
  (ho:o.op=.call ⟨.builtin .append,#[x,y],#[t,t]⟩) (hdst:o.dst=some d) (hdn:d<N) {ti:TI} (hti:((Θ.look t).bind (·.elem)).bind Θ.look=some ti) (hby:0<ti.bytes) (hw:0<ti.ty.w)
  {id:Nat}{q:AX} (hx:s.ev x=some (.one (.rf id q))) {ro:Bool}{dx:Nat}{xs:List ti.ty.T} (W:Af s.r id q=.arr ro ti.ty dx xs)
  {ys:List ti.ty.T}{dy:Nat}{js:List Nat} (hy:Wh s ti.ty id (s.ev y)=some (dy,ys,js)) (hdk:dOK ti.ty dy dx=true) (hlim:xs.length+ys.length<=OM ti.bytes) (hs:AQ C N s.den a w):
  ∃v' w',(execOp a.eval o).run P w=.ok (.value v') w'/\AQ C N ⟨AF (λi=>AJ s.r.length [] (rrV id q s.r.length ((Ap js s).den.t i))) d (.rs (s.r.length+1) [] 0 (xs.length+ys.length)),
   ((Ap js s).den.σ.set id (upd q ((Ap js s).den.σ.getD id .dead) .dead)++[.dead])++[arr true ti.ty.w (tyV ti.ty dx) ti.ty.dflt (xs++ys)]⟩ (a.put (some d) v') w'/\
   ∃D ρ F,CR C ((Ap js s).den.σ.set id (upd q ((Ap js s).den.σ.getD id .dead) .dead)++[sub q ((Ap js s).den.σ.getD id .dead)]) (((List.range N).map (Ap js s).den.t).map (rrV id q s.r.length)) a.tmps w D ρ F/\∀c,c<w.heap.size->¬F s.r.length c->w'.heap[c]? =w.heap[c]?:=by
 obtain⟨hdf,hdd,D,ρ,F,J⟩:=hs;obtain⟨e,hsl,_⟩:=Dh hΘ hti;have hY:=IS J hdd hy;obtain⟨⟨Fy,hrd,hFy,hFd⟩,hjs2⟩:=hY;rw[show tyV ti.ty dy=tyV ti.ty dx from funext λz=>C0 _ _ _ z (Kz hdk)]at hrd
 have hidj:id∉js:=λh=>(hjs2 id h).2 rfl
 have hlσ:s.den.σ.length=s.r.length:=by simp[St.den]
 -- the drop
 obtain⟨F1,hcr1,hF1⟩:=CH js J (λj hj=>(hjs2 j hj).1)
 have hdd1:=BX js (N:=N) hdd
 -- the row
 have hrx:=By J hdd x;rw[A7 hx]at hrx;have hrx:Rel D w (Ak s.den.σ ρ w) (.rs id q 0 (Af s.r id q).len) (a.eval x) noF:=hrx
 have hsub:sub q (s.den.σ.getD id .dead)=arr true ti.ty.w (tyV ti.ty dx) ti.ty.dflt xs:=by
  have:=AV (r:=s.r) (id:=id) (p:=q) (by rw[W];simp)
  rw[W]at this;exact this
 rw[W]at hrx;obtain⟨hid,hat⟩:=Xt (show sub q (s.den.σ.getD id .dead)=V.nd true true ti.ty.w xs.length (λi k=>(tyV ti.ty dx (xs.getD i ti.ty.dflt)).getD k .dead)from hsub) hrx.1
 have hid1:id<s.r.length:=by rw[<-hlσ];exact hid
 have Z:∀(js:List Nat) (s:St),id∉js->(Ap js s).den.σ.getD id .dead=s.den.σ.getD id .dead:=by
  intro js
  induction js with
  |nil=>exact λ_ _=>rfl
  |cons j js ih=>
   intro s hj;simp only[List.mem_cons,not_or]at hj;show(Ap js (H8 j s)).den.σ.getD id .dead=_;rw[ih _ hj.2];show((s.r.set j .dead).map Ab.v).getD id .dead=_;rw[Aw];show _=(s.r.map Ab.v).getD id .dead;rw[Aw,gDE,List.getElem?_set_ne (Ne.symm hj.1),<-gDE]
 have Z:=Z js s hidj;have hl1:(Ap js s).den.σ.length=s.r.length:=by simp[St.den,IM]
 rw[<-Z]at hat
 -- it is cut out
 obtain⟨ρ2,F2,B,hρ2,hρ2',hF2⟩:=CR.reroot hcr1 (by rw[hl1];exact hid1) hat
 rw[hl1]at B hρ2 hρ2';obtain⟨m,hm⟩:∃m,m=s.r.length:=⟨_,rfl⟩;rw[<-hm]at B hρ2 hρ2' hl1 hid1;have hl2:((Ap js s).den.σ.set id (upd q ((Ap js s).den.σ.getD id .dead) .dead)).length=m:=by rw[List.length_set];exact hl1
 have hlast:∀v:V,((Ap js s).den.σ.set id (upd q ((Ap js s).den.σ.getD id .dead) .dead)++[v]).getD m .dead=v:=λv=>by
  rw[gDE,gAR (by rw[hl2];exact Nat.le_refl _),hl2];simp
 have hrow:Rel D w noR (arr true ti.ty.w (tyV ti.ty dx) ti.ty.dflt xs) (a.eval x) (F2 m):=by
  have:=B.wr.rel m (by rw[List.length_append,hl2];exact Nat.lt_succ_self m)
  rw[hlast,Z,hsub,hρ2]at this;exact this
 have hF2D:∀b,D b->¬F2 m b:=λb U h=>B.wr.dD m b h U
 have hF2o:∀i b,F2 i b->∃j,F j b/\j∉js:=λi b h=>by
  obtain⟨j,h1⟩:=hF2 i b h;obtain⟨h2,h3⟩:=hF1 j b h1;exact⟨j,h2,h3⟩
 have U:(xs.length+ys.length)*ti.bytes<=140737488355328:=by
  rw[Nat.mul_comm];exact(Nat.mul_comm _ _▸(Nat.le_div_iff_mul_le hby).1 hlim)
 have h63:xs.length+ys.length<=maxLen:=by
  have:xs.length+ys.length<=(xs.length+ys.length)*ti.bytes:=Nat.le_mul_of_pos_right _ hby;simp only[maxLen];omega
 obtain⟨v',w',fp,hrun,hos,htp,hout,hdr,hsz,hbl,hr',hfp⟩:=Rel.append (P:=P) (ty:=o.type) (f:=λi k=>(tyV ti.ty dx (xs.getD i ti.ty.dflt)).getD k .dead) hsl hw hrow hF2D J.wr.Dlt hrd
  (λi k c hi hk hF=>by
   obtain⟨j,hj,O⟩:=hFy i k c hi hk hF;refine⟨J.wr.dD j c O,λhx=>?_⟩
   obtain⟨j2,h2,h3⟩:=hF2o m c hx;exact J.wr.disj j j2 c (λe=>h3 (e▸hj)) O h2) hFd h63 U
 have hdrop:=CR.drop B (j:=m) (by rw[List.length_append,hl2];exact Nat.lt_succ_self m)
 have hfpG:∀b,fp b->(F2 m b\/∃j∈js,F j b)\/w.heap.size<=b:=by
  intro b U;rcases hfp b U with h1|⟨i,k,hi,hk,h1⟩|h1
  .exact .inl (.inl h1)
  .obtain⟨j,hj,O⟩:=hFy i k b hi hk h1
   exact .inl (.inr ⟨j,hj,O⟩)
  .exact .inr h1
 have hr2:Rel D w' noR (arr true ti.ty.w (tyV ti.ty dx) ti.ty.dflt (xs++ys)) v' fp:=
  Rel.sub (Nq rfl rfl (λ_ _ _=>rfl) (λ_ _ _=>rfl)) hr'
 have hc:=CR.own hdrop (G:=λb=>F2 m b\/∃j∈js,F j b) (D':=D) (λi b U hG=>by
   split at U
   .exact U.elim
   .rename_i hne
    rcases hG with h1|⟨j,hj,O⟩
    .exact B.wr.disj i m b hne U h1
    .obtain⟨j2,h2,h3⟩:=hF2o i b U
     exact J.wr.disj j j2 b (λe=>h3 (e▸hj)) O h2)
  (λb U hG=>hG.elim (hF2D b U) fun⟨j,_,O⟩=>J.wr.dD j b O U)
  (λb hG=>hG.elim (λh=>B.Fn m b h) fun⟨j,_,O⟩=>J.Fn j b O) hos htp hout hdr hsz
  (λc hc hG=>hbl c hc λh=>hG (.inl h)) hr2 hfpG (λ_ h=>h) (λ_ h=>.inl h)
  (λb U=>⟨Nat.lt_of_lt_of_le (J.wr.Dlt b U) hsz,λh=>by
   rcases hfpG b h with(h1|⟨j,_,O⟩)|h2
   .exact hF2D b U h1
   .exact J.wr.dD j b O U
   .have:=J.wr.Dlt b U;omega⟩) d
 have hl3:(((Ap js s).den.σ.set id (upd q ((Ap js s).den.σ.getD id .dead) .dead)++[sub q ((Ap js s).den.σ.getD id .dead)]).set m .dead)=(Ap js s).den.σ.set id (upd q ((Ap js s).den.σ.getD id .dead) .dead)++[.dead]:=by
  rw[List.set_append_right _ _ (by rw[hl2];exact Nat.le_refl _),hl2];simp
 rw[hl3]at hc
 have hl4:((Ap js s).den.σ.set id (upd q ((Ap js s).den.σ.getD id .dead) .dead)++[V.dead]).length=m+1:=by
  rw[List.length_append,List.length_set,hl1];rfl
 rw[hl4,show prom (arr true ti.ty.w (tyV ti.ty dx) ti.ty.dflt (xs++ys)) (m+1)=(.rs (m+1) [] 0 (xs++ys).length,[arr true ti.ty.w (tyV ti.ty dx) ti.ty.dflt (xs++ys)])from rfl,List.length_append]at hc
 have hex:(execOp a.eval o).run P w=.ok (.value v') w':=by
  unfold execOp;simp only[ho,resolve,invoke,builtin,Sem.run_bind,Sem.run_pure,Result.andThen_ok,List.map_toArray,List.map_cons,List.map_nil,hrun]
 rw[<-hm];refine⟨v',w',hex,⟨hdf,λz hz=>?_,?_⟩,D,ρ2,F2,B,λc hc hF=>hbl c hc hF⟩
 .show AF (λi=>AJ m [] (rrV id q m ((Ap js s).den.t i))) d (V.rs (m+1) [] 0 (xs.length+ys.length)) z=.dead
  unfold AF;rw[if_neg (by omega)]
  show AJ m [] (rrV id q m ((Ap js s).den.t z))=.dead;rw[hdd1 z hz];rfl
 .rw[List.map_map,List.map_map,CA hdn]at hc
  exact hc
theorem app_in(U:Θ.OK P){C:Ctx}{N:Nat}{s:St}{o:Oper}{t:TypeId}{x y:Operand}{a:Act}{w:World}{d:Nat}{next:Act->World->Prop}{Q:Exit->Act->World->Prop}
  (ho:o.op=.call ⟨.builtin .append,#[x,y],#[t,t]⟩) (e:o.dst=some d) (Z:d<N) {ti:TI} (W:((Θ.look t).bind (·.elem)).bind Θ.look=some ti) (hby:0<ti.bytes) (hw:0<ti.ty.w)
  {id:Nat}{q:AX} (hx:s.ev x=some (.one (.rf id q))) {ro:Bool}{dx:Nat}{xs:List ti.ty.T} (B:Af s.r id q=.arr ro ti.ty dx xs)
  {ys:List ti.ty.T}{dy:Nat}{js:List Nat} (hy:Wh s ti.ty id (s.ev y)=some (dy,ys,js)) (hdk:dOK ti.ty dy dx=true) (O:xs.length+ys.length<=OM ti.bytes) (hs:AQ C N s.den a w)
  (hn:∀v' w',AQ C N ⟨AF (λi=>AJ s.r.length [] (rrV id q s.r.length ((Ap js s).den.t i))) d (.rs (s.r.length+1) [] 0 (xs.length+ys.length)),
   ((Ap js s).den.σ.set id (upd q ((Ap js s).den.σ.getD id .dead) .dead)++[.dead])++[arr true ti.ty.w (tyV ti.ty dx) ti.ty.dflt (xs++ys)]⟩ (a.put (some d) v') w'->next (a.put (some d) v') w'):o.wp P a w next Q:=by
 obtain⟨v',w',J,hs',_⟩:=UU U ho e Z W hby hw hx B hy hdk O hs;unfold Oper.wp;rw[J,Oper.upon_value,e]
 grind
def AcA(d:Nat):Operand->Bool
 |.tmp z=>!Nat.beq z d
 |.const _=>true
 |_=>false
theorem Ac9{t:Nat->V}{v:V}(h:AcA d x=true):Ms.ev ⟨AF t d v,σ⟩ x=Ms.ev ⟨t,σ'⟩ x:=by
 cases x with
 |tmp z=>
  show AF t d v z=t z;unfold AF;rw[if_neg]
  rintro rfl
  simp[AcA]at h
 |const c=>rfl
 |_=>rfl
def rowF(o1 o2 o3:Oper):Option ((Nat×TypeId×Operand×Operand)×(Nat×TypeId×Operand×Operand)×TypeId):=match o1.op,o1.dst,o2.op,o2.dst,o3.op,o3.dst with
 |.call c,some d,.indexAddr t2 u v,some e,.store t3 (.tmp e') (.tmp d'),none=>(match c.callee,c.args.toList,c.argTypes.toList with
  |.builtin .append,[x,y],[t,t']=>bif Nat.beq t t'&&Nat.beq e e'&&Nat.beq d d'&& !Nat.beq d e&&AcA d u&&AcA d v then some ((d,t,x,y),(e,t2,u,v),t3)else none
  |_,_,_=>none)
 |_,_,_,_,_,_=>none
theorem JV{e:Nat}{t2 t3:TypeId}{u v:Operand}(h:rowF o1 o2 o3=some ((d,t,x,y),(e,t2,u,v),t3)):
  o1.op=.call ⟨.builtin .append,#[x,y],#[t,t]⟩/\o1.dst=some d/\o2.op=.indexAddr t2 u v/\o2.dst=some e/\o3.op=.store t3 (.tmp e) (.tmp d)/\o3.dst=none/\d≠e/\AcA d u=true/\AcA d v=true:=by
 unfold rowF at h;split at h
 case h_2=>cases h
 rename_i c d0 t20 u0 v0 e0 t30 e' d' h1 h2 h3 h4 h5 Z;split at h
 case h_2=>cases h
 rename_i x0 y0 t0 t' hc ha W;obtain⟨U,h⟩:=A9 h;cases h;simp only[bAE,Bool.not_eq_true']at U;obtain⟨⟨⟨⟨⟨O,J⟩,B⟩,b4⟩,b5⟩,b6⟩:=U;have O:=bqE O;have J:=bqE J;have B:=bqE B;subst O J B;refine⟨?_,h2,h3,h4,h5,Z,(λe=>by rw[e,Nat.beq_refl]at b4;cases b4),b5,b6⟩
 rw[h1];obtain⟨ce,ar,at'⟩:=c;obtain⟨ar⟩:=ar;obtain⟨at'⟩:=at'
 grind
def Ux(E:Env)(s:St)(m id:Nat)(q:AX)(o:Oper):Bool:=match o.op with
 |.fieldAddr t _ k=>match(E.Θ.look t).bind (·.flds[k]?)with
  |some _=>true
  |none=>false
 |.move _=>true
 |.indexAddr _ _ _=>true
 |.load t (.tmp z)=>match E.Θ.look t,s.t z with
  |some ti,.one (.rp id' p _ k)=>!hit id (q.map λx=>x.2) [(m,[])] id' p&&(Af s.r id' p).live&&Nat.ble (k+ti.ty.w) (Af s.r id' p).w&&Nat.blt 0 ti.ty.w
  |some ti,.one (.c (.ptr u) 0 _)=>Nat.ble ti.ty.w u.w&&Nat.blt 0 ti.ty.w
  |_,_=>false
 |_=>false
def WW(E:Env)(s:St)(late:List Oper)(o1 o2 o3:Oper):Option PtR:=match rowF o1 o2 o3 with
 |some ((d,t,x,y),(e,t2,u,v),t3)=>(match elI0 E t,elI0 E t2,E.Θ.look t3,s.ev x with
  |some ti,some ti2,some ti3,some (.one (.rf id q))=>(match Af s.r id q,Wh s ti.ty id (s.ev y)with
   |.arr _ t' dx xs,some (dy,ys,js)=>if ht:t'=ti.ty then(match(Ap js s).ev u,(Ap js s).ev v with
     |some (.one (.rf id' p)),some (.one (.c (.int _) _ i))=>bif Nat.beq id' id&&Nat.blt 0 ti.bytes&&Nat.blt 0 ti.ty.w&&dOK ti.ty dy dx&&Nat.beq ti3.ty.w 1&&Nat.beq (Af (Ap js s).r id p).w ti2.ty.w&&Nat.beq ti2.ty.w 1&&(Af (Ap js s).r id p).live&&Nat.blt d E.h.n&&Nat.blt e E.h.n&& !E.h.fz.contains e&&late.all (Ux E (Ap js s) s.r.length id q)then
       (match XM q (p++[(i.toNat,0)]),((Ap js s).r.getD id .dead).setAt p i.toNat 0 (.c (.sl ti.ty) (dx+1) (Adf (ht▸xs) ys))with
       |some c,some r0=>some ⟨(((0:Int)<=i/\i<(((Af (Ap js s).r id p).len:Nat):Int))/\c.p)/\HZ (ht▸xs)+HZ ys<=OM ti.bytes,@instDecidableAnd _ _ (@instDecidableAnd _ _ inferInstance c.dec) inferInstance,
         ⟨λz=>bif Nat.beq z d||Nat.beq z e then .one .dead else((Ap js s).t z).kill id ((p++[(i.toNat,0)]:AX).map λz=>z.2) [(s.r.length,[]),(s.r.length+1,[])],(Ap js s).r.set id r0++[.dead,.dead]⟩⟩
       |_,_=>none)else none
     |_,_=>none)else none
   |_,_=>none)
  |_,_,_,_=>none)
 |none=>none
theorem ev_G{t:Nat->V}{v0 y:V}{G:V->V}(e:AcA d x=true)(B:Ms.ev ⟨t,σ⟩ x=y)(J:G y=y):Ms.ev ⟨AF (λi=>G (t i)) d v0,σ'⟩ x=y:=by
 rw[Ac9 (σ':=σ') e];cases x with
 |tmp z=>
  show G (t z)=y;rw[show t z=y from B,J]
 |const c=>trivial
 |_=>trivial
theorem AaA{a b:Nat}(h:Nat.blt a b=true):a<b:=by simp_all
theorem GOK.row{Q:AX}:GOK (λv=>A5 id Q (m+1) (AJ m [] (rrV id Q m v))) id (Q.map (·.2)) [(m,[]),(m+1,[])]:=by
 have hj:∀id' q,hit id (Q.map (·.2)) [(m,[]),(m+1,[])] id' q=false->id'≠m/\id'≠m+1/\¬ (id'=id/\AT Q q=true):=λid' q h=>
  ⟨λe=>(CM h).2 m [] (by simp) ⟨e,rfl⟩,λe=>(CM h).2 (m+1) [] (by simp) ⟨e,rfl⟩,(CM h).1⟩
 have U:∀id' (q:AX),id'≠m->¬ (id'=m/\AT [] q=true):=λ_ _ h W=>h W.1
 refine⟨Bb.comp (CD _ _ _) (Bb.comp (Ba _ _) (C2 _ _ _)),λid' q off len h=>?_,λid' q i k h=>?_,λid' q h=>?_⟩
 .obtain⟨O,J,B⟩:=hj _ _ h
  simp[rrV,if_neg B,AJ,if_neg (U id' q O),A5,if_neg J]
 .obtain⟨O,J,B⟩:=hj _ _ h
  simp[rrV,if_neg B,AJ,if_neg (U id' q O),A5,if_neg J]
 .obtain⟨O,J,B⟩:=hj _ _ h
  simp[rrV,if_neg B,AJ,if_neg (U id' q O),A5,if_neg J]
def P4{p:AX}{x:Nat×Nat}{y:V}(e:KR p (σ.getD id .dead))(B:σ'.getD id .dead=upd (p++[x]) (σ.getD id .dead) y):A2 σ' id p=A2 σ id p:=by
 unfold A2;rw[B,Hj _ _ _ _ e,JL _ _ _ e];cases sub p (σ.getD id .dead)<;>rfl
theorem WU(hΘ:E.Θ.OK P){next:Act->World->Prop}{Q:Exit->Act->World->Prop}(h:WW E s late o1 o2 o3=some A)(hp:A.p)(hs:AQ C E.h.n s.den a w)
  (hn:∀a' w',AQ C E.h.n A.s.den a' w'->next a' w'):o1.wp P a w (λa1 w1=>o2.wp P a1 w1 (λa2 w2=>o3.wp P a2 w2 next Q) Q) Q:=by
 unfold WW at h;split at h
 case h_2=>cases h
 rename_i d t x y e t2 u v t3 hrow;obtain⟨ho1,hd1,ho2,hd2,ho3,hd3,hde,hnu,hnv⟩:=JV hrow;split at h
 case h_2=>cases h
 rename_i ti ti2 ti3 id q hti hti2 hti3 hx;split at h
 case h_2=>cases h
 rename_i ro t' dx xs dy ys js hnode hy;split at h
 case isFalse=>cases h
 rename_i ht;subst ht;split at h
 case h_2=>cases h
 rename_i id' p kk di i hu hv;obtain⟨hb,h⟩:=A9 h;simp only[bAE,Bool.not_eq_true']at hb;obtain⟨⟨⟨⟨⟨⟨⟨⟨⟨⟨⟨b1,b2⟩,b3⟩,b4⟩,b5⟩,b6⟩,b7⟩,b8⟩,b9⟩,b10⟩,b11⟩,_⟩:=hb;have b1:=bqE b1;subst b1;have b5:=bqE b5;have b6:=bqE b6;have b7:=bqE b7;have b9:=AaA b9;have b10:=AaA b10;split at h
 case h_2=>cases h
 rename_i c r0 hc hset;cases h;obtain⟨⟨⟨hi0,hil⟩,hcp⟩,hlim⟩:=hp;obtain rfl:=Jn _ _ _ hc hcp;have hY:∀j∈js,j<s.r.length/\j≠id':=by
  obtain⟨_,_,D,ρ,F,hcr⟩:=hs;exact(IS hcr ‹_› hy).js
 refine app_in hΘ ho1 hd1 b9 hti (La b2) (La b3) hx hnode hy b4 (by simpa [HZ]using hlim) hs λv' w' hs1=>?_
 have hsd:∃D ρ F,CR C (Ap js s).den.σ ((List.range E.h.n).map (Ap js s).den.t) a.tmps w D ρ F/\∀x,E.h.n<=x->(Ap js s).den.t x=.dead:=by
  obtain⟨_,hdd,D,ρ,F,hcr⟩:=hs;obtain⟨F1,hcr1,_⟩:=CH js hcr (λj hj=>(hY j hj).1)
  exact⟨D,ρ,F1,hcr1,BX js hdd⟩
 obtain⟨D1,ρ1,F1,hcr1,hdd1⟩:=hsd;have hru:=By hcr1 hdd1 u;rw[A7 hu]at hru;have hru:Rel D1 w (Ak (Ap js s).den.σ ρ1 w) (.rs id' p 0 (Af (Ap js s).r id' p).len) (a.eval u) noF:=hru;obtain⟨⟨hid,_,_,_,_,hat,_,_⟩,_⟩:=hru;have hok:=At.ok hat;have hidr:id'<(Ap js s).r.length:=by simpa [St.den]using hid
 have hl:(Ap js s).r.length=s.r.length:=IM js s;obtain⟨m,hm⟩:∃m,m=s.r.length:=⟨_,rfl⟩;rw[<-hm]at hs1 hl;simp only[<-hm]at hn;generalize hS1:((Ap js s).den.σ.set id' (upd (p++[(i.toNat,0)]) ((Ap js s).den.σ.getD id' .dead) .dead)++[.dead])++[arr true ti.ty.w (tyV ti.ty dx) ti.ty.dflt (xs++ys)]=B at hs1;generalize hT1:AF (λi_1=>AJ m [] (rrV id' (p++[(i.toNat,0)]) m ((Ap js s).den.t i_1))) d (.rs (m+1) [] 0 (xs.length+ys.length))=T1 at hs1
 have Z:(Ap js s).den.σ.length=m:=by rw[<-hl];simp[St.den]
 have W:B.getD id' .dead=upd (p++[(i.toNat,0)]) ((Ap js s).den.σ.getD id' .dead) .dead:=by
  rw[<-hS1,AD (by simp;omega),AD (by simp;omega),Ah (by omega)]
 have U:B.getD (m+1) .dead=arr true ti.ty.w (tyV ti.ty dx) ti.ty.dflt (xs++ys):=by
  rw[<-hS1,gDE,gAR (by simp;omega)]
  simp[Z]
 have hsz1:A2 B id' p=ti2.ty.w:=by
  rw[P4 hok W,<-b6];exact Ci b8
 have hidm:id'≠m:=by omega
 obtain⟨e2,hsl,_⟩:=Dh hΘ hti2;refine Hy (h:=E.h) (K:=λS'=>S'=⟨AF T1 e (.rp id' p i.toNat 0),B⟩) ?_ hs1 λS' a2 w2 hS' hs2=>?_
 .unfold vop
  rw[ho2]
  have hu1:Ms.ev ⟨T1,B⟩ u=.rs id' p 0 (Af (Ap js s).r id' p).len:=by
   rw[<-hT1];exact ev_G (G:=λv=>AJ m [] (rrV id' (p++[(i.toNat,0)]) m v)) (t:=(Ap js s).den.t) (σ:=(Ap js s).den.σ) hnu (A7 hu) (by simp[rrV,II,AJ,hidm])
  have hv1:Ms.ev ⟨T1,B⟩ v=.c (.int kk i):=by
   rw[<-hT1];exact ev_G (G:=λv=>AJ m [] (rrV id' (p++[(i.toNat,0)]) m v)) (t:=(Ap js s).den.t) (σ:=(Ap js s).den.σ) hnv (A7 hv) rfl
  show Oc P B (Ms.ev ⟨T1,B⟩) (.indexAddr t2 u v) _;unfold Oc
  dsimp only
  rw[hu1,hv1,hsl];refine⟨hsz1,by omega,⟨hi0,hil⟩,.rp id' p i.toNat 0,by rw[Nat.zero_add];exact Sub.refl _,?_⟩
  show Ms.res _ E.h o2.dst _=_;rw[hd2];unfold Ms.res;simp only[b10,if_true,b11];simp[prom]
 .subst hS'
  refine Hy (h:=E.h) (K:=λS'=>S'=⟨λz=>A5 id' (p++[(i.toNat,0)]) (m+1) (AF T1 e (.rp id' p i.toNat 0) z),
   (B.set id' (upd (p++[(i.toNat,0)]) (B.getD id' .dead) (B.getD (m+1) .dead))).set (m+1) .dead⟩) ?_ hs2 λS' a3 w3 hS' hs3=>hn a3 w3 ?_
  .unfold vop
   rw[ho3];refine⟨hd3,?_⟩;have he1:Ms.ev ⟨AF T1 e (.rp id' p i.toNat 0),B⟩ (.tmp e)=.rp id' p i.toNat 0:=by
    show AF T1 e _ e=_;unfold AF;rw[if_pos rfl]
   have he2:Ms.ev ⟨AF T1 e (.rp id' p i.toNat 0),B⟩ (.tmp d)=.rs (m+1) [] 0 (xs.length+ys.length):=by
    show AF T1 e _ d=_;rw[<-hT1];unfold AF;rw[if_neg hde,if_pos rfl]
   rw[he1,he2,hΘ.ty hti3];unfold WC;refine⟨rfl,⟨b5.symm,by rw[hsz1,b7,b5];exact Nat.le_refl _⟩,?_⟩
   rw[b5];show Ov id' p i.toNat 0 (.rs (m+1) [] 0 (xs.length+ys.length)) [] B _;unfold Ov;have hsub:sub [] (B.getD (m+1) .dead)=.nd true true ti.ty.w (xs++ys).length λi k=>(tyV ti.ty dx ((xs++ys).getD i ti.ty.dflt)).getD k .dead:=U
   simp only[hsub];have hne:m+1≠id':=by omega
   rw[if_neg (λh=>hne h.1)]
   refine⟨⟨trivial,by simp,hne⟩,?_⟩
   rfl
  .subst hS'
   have hG:GOK (λv=>A5 id' (p++[(i.toNat,0)]) (m+1) (AJ m [] (rrV id' (p++[(i.toNat,0)]) m v))) id' ((p++[(i.toNat,0)]:AX).map λz=>z.2) [(m,[]),(m+1,[])]:=GOK.row
   have hlen:∀J q2,hit id' ((p++[(i.toNat,0)]:AX).map λz=>z.2) [(m,[]),(m+1,[])] J q2=false->(Af ((Ap js s).r.set id' r0++[Ab.dead,Ab.dead]) J q2).len=(Af (Ap js s).r J q2).len:=by
    intro J q2 hh;have h1:J≠m/\J≠m+1:=⟨λe=>(CM hh).2 m [] (by simp) ⟨e,rfl⟩,λe=>(CM hh).2 (m+1) [] (by simp) ⟨e,rfl⟩⟩
    rcases Nat.lt_or_ge J m with h2|h2
    .have e1:Af ((Ap js s).r.set id' r0++[Ab.dead,Ab.dead]) J q2=Af ((Ap js s).r.set id' r0) J q2:=by
      unfold Af;rw[gDE,gAL (by simp;omega),<-gDE]
     rw[e1];by_cases he:J=id'
     .subst he
      rw[BP hidr];refine Kg p _ _ hset q2 ?_;cases hp2:pre ((p++[(i.toNat,0)]:AX).map λz=>z.2) q2 with
      |false=>rfl
      |true=>
       unfold hit at hh;rw[Nat.beq_refl,hp2]at hh;cases hh
     .rw[Bq he]
    .have e1:Af ((Ap js s).r.set id' r0++[Ab.dead,Ab.dead]) J q2=Af (Ap js s).r J q2:=by
      unfold Af;rw[gDE,gDE,List.getElem?_eq_none (by simp;omega),List.getElem?_eq_none (by omega)]
     rw[e1]
   refine hs3.sub ?_ (λj hj=>?_) λz=>?_
   .rw[<-hS1]
    simp[St.den]
   .have hσd:∀j,(Ap js s).den.σ.getD j .dead=((Ap js s).r.getD j .dead).v:=λj=>Aw _ _
    have hσo:∀j,m<=j->(Ap js s).den.σ.getD j .dead=.dead:=λj hj=>by rw[gDE,List.getElem?_eq_none (by omega)];rfl
    have hR:∀j,(((Ap js s).r.set id' r0++[Ab.dead,Ab.dead]).map Ab.v).getD j .dead=if j=id' then r0.v else(Ap js s).den.σ.getD j .dead:=by
     intro j;rw[Aw];by_cases O:j=id'
     .subst O
      rw[if_pos rfl,gDE,gAL (by simp;omega),List.getElem?_set_self hidr];rfl
     .rw[if_neg O,hσd]
      rcases Nat.lt_or_ge j m with h2|h2
      .rw[gDE,gAL (by simp;omega),List.getElem?_set_ne (Ne.symm O),<-gDE]
      .rw[gDE,gDE,gAR (by simp;omega),List.getElem?_eq_none (l:=(Ap js s).r) (by omega)]
       simp only[List.length_set,hl]
       match hk:j-m with
       |0=>rfl
       |1=>rfl
       |k+2=>rfl
    show Sub _ ((((Ap js s).r.set id' r0++[Ab.dead,Ab.dead]).map Ab.v).getD j .dead);rw[hR,W,U,Ij];by_cases hj1:j=m+1
    .subst hj1
     rw[if_neg (by omega),hσo (m+1) (by omega),Ah (by simpa using hj)]
     exact Sub.refl _
    .rw[Ag (Ne.symm hj1)]
     by_cases O:j=id'
     .subst O
      rw[if_pos rfl,Ah (by simp at hj;omega),hσd]
      exact HG (Sub.refl _) p _ _ hset
     .rw[if_neg O,Ag (Ne.symm O),<-hS1]
      rcases Nat.lt_or_ge j m with h2|h2
      .rw[AD (by simp;omega),AD (by simp;omega),Ag (Ne.symm O)]
       exact Sub.refl _
      .have hj2:j=m:=by
        simp[<-hS1,Z]at hj;omega
       rw[hσo j (by omega),AD (by simp;omega),gDE,gAR (by simp;omega)]
       simp only[List.length_set,Z,hj2,Nat.sub_self];exact Sub.refl _
   .show Ax (A5 id' (p++[(i.toNat,0)]) (m+1) (AF T1 e (.rp id' p i.toNat 0) z)) (Sl.v _ (bif Nat.beq z d||Nat.beq z e then .one .dead else _))
    cases hz:(Nat.beq z d||Nat.beq z e)with
    |true=>exact Ax.dead _
    |false=>
     rw[Bool.or_eq_false_iff]at hz;have hzd:z≠d:=λe=>by rw[e,Nat.beq_refl]at hz;cases hz.1
     have hze:z≠e:=λe=>by rw[e,Nat.beq_refl]at hz;cases hz.2
     rw[<-hT1];unfold AF;rw[if_neg hze,if_neg hzd];exact Sl.kill_v hG hlen ((Ap js s).t z)
theorem ZF(wr:Bl σ w D ρ F){p:List (Nat×Nat)}{i:Nat}(h:Ak σ ρ w (.rp id p i k) cv):∃b off,cv=.pointer (some ⟨b,off,none⟩)/\F id b:=by
 obtain⟨B,s,sz,n,f,b,o,cap,J,hi,hk,rfl⟩:=h;obtain⟨fp1,U,e,_⟩:=C7 (w':=w) p _ _ _ _ _ (wr.rel id B) (λb Z h'=>wr.dD id b h' Z) J
 refine⟨b,_,rfl,e b ?_⟩;rcases U with⟨h0,_⟩|⟨b',o',O,G,W,_,_,_,_,_,h6⟩
 .omega
 .obtain⟨rfl,_,_⟩:=Av W
  exact((h6 rfl).2.2.2 b).2 (.inl rfl)
theorem Z9(hΘ:E.Θ.OK P){C:Ctx}{m id:Nat}{q:AX}{ops:Array Oper}{fs:List Nat}{a:Act}{w w':World}{σ2:List V}(hdd:∀x,N<=x->s.den.t x=.dead)
  (h1:∃D ρ F,CR C s.den.σ ((List.range N).map s.den.t) a.tmps w D ρ F) (h2:∃D ρ F,CR C σ2 (((List.range N).map s.den.t).map (rrV id q m)) a.tmps w D ρ F/\∀c,c<w.heap.size->¬F m c->w'.heap[c]? =w.heap[c]?)
  (hl:∀f∈fs,∀o,ops[f]? =some o->Ux E s m id q o=true):FlL P ops fs a w w':=by
 intro f hf o ho t x hop ad had;have h:=hl f hf o ho;unfold Ux at h;rw[hop]at h;cases x with
 |tmp z=>
  dsimp only at h
  obtain⟨D1,ρ1,F1,W⟩:=h1;obtain⟨D2,ρ2,F2,J,hsame⟩:=h2;have had:a.tmps.getD z undef=.pointer (some ad):=had
  have hsz:∀(ti:TI),E.Θ.look t=some ti->∀s,(sizeOf t).run P w=.ok s w->s=ti.ty.w:=λti hti s hs=>by
   obtain⟨d,i,z,hu,hi,_,his,_⟩:=CO (hΘ.ty hti);unfold Go.sizeOf typeInfo at hs;rw[Sem.run_bind,Sem.run_bind]at hs;have e:(Go.program.run P w:Result Program)=.ok P w:=rfl;rw[e]at hs;simp only[Result.andThen_ok,hi]at hs;have his:i.size=ti.ty.w:=his;have hs:Result.ok i.size w=.ok s w:=hs;cases hs;exact his
  have hz:s.den.t z≠.dead->z<N:=λhne=>by
   rcases Nat.lt_or_ge z N with h|h
   .exact h
   .exact absurd (hdd z h) hne
  split at h
  case h_3=>cases h
  .rename_i ti id' p i k hti hsz1
   simp only[bAE,Bool.not_eq_true']at h;obtain⟨⟨⟨g1,g2⟩,g3⟩,g4⟩:=h;have g3:=blE g3;have g4:=La g4;have hv:s.den.t z=.rp id' p i k:=by show(s.t z).v s.r=_;rw[hsz1];rfl
   have O:=hz (by rw[hv];simp)
   have r1:=W.tm z (by simpa using O)
   have r2:=J.tm z (by simpa using O)
   have e1:((List.range N).map s.den.t).getD z .dead=.rp id' p i k:=by rw[AY O,hv]
   have e2:(((List.range N).map s.den.t).map (rrV id q m)).getD z .dead=.rp id' p i k:=by
    have:(((List.range N).map s.den.t).map (rrV id q m)).getD z .dead=rrV id q m (s.den.t z):=by simp[O]
    rw[this,hv];exact if_neg (CM g1).1
   rw[e1,had]at r1;rw[e2,had]at r2;obtain⟨s0,sz,n,f0,b,o0,cap,hid,hat,hi,hk,he,_,hns,_,_⟩:=JU W.wr r1.1;obtain⟨b2,off2,he2,hF⟩:=ZF J.wr r2.1;have hbb:b2=b:=by rw[he]at he2;cases he2;rfl
   subst hbb;have hnsz:sz=(Af s.r id' p).w:=by rw[<-hns];exact Ci g2
   have hne:id'≠m:=λe=>(CM g1).2 m [] (by simp) ⟨e,rfl⟩
   have hblk:w'.heap[b2]? =w.heap[b2]?:=hsame b2 (J.wr.lt _ _ hF) λhm=>J.wr.disj id' m b2 hne hF hm
   have B:∀k',k+k'<sz->∃y,w.cell? ⟨b2,o0+i*sz+(k+k'),none⟩=some y:=λk' U=>by
    obtain⟨fp1,hr,_,_⟩:=C7 (w':=w) p _ _ _ _ _ (W.wr.rel id' hid) (λb hb h'=>W.wr.dD id' b h' hb) hat
    rcases hr with⟨h0,_⟩|⟨b',o',cap',G,he',_,_,_,h5,_⟩
    .omega
    .obtain⟨rfl,rfl,_⟩:=Av he'
     obtain⟨y,Z,_⟩:=h5 i (k+k') hi U;exact⟨y,Z⟩
   cases he;refine⟨hblk,?_,λs1 hs1 k' U=>?_⟩
   .obtain⟨y,Z⟩:=B 0 (by omega)
    exact⟨y,by simpa [Nat.add_assoc]using Z⟩
   .rw[hsz ti hti s1 hs1]at U
    obtain⟨y,Z⟩:=B k' (by omega)
    refine⟨y,?_⟩;rw[A3 rfl];simpa [Nat.add_assoc]using Z
  .rename_i ti u xv hti hsz1
   simp only[bAE]at h;obtain⟨g3,g4⟩:=h;have g3:=blE g3;have g4:=La g4;have hv:s.den.t z=Be false (tyV u 0 xv):=by show(s.t z).v s.r=_;rw[hsz1];rfl
   have O:=hz (by rw[hv];simp[Be])
   have r2:=J.tm z (by simpa using O)
   have e2:(((List.range N).map s.den.t).map (rrV id q m)).getD z .dead=Be false (tyV u 0 xv):=by
    have:(((List.range N).map s.den.t).map (rrV id q m)).getD z .dead=rrV id q m (s.den.t z):=by simp[O]
    rw[this,hv];rfl
   rw[e2,had]at r2;have hul:(tyV u 0 xv).length=u.w:=Ay u 0 xv;rcases r2 with⟨_,h0,_⟩|⟨b,o0,cap,G,he,_,_,_,h5,h6,_⟩
   .cases h0
   .have hb:=(h6 rfl).1 (by rw[hul];omega)
    have hblk:w'.heap[b]? =w.heap[b]?:=hsame b (J.wr.Dlt b hb) λhm=>J.wr.dD m b hm hb
    have B:∀k',k'<u.w->∃y,w.cell? ⟨b,o0+k',none⟩=some y:=λk' U=>by
     obtain⟨y,Z,_⟩:=h5 0 k' (by omega) (by rw[hul];exact U)
     exact⟨y,by simpa using Z⟩
    cases he;refine⟨hblk,?_,λs1 hs1 k' U=>?_⟩
    .obtain⟨y,Z⟩:=B 0 (by omega)
     exact⟨y,by simpa using Z⟩
    .rw[hsz ti hti s1 hs1]at U
     obtain⟨y,Z⟩:=B k' (by omega)
     refine⟨y,?_⟩;rw[A3 rfl];exact Z
 |_=>cases h
def flT(E:Env)(ops:Array Oper)(fs:List Nat):Bool:=fs.all λf=>match ops[f]? with
 |some o=>Adx o.op&&(match o.op with
  |.fieldAddr t _ k=>match(E.Θ.look t).bind (·.flds[k]?)with
   |some _=>true
   |none=>false
  |_=>true)
 |none=>true
theorem Abp(B:E.Θ.OK P)(h:flT E ops fs=true):FlT P ops fs:=by
 intro f hf o Z;have e:=aET.1 h f hf;rw[Z]at e;simp at e;refine⟨e.1,λt x k J=>?_⟩
 have O:=e.2;rw[J]at O
 dsimp only at O
 split at O
 case h_2=>grind
 rename_i p U;obtain⟨off,sz⟩:=p;cases W:E.Θ.look t with
 |none=>grind
 |some i=>
  rw[W]at U;exact⟨off,sz,B.fld W U⟩
theorem Acf(W:E.Θ.OK P){ops:Array Oper}{n:Nat}{fs:List Nat}(h:WW E s late o1 o2 o3=some A)(hp:A.p)(hs:AQ C E.h.n s.den a w)
  (hon:ops[n]? =some o1) (O:∀f∈fs,∀o,ops[f]? =some o->o∈late) (hft:FlT P ops fs):FlH P ops n fs a w:=by
 unfold WW at h;split at h
 case h_2=>cases h
 rename_i d t x y e t2 u v t3 hrow;obtain⟨ho1,hd1,ho2,hd2,ho3,hd3,hde,hnu,hnv⟩:=JV hrow;split at h
 case h_2=>cases h
 rename_i ti ti2 ti3 id q hti hti2 hti3 hx;split at h
 case h_2=>cases h
 rename_i ro t' dx xs dy ys js J hy;split at h
 case isFalse=>cases h
 rename_i ht;subst ht;split at h
 case h_2=>cases h
 rename_i id' p kk di i hu hv;obtain⟨hb,h⟩:=A9 h;simp only[bAE,Bool.not_eq_true']at hb;obtain⟨⟨⟨⟨⟨⟨⟨⟨⟨⟨⟨b1,b2⟩,b3⟩,b4⟩,b5⟩,b6⟩,b7⟩,b8⟩,b9⟩,b10⟩,b11⟩,b12⟩:=hb;have b1:=bqE b1;subst b1;have b5:=bqE b5;have b6:=bqE b6;have b7:=bqE b7;have b9:=AaA b9;have b10:=AaA b10;split at h
 case h_2=>cases h
 rename_i c r0 hc hset;cases h;obtain⟨⟨⟨hi0,hil⟩,hcp⟩,hlim⟩:=hp;obtain rfl:=Jn _ _ _ hc hcp;have hY:∀j∈js,j<s.r.length/\j≠id':=by
  obtain⟨_,_,D,ρ,F,U⟩:=hs;exact(IS U ‹_› hy).js
 obtain⟨v',w',hrun,_,D,ρ,F,hcr2,B⟩:=UU W ho1 hd1 b9 hti (La b2) (La b3) hx J hy b4 (by simpa [HZ]using hlim) hs
 have Z:(∃D ρ F,CR C (Ap js s).den.σ ((List.range E.h.n).map (Ap js s).den.t) a.tmps w D ρ F)/\∀x,E.h.n<=x->(Ap js s).den.t x=.dead:=by
  obtain⟨_,hdd,D,ρ,F,U⟩:=hs;obtain⟨F1,hcr1,_⟩:=CH js U (λj hj=>(hY j hj).1)
  exact⟨⟨D,ρ,F1,hcr1⟩,BX js hdd⟩
 intro on hon';obtain rfl:on=o1:=Option.some.inj (hon'.symm.trans hon);refine⟨v',w',hrun,FlT.same hft (Z9 W Z.2 Z.1 ⟨D,ρ,F,hcr2,B⟩ λf hf o ho=>aET.1 b12 o (O f hf o ho))⟩
theorem WV(h:WW E s late o1 o2 o3=some A):Kp (Aq [o1,o2,o3]) s A.s:=by
 unfold WW at h;split at h
 case h_2=>cases h
 rename_i d t x y e t2 u v t3 U;obtain⟨_,hd1,_,hd2,_,_,_,_,_⟩:=JV U;split at h
 case h_2=>cases h
 rename_i ti B ti3 id q hti hti2 hti3 hx;split at h
 case h_2=>cases h
 rename_i ro t' dx xs dy ys js hnode hy;split at h
 case isFalse=>cases h
 rename_i ht;split at h
 case h_2=>cases h
 rename_i id' p kk di i hu hv;generalize hcond:(Nat.beq id' id&&Nat.blt 0 ti.bytes&&Nat.blt 0 ti.ty.w&&dOK ti.ty dy dx&&Nat.beq ti3.ty.w 1&&Nat.beq (Af (Ap js s).r id p).w B.ty.w&&Nat.beq B.ty.w 1&&(Af (Ap js s).r id p).live&&Nat.blt d E.h.n&&Nat.blt e E.h.n&& !E.h.fz.contains e&&late.all (Ux E (Ap js s) s.r.length id q))=cond at h;cases cond with
 |false=>cases h
 |true=>
 simp only[cond_true]at h;split at h
 case h_2=>cases h
 rename_i c r0 hc O;cases h;have k0:Kp (Aq [o1,o2,o3]) s (Ap js s):=(Kw js s (Qs hy)).weak λ_ _=>rfl
 refine k0.trans ⟨λj hj hst=>?_,λJ hid W=>?_,by simp⟩ (λ_ h=>h) λ_ h=>h
 .have Z:Nat.beq j d=false/\Nat.beq j e=false:=by
   refine⟨?_,?_⟩
   .cases hb:Nat.beq j d with
    |false=>rfl
    |true=>
     have:=bqE hb;subst this;simp[Aq,hd1]at hj
   .cases hb:Nat.beq j e with
    |false=>rfl
    |true=>
     have:=bqE hb;subst this;simp[Aq,hd2]at hj
  show(bif Nat.beq j d||Nat.beq j e then Sl.one .dead else _)=_;rw[Z.1,Z.2];exact Sl.kill_stay hst _ _ _
 .have hne:J≠id:=by
   rintro rfl
   rw[HH O]at W;cases W
  show((Ap js s).r.set id r0++[Ab.dead,Ab.dead]).getD J .dead=_;rw[gDE,gAL (by simpa using hid),List.getElem?_set_ne (Ne.symm hne),<-gDE]
end
theorem CR.frz1{ts:List V}{cts:Array Value}(h:CR C σ ts cts w D ρ F){j:Nat}(hj:j<σ.length)(ho:σ.getD j .dead=.nd false true sz 1 f)(hk:k<sz):
  Wt C (σ.set j (upd [(0,k)] (σ.getD j .dead) (Go.Ve.frz (f 0 k)))) (ts.map (AJ j [(0,k)])) cts w:=by
 have hr0:=h.wr.rel j hj;rw[ho]at hr0;rcases hr0 with⟨h0,_⟩|⟨b,o,cap,G,hcv,hcap,hmax,hs,hr,_,hown⟩
 .cases h0
 obtain⟨hb,hnb,hdis,hfp⟩:=hown rfl;have hGF:∀k' x,k'<sz->G 0 k' x->F j x:=λk' x J B=>(hfp x).2 (.inr ⟨0,k',Nat.one_pos,J,B⟩)
 have hF:∀i x,(if i=j then λx=>F j x/\¬G 0 k x else F i) x->F i x/\¬G 0 k x:=by
  intro i x B;split at B
  .rename_i e;subst e;exact B
  .rename_i e
   exact⟨B,λhg=>h.wr.disj i j x e B (hGF k x hk hg)⟩
 refine⟨λx=>D x\/G 0 k x,ρ,λi=>if i=j then λx=>F j x/\¬G 0 k x else F i,⟨λi hi=>?_,λi l x hil h1 h2=>h.wr.disj i l x hil (hF _ _ h1).1 (hF _ _ h2).1,λi x B hd=>?_,λx B=>?_,λi x hi B=>h.wr.out i x (by simpa using hi) (hF _ _ B).1⟩,by simpa using h.sz,λt ht=>?_,h.fr,λi x B=>h.Fn i x (hF _ _ B).1,λx B=>.inl (h.D1 x B),λx B hlt=>?_,h.rt,by simpa using h.ml⟩
 .have hi:i<σ.length:=by simpa using hi
  by_cases he:i=j
  .subst he
   rw[Ah hj,ho];simp only[if_true];obtain⟨G',hG'⟩:∃G':Nat->Nat->Nat->Prop,G'=λi' k'=>if i'=0/\k'=k then noF else G i' k':=⟨_,rfl⟩
   have g0:G' 0 k=noF:=by rw[hG'];exact if_pos ⟨rfl,rfl⟩
   have gi:∀i' k',¬ (i'=0/\k'=k)->G' i' k'=G i' k':=λi' k' e=>by rw[hG'];exact if_neg e
   have gg:∀i' k' x,G' i' k' x->¬ (i'=0/\k'=k)/\G i' k' x:=λi' k' x B=>by
    by_cases e:i'=0/\k'=k
    .rw[e.1,e.2,g0]at B;exact B.elim
    .rw[gi _ _ e]at B;exact⟨e,B⟩
   refine .inr ⟨b,o,cap,G',hcv,hcap,hmax,hs,λi' k' O J=>?_,λe=>(by cases e),λ_=>⟨hb,λi' k' O J B=>hnb i' k' O J (gg _ _ _ B).2,λi1 k1 i2 k2 x a1 a2 a3 a4 a5 g1 g2=>hdis i1 k1 i2 k2 x a1 a2 a3 a4 a5 (gg _ _ _ g1).2 (gg _ _ _ g2).2,λx=>?_⟩⟩
   .obtain⟨x,B,hrx⟩:=hr i' k' O J
    refine⟨x,B,?_⟩;obtain rfl:i'=0:=by omega
    by_cases e:k'=k
    .subst e
     simp only[and_self,if_true];rw[g0];exact Rel.frz _ _ _ hrx
    .simp only[e,and_false,if_false]
     rw[gi 0 k' λh=>e h.2]
     exact Rel.mono (λ_ h=>.inl h) (λ_ _ h=>h) _ _ _ (λ_ _=>rfl) hrx
   .constructor
    .rintro ⟨h1,h2⟩
     rcases(hfp x).1 h1 with e|⟨i',k',O,J,hg⟩
     .exact .inl e
     .refine .inr ⟨i',k',O,J,?_⟩
      rw[gi _ _ λe=>h2 (by rw[<-e.1,<-e.2];exact hg)]
      exact hg
    .rintro (e|⟨i',k',O,J,hg⟩)
     .subst e
      exact⟨(hfp _).2 (.inl rfl),hnb 0 k Nat.one_pos hk⟩
     .obtain⟨e,hg⟩:=gg _ _ _ hg
      obtain rfl:i'=0:=by omega
      refine⟨hGF k' x J hg,λhg2=>hdis 0 k' 0 k x O J O hk (.inr λe2=>e ⟨rfl,e2⟩) hg hg2⟩
  .rw[Ag (Ne.symm he)]
   simp only[he,if_false];exact Rel.mono (λ_ h=>.inl h) (λ_ _ h=>h) _ _ _ (λ_ _=>rfl) (h.wr.rel i hi)
 .obtain⟨h1,h2⟩:=hF i x B
  exact hd.elim (h.wr.dD i x h1) h2
 .exact B.elim (h.wr.Dlt x) λhg=>h.wr.lt j x (hGF k x hk hg)
 .simp at ht
  have e1:(ts.map (AJ j [(0,k)])).getD t .dead=AJ j [(0,k)] (ts.getD t .dead):=by simp[ht]
  rw[e1];refine Rel.mono (λ_ h=>.inl h) (λ_ _ h=>h) _ _ _ (λ_ _=>rfl) ((Ba _ _).rel (R':=Ak (σ.set j (upd [(0,k)] (σ.getD j .dead) (Go.Ve.frz (f 0 k)))) ρ w) (λ_ _=>rfl) ?_ ?_ ?_ _ _ noF (λ_ h=>h) (h.tm t ht))
  .rintro id q off len cv ⟨Z,U,n',f',cn,ha,r⟩
   simp only[AJ];split
   .exact λ_ h=>h
   .rename_i W
    refine⟨⟨by simpa using Z,?_⟩,λ_ h=>h⟩
    by_cases e:id=j
    .subst e
     rw[Ah hj];obtain⟨f2,h2⟩:=At.keep (x:=Go.Ve.frz (f 0 k)) [(0,k)] q _ _ (by rw[ho];exact⟨rfl,Nat.one_pos,hk,trivial⟩) (by simpa using W) ha
     exact⟨U,n',f2,cn,h2,r⟩
    .rw[Ag (Ne.symm e)]
     exact⟨U,n',f',cn,ha,r⟩
  .rintro id q i' k' cv ⟨Z,s',U,n',f',b',o',cap',ha,r⟩
   simp only[AJ];split
   .exact λ_ h=>h
   .rename_i W
    refine⟨⟨by simpa using Z,?_⟩,λ_ h=>h⟩
    by_cases e:id=j
    .subst e
     rw[Ah hj];obtain⟨f2,h2⟩:=At.keep (x:=Go.Ve.frz (f 0 k)) [(0,k)] q _ _ (by rw[ho];exact⟨rfl,Nat.one_pos,hk,trivial⟩) (by simpa using W) ha
     exact⟨s',U,n',f2,b',o',cap',h2,r⟩
    .rw[Ag (Ne.symm e)]
     exact⟨s',U,n',f',b',o',cap',ha,r⟩
  .rintro id q cv ⟨Z,l',b',ha,r⟩
   simp only[AJ];split
   .exact λ_ h=>h
   .rename_i W
    refine⟨⟨by simpa using Z,l',b',?_,r⟩,λ_ h=>h⟩
    by_cases e:id=j
    .subst e
     rw[Ah hj];exact At.keepM (x:=Go.Ve.frz (f 0 k)) [(0,k)] q _ _ (by rw[ho];exact⟨rfl,Nat.one_pos,hk,trivial⟩) (by simpa using W) ha
    .rw[Ag (Ne.symm e)]
     exact ha
 .rcases B with B|B
  .exact h.D2 x B hlt
  .exact(h.Fn j x (hGF k x hk B)).elim .inr λhge=>absurd hlt (Nat.not_lt.2 hge)
def Ac6(id k:Nat)(s:St):Option St:=match s.r.getD id .dead with
 |.obj false l=>match l.getD k .dead with
  |.c (.sl t) (_+1) xs=>match(s.r.getD id .dead).setAt [] 0 k (.c (.sl t) 0 xs)with
   |some e=>some ⟨λi=>(s.t i).kill id [k] [],s.r.set id e⟩
   |none=>none
  |_=>some s
 |_=>some s
theorem Aao(h:Ac6 id k s=some s')(hs:AQ C N s.den a w):AQ C N s'.den a w/\Kp (λ_=>true) s s':=by
 unfold Ac6 at h;split at h
 case h_2=>cases h;exact⟨hs,Kp.refl _ _⟩
 rename_i l hr;split at h
 case h_2=>cases h;exact⟨hs,Kp.refl _ _⟩
 rename_i t d xs hl;split at h
 case h_2=>cases h
 rename_i B O;cases h;have J:id<s.r.length:=by
  rcases Nat.lt_or_ge id s.r.length with h|h
  .exact h
  .rw[gDE,List.getElem?_eq_none h]at hr;cases hr
 have hkl:k<l.length:=by
  rcases Nat.lt_or_ge k l.length with h|h
  .exact h
  .rw[gDE,List.getElem?_eq_none h]at hl;cases hl
 have hσ:s.den.σ.getD id .dead=Be true (l.map Cl.v0):=by
  show(s.r.map Ab.v).getD id .dead=_;rw[Aw,hr];rfl
 obtain⟨hd,hdd,D,ρ,F,hcr⟩:=hs;have hf:=hcr.frz1 (by simpa [St.den]using J) hσ (by simpa using hkl)
 have U:Go.Ve.frz ((l.map Cl.v0).getD k .dead)=(Cl.c (.sl t) 0 xs).v0:=by
  have:(l.map Cl.v0).getD k .dead=(l.getD k .dead).v0:=by
   simp[gDE,List.getElem?_map,gEE hkl]
  rw[this,hl];exact UA (t:=.sl t) rfl _ _
 have Z:∀id' q,hit id [k] [] id' q=false->(Af (s.r.set id B) id' q).len=(Af s.r id' q).len:=by
  intro id' q hq;by_cases e:id'=id
  .subst e
   have hp:pre [k] q=false:=by
    unfold hit at hq;simpa using hq
   have h1:=Kg [] _ _ O q hp;unfold Af;have e2:(s.r.set id' B).getD id' .dead=B:=by simp[gDE,J]
   rw[e2];exact h1
  .rw[Bq e]
 have hk:=λy=>Sl.kill_v (r:=s.r) (r':=s.r.set id B) (GOK.kill (id:=id) (P:=[(0,k)])) Z y
 refine⟨⟨hd,λi hi=>?_,?_⟩,⟨λi _ hst=>Sl.kill_stay hst _ _ _,λid' _ W=>?_,by simp⟩⟩
 .have h0:(s.t i).v s.r=.dead:=hdd i hi
  have h1:=hk (s.t i);rw[h0]at h1;rcases h1 with h|h
  .exact h
  .exact h
 .obtain⟨D',ρ',F',hc'⟩:=hf
  refine⟨D',ρ',F',hc'.sub (by simp[St.den]) (λi _=>?_) (by simp) λi hi=>?_⟩
  .by_cases e:i=id
   .subst e
    rw[Ah (by simpa [St.den]using J)]
    show Sub (upd [(0,k)] _ (Go.Ve.frz ((l.map Cl.v0).getD k .dead))) (((s.r.set i B).map Ab.v).getD i .dead);rw[U];rw[Aw];have e2:(s.r.set i B).getD i .dead=B:=by simp[gDE,J]
    rw[e2];have e3:s.den.σ.getD i .dead=(s.r.getD i .dead).v:=Aw _ _;rw[e3];exact JR [] _ _ O
   .rw[Ag (Ne.symm e)]
    show Sub ((s.r.map Ab.v).getD i .dead) (((s.r.set id B).map Ab.v).getD i .dead);rw[Aw,Aw];have e2:(s.r.set id B).getD i .dead=s.r.getD i .dead:=by simp only[gDE,List.getElem?_set_ne (Ne.symm e)]
    rw[e2];exact Sub.refl _
  .have hi:i<N:=by simpa using hi
   have e1:(((List.range N).map s.den.t).map (AJ id [(0,k)])).getD i .dead=AJ id [(0,k)] ((s.t i).v s.r):=by simp[hi,St.den]
   rw[e1,AY hi];exact hk (s.t i)
 .have hne:id'≠id:=by
   rintro rfl
   rw[hr]at W;cases W
  simp only[gDE,List.getElem?_set_ne (Ne.symm hne)]
def OX(id:Nat):List Nat->St->Option St
 |[],s=>some s
 |k::l,s=>match Ac6 id k s with
  |some s'=>OX id l s'
  |none=>none
def Ko{C:Ctx}{N:Nat}{id:Nat}{a:Act}{w:World}:∀(l:List Nat) {s s':St},OX id l s=some s'->AQ C N s.den a w->AQ C N s'.den a w/\Kp (λ_=>true) s s'
 |[],s,s',h,e=>by cases h;exact⟨e,Kp.refl _ _⟩
 |k::l,s,s',h,e=>by
  unfold OX at h;split at h
  case h_2=>cases h
  rename_i s1 B;obtain⟨g1,g2⟩:=Aao B e;obtain⟨O,J⟩:=Ko l h g1;exact⟨O,g2.trans J (λ_ _=>rfl) λ_ _=>rfl⟩
def frzO(E:Env)(s:St)(o:Oper):Option St:=match o.op,o.dst with
 |.load t (.tmp z),some d=>bif E.h.fz.contains (4000000+d)then(match s.t z,E.Θ.look t with
  |.one (.rp id [] 0 k),some i=>OX id ((List.range i.ty.w).map λj=>k+j) s
  |_,_=>some s)else some s
 |_,_=>some s
theorem Ac5(h:frzO E s o=some s')(J:AQ C N s.den a w):AQ C N s'.den a w/\Kp (λ_=>true) s s':=by
 have B:some s=some s'->AQ C N s'.den a w/\Kp (λ_=>true) s s':=λe=>by cases e;exact⟨J,Kp.refl _ _⟩
 unfold frzO at h;split at h
 case h_2=>exact B h
 rename_i t z d _ _;cases O:E.h.fz.contains (4000000+d)with
 |false=>rw[O]at h;exact B h
 |true=>
  rw[O]at h;simp only[cond_true]at h;split at h
  .exact Ko _ h J
  .exact B h
def frzP(E:Env)(s:St)(o:Oper):Option St:=match o.op with
 |.store t (.tmp z) _=>bif E.h.fz.contains (5000000+z)then(match s.t z,E.Θ.look t with
  |.one (.rp id [] 0 k),some i=>OX id ((List.range i.ty.w).map λj=>k+j) s
  |_,_=>some s)else some s
 |_=>some s
theorem Ac4(h:frzP E s o=some s')(J:AQ C N s.den a w):AQ C N s'.den a w/\Kp (λ_=>true) s s':=by
 have B:some s=some s'->AQ C N s'.den a w/\Kp (λ_=>true) s s':=λe=>by cases e;exact⟨J,Kp.refl _ _⟩
 unfold frzP at h;split at h
 case h_2=>exact B h
 rename_i t z _ _;cases O:E.h.fz.contains (5000000+z)with
 |false=>rw[O]at h;exact B h
 |true=>
  rw[O]at h;simp only[cond_true]at h;split at h
  .exact Ko _ h J
  .exact B h
end Go.Ve

