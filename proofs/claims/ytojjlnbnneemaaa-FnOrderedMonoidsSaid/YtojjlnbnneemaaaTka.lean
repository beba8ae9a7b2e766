/- The typed machine: lists of operations in memory; regions that draw their order. -/
import Derived.Test.YtojjlnbnneemaaaTj
import Derived.Test.YtojjlnbnneemaaaTu
import Derived.Test.YtojjlnbnneemaaaVwa
import Derived.Test.YtojjlnbnneemaaaTd
set_option linter.all false
namespace Go.Ve
variable{p:AW}{r r':Ac}{c:Cl}{h:Cz}{i id j k:Nat}{g:Nat->Bool}{d:Option Nat}{v x:Option Sl}{ti:Option TI}{P:Program}{y:Sl}{s s' s1:St}{Θ:Tab}
theorem V5{C:Ctx}{N:Nat}(hΘ:Θ.OK P){s s':St}{o:Oper}{t:TypeId}{x v:Operand}{a:Act}{w:World}{next:Act->World->Prop}{Q:Exit->Act->World->Prop}
  (ho:o.op=.store t x v) (hdst:o.dst=none) (h:I3 s (Θ.look t) (s.ev x) (s.ev v)=some s') (hs:AU C N s.den a w) (hn:∀a' w',AU C N s'.den a' w'->next a' w'):o.wp P a w next Q:=by
 obtain⟨hd,Z,D,ρ,F,B⟩:=hs;unfold I3 at h;split at h
 case h_2=>cases h
 rename_i ti id p i k y hti hx hv;split at h
 case h_2=>cases h
 rename_i l hl;obtain⟨hb,h⟩:=A7 h;simp only[bAE]at hb;obtain⟨⟨h1,h2⟩,h3⟩:=hb;have h1:=bqE h1;have h2:=blE h2;have hnsz:=Cj h3;obtain⟨hpl,hcv,_⟩:=C3 (r:=s.r) hl;obtain⟨d,tii,z,hdt,hit,hz,his,_⟩:=C5 (hΘ.ty hti);simp only at his;have M:=Bu B Z x;rw[Bh hx]at M;have M:Rel D w (Am s.den.σ ρ w) (.rp id p i k) (a.eval x) noF:=M;obtain⟨s0,sz,n,f,b,o',cap,hid,ha,hi,hk,had,_,hns,_,_⟩:=JN B.wr M.1;have hrv:=Bu B Z v;rw[Bh hv]at hrv;obtain⟨⟨O,L⟩,_⟩:=Ce (λv cv h=>Am.one h) hpl hrv
 rw[hcv]at O L;have hlen:(l.map (Cl.v s.r)).length=l.length:=List.length_map ..
 have hcr2:CR C s.den.σ ((List.range N).map s.den.t++ .rp id p i k::l.map (Cl.v s.r)) (a.tmps.toList++ .pointer (some ⟨b,(o'+i*sz)+k,none⟩)::(a.eval v).cells.toList).toArray w D ρ F:=by
  have U:a.tmps.size=N:=by simpa using B.sz
  refine⟨B.wr,by simp[U,O],λj hj=>?_,B.fr,B.Fn,B.D1,B.D2,B.rt,B.ml⟩
  by_cases W:j<N
  .rw[AE (by simpa using W)]
   have h1:=B.tm j (by simpa using W)
   have e:(a.tmps.toList++ .pointer (some ⟨b,(o'+i*sz)+k,none⟩)::(a.eval v).cells.toList).toArray.getD j undef=a.tmps.getD j undef:=by
    simp[gAL,U,W]
   rw[e];exact h1
  .obtain⟨m,rfl⟩:∃m,j=N+m:=⟨j-N,by omega⟩
   have e1:((List.range N).map s.den.t++ .rp id p i k::l.map (Cl.v s.r)).getD (N+m) .dead=(.rp id p i k::l.map (Cl.v s.r)).getD m .dead:=by
    simp[gAR]
   have e2:(a.tmps.toList++ .pointer (some ⟨b,(o'+i*sz)+k,none⟩)::(a.eval v).cells.toList).toArray.getD (N+m) undef=(.pointer (some ⟨b,(o'+i*sz)+k,none⟩)::(a.eval v).cells.toList).getD m undef:=by
    simp only[Array.getD_eq_getD_getElem?,List.getElem?_toArray,gDE];rw[gAR (by simp;omega)]
    simp[U]
   rw[e1,e2];cases m with
   |zero=>rw[had]at M;exact M
   |succ m=>
    simp at hj;have:=L m (by simpa using hj)
    simpa using this
 obtain⟨w',hrun,hdd',hcr3⟩:=Uv (P:=P) l.length l (a.eval v).cells.toList 0 s s' w ρ F hcr2 (by simpa using B.sz) Z (by simpa using O) (by show k+0+l.length<=A6 (s.r.map Ac.v) id p;rw[hnsz];omega) h
 have hsv:(storeVar t ⟨b,(o'+i*sz)+k,none⟩ (a.eval v)).run P w=.ok () w':=by
  simp only[storeVar,Sem.run_bind,sizeOf,typeInfo];have e:(a.eval v).cells.size=ti.ty.w:=by rw[O,hlen,h1]
  simp[hit,his,hrun,e]
 have hex:(execOp a.eval o).run P w=.ok .skip w':=by
  unfold execOp;rw[ho];simp[Instr.storeAt,had,Instr.sureAddr,hsv]
 unfold Oper.wp;rw[hex,Oper.upon_skip,hdst];exact hn a w' ⟨hd,hdd',hcr3⟩
structure PD where
 p:Prop
 dec:Decidable p
def WW:AW->AW->Option PD
 |[],[]=>some ⟨True,inferInstance⟩
 |(i,k)::p,(j,l)::q=>bif Nat.beq k l then(match WW p q with
  |some c=>some ⟨(i<=j/\j<=i)/\c.p,@instDecidableAnd _ _ inferInstance c.dec⟩
  |none=>none)else none
 |_,_=>none
def Jq:∀(p q:AW) (c:PD),WW p q=some c->c.p->p=q
 |[],[],_,_,_=>rfl
 |(i,k)::p,(j,l)::q,c,h,hc=>by
  unfold WW at h;cases e:Nat.beq k l with
  |false=>grind
  |true=>
   rw[e]at h;split at h
   case h_2=>grind
   rename_i c' B;cases h;rw[bqE e,Jq p q c' B hc.2,Nat.le_antisymm hc.1.1 hc.1.2]
 |[],_::_,_,h,_=>by cases h
 |_::_,[],_,h,_=>by cases h
structure PtR where
 p:Prop
 dec:Decidable p
 s:St
variable{A:PtR}
def Wc(s:St):Option TI->Option Sl->Option Sl->Option PtR
 |some ti,some (.one (.rp id p i k)),some (.one (.rs id' q off len))=>bif Nat.beq id' id&&Nat.beq ti.ty.w 1&&Nat.ble (k+1) (Ae s.r id p).w&&(Ae s.r id p).live then(match WW q (p++[(i,k)])with
  |some c=>match Ae s.r id q with
   |.arr false t d xs=>match(s.r.getD id .dead).setAt p i k (.c (.sl t) (d+1) (UI off len xs t.dflt))with
    |some r0=>some ⟨c.p,c.dec,⟨λx=>(s.t x).kill id ((p++[(i,k)]).map (·.2)) [],s.r.set id r0⟩⟩
    |none=>none
   |_=>none
  |none=>none)else none
 |_,_,_=>none
theorem Yu{C:Ctx}{N:Nat}(hΘ:Θ.OK P){s:St}{o:Oper}{t:TypeId}{x v:Operand}{a:Act}{w:World}{next:Act->World->Prop}{Q:Exit->Act->World->Prop}{A:PtR}
  (ho:o.op=.store t x v) (hdst:o.dst=none) (h:Wc s (Θ.look t) (s.ev x) (s.ev v)=some A) (hp:A.p) (hs:AU C N s.den a w) (hn:∀a' w',AU C N A.s.den a' w'->next a' w'):o.wp P a w next Q:=by
 obtain⟨hd,hdd,D,ρ,F,B⟩:=hs;unfold Wc at h;split at h
 case h_2=>cases h
 rename_i ti id p i k id' q off len hti hx hv;obtain⟨hb,h⟩:=A7 h;simp only[bAE]at hb;obtain⟨⟨⟨h0,h1⟩,h2⟩,h3⟩:=hb;have h0:=bqE h0;subst h0;have h1:=bqE h1;have h2:=blE h2;split at h
 case h_2=>cases h
 rename_i c hc;split at h
 case h_2=>cases h
 rename_i u d xs Z;split at h
 case h_2=>cases h
 rename_i r0 hset;cases h;obtain rfl:=Jq _ _ _ hc hp;have hnsz:=Cj h3;obtain⟨d1,tii,z,hdt,hity,hz,his,_⟩:=C5 (hΘ.ty hti);simp only at his;have M:=Bu B hdd x;rw[Bh hx]at M;have M:Rel D w (Am s.den.σ ρ w) (.rp id' p i k) (a.eval x) noF:=M;obtain⟨s0,sz,n,f,b,o',cap,hid,ha,hi,hk,had,_,hns,_,_⟩:=JN B.wr M.1;have O:=Bu B hdd v;rw[Bh hv]at O;have O:Rel D w (Am s.den.σ ρ w) (.rs id' (p++[(i,k)]) off len) (a.eval v) noF:=O;have hone:(a.eval v).oneCell'=true:=Am.one O.1;have W:a.tmps.size=N:=by simpa using B.sz
 have hcr2:CR C s.den.σ ((List.range N).map s.den.t++V.rp id' p i k::[V.rs id' (p++[(i,k)]) off len]) (a.tmps.toList++Value.pointer (some ⟨b,(o'+i*sz)+k,none⟩)::[a.eval v]).toArray w D ρ F:=by
  refine⟨B.wr,by simp[W],λj hj=>?_,B.fr,B.Fn,B.D1,B.D2,B.rt,B.ml⟩
  by_cases hjt:j<N
  .rw[AE (by simpa using hjt)]
   have h1:=B.tm j (by simpa using hjt)
   have e:(a.tmps.toList++Value.pointer (some ⟨b,(o'+i*sz)+k,none⟩)::[a.eval v]).toArray.getD j undef=a.tmps.getD j undef:=by
    simp[gAL,W,hjt]
   rw[e];exact h1
  .obtain⟨m,rfl⟩:∃m,j=N+m:=⟨j-N,by omega⟩
   have e1:((List.range N).map s.den.t++V.rp id' p i k::[V.rs id' (p++[(i,k)]) off len]).getD (N+m) .dead=([V.rp id' p i k,V.rs id' (p++[(i,k)]) off len]:List V).getD m .dead:=by
    simp[gAR]
   have e2:(a.tmps.toList++Value.pointer (some ⟨b,(o'+i*sz)+k,none⟩)::[a.eval v]).toArray.getD (N+m) undef=([Value.pointer (some ⟨b,(o'+i*sz)+k,none⟩),a.eval v]:List Value).getD m undef:=by
    simp only[Array.getD_eq_getD_getElem?,List.getElem?_toArray,gDE];rw[gAR (by simp;omega)]
    simp[W]
   rw[e1,e2];simp at hj
   match m with
   |0=>rw[had]at M;exact M
   |1=>exact O
   |m+2=>omega
 have hnode2:sub (p++[(i,k)]) (s.den.σ.getD id' .dead)=arr true u.w (tyV u d) u.dflt xs:=by
  have:=A5 (r:=s.r) (id:=id') (p:=p++[(i,k)]) (by rw[Z];simp)
  rw[Z]at this;exact this
 obtain⟨X,hX⟩:∃X:V,X=.nd true true u.w len λa b=>(tyV u d (xs.getD (a+off) u.dflt)).getD b .dead:=⟨_,rfl⟩
 have hput:Mx id' p i k (.rs id' (p++[(i,k)]) off len) [] s.den.σ (λcs' σ2 G2=>σ2=s.den.σ.set id' (upd (p++[(i,k)]) (s.den.σ.getD id' .dead) X)/\G2=AP id' (p++[(i,k)])):=by
  unfold Mx;simp only[hnode2,arr];rw[if_pos ⟨trivial,trivial⟩];refine⟨?_,trivial⟩;rw[hX]
 obtain⟨G2,σ2,b1,o1,ρ1,F1,⟨y,hy⟩,hfz,h1c,⟨ofs,had1,hoff⟩,hGm,⟨hσ2,hGG⟩,hns1,hcr1⟩:=IA hcr2 (by simpa using W) (by show k<A6 (s.r.map Ac.v) id' p;rw[hnsz];omega) hput
 subst hσ2;subst hGG;simp only[Value.pointer.injEq,Option.some.injEq,Addr.mk.injEq,and_true]at had1;obtain⟨rfl,had1⟩:=had1;obtain rfl:ofs=o'+i*sz:=by omega
 have hidr:id'<s.r.length:=by simpa [St.den]using hid
 have hG:GOK (AP id' (p++[(i,k)])) id' ((p++[(i,k)]).map (·.2)) []:=GOK.kill
 have hlen:∀U q2,hit id' ((p++[(i,k)]).map (·.2)) [] U q2=false->(Ae (s.r.set id' r0) U q2).len=(Ae s.r U q2).len:=by
  intro U q2 hh;by_cases he:U=id'
  .subst he
   rw[BR hidr];refine Ka p _ _ hset q2 ?_;cases hp2:pre ((p++[(i,k)]).map (·.2)) q2 with
   |false=>rfl
   |true=>
    unfold hit at hh;rw[Nat.beq_refl,hp2]at hh;cases hh
  .rw[Bk he]
 have hsub:∀j,Sub ((s.den.σ.set id' (upd (p++[(i,k)]) (s.den.σ.getD id' .dead) X)).getD j .dead) (((s.r.set id' r0).map Ac.v).getD j .dead):=λj=>by
  refine CH ?_ j;show Sub (upd (p++[(i,k)]) ((s.r.map Ac.v).getD id' .dead) X) r0.v;rw[Aq];refine HM ?_ p _ _ hset;rw[hX];show Sub _ (arr true u.w (tyV u d) u.dflt (UI off len xs u.dflt));unfold arr;have hl:(UI off len xs u.dflt).length=len:=by simp[UI]
  rw[hl];refine⟨_,rfl,λa2 b2 ha2 hb2=>?_⟩
  have e:(UI off len xs u.dflt).getD a2 u.dflt=xs.getD (a2+off) u.dflt:=by
   simp[UI,ha2,Nat.add_comm]
  rw[e];exact Sub.refl _
 have hs':AU C N (St.den ⟨λx=>(s.t x).kill id' ((p++[(i,k)]).map (·.2)) [],s.r.set id' r0⟩) a (w.setCell ⟨b,o1,none⟩ (a.eval v)):=by
  have kv:=λj=>Sl.kill_v hG hlen (s.t j)
  refine⟨hd,λj hj=>?_,D,ρ1,F1,?_⟩
  .have h2:(s.t j).v s.r=.dead:=hdd j hj
   have h1:=kv j;rw[h2,hG.m.dead]at h1;exact As.of_dead h1
  .have hcr3:=hcr1.left (by simpa using W)
   have e3:(a.tmps.toList).toArray=a.tmps:=by simp
   rw[e3]at hcr3;refine hcr3.sub (by simp[St.den]) (λj _=>hsub j) (by simp) λj hj=>?_
   have hj:j<N:=by simpa using hj
   have:=kv j;simpa [hj,St.den]using this
 have hsv:(storeVar t ⟨b,(o'+i*sz)+k,none⟩ (a.eval v)).run P w=.ok () (w.setCell ⟨b,o1,none⟩ (a.eval v)):=by
  have L:(a.eval v).cells.toList=[a.eval v]:=by
   have:=(Rel.cells1 O (λ_ _ h=>Am.one h) rfl).1
   rw[this]
  simp only[storeVar,Sem.run_bind,sizeOf,typeInfo];have e:(a.eval v).cells.size=ti.ty.w:=by rw[h1,<-Array.length_toList,L];rfl
  have ea:(⟨b,(o'+i*sz)+k,none⟩:Addr).add 0=⟨b,o1,none⟩:=by rw[A9 rfl,hoff];rfl
  have hrun:(storeCells ⟨b,(o'+i*sz)+k,none⟩ (a.eval v).cells.toList 0).run P w=.ok () (w.setCell ⟨b,o1,none⟩ (a.eval v)):=by
   rw[L];simp only[storeCells,Sem.run_bind,ea];rw[run_store P w _ _ .plain hone,hy];simp only[hfz,Bool.false_eq_true,if_false];rfl
  simp[hity,his,hrun,e]
 have hex:(execOp a.eval o).run P w=.ok .skip (w.setCell ⟨b,o1,none⟩ (a.eval v)):=by
  unfold execOp;rw[ho];simp[Instr.storeAt,had,Instr.sureAddr,hsv]
 unfold Oper.wp;rw[hex,Oper.upon_skip,hdst];exact hn a _ hs'
def Cl.stay:Cl->Bool
 |.rf _ _=>false
 |.rs _ _ _ _=>false
 |.rp _ _ _ _=>false
 |.rm _ _=>false
 |_=>true
def Sl.stay:Sl->Bool
 |.one y=>y.stay
 |.new _=>true
 |.agg l=>l.all Cl.stay
 |.pk _ l=>l.all Cl.stay
 |.tup l=>l.all λp=>p.2.all Cl.stay
theorem AN{α:Type}{f:α->α}{l:List α}(h:∀y∈l,f y=y):l.map f=l:=by
 have:=List.map_congr_left h
 simp_all
theorem Sl.chk_stay(h:y.stay=true)(m:Nat):y.chk m=y:=by
 have c1:∀y:Cl,y.stay=true->y.chk m=y:=by intro y h;cases y<;>first|rfl|cases h
 cases y with
 |one y=>exact congrArg Sl.one (c1 y h)
 |new l=>rfl
 |agg l=>exact congrArg Sl.agg (AN λy e=>c1 y (aET.1 h y e))
 |pk t l=>exact congrArg (Sl.pk t) (AN λy e=>c1 y (aET.1 h y e))
 |tup l=>
  refine congrArg Sl.tup (AN λp B=>?_)
  obtain⟨b,m⟩:=p;exact congrArg (Prod.mk b) (AN λy e=>c1 y (aET.1 (aET.1 h _ B) y e))
theorem Sl.kill_stay(h:y.stay=true)(id:Nat)(ks:List Nat)(j:Mv):y.kill id ks j=y:=by
 have c1:∀y:Cl,y.stay=true->y.kill id ks j=y:=by intro y h;cases y<;>first|rfl|cases h
 cases y with
 |one y=>exact congrArg Sl.one (c1 y h)
 |new l=>rfl
 |agg l=>exact congrArg Sl.agg (AN λy e=>c1 y (aET.1 h y e))
 |pk t l=>exact congrArg (Sl.pk t) (AN λy e=>c1 y (aET.1 h y e))
 |tup l=>
  refine congrArg Sl.tup (AN λp B=>?_)
  obtain⟨b,m⟩:=p;exact congrArg (Prod.mk b) (AN λy e=>c1 y (aET.1 (aET.1 h _ B) y e))
def Ac.isRo:Ac->Bool
 |.obj ro _=>ro
 |.arr ro _ _ _=>ro
 |.opt ro _ _ _=>ro
 |.mp ro _ _ _=>ro
 |.dead=>true
theorem M3{e:Ac}{q:AW}(h:M4 r q=some e):r.isRo=false:=by
 unfold M4 at h;split at h
 case h_2=>grind
 split at h
 case h_3=>grind
 .rfl
 rfl
structure Kp(g:Nat->Bool)(s s':St):Prop where
 t:∀i,g i=true->(s.t i).stay=true->s'.t i=s.t i
 r:∀id,id<s.r.length->(s.r.getD id .dead).isRo=true->s'.r.getD id .dead=s.r.getD id .dead
 l:s.r.length<=s'.r.length
def Kp.refl(g:Nat->Bool)(s:St):Kp g s s:=⟨λ_ _ _=>rfl,λ_ _ _=>rfl,Nat.le_refl _⟩
theorem Kp.trans{g1 g2:Nat->Bool}{W:St}(B:Kp g1 s s1)(U:Kp g2 s1 W)(O:∀i,g i=true->g1 i=true)(M:∀i,g i=true->g2 i=true):Kp g s W:=by
 refine⟨λi hi hs=>?_,λid Z L=>?_,Nat.le_trans B.l U.l⟩
 .have e:=B.t i (O i hi) hs
  rw[U.t i (M i hi) (by grind),e]
 .have e:=B.r id Z L
  rw[U.r id (Nat.lt_of_lt_of_le Z B.l) (by grind),e]
def Kp.weak{e:Nat->Bool}(h:Kp e s s')(L:∀i,g i=true->e i=true):Kp g s s':=⟨λi B=>h.t i (L i B),h.r,h.l⟩
def Ba{t:Nat->Sl}{d:Nat}(h:i≠d):AQ t d y i=t i:=by
 unfold AQ;rw[BE h];rfl
theorem QA(B:s.put h d y=some s'):(∃new,s'.r=s.r++new)/\(∀i,d≠some i->(s.t i).stay=true->s'.t i=s.t i)/\(s'.r=s.r->∀i,d≠some i->s'.t i=s.t i):=by
 unfold St.put at B;cases d with
 |none=>simp_all
 |some d=>
  simp only at B;cases U:Nat.blt d h.n with
  |false=>grind
  |true=>
   rw[U]at B;simp only[cond_true]at B;cases O:h.fz.contains d with
   |true=>
    rw[O]at B;split at B
    .cases B
     exact⟨⟨[],by simp⟩,λi L _=>Ba λe=>L (by rw[e]),λ_ i L=>Ba λe=>L (by rw[e])⟩
    .cases B
   |false=>
    rw[O]at B;simp only[cond_false,Option.some.injEq]at B;subst B;unfold St.add;split
    .exact⟨⟨[],by simp⟩,λi L _=>Ba λe=>L (by rw[e]),λ_ i L=>Ba λe=>L (by rw[e])⟩
    .rename_i q new _
     refine⟨⟨q::new,rfl⟩,λi L M=>?_,λW=>?_⟩
     .show AQ (λi=>(s.t i).chk s.r.length) d (y.prom s.r.length).1 i=s.t i
      rw[Ba (λe=>L (by rw[e]))]
      exact Sl.chk_stay M _
     grind
theorem Oe(B:s.put h d y=some s'):Kp (λi=>decide (d≠some i)) s s':=by
 obtain⟨⟨new,O⟩,ht,_⟩:=QA B;refine⟨λi M e=>ht i (of_decide_eq_true M) e,λid U L=>?_,by grind⟩
 grind
theorem Lc(h:r.setCell i k c=some r'):r.isRo=false:=by
 cases r with
 |dead=>cases h
 |opt=>cases h
 |mp=>cases h
 |obj ro l=>cases ro with
  |true=>cases h
  |false=>rfl
 |arr ro t d xs=>cases ro with
  |true=>cases h
  |false=>rfl
theorem HN(h:r.setAt p i k c=some r'):r.isRo=false:=by
 cases p with
 |nil=>exact Lc h
 |cons a p=>
  unfold Ac.setAt at h;split at h
  .split at h
   .exact Lc h
   grind
  grind
theorem Ys{r r':List Ac}{j:Mv}(h:Pj id p i k c r=some (r',j)):∀id',(r.getD id' .dead).isRo=true->r'.getD id' .dead=r.getD id' .dead:=by
 intro id' B
 have key:∀x r0 y,(r.getD id .dead).setAt p i k y=some r0->(r.set id x).getD id' .dead=r.getD id' .dead:=by
  intro x r0 y L;have:id'≠id:=by
   rintro rfl
   rw[HN L]at B;cases B
  simp only[gDE,List.getElem?_set_ne (Ne.symm this)]
 unfold Pj at h;split at h
 .rename_i j'
  cases M:Nat.beq j' id with
  |true=>rw[M]at h;cases h
  |false=>
   rw[M]at h;simp only[cond_false]at h;split at h
   case h_2=>cases h
   rename_i t d xs U;split at h
   case h_2=>cases h
   rename_i r0 L;cases h;have:id'≠j':=by rintro rfl;rw[U]at B;cases B
   have e:((r.set id r0).set j' .dead).getD id' .dead=(r.set id r0).getD id' .dead:=by
    simp only[gDE,List.getElem?_set_ne (Ne.symm this)]
   rw[e];exact key _ _ _ L
 .rename_i j' a q
  cases M:Nat.beq j' id with
  |true=>rw[M]at h;cases h
  |false=>
   rw[M]at h;simp only[cond_false]at h;split at h
   case h_2=>cases h
   rename_i t d xs U;split at h
   case h_2=>cases h
   rename_i r1 r0 O L;cases h;have h1:id'≠j':=by
    rintro rfl
    rw[M3 O]at B;cases B
   have Z:id'≠id:=by
    rintro rfl
    rw[HN L]at B;cases B
   simp only[gDE,List.getElem?_set_ne (Ne.symm Z)];rcases Nat.lt_or_ge id' r.length with h3|h3
   .rw[gAL (by simpa using h3),List.getElem?_set_ne (Ne.symm h1)]
   .rw[List.getElem?_eq_none (l:=r) h3]
    by_cases W:id'=r.length
    .subst W
     rw[gAR (by simp)]
     simp
    .rw[List.getElem?_eq_none (by simp;omega)]
 .rename_i j'
  cases M:Nat.beq j' id with
  |true=>rw[M]at h;cases h
  |false=>
   rw[M]at h;simp only[cond_false]at h;split at h
   case h_2=>cases h
   rename_i kt vt xs U;split at h
   case h_2=>cases h
   rename_i r0 L;cases h;have:id'≠j':=by rintro rfl;rw[U]at B;cases B
   have e:((r.set id r0).set j' .dead).getD id' .dead=(r.set id r0).getD id' .dead:=by
    simp only[gDE,List.getElem?_set_ne (Ne.symm this)]
   rw[e];exact key _ _ _ L
 .obtain⟨M,h⟩:=A7 h
  split at h
  case h_2=>cases h
  rename_i r0 L;cases h;exact key _ _ _ L
theorem AaW:∀(m k:Nat) (cs:List Cl) (s s':St),Yt id p i m k cs s=some s'->Kp (λ_=>true) s s':=by
 intro m
 induction m with
 |zero=>intro k cs s s' h;cases cs<;>cases h;exact Kp.refl _ _
 |succ m B=>
  intro k cs s s' h;cases cs with
  |nil=>cases h;exact Kp.refl _ _
  |cons c cs=>
   unfold Yt at h;split at h
   case h_2=>grind
   rename_i r' M e;refine Kp.trans ⟨λx _ L=>Sl.kill_stay L _ _ _,λid' _=>Ys e id',by obtain⟨_,_,_,_,_,O,_⟩:=Wb e [];grind⟩ (B _ _ _ _ h) (λ_ _=>rfl) λ_ _=>rfl
theorem V6(h:I3 s ti x v=some s'):Kp (λ_=>true) s s':=by
 unfold I3 at h;split at h
 case h_2=>grind
 split at h
 case h_2=>grind
 rename_i ti id p i k y _ l B;cases e:(Nat.beq l.length ti.ty.w&&Nat.ble (k+ti.ty.w) (Ae s.r id p).w&&(Ae s.r id p).live)with
 |false=>grind
 |true=>rw[e]at h;exact AaW _ _ _ _ _ h
theorem Yv(h:Wc s ti x v=some A):Kp (λ_=>true) s A.s:=by
 unfold Wc at h;split at h
 case h_2=>cases h
 rename_i ti id p i k id' q off len;cases U:(Nat.beq id' id&&Nat.beq ti.ty.w 1&&Nat.ble (k+1) (Ae s.r id p).w&&(Ae s.r id p).live)with
 |false=>grind
 |true=>
 rw[U]at h;split at h
 case h_2=>cases h
 split at h
 case h_2=>cases h
 split at h
 case h_2=>cases h
 rename_i r0 e;cases h;refine⟨λj _ M=>Sl.kill_stay M _ _ _,λB O L=>?_,by simp⟩
 have:B≠id:=by
  rintro rfl
  rw[HN e]at L;grind
 grind
theorem Sl.kH_stay(h:y.stay=true)(r:List Ac)(j:Nat):y.kH r j=y:=by
 cases y with
 |one c=>
  cases c with
  |rf=>cases h
  |rs=>cases h
  |rp=>cases h
  |rm=>cases h
  |_=>rfl
 |new=>rfl
 |agg=>exact Sl.kill_stay h j [] []
 |tup=>exact Sl.kill_stay h j [] []
 |pk=>exact Sl.kill_stay h j [] []
theorem LB:∀(js:List Nat) (s:St),(∀j∈js,(s.r.getD j .dead).isRo=false\/s.r.getD j .dead=.dead)->Kp (λ_=>true) s (Ap js s)
 |[],s,_=>Kp.refl _ _
 |j::js,s,h=>by
  have U:Kp (λ_=>true) s (Ie j s):=by
   refine⟨λi _ L=>Sl.kH_stay L _ _,λid B O=>?_,by rw[Ko];simp⟩
   by_cases e:j=id
   .subst e
    rcases h j (List.mem_cons_self ..)with h2|h2
    .grind
    .show(s.r.set j .dead).getD j .dead=_
     rw[h2];simp[B]
   .exact Iv e
  refine U.trans (LB js (Ie j s) λi L=>?_) (λ_ _=>rfl) λ_ _=>rfl
  by_cases M:i=j
  .subst M
   right;show(s.r.set i .dead).getD i .dead=.dead
   grind
  .have:(Ie j s).r.getD i .dead=s.r.getD i .dead:=Iv (Ne.symm M)
   grind
def Kn(js:List Nat)(s:St)(h:∀j∈js,(s.r.getD j .dead).isRo=false):Kp (λ_=>true) s (Ap js s):=LB js s λj e=>.inl (h j e)
def Sl.gv_stay(h:y.stay=true)(r:List Ac)(j:Nat)(z:Cl):y.gv r j z=y:=by
 unfold Sl.gv;split
 .cases h
 .exact Sl.kH_stay h r j
theorem Zc(h:Xv j s=some s'):Kp (λ_=>true) s s':=by
 obtain⟨l,t,x,U,L,W,rfl⟩:=Lv h;refine⟨λi _ O=>Sl.gv_stay O _ _ _,λid M B=>Iv λe=>?_,by simp⟩
 rw[<-e,L]at B
 trivial
theorem Xu(h:OJ j s=some s'):Kp (λ_=>true) s s':=by
 unfold OJ at h;split at h
 case h_2=>cases h
 rename_i t d0 xs U;cases h;have L:∀y:Sl,y.stay=true->y.gvS s.r j (.c (.sl t) 0 xs)=y:=by
  intro y M;have O:=Sl.gv_stay M s.r j (.c (.sl t) 0 xs);cases y with
  |one c=>cases c<;>first|exact O|cases M
  |_=>exact O
 refine⟨λi _ Z=>L _ Z,λid W B=>Iv λe=>?_,by simp⟩
 rw[<-e,U]at B;cases B
def Jw:∀(xs:List Operand) {s s':St},OI xs s=some s'->Kp (λ_=>true) s s'
 |[],s,s',h=>by cases h;exact Kp.refl _ _
 |x::xs,s,s',h=>by
  unfold OI at h;split at h
  .split at h
   case h_2=>grind
   rename_i e;exact(Zc e).trans (Jw xs h) (λ_ _=>rfl) λ_ _=>rfl
  .exact Jw xs h
theorem Sl.mapC_stay(h:y.stay=true)(id:Nat)(q:AW)(m:Nat):y.mapC (Cl.rr id q m)=y:=by
 have c1:∀y:Cl,y.stay=true->y.rr id q m=y:=by intro y h;cases y<;>first|rfl|cases h
 cases y with
 |one y=>exact congrArg Sl.one (c1 y h)
 |new l=>rfl
 |agg l=>exact congrArg Sl.agg (AN λy e=>c1 y (aET.1 h y e))
 |pk t l=>exact congrArg (Sl.pk t) (AN λy e=>c1 y (aET.1 h y e))
 |tup l=>
  refine congrArg Sl.tup (AN λp B=>?_)
  obtain⟨b,m⟩:=p;exact congrArg (Prod.mk b) (AN λy e=>c1 y (aET.1 (aET.1 h _ B) y e))
theorem M2(h:Aan s x=some s'):Kp (λ_=>true) s s':=by
 unfold Aan at h;split at h
 case h_2=>cases h;exact Kp.refl _ _
 rename_i id b M
 have key:∀(B R:Ac),M4 (s.r.getD id .dead) (b::M)=some B->Kp (λ_=>true) s ⟨λi=>(s.t i).mapC (Cl.rr id (b::M) s.r.length),s.r.set id B++[R]⟩:=by
  intro B R e;refine⟨λi _ W=>Sl.mapC_stay W _ _ _,λid' U L=>?_,by simp⟩
  have O:id'≠id:=by
   rintro rfl
   rw[M3 e]at L;grind
  grind
 split at h
 case h_2=>cases h;exact Kp.refl _ _
 grind
theorem Sl.mapK_stay(h:y.stay=true)(id:Nat)(q:AW)(m:Nat):y.mapC (Cl.rk id q m)=y:=by
 have c1:∀y:Cl,y.stay=true->y.rk id q m=y:=by intro y h;cases y<;>first|rfl|cases h
 cases y with
 |one y=>exact congrArg Sl.one (c1 y h)
 |new l=>rfl
 |agg l=>exact congrArg Sl.agg (AN λy e=>c1 y (aET.1 h y e))
 |pk t l=>exact congrArg (Sl.pk t) (AN λy e=>c1 y (aET.1 h y e))
 |tup l=>
  refine congrArg Sl.tup (AN λp B=>?_)
  obtain⟨b,m⟩:=p;exact congrArg (Prod.mk b) (AN λy e=>c1 y (aET.1 (aET.1 h _ B) y e))
theorem Ach{x:Operand}(h:cutO s x=some s'):Kp (λ_=>true) s s':=by
 unfold cutO at h;split at h
 case h_2=>exact M2 h
 rename_i y;split at h
 case h_2=>exact M2 h
 rename_i id b q1 O;split at h
 case h_2=>exact M2 h
 rename_i r1 t d v B hn;cases h;refine⟨λi _ M=>?_,λid' W L=>?_,by simp⟩
 .show(bif Nat.beq i y then Sl.one (.rf s.r.length [])else(s.t i).mapC _)=s.t i
  cases Z:Nat.beq i y with
  |false=>exact Sl.mapK_stay M _ _ _
  |true=>
   have e:=bqE Z;subst e;rw[O]at M;trivial
 .have U:id'≠id:=by
   rintro rfl
   rw[M3 B]at L;grind
  grind
theorem P8{t:Ty}{y:Option Sl}{d:Nat}{ys:List t.T}{js:List Nat}(h:Vy s t id y=some (d,ys,js)):∀j∈js,(s.r.getD j .dead).isRo=false:=by
 replace h:=(XO h).1
 unfold Vx at h;split at h
 case h_4=>cases h
 .grind
 .rename_i j q
  split at h
  case h_2=>cases h
  rename_i ro M U e hn;split at h
  case isFalse=>cases h
  cases L:Nat.beq j id with
  |true=>rw[L]at h;cases h
  |false=>
   rw[L]at h;simp only[cond_false]at h;cases hd:Nat.beq t.dep 0 with
   |true=>rw[hd]at h;cases h;intro j O;cases O
   |false=>
    rw[hd]at h;simp only[cond_false]at h;split at h
    case h_2=>cases h
    cases ro with
    |true=>cases h
    |false=>
     cases h;intro i B;simp at B;subst B;have hn:s.r.getD i .dead=.arr false M d e:=hn;rw[hn];rfl
 grind
theorem UH{i:Option TI}{y:Option Sl}{A:LR}(h:JH s i x y=some A):∀j∈A.js,(s.r.getD j .dead).isRo=false:=by
 unfold JH at h;split at h
 .cases h
 rename_i ti;obtain⟨W,h⟩:=A7 h;split at h
 case h_3=>cases h
 .split at h
  case h_2=>cases h
  rename_i e;cases h;exact P8 e
 .split at h
  case h_2=>cases h
  rename_i U d xs M;split at h
  case isFalse=>cases h
  rename_i L;subst L;split at h
  case h_2=>cases h
  rename_i Z ys js e;obtain⟨O,h⟩:=A7 h;cases h;intro j B;rcases List.mem_cons.1 B with rfl|B
  .rw[M];rfl
  .exact P8 e j B
theorem Aa4(wr:∀{l m:List Cl}{js:List (Option Nat)},L8 s.r l=some (m,js)->∀j∈Vh js,(s.r.getD j .dead).isRo=false){n:Nat}{ps:List (Nat×Option Sl)}{i:Option TI}{A:LR}(h:tBSM s n ps i=some A):∀j∈A.js,(s.r.getD j .dead).isRo=false:=by
 unfold tBSM at h;split at h
 case h_2=>grind
 grind
def L6{r:List Ac}:∀{l m:List Cl}{js:List (Option Nat)},L8 r l=some (m,js)->∀j∈Vh js,(r.getD j .dead).isRo=false
 |[],m,js,h=>by cases h;intro j B;cases B
 |y::l,m,js,h=>by
  unfold L8 at h;split at h
  .rename_i L;cases L
  .rename_i id W L
   cases L;split at h
   case h_2=>cases h
   rename_i t d xs e;split at h
   case h_2=>cases h
   rename_i U M O;cases h;intro j B;rcases List.mem_cons.1 B with rfl|B
   .rw[e];rfl
   .exact L6 O j B
  .rename_i y' W Z L
   cases L;cases hi:y.imm with
   |false=>grind
   |true=>
    rw[hi]at h;split at h
    case h_2=>cases h
    rename_i U M O;cases h;exact λj B=>L6 (l:=l) O j B
theorem Sl.killP_stay(h:y.stay=true)(f:Nat->AW->Bool):y.killP f=y:=by
 have c1:∀y:Cl,y.stay=true->y.killP f=y:=by intro y h;cases y<;>first|rfl|cases h
 cases y with
 |one y=>exact congrArg Sl.one (c1 y h)
 |new l=>rfl
 |agg l=>exact congrArg Sl.agg (AN λy e=>c1 y (aET.1 h y e))
 |pk t l=>exact congrArg (Sl.pk t) (AN λy e=>c1 y (aET.1 h y e))
 |tup l=>
  refine congrArg Sl.tup (AN λp B=>?_)
  obtain⟨b,m⟩:=p;exact congrArg (Prod.mk b) (AN λy e=>c1 y (aET.1 (aET.1 h _ B) y e))
def Wi{Γ:List EnW}{f:FuncId}{xs:List (Option Sl)}{A:X0}{u:A.α}(ha:NC Γ s f xs=some A)(e:A.st u=some s1):Kp (λ_=>true) s s1:=by
 unfold NC at ha;cases ha
def AcF:List Operand->St->Option St
 |[],s=>some s
 |x::xs,s=>match cutO s x with
  |some s'=>AcF xs s'
  |none=>none
def XF{C:Ctx}{N:Nat}{a:Act}{w:World}:∀(xs:List Operand) {s s':St},AcF xs s=some s'->AU C N s.den a w->AU C N s'.den a w
 |[],s,s',h,hs=>by cases h;grind
 |x::xs,s,s',h,hs=>by
  unfold AcF at h;split at h
  case h_2=>grind
  rename_i e;exact XF xs h (Acg e hs)
def XG:∀(xs:List Operand) {s s':St},AcF xs s=some s'->Kp (λ_=>true) s s'
 |[],s,s',h=>by cases h;exact Kp.refl _ _
 |x::xs,s,s',h=>by
  unfold AcF at h;split at h
  case h_2=>grind
  rename_i e;exact(Ach e).trans (XG xs h) (λ_ _=>rfl) λ_ _=>rfl
end Go.Ve


namespace Go.Ve
variable{r:List Ac}{Y:List Nat}{m:Nat}{p:Nat×Nat}{y:Sl}{s s1:St}
def backs:List (Nat×Nat)->Ms->Ms
 |[],S=>S
 |p::B,S=>backs B ⟨AJ S.t p.1 (Lf p.2 (S.t p.1)),S.σ.set p.2 (S.t p.1)⟩
def KR(v:V):Prop:=∃s sz n f,v=.nd s true sz n f/\(s=false->0<sz/\n=1)
def PR.backs{C:Ctx}{N:Nat}{a:Act}{w:World}{D:Nat->Prop}{ρ:Nat->Value}:∀(B:List (Nat×Nat)) (t:Nat->V) (σ:List V) (F:Nat->Nat->Prop) (T:Nat->Nat->Prop),PR C N σ ρ F t a w D T->
  (B.map (·.1)).Nodup->(B.map (·.2)).Nodup->(∀p∈B,p.1<N/\p.2<σ.length/\σ.getD p.2 .dead=.dead/\a.tmps.getD p.1 undef=ρ p.2/\KR (t p.1))->
  ∃F' T',PR C N (Go.Ve.backs B ⟨t,σ⟩).σ ρ F' (Go.Ve.backs B ⟨t,σ⟩).t a w D T'/\∀x b,T' x b->T x b/\x∉B.map (·.1)
 |[],t,σ,F,T,h,_,_,_=>⟨F,T,h,λx b L=>⟨L,by simp⟩⟩
 |p::B,t,σ,F,T,h,hn1,hn2,hB=>by
  obtain⟨h1,h2,h3,h4,s,sz,n,f,Z,W⟩:=hB p (List.mem_cons_self ..);have L:=h.back2 h1 h2 h3 Z W h4;rw[List.map_cons,List.nodup_cons]at hn1 hn2;obtain⟨F',T',O,U⟩:=PR.backs B _ _ _ _ L hn1.2 hn2.2 λq M=>by
   obtain⟨g1,g2,g3,g4,g5⟩:=hB q (mCM _ M);have e1:q.1≠p.1:=λe=>hn1.1 (e▸List.mem_map.2 ⟨q,M,rfl⟩)
   have e2:q.2≠p.2:=λe=>hn2.1 (e▸List.mem_map.2 ⟨q,M,rfl⟩)
   refine⟨g1,by simpa using g2,?_,g4,?_⟩
   .refine Eq.trans ?_ g3
    simp only[gDE];rw[List.getElem?_set_ne (Ne.symm e2)]
   .simp[AJ,e1,if_false]
    exact g5
  refine⟨F',T',O,λx b L=>?_⟩
  obtain⟨k1,k2⟩:=U x b L;refine⟨k1.2,?_⟩;rw[List.map_cons,List.mem_cons];exact λh=>h.elim k1.1 k2
def Z6:List Cl->Nat
 |[]=>0
 |.c t d _::l=>bif Nat.ble (O8 d t.dep) (Z6 l)then Z6 l else O8 d t.dep
 |_::l=>Z6 l
def sameD(D:Nat):Cl->Bool
 |.c t d _=>Nat.beq (O8 d t.dep) (O8 D t.dep)
 |_=>false
theorem Ab7(D:Nat):∀(l:List Cl) (y:Dy),DO l=some y->l.all (sameD D)=true->tyV y.t D y.x=l.map Cl.v0:=by
 intro l
 induction l with
 |nil=>intro y h _;cases h;rfl
 |cons a l U=>
  intro y h e;rw[List.all_cons,bAE]at e;unfold DO at h;split at h
  case h_2=>cases h
  rename_i t d x;have B:=bqE e.1;rw[IK,IK]at B;obtain⟨ho,h⟩:=A7 h;have L:[cV t d x]=tyV t D x:=by rw[BO ho,LS B]
  split at h
  .cases h
   exact L.symm
  .rename_i b Z
   split at h
   case h_2=>cases h
   rename_i O M W;cases h;show tyV t D x++tyV O D M=cV t d x::_;rw[U _ W e.2,<-L];rfl
def Cr(s:St)(y:Nat):Option Nat:=match s.t y with
 |.one (.rf id [])=>match s.r.getD id .dead with
  |.arr false _ _ _=>some id
  |_=>none
 |.one (.rp id [] 0 0)=>match s.r.getD id .dead with
  |.obj false l=>match DO l with
   |some _=>bif l.all (sameD (Z6 l))&& !Nat.beq l.length 0 then some id else none
   |none=>none
  |_=>none
 |_=>none
def ZZ(s:St)(y:Nat):Sl:=match s.t y with
 |.one (.rf id [])=>match s.r.getD id .dead with
  |.arr false t d xs=>.one (.c (.sl t) (d+1) xs)
  |_=>.one .dead
 |.one (.rp id [] 0 0)=>match s.r.getD id .dead with
  |.obj false l=>match DO l with
   |some ⟨t,x⟩=>.one (.c (.ptr t) (Z6 l+1) x)
   |none=>.one .dead
  |_=>.one .dead
 |_=>.one .dead
def Vj(s:St):List Nat->Option (List Nat)
 |[]=>some []
 |y::l=>match Cr s y with
  |some id=>match Vj s l with
   |some m=>some (id::m)
   |none=>none
  |none=>none
def ndB:List Nat->Bool
 |[]=>true
 |a::l=>!l.contains a&&ndB l
def Kq(Y:List Nat)(s:St):Option St:=match Y with
 |[]=>some s
 |Y=>match Vj s Y with
  |some ids=>bif ndB ids then some ⟨λi=>bif Y.contains i then ZZ s i else(Ap ids s).t i,(Ap ids s).r⟩else none
  |none=>none
theorem Zd{c:Cl}(h:c.own=false):frz c.v0=c.v0:=by
 cases c with
 |c t d x=>
  cases t with
  |int k=>rfl
  |bool=>rfl
  |str=>rfl
  |unit=>rfl
  |pair a b=>rfl
  |sl t=>cases d with
   |zero=>exact List.singleton_inj.1 (Bl (.sl t) 0 x)
   |succ d=>cases h
  |ptr t=>cases d with
   |zero=>exact List.singleton_inj.1 (Bl (.ptr t) 0 x)
   |succ d=>cases h
  |clo g t=>exact List.singleton_inj.1 (Bl (.clo g t) 0 x)
  |mp a b=>cases d with
   |zero=>exact List.singleton_inj.1 (Bl (.mp a b) 0 x)
   |succ d=>cases h
  |osl t=>cases d with
   |zero=>exact List.singleton_inj.1 (Bl (.osl t) 0 x)
   |succ d=>cases x with
    |none=>rfl
    |some y=>cases h
 |_=>rfl
theorem Ci{y id:Nat}(h:Cr s y=some id):(s.r.getD id .dead).isRo=false/\(s.t y).stay=false/\KR (s.r.getD id .dead).v/\(∀r,(ZZ s y).v r=(s.r.getD id .dead).v)/\(s.t y).v s.r=Lf id (s.r.getD id .dead).v:=by
 unfold Cr at h;split at h
 case h_3=>cases h
 .rename_i id' B
  split at h
  case h_2=>cases h
  rename_i t d xs L;cases h;rw[L];refine⟨rfl,by rw[B];rfl,⟨true,_,_,_,rfl,λh=>by cases h⟩,λr=>?_,?_⟩
  .unfold ZZ
   rw[B];simp only[L];show arr (decide (0<d+1)) t.w (tyV t (d+1-1)) t.dflt xs=arr true t.w (tyV t d) t.dflt xs;simp
  .rw[B]
   show V.rs id [] 0 (Ae s.r id []).len=_
   have:(Ae s.r id []).len=xs.length:=by
    show(s.r.getD id .dead).len=_;rw[L];rfl
   rw[this];rfl
 .rename_i id' B
  split at h
  case h_2=>cases h
  rename_i l L;split at h
  case h_2=>cases h
  rename_i D O;obtain⟨M,h⟩:=A7 h;cases h;rw[bAE,Bool.not_eq_true']at M;have U:0<l.length:=by
   rcases Nat.eq_zero_or_pos l.length with e|e
   .rw[e]at M;cases M.2
   .exact e
  rw[L];refine⟨rfl,by rw[B];rfl,⟨false,_,_,_,rfl,λ_=>⟨by simpa using U,rfl⟩⟩,λr=>?_,?_⟩
  .obtain⟨t,x⟩:=D
   unfold ZZ;rw[B];simp only[L,O];show Bi (decide (0<Z6 l+1)) (tyV t (Z6 l+1-1) x)=Bi true (l.map Cl.v0);have W:tyV t (Z6 l) x=l.map Cl.v0:=Ab7 _ _ _ O M.1;rw[Nat.add_sub_cancel,W,dT (Nat.succ_pos _)]
  .rw[B];rfl
theorem Kf{s:St}:∀{Y ids:List Nat},Vj s Y=some ids->(∀y∈Y,∃id∈ids,Cr s y=some id)/\(∀id∈ids,∃y∈Y,Cr s y=some id)
 |[],ids,h=>by cases h;simp
 |y::Y,ids,h=>by
  unfold Vj at h;split at h
  case h_2=>grind
  split at h
  case h_2=>grind
  rename_i m e;obtain⟨L,B⟩:=Kf e
  grind
theorem W3{s:St}:∀{Y ids:List Nat},Vj s Y=some ids->ndB ids=true->∀x∈Y,∀y∈Y,∀id,Cr s x=some id->Cr s y=some id->x=y
 |[],_,_,_,x,hx,_,_,_,_,_=>by cases hx
 |z::Y,ids,h,hn,x,hx,y,hy,id,h1,h2=>by
  unfold Vj at h;split at h
  case h_2=>cases h
  rename_i e O;split at h
  case h_2=>cases h
  rename_i m L;cases h;have hn:(!m.contains e&&ndB m)=true:=hn;rw[bAE,Bool.not_eq_true']at hn;have out:∀u∈Y,Cr s u≠some e:=by
   intro u M he;obtain⟨i,hi,U⟩:=(Kf L).1 u M
   grind
  by_cases Z:x=z
  .grind
  .have B:x∈Y:=(List.mem_cons.1 hx).resolve_left Z
   by_cases W:y=z
   .grind
   .exact W3 L hn.2 x B y ((List.mem_cons.1 hy).resolve_left W) id h1 h2
theorem OU{C:Ctx}{N:Nat}{a:Act}{w:World}(h:Kq Y s=some s1)(hs:AU C N s.den a w){w':World}(hB:Below w.heap.size w w'):
  ∃D ρ F T,PR C N s1.den.σ ρ F s1.den.t a w' D T/\(∀x b,T x b->x∈Y)/\∀x id,x<N->Cr s x=some id->a.tmps.getD x undef=ρ id:=by
 obtain⟨hdf,hdd,D0,ρ0,F0,hcr0⟩:=hs;obtain⟨D,ρ,F,L⟩:=hcr0.below hB;have hsz:a.tmps.size=N:=by simpa using L.sz
 have base:∀{s1:St}{F1:Nat->Nat->Prop},CR C s1.den.σ ((List.range N).map s1.den.t) a.tmps w' D ρ F1->(∀x,N<=x->s1.den.t x=.dead)->PR C N s1.den.σ ρ F1 s1.den.t a w' D (λ_=>noF):=by
  intro s1 F1 Z hd;refine⟨hdf,hsz,hd,Z.wr,λx U=>?_,λ_ _ h=>h.elim,λ_ _ _ _ h=>h,λ_ _ _ _ h=>h.elim,λ_ _ h=>h.elim,Z.fr,Z.Fn,Z.D1,Z.D2,Z.rt,Z.ml,λ_ _ _ h=>h⟩
  have h1:=Z.tm x (by simpa using U)
  rw[AX U]at h1;exact h1
 have hval:∀x id,x<N->Cr s x=some id->a.tmps.getD x undef=ρ id:=by
  intro x id U W;obtain⟨g1,g2,⟨s0,sz0,n0,f0,g3,g4⟩,g5,g6⟩:=Ci W;have hr:=L.tm x (by simpa using U)
  rw[AX U]at hr;have e0:s.den.t x=Lf id (s.r.getD id .dead).v:=g6;rw[e0]at hr;have e3:s.den.σ.getD id .dead=(s.r.getD id .dead).v:=Aq _ _;have hlt:id<s.r.length:=by
   rcases Nat.lt_or_ge id s.r.length with h|h
   .exact h
   .rw[gDE,List.getElem?_eq_none h]at g1;cases g1
  have M:=L.wr.rel id (by simpa [St.den]using hlt)
  rw[e3]at M;exact WB g3 g4 (by rw[e3]) M hr
 unfold Kq at h;split at h
 .cases h
  exact⟨D,ρ,F,λ_=>noF,base L hdd,λ_ _ h=>h.elim,hval⟩
 split at h
 case h_2=>cases h
 rename_i ids hids;obtain⟨hn,h⟩:=A7 h;cases h;obtain⟨v1,v2⟩:=Kf hids;have hlt:∀j∈ids,j<s.r.length:=by
  intro j hj;obtain⟨y,_,hy⟩:=v2 j hj;have hr:=(Ci hy).1;rcases Nat.lt_or_ge j s.r.length with h|h
  .exact h
  .rw[gDE,List.getElem?_eq_none h]at hr;cases hr
 obtain⟨F1,hcr1,hF1⟩:=Cv ids L hlt;have hp:=base (s1:=Ap ids s) hcr1 (BK ids hdd);have hYN:∀y∈Y,y<N:=by
  intro y hy;obtain⟨id,_,hi⟩:=v1 y hy;obtain⟨_,_,⟨s0,_,_,_,h1,_⟩,_,h2⟩:=Ci hi;rcases Nat.lt_or_ge y N with h|h
  .exact h
  .have:=hdd y h
   have e:(s.t y).v s.r=.dead:=this;rw[h2,h1]at e;cases s0<;>cases e
 have hnot:∀{x:Nat},x∉Y->Y.contains x=false:=by
  intro x U;cases Z:Y.contains x with
  |false=>rfl
  |true=>exact absurd (by simpa using Z) U
 refine⟨D,ρ,F1,λx b=>x∈Y/\∃id,Cr s x=some id/\F id b,⟨hdf,hsz,λx U=>?_,hp.wr,λx U=>?_,λx b O=>?_,λi x b O hT=>?_,λx y b hxy h1 h2=>?_,λx b O=>?_,hp.fr,hp.Fn,hp.D1,hp.D2,hp.rt,hp.ml,λx b U O=>?_⟩,λx b O=>O.1,hval⟩
 .have B:x∉Y:=λh=>absurd (hYN x h) (Nat.not_lt.2 U)
  show(bif Y.contains x then ZZ s x else(Ap ids s).t x).v _=.dead;rw[hnot B];exact BK ids hdd x U
 .by_cases B:x∈Y
  .obtain⟨id,hi,W⟩:=v1 x B
   obtain⟨g1,g2,⟨s0,sz0,n0,f0,g3,g4⟩,g5,g6⟩:=Ci W;have Z:Y.contains x=true:=by simpa using B
   show Rel D _ _ ((bif Y.contains x then ZZ s x else(Ap ids s).t x).v _) (a.tmps.getD x undef) _;rw[Z,cond_true,g5];have hr:=L.tm x (by simpa using U)
   rw[AX U]at hr;have e0:s.den.t x=Lf id (s.r.getD id .dead).v:=g6;rw[e0]at hr;have e3:s.den.σ.getD id .dead=(s.r.getD id .dead).v:=Aq _ _;have M:=L.wr.rel id (by simpa [St.den]using hlt id hi)
   rw[e3]at M;have ecv:a.tmps.getD x undef=ρ id:=WB g3 g4 (by rw[e3]) M hr
   rw[ecv];refine Rel.fp_congr (λb=>⟨λO=>⟨B,id,W,O⟩,fun⟨_,i,hi,O⟩=>?_⟩) (Rel.noR_mono M)
   rw[W]at hi;cases hi;exact O
  .show Rel D _ _ ((bif Y.contains x then ZZ s x else(Ap ids s).t x).v _) (a.tmps.getD x undef) _
   rw[hnot B,cond_false];exact Rel.fp_congr (λb=>⟨λh=>h.elim,λh=>absurd h.1 B⟩) (hp.tm x U)
 .obtain⟨_,id,_,O⟩:=O
  exact L.wr.dD id b O
 .obtain⟨B,id,W,hb2⟩:=hT
  obtain⟨g1,g2⟩:=hF1 i b O;obtain⟨id',hi',he⟩:=v1 x B;rw[W]at he;cases he;exact L.wr.disj i id b (λe=>g2 (e▸hi')) g1 hb2
 .obtain⟨B,id1,hid1,hb1⟩:=h1
  obtain⟨hyY,id2,hid2,hb2⟩:=h2;by_cases e:id1=id2
  .subst e
   exact hxy (W3 hids hn x B y hyY id1 hid1 hid2)
  .exact L.wr.disj id1 id2 b e hb1 hb2
 .obtain⟨_,id,_,O⟩:=O
  exact L.Fn id b O
 .exact absurd (hYN x O.1) (Nat.not_lt.2 U)
theorem OV(h:Kq Y s=some s1):Kp (λ_=>true) s s1:=by
 unfold Kq at h;split at h
 .cases h;exact Kp.refl _ _
 split at h
 case h_2=>grind
 rename_i ids e;cases hn:ndB ids with
 |false=>grind
 |true=>
 rw[hn]at h;cases h;obtain⟨U,O⟩:=Kf e;have B:=Kn ids s λj Z=>by
  obtain⟨y,_,W⟩:=O j Z;exact(Ci W).1
 refine⟨λi hi M=>?_,B.r,B.l⟩
 have hiY:i∉Y:=by
  intro h;obtain⟨id,_,L⟩:=U i h;rw[(Ci L).2.1]at M;grind
 show(bif Y.contains i then ZZ s i else(Ap ids s).t i)=s.t i;have hc:Y.contains i=false:=by
  grind
 rw[hc];exact B.t i hi M
def St.promA:List (Option Nat)->St->St
 |[],s=>s
 |none::ds,s=>St.promA ds s
 |some d::ds,s=>bif(s.t d).own then St.promA ds (s.add d ((s.t d).prom s.r.length))else St.promA ds s
theorem As.trans:∀{v v' e:V},As v v'->As v' e->As v e:=by
 have dd:∀e,As .dead e->e=.dead:=by
  intro e h;rcases h with h|h
  .exact h
  trivial
 intro v
 induction v with
 |many t n f M=>
  intro v' e h B;rcases h with rfl|⟨g,rfl,h⟩
  .rw[dd _ B];exact As.dead _
  .rcases B with rfl|⟨U,rfl,B⟩
   .exact As.dead _
   .exact .inr ⟨U,rfl,λk L=>M k (h k L) (B k L)⟩
 |c v=>
  intro v' e h B;rcases h with rfl|h
  .rw[dd _ B];exact As.dead _
  .rcases h with rfl|⟨rfl,own,sz,f,rfl⟩
   .grind
   .rcases B with rfl|B
    .exact As.dead _
    .exact .inr (Sub.trans (.inr ⟨rfl,own,sz,f,rfl⟩) B)
 |dead=>grind
 |nd s own sz n f _=>
  intro v' e h B;rcases h with rfl|h
  .rw[dd _ B];exact As.dead _
  .have O:=h
   obtain⟨g,rfl,_⟩:=h;rcases B with rfl|B
   .exact As.dead _
   .exact .inr (Sub.trans O B)
 |rs id p off len=>
  intro v' e h B;rcases h with rfl|h
  .rw[dd _ B];exact As.dead _
  .subst h
   grind
 |rm id p=>
  intro v' e h B;rcases h with rfl|h
  .rw[dd _ B];exact As.dead _
  .subst h
   grind
 |mp own l=>
  intro v' e h B;rcases h with rfl|h
  .rw[dd _ B];exact As.dead _
  .cases h
   exact B
 |rp id p i k=>
  intro v' e h B;rcases h with rfl|h
  .rw[dd _ B];exact As.dead _
  .subst h
   exact B
structure ZC(ds:List (Option Nat))(S:Ms)(s:St):Prop where
 σ:S.σ=s.den.σ
 t:∀i,As (S.t i) (s.den.t i)
 o:∀i,some i∈ds->((s.t i).own=true->(s.t i).stay=true)/\(S.t i=s.den.t i\/((s.t i).own=false/\AS (S.t i)=false))
theorem Qm(h:y.stay=true)(r r':List Ac):y.v r=y.v r':=by
 have c1:∀y:Cl,y.stay=true->y.v r=y.v r':=by intro y h;cases y<;>first|rfl|cases h
 have cl:∀l:List Cl,l.all Cl.stay=true->l.map (Cl.v r)=l.map (Cl.v r'):=λl h=>List.map_congr_left λy e=>c1 y (aET.1 h y e)
 cases y with
 |one y=>exact c1 y h
 |new l=>rfl
 |agg l=>exact congrArg Aj (cl l h)
 |pk t l=>exact congrArg (pkL t) (cl l h)
 |tup l=>
  refine congrArg DH (List.map_congr_left λp B=>?_)
  rw[cl p.2 (aET.1 h p B)]
theorem Abt(y:Sl)(m:Nat):(y.chk m).own=y.own:=by
 have c1:∀y:Cl,(y.chk m).own=y.own:=by
  intro y;cases y with
  |rf id p=>show(bif Nat.blt id m then Cl.rf id p else .dead).own=_;cases Nat.blt id m<;>rfl
  |rs id p a b=>show(bif Nat.blt id m then Cl.rs id p a b else .dead).own=_;cases Nat.blt id m<;>rfl
  |rp id p a b=>show(bif Nat.blt id m then Cl.rp id p a b else .dead).own=_;cases Nat.blt id m<;>rfl
  |_=>rfl
 have cl:∀l:List Cl,(l.map (Cl.chk m)).any Cl.own=l.any Cl.own:=by
  grind
 cases y with
 |one y=>exact c1 y
 |new l=>rfl
 |agg l=>exact cl l
 |pk t l=>exact cl l
 |tup l=>
  show(l.map _).any _=l.any _;rw[List.any_map]
  congr 1
  funext p
  obtain⟨b,l⟩:=p;cases b with
  |true=>grind
  |false=>
   cases l with
   |nil=>rfl
   |cons y l=>exact c1 y
theorem PC:AS ((y.prom m).1.v r)=false:=by
 have L:∀(e m:Nat) (y:Cl),((y.prom e m).1).own=false:=by
  intro e m y;cases y with
  |c t d x=>cases t<;>cases d<;>first|rfl|(cases x<;>rfl)|(show(bif Nat.blt 0 _ then(Cl.rp m [] 0 0,_)else(Cl.dead,_)).1.own=false;cases Nat.blt 0 _<;>rfl)
  |rf id p=>show(bif Nat.blt id e then Cl.rf id p else .dead).own=_;cases Nat.blt id e<;>rfl
  |rs id p a b=>show(bif Nat.blt id e then Cl.rs id p a b else .dead).own=_;cases Nat.blt id e<;>rfl
  |rp id p a b=>show(bif Nat.blt id e then Cl.rp id p a b else .dead).own=_;cases Nat.blt id e<;>rfl
  |_=>rfl
 have B:∀(e:Nat) (l:List Cl) (m:Nat),((B4 e m l).1).any Cl.own=false:=by
  intro e l
  induction l with
  |nil=>intro m;rfl
  |cons y l M=>intro m;show(((y.prom e m).1).own||((B4 e _ l).1).any Cl.own)=false;rw[L,M];rfl
 have O:∀(e:Nat) (l:List (Bool×List Cl)) (m:Nat),((DJ e m l).1).any (λp=>if p.1 then p.2.any Cl.own else(p.2.getD 0 .dead).own)=false:=by
  intro e l
  induction l with
  |nil=>intro m;rfl
  |cons p l M=>
   intro m;show((if(IC e m p).1.1 then(IC e m p).1.2.any Cl.own else((IC e m p).1.2.getD 0 .dead).own)||((DJ e _ l).1).any _)=false
   rw[M,Bool.or_false];obtain⟨b,l⟩:=p;cases b with
   |true=>exact B e l m
   |false=>exact L e m _
 rw[Sl.own_v];cases y with
 |one y=>exact L m m y
 |new l=>show(bif Nat.blt 0 l.length then(Sl.one (.rp m [] 0 0),[Ac.obj false l])else(.one .dead,[])).1.own=false;cases Nat.blt 0 l.length<;>rfl
 |agg l=>exact B m l m
 |pk t l=>exact B m l m
 |tup l=>exact O m l m
theorem pn:∀(v:V) (m:Nat),AS (Go.Ve.prom v m).1=false:=by
 have L:∀(g:Nat->Nat->V×List V),(∀k m,AS (g k m).1=false)->∀n m,∀x∈(BP g n m).1,AS x=false:=by
  intro g M n m
  induction n with
  |zero=>intro x e;cases e
  |succ n B=>
   intro x e;unfold BP at e
   grind
 intro v
 induction v with
 |many t n f B=>
  intro m;show((List.range n).any λk=>AS ((BP (λk=>Go.Ve.prom (f k)) n m).1.getD k .dead))=false
  rw[List.any_eq_false];intro k _;have h:=L (λk=>Go.Ve.prom (f k)) (λk m=>B k m) n m
  rw[gDE];cases e:(BP (λk=>Go.Ve.prom (f k)) n m).1[k]? with
  |none=>trivial
  |some x=>grind
 |nd s own sz n f _=>
  intro m;cases own with
  |false=>cases s<;>rfl
  |true=>cases s with
   |true=>rfl
   |false=>
    show AS (if 0<sz then(V.rp m [] 0 0,[V.nd false true sz n f])else(.dead,[])).1=false
    split<;>rfl
 |mp own l=>intro m;cases own<;>rfl
 |_=>intro m;rfl
theorem JY:∀(ds:List (Option Nat)) (S:Ms) (s:St),ZC ds S s->(∀i,As ((Go.Ve.promA ds S).t i) ((s.promA ds).den.t i))/\(Go.Ve.promA ds S).σ=(s.promA ds).den.σ:=by
 intro ds
 induction ds with
 |nil=>intro S s h;exact⟨h.t,h.σ⟩
 |cons d ds ih=>
  intro S s h;have L:∀i,some i∈ds->some i∈d::ds:=λi W=>mCM _ W
  cases d with
  |none=>exact ih S s ⟨h.σ,h.t,λi W=>h.o i (L i W)⟩
  |some d=>
   show(∀i,As ((if AS (S.t d)then Go.Ve.promA ds ⟨AJ S.t d (Go.Ve.prom (S.t d) S.σ.length).1,S.σ++(Go.Ve.prom (S.t d) S.σ.length).2⟩else Go.Ve.promA ds S).t i) ((bif(s.t d).own then St.promA ds (s.add d ((s.t d).prom s.r.length))else St.promA ds s).den.t i))/\
    (if AS (S.t d)then Go.Ve.promA ds ⟨AJ S.t d (Go.Ve.prom (S.t d) S.σ.length).1,S.σ++(Go.Ve.prom (S.t d) S.σ.length).2⟩else Go.Ve.promA ds S).σ=(bif(s.t d).own then St.promA ds (s.add d ((s.t d).prom s.r.length))else St.promA ds s).den.σ
   obtain⟨_,hd⟩:=h.o d (List.mem_cons_self ..);cases ho:(s.t d).own with
   |false=>
    have:AS (S.t d)=false:=by
     rcases hd with e|e
     .rw[e];show AS ((s.t d).v s.r)=false;rw[Sl.own_v,ho]
     .exact e.2
    rw[this];exact ih S s ⟨h.σ,h.t,λi W=>h.o i (L i W)⟩
   |true=>
    have e:S.t d=(s.t d).v s.r:=by
     rcases hd with e|e
     .exact e
     .rw[ho]at e;cases e.1
    have:AS (S.t d)=true:=by rw[e,Sl.own_v,ho]
    rw[this];have hl:S.σ.length=s.r.length:=by rw[h.σ];show(s.r.map Ac.v).length=_;exact List.length_map ..
    obtain⟨a1,a2⟩:=XV (s:=s) (d:=d) (y:=s.t d)
    have hself:(s.add d ((s.t d).prom s.r.length)).t d=((s.t d).prom s.r.length).1:=by
     have hu:∀(t:Nat->Sl) (y:Sl),AQ t d y d=y:=λt y=>by unfold AQ;rw[Nat.beq_refl];rfl
     unfold St.add;split
     .exact hu _ _
     .exact hu (λi=>(s.t i).chk s.r.length) _
    have O:∀i,i≠d->(s.add d ((s.t d).prom s.r.length)).t i=s.t i\/(s.add d ((s.t d).prom s.r.length)).t i=(s.t i).chk s.r.length:=by
     intro i W;unfold St.add;split
     .exact .inl (Ba W)
     .exact .inr (Ba (t:=λi=>(s.t i).chk s.r.length) W)
    refine ih _ _ ⟨?_,λi=>?_,λi W=>?_⟩
    .show S.σ++(Go.Ve.prom (S.t d) S.σ.length).2=_
     rw[e,hl,h.σ];exact a2
    .have h1:=a1 i
     show As (AJ S.t d (Go.Ve.prom (S.t d) S.σ.length).1 i) _;rw[e,hl];unfold AJ at h1⊢;by_cases M:i=d
     .rw[if_pos M]at h1⊢;exact h1
     .rw[if_neg M]at h1⊢;exact(h.t i).trans h1
    .obtain⟨k1,k2⟩:=h.o i (L i W)
     by_cases M:i=d
     .subst M
      rw[hself]
      have hno:(((s.t i).prom s.r.length).1).own=false:=by
       have:=PC (y:=s.t i) (m:=s.r.length) (r:=s.r);rw[Sl.own_v]at this;exact this
      refine⟨(λh=>by rw[hno]at h;cases h),.inr ⟨hno,?_⟩⟩
      show AS (AJ S.t i (Go.Ve.prom (S.t i) S.σ.length).1 i)=false;unfold AJ;rw[if_pos rfl];exact pn _ _
     .have hV:AJ S.t d (Go.Ve.prom (S.t d) S.σ.length).1 i=S.t i:=by unfold AJ;rw[if_neg M]
      have U:(s.t i).own=true->(s.add d ((s.t d).prom s.r.length)).t i=s.t i:=λB=>by
       rcases O i M with h'|h'
       .exact h'
       .rw[h',Sl.chk_stay (k1 B)]
      have Z:((s.add d ((s.t d).prom s.r.length)).t i).own=(s.t i).own:=by
       rcases O i M with h'|h'
       .rw[h']
       .rw[h',Abt]
      refine⟨λB=>?_,?_⟩
      .rw[Z]at B
       rw[U B];exact k1 B
      .cases B:(s.t i).own with
       |false=>
        refine .inr ⟨by rw[Z,B],?_⟩
        show AS (AJ S.t d (Go.Ve.prom (S.t d) S.σ.length).1 i)=false;rw[hV];rcases k2 with k2|k2
        .rw[k2];show AS ((s.t i).v s.r)=false;rw[Sl.own_v,B]
        .exact k2.2
       |true=>
        left;show AJ S.t d (Go.Ve.prom (S.t d) S.σ.length).1 i=_;rw[hV];rcases k2 with k2|k2
        .rw[k2]
         show(s.t i).v s.r=((s.add d ((s.t d).prom s.r.length)).t i).v _;rw[U B];exact Qm (k1 B) _ _
        .rw[B]at k2;cases k2.1
theorem add_kp{d:Nat}{p:Sl×List Ac}:Kp (λi=>decide (i≠d)) s (s.add d p):=by
 unfold St.add;split
 .exact⟨λi e _=>Ba (of_decide_eq_true e),λ_ _ _=>rfl,Nat.le_refl _⟩
 .refine⟨λi e B=>?_,λid M L=>?_,by simp⟩
  .show AQ (λi=>(s.t i).chk s.r.length) d p.1 i=s.t i
   rw[Ba (of_decide_eq_true e)];exact Sl.chk_stay B _
  grind
theorem HV:∀(l:List Oper) (s:St),Kp (Au l) s (s.promA (l.map (·.dst)))
 |[],s=>Kp.refl _ _
 |o::l,s=>by
  have L:∀i,Au (o::l) i=true->o.dst≠some i/\Au l i=true:=by
   intro i h
   have L:Au (o::l) i=((match o.dst with
    |some e=>!Nat.beq e i
    |none=>true)&&Au l i):=rfl
   rw[L,bAE]at h;refine⟨λhd=>?_,h.2⟩
   simp_all
  rw[List.map_cons];cases hd:o.dst with
  |none=>exact(HV l s).weak λi B=>(L i B).2
  |some d=>
   show Kp _ s (bif(s.t d).own then St.promA (l.map (·.dst)) (s.add d ((s.t d).prom s.r.length))else St.promA (l.map (·.dst)) s)
   cases (s.t d).own with
   |false=>exact(HV l s).weak λi B=>(L i B).2
   |true=>
    exact Kp.trans add_kp (HV l _) (λi B=>dT λe=>(L i B).1 (by grind)) λi B=>(L i B).2
def Cl.clr(id:Nat):Cl->Cl
 |.rf j p=>bif Nat.beq j id then .dead else .rf j p
 |.rs j p off len=>bif Nat.beq j id then .dead else .rs j p off len
 |.rp j p i k=>bif Nat.beq j id then .dead else .rp j p i k
 |y=>y
def Sl.clr(id:Nat):Sl->Sl
 |.one y=>.one (y.clr id)
 |.new l=>.new l
 |.agg l=>.agg (l.map (Cl.clr id))
 |.pk t l=>.pk t (l.map (Cl.clr id))
 |.tup l=>.tup (l.map λp=>(p.1,p.2.map (Cl.clr id)))
theorem Cl.clr_v{r':List Ac}(B:∀id,id≠m->r'.getD id .dead=r.getD id .dead)(y:Cl):As (y.v r) ((y.clr m).v r'):=by
 cases y with
 |rf id p=>
  show As _ ((bif Nat.beq id m then Cl.dead else .rf id p).v r');cases L:Nat.beq id m with
  |true=>exact As.dead _
  |false=>
   show As (V.rs id p 0 (Ae r id p).len) (V.rs id p 0 (Ae r' id p).len);unfold Ae;rw[B id (λe=>by simp_all)]
   exact As.refl _
 |rs id p off len=>
  show As _ ((bif Nat.beq id m then Cl.dead else .rs id p off len).v r');cases Nat.beq id m with
  |true=>exact As.dead _
  |false=>exact As.refl _
 |rp id p off len=>
  show As _ ((bif Nat.beq id m then Cl.dead else .rp id p off len).v r');cases Nat.beq id m with
  |true=>exact As.dead _
  |false=>exact As.refl _
 |_=>exact As.refl _
theorem Sl.clr_v{r r':List Ac}{m:Nat}(e:∀id,id≠m->r'.getD id .dead=r.getD id .dead)(y:Sl):As (y.v r) ((y.clr m).v r'):=by
 have agg:∀l:List Cl,As (Aj (l.map (Cl.v r))) (Aj ((l.map (Cl.clr m)).map (Cl.v r'))):=by
  intro l;refine As.mk (by simp) λk _=>?_
  rw[List.map_map];exact BJ rfl rfl (λy=>Cl.clr_v e y) k
 cases y with
 |one c=>exact Cl.clr_v e c
 |new l=>exact As.refl _
 |agg l=>exact agg l
 |pk t l=>
  refine As.pk (by simp) λk _=>?_
  rw[List.map_map];exact BJ rfl rfl (λy=>Cl.clr_v e y) k
 |tup l=>
  refine As.tup (by simp) λk B=>?_
  have B:k<l.length:=by simpa using B
  simp only[gDE,List.getElem?_map,gEE B,Option.map_some,Option.getD_some];generalize l[k]=p;obtain⟨b,q⟩:=p;cases b with
  |true=>exact agg q
  |false=>
   have:=BJ (l:=q) (f:=Cl.v r) (g:=λy=>(y.clr m).v r') rfl rfl (λy=>Cl.clr_v e y) 0
   grind
theorem Sl.clr_stay(h:y.stay=true)(m:Nat):y.clr m=y:=by
 have c1:∀y:Cl,y.stay=true->y.clr m=y:=by intro y h;cases y<;>first|rfl|cases h
 cases y with
 |one y=>exact congrArg Sl.one (c1 y h)
 |new l=>rfl
 |agg l=>exact congrArg Sl.agg (AN λy e=>c1 y (aET.1 h y e))
 |pk t l=>exact congrArg (Sl.pk t) (AN λy e=>c1 y (aET.1 h y e))
 |tup l=>
  refine congrArg Sl.tup (AN λp B=>?_)
  obtain⟨b,q⟩:=p;exact congrArg (Prod.mk b) (AN λy e=>c1 y (aET.1 (aET.1 h _ B) y e))
theorem Abs(y:Sl)(m:Nat):(y.clr m).own=y.own:=by
 have c1:∀y:Cl,(y.clr m).own=y.own:=by
  intro y;cases y with
  |rf id p=>show(bif Nat.beq id m then Cl.dead else .rf id p).own=_;cases Nat.beq id m<;>rfl
  |rs id p a b=>show(bif Nat.beq id m then Cl.dead else .rs id p a b).own=_;cases Nat.beq id m<;>rfl
  |rp id p a b=>show(bif Nat.beq id m then Cl.dead else .rp id p a b).own=_;cases Nat.beq id m<;>rfl
  |_=>rfl
 have cl:∀l:List Cl,(l.map (Cl.clr m)).any Cl.own=l.any Cl.own:=by
  grind
 cases y with
 |one y=>exact c1 y
 |new l=>rfl
 |agg l=>exact cl l
 |pk t l=>exact cl l
 |tup l=>
  show(l.map _).any _=l.any _;rw[List.any_map]
  congr 1
  funext p
  obtain⟨b,l⟩:=p;cases b with
  |true=>exact cl l
  |false=>
   cases l with
   |nil=>rfl
   |cons y l=>exact c1 y
def B6:Sl->Ac
 |.one (.c (.ptr t) (d+1) x)=>.obj false (AA t d x)
 |.one (.c (.sl t) (d+1) xs)=>.arr false t d xs
 |.new l=>.obj false l
 |_=>.dead
def Ho:Sl->Bool
 |.one (.c (.ptr t) (_+1) _)=>Nat.blt 0 t.w
 |.one (.c (.sl _) (_+1) _)=>true
 |.new l=>Nat.blt 0 l.length
 |_=>false
def NV(id:Nat):Ac->Cl
 |.obj _ _=>.rp id [] 0 0
 |_=>.rf id []
def St.back1(p:Nat×Nat)(s:St):St:=⟨AQ (λi=>(s.t i).clr p.2) p.1 (.one (NV p.2 (B6 (s.t p.1)))),s.r.set p.2 (B6 (s.t p.1))⟩
def XL(i:Nat):(s.back1 p).t i=AQ (λi=>(s.t i).clr p.2) p.1 (.one (NV p.2 (B6 (s.t p.1)))) i:=rfl
def Na{i:Nat}(h:i≠p.1):(s.back1 p).t i=(s.t i).clr p.2:=(XL i).trans (Ba h)
def St.backs:List (Nat×Nat)->St->St
 |[],s=>s
 |p::B,s=>St.backs B (s.back1 p)
theorem LH(t:Ty)(d:Nat)(x:t.T):(AA t d x).length=t.w:=by
 have:=congrArg List.length (Bv t d x);rw[List.length_map,AB]at this
 grind
theorem Ck(h:Ho y=true):y.stay=true/\(∀r,y.v r=(B6 y).v)/\KR (B6 y).v/\∀(r:List Ac) (id:Nat),id<r.length->(Sl.one (NV id (B6 y))).v (r.set id (B6 y))=Lf id (B6 y).v:=by
 unfold Ho at h;split at h
 case h_4=>grind
 .rename_i t d x
  have B:0<t.w:=blE h;refine⟨rfl,λr=>?_,⟨false,_,_,_,rfl,λ_=>⟨by simpa [LH]using B,rfl⟩⟩,λr id e=>rfl⟩
  show Bi (decide (0<d+1)) (tyV t (d+1-1) x)=Bi true ((AA t d x).map Cl.v0);rw[Bv];rfl
 .rename_i t d xs
  refine⟨rfl,λr=>?_,⟨true,_,_,_,rfl,λh=>by grind⟩,λr id e=>?_⟩
  .rfl
  .show V.rs id [] 0 (Ae (r.set id (.arr false t d xs)) id []).len=_
   have:(Ae (r.set id (.arr false t d xs)) id []).len=xs.length:=by
    show((r.set id (.arr false t d xs)).getD id .dead).len=_;simp[e];rfl
   rw[this];rfl
 .rename_i l
  have B:0<l.length:=blE h;exact⟨rfl,λr=>rfl,⟨false,_,_,_,rfl,λ_=>⟨by simpa using B,rfl⟩⟩,λr id e=>rfl⟩
theorem XM{ds:List (Option Nat)}{S:Ms}(h:ZC ds S s)(hd:some p.1∉ds)(Z:p.2<s.r.length)(he:S.t p.1=s.den.t p.1)(W:Ho (s.t p.1)=true):
  ZC ds ⟨AJ S.t p.1 (Lf p.2 (S.t p.1)),S.σ.set p.2 (S.t p.1)⟩ (s.back1 p):=by
 obtain⟨h1,h2,h3,h4⟩:=Ck W;have e:S.t p.1=(B6 (s.t p.1)).v:=he.trans (h2 _)
 have hg:∀id,id≠p.2->(s.r.set p.2 (B6 (s.t p.1))).getD id .dead=s.r.getD id .dead:=λid U=>by
  simp only[gDE];rw[List.getElem?_set_ne (Ne.symm U)]
 have B:∀i,i≠p.1->(s.back1 p).t i=(s.t i).clr p.2:=λi M=>Na M
 refine⟨?_,λi=>?_,λi M=>?_⟩
 .show S.σ.set p.2 (S.t p.1)=(s.r.set p.2 (B6 (s.t p.1))).map Ac.v
  rw[h.σ,List.map_set,e];rfl
 .show As (AJ S.t p.1 (Lf p.2 (S.t p.1)) i) _
  unfold AJ;by_cases M:i=p.1
  .subst M
   rw[if_pos rfl,e]
   have e2:(s.back1 p).t p.1=.one (NV p.2 (B6 (s.t p.1))):=by
    rw[XL];unfold AQ;rw[Nat.beq_refl];rfl
   show As _ (((s.back1 p).t p.1).v _);rw[e2];rw[show(s.back1 p).r=s.r.set p.2 (B6 (s.t p.1))from rfl,h4 s.r p.2 Z]
   exact As.refl _
  .rw[if_neg M]
   show As _ (((s.back1 p).t i).v _);rw[B i M];exact(h.t i).trans (Sl.clr_v hg (s.t i))
 .have L:i≠p.1:=λe=>hd (e▸M)
  obtain⟨k1,k2⟩:=h.o i M;have hV:AJ S.t p.1 (Lf p.2 (S.t p.1)) i=S.t i:=by unfold AJ;rw[if_neg L]
  have O:((s.back1 p).t i).own=(s.t i).own:=by rw[B i L,Abs]
  refine⟨λho=>?_,?_⟩
  .rw[O]at ho
   rw[B i L,Sl.clr_stay (k1 ho)];exact k1 ho
  .show AJ S.t p.1 (Lf p.2 (S.t p.1)) i=_\/(_/\AS (AJ S.t p.1 (Lf p.2 (S.t p.1)) i)=false)
   rw[hV];cases ho:(s.t i).own with
   |false=>
    right;refine⟨by rw[O,ho],?_⟩
    rcases k2 with k2|k2
    .rw[k2];show AS ((s.t i).v s.r)=false;rw[Sl.own_v,ho]
    .exact k2.2
   |true=>
    left;rcases k2 with k2|k2
    .rw[k2]
     show(s.t i).v s.r=((s.back1 p).t i).v _;rw[B i L,Sl.clr_stay (k1 ho)];exact Qm (k1 ho) _ _
    .rw[ho]at k2;cases k2.1
theorem Ky{ds:List (Option Nat)}:∀(B:List (Nat×Nat)) (S:Ms) (s:St),ZC ds S s->(B.map (·.1)).Nodup->(∀p∈B,some p.1∉ds/\p.2<s.r.length/\S.t p.1=s.den.t p.1/\Ho (s.t p.1)=true)->ZC ds (Go.Ve.backs B S) (St.backs B s)
 |[],S,s,h,_,_=>h
 |p::B,S,s,h,hn,hB=>by
  obtain⟨h1,Z,W,U⟩:=hB p (List.mem_cons_self ..);rw[List.map_cons,List.nodup_cons]at hn;refine Ky B _ _ (XM h h1 Z W U) hn.2 λq O=>?_
  obtain⟨g1,g2,g3,g4⟩:=hB q (mCM _ O);have M:q.1≠p.1:=λe=>hn.1 (e▸List.mem_map.2 ⟨q,O,rfl⟩)
  have L:=(Ck g4).1
  have e1:(s.back1 p).t q.1=s.t q.1:=by
   rw[Na M,Sl.clr_stay L]
  refine⟨g1,by show q.2<(s.r.set _ _).length;grind,?_,by grind⟩
  show AJ S.t p.1 _ q.1=((s.back1 p).t q.1).v _;unfold AJ;rw[if_neg M,g3,e1];exact Qm L _ _
theorem M9:∀(B:List (Nat×Nat)) (s:St),(∀i,(∀p∈B,p.1≠i)->(s.t i).stay=true->(St.backs B s).t i=s.t i)/\(∀id,(∀p∈B,p.2≠id)->(St.backs B s).r.getD id .dead=s.r.getD id .dead)/\(St.backs B s).r.length=s.r.length
 |[],s=>⟨λ_ _ _=>rfl,λ_ _=>rfl,rfl⟩
 |p::B,s=>by
  obtain⟨h1,Z,W⟩:=M9 B (s.back1 p);refine⟨λi O U=>?_,λid M=>?_,W.trans (by show(s.r.set _ _).length=_;simp)⟩
  .have e:(s.back1 p).t i=s.t i:=by
    rw[Na λe=>O p (List.mem_cons_self ..) e.symm,Sl.clr_stay U]
   refine(h1 i (λq L=>O q (mCM _ L)) (by grind)).trans e
  .refine(Z id λq L=>M q (mCM _ L)).trans ?_
   show(s.r.set _ _).getD id .dead=_
   grind
def rerefs(id:Nat)(v:V):List Nat->(Nat->V)->(Nat->V)
 |[],t=>t
 |y::Y,t=>rerefs id v Y (AJ t y (Lf id v))
theorem PR.reref{C:Ctx}{N:Nat}{σ:List V}{ρ:Nat->Value}{F:Nat->Nat->Prop}{a:Act}{w:World}{D:Nat->Prop}{T:Nat->Nat->Prop}{id:Nat}{v:V}(B:id<σ.length)(L:σ.getD id .dead=v)(O:KR v):∀(Y:List Nat) (t:Nat->V),PR C N σ ρ F t a w D T->
  (∀y∈Y,y<N/\a.tmps.getD y undef=ρ id/\∀b,¬T y b)->PR C N σ ρ F (rerefs id v Y t) a w D T
 |[],t,h,_=>h
 |y::Y,t,h,hY=>by
  obtain⟨h1,h2,h3⟩:=hY y (List.mem_cons_self ..);refine PR.reref B L O Y _ ⟨h.df,h.sz,λx M=>?_,h.wr,λx M=>?_,h.tD,h.tF,h.tT,h.tn,h.fr,h.Fn,h.D1,h.D2,h.rt,h.ml,h.tx⟩ λz Z=>hY z (mCM _ Z)
  .have:¬x=y:=by omega
   simp[AJ,this,if_false];exact h.dd x M
  .by_cases U:x=y
   .subst U
    simp only[AJ,if_true];rw[h2];obtain⟨s0,sz,n,f,W,e2⟩:=O;have e:=h.wr.rel id B;rw[L,W]at e;rw[W]at L⊢;exact Rel.fp_congr (λb=>⟨λh=>h.elim,λh=>absurd h (h3 b)⟩) (Mo B L e2 e)
   .simp only[AJ,U,if_false]
    exact h.tm x M
def St.rerefs(id:Nat)(R:Ac):List Nat->St->St
 |[],s=>s
 |y::Y,s=>St.rerefs id R Y ⟨AQ s.t y (.one (NV id R)),s.r⟩
theorem Le{ds:List (Option Nat)}{id:Nat}{R:Ac}(O:KR R.v):∀(Y:List Nat) (S:Ms) (s:St),ZC ds S s->(s.r.getD id .dead)=R->(∀y∈Y,some y∉ds)->ZC ds ⟨Go.Ve.rerefs id R.v Y S.t,S.σ⟩ (St.rerefs id R Y s)
 |[],S,s,h,_,_=>h
 |y::Y,S,s,h,hr,hY=>by
  have U:∀i,some i∈ds->i≠y:=λi M e=>hY y (List.mem_cons_self ..) (e▸M)
  have B:(Sl.one (NV id R)).v s.r=Lf id R.v:=by
   cases R with
   |obj ro l=>rfl
   |arr ro t d xs=>
    show V.rs id [] 0 (Ae s.r id []).len=_
    have:(Ae s.r id []).len=xs.length:=by
     show(s.r.getD id .dead).len=_;rw[hr];rfl
    rw[this];rfl
   |dead=>obtain⟨_,_,_,_,e,_⟩:=O;cases e
   |mp=>obtain⟨_,_,_,_,e,_⟩:=O;cases e
   |opt ro t d x=>
    obtain⟨_,_,_,_,e,_⟩:=O;cases x with
    |none=>cases e
    |some xs=>
     show V.rs id [] 0 (Ae s.r id []).len=_
     have:(Ae s.r id []).len=xs.length:=by
      show(s.r.getD id .dead).len=_;rw[hr];rfl
     rw[this];rfl
  refine Le O Y ⟨AJ S.t y (Lf id R.v),S.σ⟩ ⟨AQ s.t y (.one (NV id R)),s.r⟩ ⟨h.σ,λi=>?_,λi M=>?_⟩ hr λz W=>hY z (mCM _ W)
  .show As (AJ S.t y (Lf id R.v) i) ((AQ s.t y (.one (NV id R)) i).v s.r)
   unfold AJ;by_cases L:i=y
   .subst L
    rw[if_pos rfl];have:AQ s.t i (.one (NV id R)) i=.one (NV id R):=by unfold AQ;simp
    rw[this,B];exact As.refl _
   .rw[if_neg L,Ba L];exact h.t i
  .have L:=U i M
   obtain⟨k1,k2⟩:=h.o i M;show((AQ s.t y (.one (NV id R)) i).own=true->(AQ s.t y (.one (NV id R)) i).stay=true)/\(AJ S.t y (Lf id R.v) i=(AQ s.t y (.one (NV id R)) i).v s.r\/((AQ s.t y (.one (NV id R)) i).own=false/\AS (AJ S.t y (Lf id R.v) i)=false));unfold AJ;rw[if_neg L,Ba L];exact⟨k1,k2⟩
theorem NR{id:Nat}{R:Ac}:∀(Y:List Nat) (s:St),(St.rerefs id R Y s).r=s.r/\∀i,i∉Y->(St.rerefs id R Y s).t i=s.t i
 |[],s=>⟨rfl,λ_ _=>rfl⟩
 |y::Y,s=>by
  obtain⟨M,L⟩:=NR Y ⟨AQ s.t y (.one (NV id R)),s.r⟩;refine⟨M,λi B=>(L i λh=>B (mCM _ h)).trans ?_⟩
  exact Ba λe=>B (e▸List.mem_cons_self ..)
end Go.Ve


namespace Go.Ve
open Go Go.Ve
variable{a:Act}{ops:Array Oper}{C:Ctx}{E:Env}{fs:List Nat}{late:List Oper}{σ σ':List V}{N d id k m n sz:Nat}{F:Nat->Nat->Prop}{f:Nat->Nat->V}{D:Nat->Prop}{ρ:Nat->Value}{o o1 o2 o3:Oper}{x y:Operand}{A:PtR}{s s':St}{t:TypeId}{cv:Value}{w:World}
theorem WA{q:List (Nat×Nat)}(B:sub q (σ.getD id .dead)=.nd true true sz n f)(h:Am σ ρ w (.rs id q 0 n) cv):
  id<σ.length/\At w q (σ.getD id .dead) (ρ id) (.nd true true sz n f) cv:=by
 obtain⟨L,U,n',f',Z,O,W,M⟩:=h;have e:=(At.sub O).trans B;cases e;refine⟨L,?_⟩;have:cv=Z:=by
  rcases M with⟨b,o,cap,rfl,rfl⟩|⟨h0,_,_,h1,_⟩
  .simp[AD]
  grind
 grind
def elI0(E:Env)(t:TypeId):Option TI:=((E.Θ.look t).bind (·.elem)).bind E.Θ.look
section
variable {P:Program}{Θ:Tab}
theorem Uk(hΘ:Θ.OK P){C:Ctx}{N:Nat}{s:St}{o:Oper}{t:TypeId}{x y:Operand}{a:Act}{w:World}{d:Nat}
  (ho:o.op=.call ⟨.builtin .append,#[x,y],#[t,t]⟩) (hdst:o.dst=some d) (hdn:d<N) {ti:TI} (hti:((Θ.look t).bind (·.elem)).bind Θ.look=some ti) (hby:0<ti.bytes) (hw:0<ti.ty.w)
  {id:Nat}{q:AW} (hx:s.ev x=some (.one (.rf id q))) {ro:Bool}{dx:Nat}{xs:List ti.ty.T} (U:Ae s.r id q=.arr ro ti.ty dx xs)
  {ys:List ti.ty.T}{dy:Nat}{js:List Nat} (hy:Vy s ti.ty id (s.ev y)=some (dy,ys,js)) (hdk:dOK ti.ty dy dx=true) (hlim:xs.length+ys.length<=Oy ti.bytes) (hs:AU C N s.den a w):
  ∃v' w',(execOp a.eval o).run P w=.ok (.value v') w'/\AU C N ⟨AJ (λi=>AP s.r.length [] (rrV id q s.r.length ((Ap js s).den.t i))) d (.rs (s.r.length+1) [] 0 (xs.length+ys.length)),
   ((Ap js s).den.σ.set id (upd q ((Ap js s).den.σ.getD id .dead) .dead)++[.dead])++[arr true ti.ty.w (tyV ti.ty dx) ti.ty.dflt (xs++ys)]⟩ (a.put (some d) v') w'/\
   ∃D ρ F,CR C ((Ap js s).den.σ.set id (upd q ((Ap js s).den.σ.getD id .dead) .dead)++[sub q ((Ap js s).den.σ.getD id .dead)]) (((List.range N).map (Ap js s).den.t).map (rrV id q s.r.length)) a.tmps w D ρ F/\∀c,c<w.heap.size->¬F s.r.length c->w'.heap[c]? =w.heap[c]?:=by
 obtain⟨hdf,hdd,D,ρ,F,L⟩:=hs;obtain⟨e,hsl,_⟩:=Dq hΘ hti;have hY:=IW L hdd hy;obtain⟨⟨Fy,hrd,hFy,hFd⟩,hjs2⟩:=hY;rw[show tyV ti.ty dy=tyV ti.ty dx from funext λz=>Dt _ _ _ z (MZ hdk)]at hrd
 have hidj:id∉js:=λh=>(hjs2 id h).2 rfl
 have hlσ:s.den.σ.length=s.r.length:=by simp[St.den]
 -- the drop
 obtain⟨F1,hcr1,hF1⟩:=Cv js L (λj hj=>(hjs2 j hj).1)
 have hdd1:=BK js (N:=N) hdd
 -- the row
 have hrx:=Bu L hdd x;rw[Bh hx]at hrx;have hrx:Rel D w (Am s.den.σ ρ w) (.rs id q 0 (Ae s.r id q).len) (a.eval x) noF:=hrx
 have hsub:sub q (s.den.σ.getD id .dead)=arr true ti.ty.w (tyV ti.ty dx) ti.ty.dflt xs:=by
  have:=A5 (r:=s.r) (id:=id) (p:=q) (by rw[U];simp)
  rw[U]at this;exact this
 rw[U]at hrx;obtain⟨hid,hat⟩:=WA (show sub q (s.den.σ.getD id .dead)=V.nd true true ti.ty.w xs.length (λi k=>(tyV ti.ty dx (xs.getD i ti.ty.dflt)).getD k .dead)from hsub) hrx.1
 have hid1:id<s.r.length:=by rw[<-hlσ];exact hid
 have W:∀(js:List Nat) (s:St),id∉js->(Ap js s).den.σ.getD id .dead=s.den.σ.getD id .dead:=by
  intro js
  induction js with
  |nil=>exact λ_ _=>rfl
  |cons j js ih=>
   intro s hj;simp only[List.mem_cons,not_or]at hj;show(Ap js (Ie j s)).den.σ.getD id .dead=_;rw[ih _ hj.2];show((s.r.set j .dead).map Ac.v).getD id .dead=_;rw[Aq];show _=(s.r.map Ac.v).getD id .dead;rw[Aq,gDE,List.getElem?_set_ne (Ne.symm hj.1),<-gDE]
 have W:=W js s hidj;have hl1:(Ap js s).den.σ.length=s.r.length:=by simp[St.den,IQ]
 rw[<-W]at hat
 -- it is cut out
 obtain⟨ρ2,F2,B,hρ2,hρ2',hF2⟩:=CR.reroot hcr1 (by rw[hl1];exact hid1) hat
 rw[hl1]at B hρ2 hρ2';obtain⟨m,hm⟩:∃m,m=s.r.length:=⟨_,rfl⟩;rw[<-hm]at B hρ2 hρ2' hl1 hid1;have Z:((Ap js s).den.σ.set id (upd q ((Ap js s).den.σ.getD id .dead) .dead)).length=m:=by rw[List.length_set];exact hl1
 have hlast:∀v:V,((Ap js s).den.σ.set id (upd q ((Ap js s).den.σ.getD id .dead) .dead)++[v]).getD m .dead=v:=λv=>by
  rw[gDE,gAR (by rw[Z];exact Nat.le_refl _),Z];simp
 have hrow:Rel D w noR (arr true ti.ty.w (tyV ti.ty dx) ti.ty.dflt xs) (a.eval x) (F2 m):=by
  have:=B.wr.rel m (by rw[List.length_append,Z];exact Nat.lt_succ_self m)
  rw[hlast,W,hsub,hρ2]at this;exact this
 have hF2D:∀b,D b->¬F2 m b:=λb O h=>B.wr.dD m b h O
 have hF2o:∀i b,F2 i b->∃j,F j b/\j∉js:=λi b h=>by
  obtain⟨j,h1⟩:=hF2 i b h;obtain⟨h2,h3⟩:=hF1 j b h1;exact⟨j,h2,h3⟩
 have O:(xs.length+ys.length)*ti.bytes<=140737488355328:=by
  rw[Nat.mul_comm];exact(Nat.mul_comm _ _▸(Nat.le_div_iff_mul_le hby).1 hlim)
 have h63:xs.length+ys.length<=maxLen:=by
  have:xs.length+ys.length<=(xs.length+ys.length)*ti.bytes:=Nat.le_mul_of_pos_right _ hby;simp only[maxLen];omega
 obtain⟨v',w',fp,hrun,hos,htp,hout,hdr,hsz,hbl,hr',hfp⟩:=Rel.append (P:=P) (ty:=o.type) (f:=λi k=>(tyV ti.ty dx (xs.getD i ti.ty.dflt)).getD k .dead) hsl hw hrow hF2D L.wr.Dlt hrd
  (λi k c hi hk hF=>by
   obtain⟨j,hj,M⟩:=hFy i k c hi hk hF;refine⟨L.wr.dD j c M,λhx=>?_⟩
   obtain⟨j2,h2,h3⟩:=hF2o m c hx;exact L.wr.disj j j2 c (λe=>h3 (e▸hj)) M h2) hFd h63 O
 have hdrop:=CR.drop B (j:=m) (by rw[List.length_append,Z];exact Nat.lt_succ_self m)
 have hfpG:∀b,fp b->(F2 m b\/∃j∈js,F j b)\/w.heap.size<=b:=by
  intro b O;rcases hfp b O with h1|⟨i,k,hi,hk,h1⟩|h1
  .exact .inl (.inl h1)
  .obtain⟨j,hj,M⟩:=hFy i k b hi hk h1
   exact .inl (.inr ⟨j,hj,M⟩)
  .exact .inr h1
 have hr2:Rel D w' noR (arr true ti.ty.w (tyV ti.ty dx) ti.ty.dflt (xs++ys)) v' fp:=
  Rel.sub (M7 rfl rfl (λ_ _ _=>rfl) (λ_ _ _=>rfl)) hr'
 have hc:=CR.own hdrop (G:=λb=>F2 m b\/∃j∈js,F j b) (D':=D) (λi b O hG=>by
   split at O
   .exact O.elim
   .rename_i hne
    rcases hG with h1|⟨j,hj,M⟩
    .exact B.wr.disj i m b hne O h1
    .obtain⟨j2,h2,h3⟩:=hF2o i b O
     exact L.wr.disj j j2 b (λe=>h3 (e▸hj)) M h2)
  (λb O hG=>hG.elim (hF2D b O) fun⟨j,_,M⟩=>L.wr.dD j b M O)
  (λb hG=>hG.elim (λh=>B.Fn m b h) fun⟨j,_,M⟩=>L.Fn j b M) hos htp hout hdr hsz
  (λc hc hG=>hbl c hc λh=>hG (.inl h)) hr2 hfpG (λ_ h=>h) (λ_ h=>.inl h)
  (λb O=>⟨Nat.lt_of_lt_of_le (L.wr.Dlt b O) hsz,λh=>by
   rcases hfpG b h with(h1|⟨j,_,M⟩)|h2
   .exact hF2D b O h1
   .exact L.wr.dD j b M O
   .have:=L.wr.Dlt b O;omega⟩) d
 have hl3:(((Ap js s).den.σ.set id (upd q ((Ap js s).den.σ.getD id .dead) .dead)++[sub q ((Ap js s).den.σ.getD id .dead)]).set m .dead)=(Ap js s).den.σ.set id (upd q ((Ap js s).den.σ.getD id .dead) .dead)++[.dead]:=by
  rw[List.set_append_right _ _ (by rw[Z];exact Nat.le_refl _),Z];simp
 rw[hl3]at hc
 have hl4:((Ap js s).den.σ.set id (upd q ((Ap js s).den.σ.getD id .dead) .dead)++[V.dead]).length=m+1:=by
  rw[List.length_append,List.length_set,hl1];rfl
 rw[hl4,show prom (arr true ti.ty.w (tyV ti.ty dx) ti.ty.dflt (xs++ys)) (m+1)=(.rs (m+1) [] 0 (xs++ys).length,[arr true ti.ty.w (tyV ti.ty dx) ti.ty.dflt (xs++ys)])from rfl,List.length_append]at hc
 have hex:(execOp a.eval o).run P w=.ok (.value v') w':=by
  unfold execOp;simp only[ho,resolve,invoke,builtin,Sem.run_bind,Sem.run_pure,Result.andThen_ok,List.map_toArray,List.map_cons,List.map_nil,hrun]
 rw[<-hm];refine⟨v',w',hex,⟨hdf,λz hz=>?_,?_⟩,D,ρ2,F2,B,λc hc hF=>hbl c hc hF⟩
 .show AJ (λi=>AP m [] (rrV id q m ((Ap js s).den.t i))) d (V.rs (m+1) [] 0 (xs.length+ys.length)) z=.dead
  unfold AJ;rw[if_neg (by omega)]
  show AP m [] (rrV id q m ((Ap js s).den.t z))=.dead;rw[hdd1 z hz];rfl
 .rw[List.map_map,List.map_map,CS hdn]at hc
  exact hc
theorem app_in(O:Θ.OK P){C:Ctx}{N:Nat}{s:St}{o:Oper}{t:TypeId}{x y:Operand}{a:Act}{w:World}{d:Nat}{next:Act->World->Prop}{Q:Exit->Act->World->Prop}
  (ho:o.op=.call ⟨.builtin .append,#[x,y],#[t,t]⟩) (e:o.dst=some d) (W:d<N) {ti:TI} (U:((Θ.look t).bind (·.elem)).bind Θ.look=some ti) (hby:0<ti.bytes) (hw:0<ti.ty.w)
  {id:Nat}{q:AW} (hx:s.ev x=some (.one (.rf id q))) {ro:Bool}{dx:Nat}{xs:List ti.ty.T} (B:Ae s.r id q=.arr ro ti.ty dx xs)
  {ys:List ti.ty.T}{dy:Nat}{js:List Nat} (hy:Vy s ti.ty id (s.ev y)=some (dy,ys,js)) (Z:dOK ti.ty dy dx=true) (M:xs.length+ys.length<=Oy ti.bytes) (hs:AU C N s.den a w)
  (hn:∀v' w',AU C N ⟨AJ (λi=>AP s.r.length [] (rrV id q s.r.length ((Ap js s).den.t i))) d (.rs (s.r.length+1) [] 0 (xs.length+ys.length)),
   ((Ap js s).den.σ.set id (upd q ((Ap js s).den.σ.getD id .dead) .dead)++[.dead])++[arr true ti.ty.w (tyV ti.ty dx) ti.ty.dflt (xs++ys)]⟩ (a.put (some d) v') w'->next (a.put (some d) v') w'):o.wp P a w next Q:=by
 obtain⟨v',w',L,hs',_⟩:=Uk O ho e W U hby hw hx B hy Z M hs;unfold Oper.wp;rw[L,Oper.upon_value,e]
 grind
def AbB(d:Nat):Operand->Bool
 |.tmp z=>!Nat.beq z d
 |.const _=>true
 |_=>false
theorem Aca{t:Nat->V}{v:V}(h:AbB d x=true):Ms.ev ⟨AJ t d v,σ⟩ x=Ms.ev ⟨t,σ'⟩ x:=by
 cases x with
 |tmp z=>
  show AJ t d v z=t z;unfold AJ;rw[if_neg]
  rintro rfl
  simp[AbB]at h
 |const c=>rfl
 |_=>rfl
def rowF(o1 o2 o3:Oper):Option ((Nat×TypeId×Operand×Operand)×(Nat×TypeId×Operand×Operand)×TypeId):=match o1.op,o1.dst,o2.op,o2.dst,o3.op,o3.dst with
 |.call c,some d,.indexAddr t2 u v,some e,.store t3 (.tmp e') (.tmp d'),none=>(match c.callee,c.args.toList,c.argTypes.toList with
  |.builtin .append,[x,y],[t,t']=>bif Nat.beq t t'&&Nat.beq e e'&&Nat.beq d d'&& !Nat.beq d e&&AbB d u&&AbB d v then some ((d,t,x,y),(e,t2,u,v),t3)else none
  |_,_,_=>none)
 |_,_,_,_,_,_=>none
theorem JO{e:Nat}{t2 t3:TypeId}{u v:Operand}(h:rowF o1 o2 o3=some ((d,t,x,y),(e,t2,u,v),t3)):
  o1.op=.call ⟨.builtin .append,#[x,y],#[t,t]⟩/\o1.dst=some d/\o2.op=.indexAddr t2 u v/\o2.dst=some e/\o3.op=.store t3 (.tmp e) (.tmp d)/\o3.dst=none/\d≠e/\AbB d u=true/\AbB d v=true:=by
 unfold rowF at h;split at h
 case h_2=>cases h
 rename_i c d0 t20 u0 v0 e0 t30 e' d' h1 h2 h3 h4 Z W;split at h
 case h_2=>cases h
 rename_i x0 y0 t0 t' hc ha U;obtain⟨O,h⟩:=A7 h;cases h;simp only[bAE,Bool.not_eq_true']at O;obtain⟨⟨⟨⟨⟨M,L⟩,B⟩,b4⟩,b5⟩,b6⟩:=O;have M:=bqE M;have L:=bqE L;have B:=bqE B;subst M L B;refine⟨?_,h2,h3,h4,Z,W,(λe=>by rw[e,Nat.beq_refl]at b4;cases b4),b5,b6⟩
 rw[h1];obtain⟨ce,ar,at'⟩:=c;obtain⟨ar⟩:=ar;obtain⟨at'⟩:=at'
 grind
def QY(E:Env)(s:St)(m id:Nat)(q:AW)(o:Oper):Bool:=match o.op with
 |.fieldAddr t _ k=>match(E.Θ.look t).bind (·.flds[k]?)with
  |some _=>true
  |none=>false
 |.move _=>true
 |.indexAddr _ _ _=>true
 |.load t (.tmp z)=>match E.Θ.look t,s.t z with
  |some ti,.one (.rp id' p _ k)=>!hit id (q.map λx=>x.2) [(m,[])] id' p&&(Ae s.r id' p).live&&Nat.ble (k+ti.ty.w) (Ae s.r id' p).w&&Nat.blt 0 ti.ty.w
  |some ti,.one (.c (.ptr u) 0 _)=>Nat.ble ti.ty.w u.w&&Nat.blt 0 ti.ty.w
  |_,_=>false
 |_=>false
def Wa(E:Env)(s:St)(late:List Oper)(o1 o2 o3:Oper):Option PtR:=match rowF o1 o2 o3 with
 |some ((d,t,x,y),(e,t2,u,v),t3)=>(match elI0 E t,elI0 E t2,E.Θ.look t3,s.ev x with
  |some ti,some ti2,some ti3,some (.one (.rf id q))=>(match Ae s.r id q,Vy s ti.ty id (s.ev y)with
   |.arr _ t' dx xs,some (dy,ys,js)=>if ht:t'=ti.ty then(match(Ap js s).ev u,(Ap js s).ev v with
     |some (.one (.rf id' p)),some (.one (.c (.int _) _ i))=>bif Nat.beq id' id&&Nat.blt 0 ti.bytes&&Nat.blt 0 ti.ty.w&&dOK ti.ty dy dx&&Nat.beq ti3.ty.w 1&&Nat.beq (Ae (Ap js s).r id p).w ti2.ty.w&&Nat.beq ti2.ty.w 1&&(Ae (Ap js s).r id p).live&&Nat.blt d E.h.n&&Nat.blt e E.h.n&& !E.h.fz.contains e&&late.all (QY E (Ap js s) s.r.length id q)then
       (match WW q (p++[(i.toNat,0)]),((Ap js s).r.getD id .dead).setAt p i.toNat 0 (.c (.sl ti.ty) (dx+1) (Aci (ht▸xs) ys))with
       |some c,some r0=>some ⟨(((0:Int)<=i/\i<(((Ae (Ap js s).r id p).len:Nat):Int))/\c.p)/\H4 (ht▸xs)+H4 ys<=Oy ti.bytes,@instDecidableAnd _ _ (@instDecidableAnd _ _ inferInstance c.dec) inferInstance,
         ⟨λz=>bif Nat.beq z d||Nat.beq z e then .one .dead else((Ap js s).t z).kill id ((p++[(i.toNat,0)]:AW).map λz=>z.2) [(s.r.length,[]),(s.r.length+1,[])],(Ap js s).r.set id r0++[.dead,.dead]⟩⟩
       |_,_=>none)else none
     |_,_=>none)else none
   |_,_=>none)
  |_,_,_,_=>none)
 |none=>none
theorem ev_G{t:Nat->V}{v0 y:V}{G:V->V}(e:AbB d x=true)(B:Ms.ev ⟨t,σ⟩ x=y)(L:G y=y):Ms.ev ⟨AJ (λi=>G (t i)) d v0,σ'⟩ x=y:=by
 rw[Aca (σ':=σ') e];cases x with
 |tmp z=>
  show G (t z)=y;rw[show t z=y from B,L]
 |const c=>trivial
 |_=>trivial
theorem Zx{a b:Nat}(h:Nat.blt a b=true):a<b:=by simp_all
theorem GOK.row{Q:AW}:GOK (λv=>Bc id Q (m+1) (AP m [] (rrV id Q m v))) id (Q.map (·.2)) [(m,[]),(m+1,[])]:=by
 have U:∀id' q,hit id (Q.map (·.2)) [(m,[]),(m+1,[])] id' q=false->id'≠m/\id'≠m+1/\¬ (id'=id/\A1 Q q=true):=λid' q h=>
  ⟨λe=>(CY h).2 m [] (by simp) ⟨e,rfl⟩,λe=>(CY h).2 (m+1) [] (by simp) ⟨e,rfl⟩,(CY h).1⟩
 have O:∀id' (q:AW),id'≠m->¬ (id'=m/\A1 [] q=true):=λ_ _ h W=>h W.1
 refine⟨Bg.comp (Dl _ _ _) (Bg.comp (Be _ _) (Dw _ _ _)),λid' q off len h=>?_,λid' q i k h=>?_,λid' q h=>?_⟩
 .obtain⟨M,L,B⟩:=U _ _ h
  simp[rrV,if_neg B,AP,if_neg (O id' q M),Bc,if_neg L]
 .obtain⟨M,L,B⟩:=U _ _ h
  simp[rrV,if_neg B,AP,if_neg (O id' q M),Bc,if_neg L]
 .obtain⟨M,L,B⟩:=U _ _ h
  simp[rrV,if_neg B,AP,if_neg (O id' q M),Bc,if_neg L]
def PK{p:AW}{x:Nat×Nat}{y:V}(e:KG p (σ.getD id .dead))(B:σ'.getD id .dead=upd (p++[x]) (σ.getD id .dead) y):A6 σ' id p=A6 σ id p:=by
 unfold A6;rw[B,Hq _ _ _ _ e,JI _ _ _ e];cases sub p (σ.getD id .dead)<;>rfl
theorem V8(hΘ:E.Θ.OK P){next:Act->World->Prop}{Q:Exit->Act->World->Prop}(h:Wa E s late o1 o2 o3=some A)(hp:A.p)(hs:AU C E.h.n s.den a w)
  (hn:∀a' w',AU C E.h.n A.s.den a' w'->next a' w'):o1.wp P a w (λa1 w1=>o2.wp P a1 w1 (λa2 w2=>o3.wp P a2 w2 next Q) Q) Q:=by
 unfold Wa at h;split at h
 case h_2=>cases h
 rename_i d t x y e t2 u v t3 hrow;obtain⟨ho1,hd1,ho2,hd2,ho3,hd3,hde,hnu,hnv⟩:=JO hrow;split at h
 case h_2=>cases h
 rename_i ti ti2 ti3 id q hti hti2 hti3 hx;split at h
 case h_2=>cases h
 rename_i ro t' dx xs dy ys js hnode hy;split at h
 case isFalse=>cases h
 rename_i ht;subst ht;split at h
 case h_2=>cases h
 rename_i id' p kk di i hu hv;obtain⟨hb,h⟩:=A7 h;simp only[bAE,Bool.not_eq_true']at hb;obtain⟨⟨⟨⟨⟨⟨⟨⟨⟨⟨⟨b1,b2⟩,b3⟩,b4⟩,b5⟩,b6⟩,b7⟩,b8⟩,b9⟩,b10⟩,b11⟩,_⟩:=hb;have b1:=bqE b1;subst b1;have b5:=bqE b5;have b6:=bqE b6;have b7:=bqE b7;have b9:=Zx b9;have b10:=Zx b10;split at h
 case h_2=>cases h
 rename_i c r0 hc hset;cases h;obtain⟨⟨⟨hi0,hil⟩,hcp⟩,hlim⟩:=hp;obtain rfl:=Jq _ _ _ hc hcp;have hY:∀j∈js,j<s.r.length/\j≠id':=by
  obtain⟨_,_,D,ρ,F,hcr⟩:=hs;exact(IW hcr ‹_› hy).js
 refine app_in hΘ ho1 hd1 b9 hti (LT b2) (LT b3) hx hnode hy b4 (by simpa [H4]using hlim) hs λv' w' hs1=>?_
 have hsd:∃D ρ F,CR C (Ap js s).den.σ ((List.range E.h.n).map (Ap js s).den.t) a.tmps w D ρ F/\∀x,E.h.n<=x->(Ap js s).den.t x=.dead:=by
  obtain⟨_,hdd,D,ρ,F,hcr⟩:=hs;obtain⟨F1,Z,_⟩:=Cv js hcr (λj hj=>(hY j hj).1)
  exact⟨D,ρ,F1,Z,BK js hdd⟩
 obtain⟨D1,ρ1,F1,Z,hdd1⟩:=hsd;have hru:=Bu Z hdd1 u;rw[Bh hu]at hru;have hru:Rel D1 w (Am (Ap js s).den.σ ρ1 w) (.rs id' p 0 (Ae (Ap js s).r id' p).len) (a.eval u) noF:=hru;obtain⟨⟨hid,_,_,_,_,hat,_,_⟩,_⟩:=hru;have hok:=At.ok hat;have hidr:id'<(Ap js s).r.length:=by simpa [St.den]using hid
 have hl:(Ap js s).r.length=s.r.length:=IQ js s;obtain⟨m,hm⟩:∃m,m=s.r.length:=⟨_,rfl⟩;rw[<-hm]at hs1 hl;simp only[<-hm]at hn;generalize hS1:((Ap js s).den.σ.set id' (upd (p++[(i.toNat,0)]) ((Ap js s).den.σ.getD id' .dead) .dead)++[.dead])++[arr true ti.ty.w (tyV ti.ty dx) ti.ty.dflt (xs++ys)]=B at hs1;generalize hT1:AJ (λi_1=>AP m [] (rrV id' (p++[(i.toNat,0)]) m ((Ap js s).den.t i_1))) d (.rs (m+1) [] 0 (xs.length+ys.length))=T1 at hs1
 have W:(Ap js s).den.σ.length=m:=by rw[<-hl];simp[St.den]
 have U:B.getD id' .dead=upd (p++[(i.toNat,0)]) ((Ap js s).den.σ.getD id' .dead) .dead:=by
  rw[<-hS1,AE (by simp;omega),AE (by simp;omega),Ag (by omega)]
 have O:B.getD (m+1) .dead=arr true ti.ty.w (tyV ti.ty dx) ti.ty.dflt (xs++ys):=by
  rw[<-hS1,gDE,gAR (by simp;omega)]
  simp[W]
 have hsz1:A6 B id' p=ti2.ty.w:=by
  rw[PK hok U,<-b6];exact Cj b8
 have hidm:id'≠m:=by omega
 obtain⟨e2,hsl,_⟩:=Dq hΘ hti2;refine HD (h:=E.h) (K:=λS'=>S'=⟨AJ T1 e (.rp id' p i.toNat 0),B⟩) ?_ hs1 λS' a2 w2 hS' hs2=>?_
 .unfold vop
  rw[ho2]
  have hu1:Ms.ev ⟨T1,B⟩ u=.rs id' p 0 (Ae (Ap js s).r id' p).len:=by
   rw[<-hT1];exact ev_G (G:=λv=>AP m [] (rrV id' (p++[(i.toNat,0)]) m v)) (t:=(Ap js s).den.t) (σ:=(Ap js s).den.σ) hnu (Bh hu) (by simp[rrV,IL,AP,hidm])
  have hv1:Ms.ev ⟨T1,B⟩ v=.c (.int kk i):=by
   rw[<-hT1];exact ev_G (G:=λv=>AP m [] (rrV id' (p++[(i.toNat,0)]) m v)) (t:=(Ap js s).den.t) (σ:=(Ap js s).den.σ) hnv (Bh hv) rfl
  show NZ P B (Ms.ev ⟨T1,B⟩) (.indexAddr t2 u v) _;unfold NZ
  dsimp only
  rw[hu1,hv1,hsl];refine⟨hsz1,by omega,⟨hi0,hil⟩,.rp id' p i.toNat 0,by rw[Nat.zero_add];exact Sub.refl _,?_⟩
  show Ms.res _ E.h o2.dst _=_;rw[hd2];unfold Ms.res;simp only[b10,if_true,b11];simp[prom]
 .subst hS'
  refine HD (h:=E.h) (K:=λS'=>S'=⟨λz=>Bc id' (p++[(i.toNat,0)]) (m+1) (AJ T1 e (.rp id' p i.toNat 0) z),
   (B.set id' (upd (p++[(i.toNat,0)]) (B.getD id' .dead) (B.getD (m+1) .dead))).set (m+1) .dead⟩) ?_ hs2 λS' a3 w3 hS' hs3=>hn a3 w3 ?_
  .unfold vop
   rw[ho3];refine⟨hd3,?_⟩;have he1:Ms.ev ⟨AJ T1 e (.rp id' p i.toNat 0),B⟩ (.tmp e)=.rp id' p i.toNat 0:=by
    show AJ T1 e _ e=_;unfold AJ;rw[if_pos rfl]
   have he2:Ms.ev ⟨AJ T1 e (.rp id' p i.toNat 0),B⟩ (.tmp d)=.rs (m+1) [] 0 (xs.length+ys.length):=by
    show AJ T1 e _ d=_;rw[<-hT1];unfold AJ;rw[if_neg hde,if_pos rfl]
   rw[he1,he2,hΘ.ty hti3];unfold VQ;refine⟨rfl,⟨b5.symm,by rw[hsz1,b7,b5];exact Nat.le_refl _⟩,?_⟩
   rw[b5];show Mx id' p i.toNat 0 (.rs (m+1) [] 0 (xs.length+ys.length)) [] B _;unfold Mx;have hsub:sub [] (B.getD (m+1) .dead)=.nd true true ti.ty.w (xs++ys).length λi k=>(tyV ti.ty dx ((xs++ys).getD i ti.ty.dflt)).getD k .dead:=O
   simp only[hsub];have hne:m+1≠id':=by omega
   rw[if_neg (λh=>hne h.1)]
   refine⟨⟨trivial,by simp,hne⟩,?_⟩
   rfl
  .subst hS'
   have hG:GOK (λv=>Bc id' (p++[(i.toNat,0)]) (m+1) (AP m [] (rrV id' (p++[(i.toNat,0)]) m v))) id' ((p++[(i.toNat,0)]:AW).map λz=>z.2) [(m,[]),(m+1,[])]:=GOK.row
   have hlen:∀L q2,hit id' ((p++[(i.toNat,0)]:AW).map λz=>z.2) [(m,[]),(m+1,[])] L q2=false->(Ae ((Ap js s).r.set id' r0++[Ac.dead,Ac.dead]) L q2).len=(Ae (Ap js s).r L q2).len:=by
    intro L q2 hh;have h1:L≠m/\L≠m+1:=⟨λe=>(CY hh).2 m [] (by simp) ⟨e,rfl⟩,λe=>(CY hh).2 (m+1) [] (by simp) ⟨e,rfl⟩⟩
    rcases Nat.lt_or_ge L m with h2|h2
    .have e1:Ae ((Ap js s).r.set id' r0++[Ac.dead,Ac.dead]) L q2=Ae ((Ap js s).r.set id' r0) L q2:=by
      unfold Ae;rw[gDE,gAL (by simp;omega),<-gDE]
     rw[e1];by_cases he:L=id'
     .subst he
      rw[BR hidr];refine Ka p _ _ hset q2 ?_;cases hp2:pre ((p++[(i.toNat,0)]:AW).map λz=>z.2) q2 with
      |false=>rfl
      |true=>
       unfold hit at hh;rw[Nat.beq_refl,hp2]at hh;cases hh
     .rw[Bk he]
    .have e1:Ae ((Ap js s).r.set id' r0++[Ac.dead,Ac.dead]) L q2=Ae (Ap js s).r L q2:=by
      unfold Ae;rw[gDE,gDE,List.getElem?_eq_none (by simp;omega),List.getElem?_eq_none (by omega)]
     rw[e1]
   refine hs3.sub ?_ (λj hj=>?_) λz=>?_
   .rw[<-hS1]
    simp[St.den]
   .have hσd:∀j,(Ap js s).den.σ.getD j .dead=((Ap js s).r.getD j .dead).v:=λj=>Aq _ _
    have hσo:∀j,m<=j->(Ap js s).den.σ.getD j .dead=.dead:=λj hj=>by rw[gDE,List.getElem?_eq_none (by omega)];rfl
    have hR:∀j,(((Ap js s).r.set id' r0++[Ac.dead,Ac.dead]).map Ac.v).getD j .dead=if j=id' then r0.v else(Ap js s).den.σ.getD j .dead:=by
     intro j;rw[Aq];by_cases M:j=id'
     .subst M
      rw[if_pos rfl,gDE,gAL (by simp;omega),List.getElem?_set_self hidr];rfl
     .rw[if_neg M,hσd]
      rcases Nat.lt_or_ge j m with h2|h2
      .rw[gDE,gAL (by simp;omega),List.getElem?_set_ne (Ne.symm M),<-gDE]
      .rw[gDE,gDE,gAR (by simp;omega),List.getElem?_eq_none (l:=(Ap js s).r) (by omega)]
       simp only[List.length_set,hl]
       match hk:j-m with
       |0=>rfl
       |1=>rfl
       |k+2=>rfl
    show Sub _ ((((Ap js s).r.set id' r0++[Ac.dead,Ac.dead]).map Ac.v).getD j .dead);rw[hR,U,O,K0];by_cases hj1:j=m+1
    .subst hj1
     rw[if_neg (by omega),hσo (m+1) (by omega),Ag (by simpa using hj)]
     exact Sub.refl _
    .rw[Af (Ne.symm hj1)]
     by_cases M:j=id'
     .subst M
      rw[if_pos rfl,Ag (by simp at hj;omega),hσd]
      exact HM (Sub.refl _) p _ _ hset
     .rw[if_neg M,Af (Ne.symm M),<-hS1]
      rcases Nat.lt_or_ge j m with h2|h2
      .rw[AE (by simp;omega),AE (by simp;omega),Af (Ne.symm M)]
       exact Sub.refl _
      .have hj2:j=m:=by
        simp[<-hS1,W]at hj;omega
       rw[hσo j (by omega),AE (by simp;omega),gDE,gAR (by simp;omega)]
       simp only[List.length_set,W,hj2,Nat.sub_self];exact Sub.refl _
   .show As (Bc id' (p++[(i.toNat,0)]) (m+1) (AJ T1 e (.rp id' p i.toNat 0) z)) (Sl.v _ (bif Nat.beq z d||Nat.beq z e then .one .dead else _))
    cases hz:(Nat.beq z d||Nat.beq z e)with
    |true=>exact As.dead _
    |false=>
     rw[Bool.or_eq_false_iff]at hz;have hzd:z≠d:=λe=>by rw[e,Nat.beq_refl]at hz;cases hz.1
     have hze:z≠e:=λe=>by rw[e,Nat.beq_refl]at hz;cases hz.2
     rw[<-hT1];unfold AJ;rw[if_neg hze,if_neg hzd];exact Sl.kill_v hG hlen ((Ap js s).t z)
theorem YC(wr:Bs σ w D ρ F){p:List (Nat×Nat)}{i:Nat}(h:Am σ ρ w (.rp id p i k) cv):∃b off,cv=.pointer (some ⟨b,off,none⟩)/\F id b:=by
 obtain⟨B,s,sz,n,f,b,o,cap,L,hi,hk,rfl⟩:=h;obtain⟨fp1,O,e,_⟩:=Dg (w':=w) p _ _ _ _ _ (wr.rel id B) (λb W h'=>wr.dD id b h' W) L
 refine⟨b,_,rfl,e b ?_⟩;rcases O with⟨h0,_⟩|⟨b',o',M,G,U,_,_,_,_,_,Z⟩
 .omega
 .obtain⟨rfl,_,_⟩:=Az U
  exact((Z rfl).2.2.2 b).2 (.inl rfl)
theorem Y6(hΘ:E.Θ.OK P){C:Ctx}{m id:Nat}{q:AW}{ops:Array Oper}{fs:List Nat}{a:Act}{w w':World}{σ2:List V}(hdd:∀x,N<=x->s.den.t x=.dead)
  (h1:∃D ρ F,CR C s.den.σ ((List.range N).map s.den.t) a.tmps w D ρ F) (h2:∃D ρ F,CR C σ2 (((List.range N).map s.den.t).map (rrV id q m)) a.tmps w D ρ F/\∀c,c<w.heap.size->¬F m c->w'.heap[c]? =w.heap[c]?)
  (hl:∀f∈fs,∀o,ops[f]? =some o->QY E s m id q o=true):FlL P ops fs a w w':=by
 intro f hf o ho t x hop ad had;have h:=hl f hf o ho;unfold QY at h;rw[hop]at h;cases x with
 |tmp z=>
  dsimp only at h
  obtain⟨D1,ρ1,F1,U⟩:=h1;obtain⟨D2,ρ2,F2,L,hsame⟩:=h2;have had:a.tmps.getD z undef=.pointer (some ad):=had
  have hsz:∀(ti:TI),E.Θ.look t=some ti->∀s,(sizeOf t).run P w=.ok s w->s=ti.ty.w:=λti Z s hs=>by
   obtain⟨d,i,z,hu,hi,_,his,_⟩:=C5 (hΘ.ty Z);unfold Go.sizeOf typeInfo at hs;rw[Sem.run_bind,Sem.run_bind]at hs;have e:(Go.program.run P w:Result Program)=.ok P w:=rfl;rw[e]at hs;simp only[Result.andThen_ok,hi]at hs;have his:i.size=ti.ty.w:=his;have hs:Result.ok i.size w=.ok s w:=hs;cases hs;exact his
  have hz:s.den.t z≠.dead->z<N:=λhne=>by
   rcases Nat.lt_or_ge z N with h|h
   .exact h
   .exact absurd (hdd z h) hne
  split at h
  case h_3=>cases h
  .rename_i ti id' p i k Z hsz1
   simp only[bAE,Bool.not_eq_true']at h;obtain⟨⟨⟨g1,g2⟩,g3⟩,g4⟩:=h;have g3:=blE g3;have g4:=LT g4;have hv:s.den.t z=.rp id' p i k:=by show(s.t z).v s.r=_;rw[hsz1];rfl
   have M:=hz (by rw[hv];simp)
   have r1:=U.tm z (by simpa using M)
   have r2:=L.tm z (by simpa using M)
   have e1:((List.range N).map s.den.t).getD z .dead=.rp id' p i k:=by rw[AX M,hv]
   have e2:(((List.range N).map s.den.t).map (rrV id q m)).getD z .dead=.rp id' p i k:=by
    have:(((List.range N).map s.den.t).map (rrV id q m)).getD z .dead=rrV id q m (s.den.t z):=by simp[M]
    rw[this,hv];exact if_neg (CY g1).1
   rw[e1,had]at r1;rw[e2,had]at r2;obtain⟨s0,sz,n,f0,b,o0,cap,hid,hat,hi,hk,he,_,hns,_,_⟩:=JN U.wr r1.1;obtain⟨b2,off2,he2,hF⟩:=YC L.wr r2.1;have hbb:b2=b:=by rw[he]at he2;cases he2;rfl
   subst hbb;have hnsz:sz=(Ae s.r id' p).w:=by rw[<-hns];exact Cj g2
   have hne:id'≠m:=λe=>(CY g1).2 m [] (by simp) ⟨e,rfl⟩
   have hblk:w'.heap[b2]? =w.heap[b2]?:=hsame b2 (L.wr.lt _ _ hF) λhm=>L.wr.disj id' m b2 hne hF hm
   have B:∀k',k+k'<sz->∃y,w.cell? ⟨b2,o0+i*sz+(k+k'),none⟩=some y:=λk' O=>by
    obtain⟨fp1,hr,_,_⟩:=Dg (w':=w) p _ _ _ _ _ (U.wr.rel id' hid) (λb hb h'=>U.wr.dD id' b h' hb) hat
    rcases hr with⟨h0,_⟩|⟨b',o',cap',G,he',_,_,_,h5,_⟩
    .omega
    .obtain⟨rfl,rfl,_⟩:=Az he'
     obtain⟨y,W,_⟩:=h5 i (k+k') hi O;exact⟨y,W⟩
   cases he;refine⟨hblk,?_,λs1 hs1 k' O=>?_⟩
   .obtain⟨y,W⟩:=B 0 (by omega)
    exact⟨y,by simpa [Nat.add_assoc]using W⟩
   .rw[hsz ti Z s1 hs1]at O
    obtain⟨y,W⟩:=B k' (by omega)
    refine⟨y,?_⟩;rw[A9 rfl];simpa [Nat.add_assoc]using W
  .rename_i ti u xv Z hsz1
   simp only[bAE]at h;obtain⟨g3,g4⟩:=h;have g3:=blE g3;have g4:=LT g4;have hv:s.den.t z=Bi false (tyV u 0 xv):=by show(s.t z).v s.r=_;rw[hsz1];rfl
   have M:=hz (by rw[hv];simp[Bi])
   have r2:=L.tm z (by simpa using M)
   have e2:(((List.range N).map s.den.t).map (rrV id q m)).getD z .dead=Bi false (tyV u 0 xv):=by
    have:(((List.range N).map s.den.t).map (rrV id q m)).getD z .dead=rrV id q m (s.den.t z):=by simp[M]
    rw[this,hv];rfl
   rw[e2,had]at r2;have hul:(tyV u 0 xv).length=u.w:=AB u 0 xv;rcases r2 with⟨_,h0,_⟩|⟨b,o0,cap,G,he,_,_,_,h5,h6,_⟩
   .cases h0
   .have hb:=(h6 rfl).1 (by rw[hul];omega)
    have hblk:w'.heap[b]? =w.heap[b]?:=hsame b (L.wr.Dlt b hb) λhm=>L.wr.dD m b hm hb
    have B:∀k',k'<u.w->∃y,w.cell? ⟨b,o0+k',none⟩=some y:=λk' O=>by
     obtain⟨y,W,_⟩:=h5 0 k' (by omega) (by rw[hul];exact O)
     exact⟨y,by simpa using W⟩
    cases he;refine⟨hblk,?_,λs1 hs1 k' O=>?_⟩
    .obtain⟨y,W⟩:=B 0 (by omega)
     exact⟨y,by simpa using W⟩
    .rw[hsz ti Z s1 hs1]at O
     obtain⟨y,W⟩:=B k' (by omega)
     refine⟨y,?_⟩;rw[A9 rfl];exact W
 |_=>cases h
def flT(E:Env)(ops:Array Oper)(fs:List Nat):Bool:=fs.all λf=>match ops[f]? with
 |some o=>AcD o.op&&(match o.op with
  |.fieldAddr t _ k=>match(E.Θ.look t).bind (·.flds[k]?)with
   |some _=>true
   |none=>false
  |_=>true)
 |none=>true
theorem Aag(B:E.Θ.OK P)(h:flT E ops fs=true):FlT P ops fs:=by
 intro f W o ho;have e:=aET.1 h f W;rw[ho]at e;simp at e;refine⟨e.1,λt x k L=>?_⟩
 have M:=e.2;rw[L]at M
 dsimp only at M
 split at M
 case h_2=>grind
 rename_i p O;obtain⟨off,sz⟩:=p;cases U:E.Θ.look t with
 |none=>grind
 |some i=>
  rw[U]at O;exact⟨off,sz,B.fld U O⟩
theorem Abb(U:E.Θ.OK P){ops:Array Oper}{n:Nat}{fs:List Nat}(h:Wa E s late o1 o2 o3=some A)(hp:A.p)(hs:AU C E.h.n s.den a w)
  (hon:ops[n]? =some o1) (M:∀f∈fs,∀o,ops[f]? =some o->o∈late) (hft:FlT P ops fs):FlH P ops n fs a w:=by
 unfold Wa at h;split at h
 case h_2=>cases h
 rename_i d t x y e t2 u v t3 hrow;obtain⟨ho1,hd1,ho2,hd2,ho3,hd3,hde,hnu,hnv⟩:=JO hrow;split at h
 case h_2=>cases h
 rename_i ti ti2 ti3 id q hti hti2 hti3 hx;split at h
 case h_2=>cases h
 rename_i ro t' dx xs dy ys js L hy;split at h
 case isFalse=>cases h
 rename_i ht;subst ht;split at h
 case h_2=>cases h
 rename_i id' p kk di i hu hv;obtain⟨hb,h⟩:=A7 h;simp only[bAE,Bool.not_eq_true']at hb;obtain⟨⟨⟨⟨⟨⟨⟨⟨⟨⟨⟨b1,b2⟩,b3⟩,b4⟩,b5⟩,b6⟩,b7⟩,b8⟩,b9⟩,b10⟩,b11⟩,b12⟩:=hb;have b1:=bqE b1;subst b1;have b5:=bqE b5;have b6:=bqE b6;have b7:=bqE b7;have b9:=Zx b9;have b10:=Zx b10;split at h
 case h_2=>cases h
 rename_i c r0 hc hset;cases h;obtain⟨⟨⟨hi0,hil⟩,hcp⟩,hlim⟩:=hp;obtain rfl:=Jq _ _ _ hc hcp;have hY:∀j∈js,j<s.r.length/\j≠id':=by
  obtain⟨_,_,D,ρ,F,O⟩:=hs;exact(IW O ‹_› hy).js
 obtain⟨v',w',Z,_,D,ρ,F,hcr2,B⟩:=Uk U ho1 hd1 b9 hti (LT b2) (LT b3) hx L hy b4 (by simpa [H4]using hlim) hs
 have W:(∃D ρ F,CR C (Ap js s).den.σ ((List.range E.h.n).map (Ap js s).den.t) a.tmps w D ρ F)/\∀x,E.h.n<=x->(Ap js s).den.t x=.dead:=by
  obtain⟨_,hdd,D,ρ,F,O⟩:=hs;obtain⟨F1,hcr1,_⟩:=Cv js O (λj hj=>(hY j hj).1)
  exact⟨⟨D,ρ,F1,hcr1⟩,BK js hdd⟩
 intro on hon';obtain rfl:on=o1:=Option.some.inj (hon'.symm.trans hon);refine⟨v',w',Z,FlT.same hft (Y6 U W.2 W.1 ⟨D,ρ,F,hcr2,B⟩ λf hf o ho=>aET.1 b12 o (M f hf o ho))⟩
theorem V9(h:Wa E s late o1 o2 o3=some A):Kp (Au [o1,o2,o3]) s A.s:=by
 unfold Wa at h;split at h
 case h_2=>cases h
 rename_i d t x y e t2 u v t3 O;obtain⟨_,hd1,_,hd2,_,_,_,_,_⟩:=JO O;split at h
 case h_2=>cases h
 rename_i ti B Z id q hti hti2 hti3 hx;split at h
 case h_2=>cases h
 rename_i ro t' dx xs dy ys js hnode hy;split at h
 case isFalse=>cases h
 rename_i ht;split at h
 case h_2=>cases h
 rename_i id' p kk di i hu hv;generalize hcond:(Nat.beq id' id&&Nat.blt 0 ti.bytes&&Nat.blt 0 ti.ty.w&&dOK ti.ty dy dx&&Nat.beq Z.ty.w 1&&Nat.beq (Ae (Ap js s).r id p).w B.ty.w&&Nat.beq B.ty.w 1&&(Ae (Ap js s).r id p).live&&Nat.blt d E.h.n&&Nat.blt e E.h.n&& !E.h.fz.contains e&&late.all (QY E (Ap js s) s.r.length id q))=cond at h;cases cond with
 |false=>cases h
 |true=>
 simp only[cond_true]at h;split at h
 case h_2=>cases h
 rename_i c r0 hc M;cases h;have k0:Kp (Au [o1,o2,o3]) s (Ap js s):=(Kn js s (P8 hy)).weak λ_ _=>rfl
 refine k0.trans ⟨λj hj hst=>?_,λL hid U=>?_,by simp⟩ (λ_ h=>h) λ_ h=>h
 .have W:Nat.beq j d=false/\Nat.beq j e=false:=by
   refine⟨?_,?_⟩
   .cases hb:Nat.beq j d with
    |false=>rfl
    |true=>
     have:=bqE hb;subst this;simp[Au,hd1]at hj
   .cases hb:Nat.beq j e with
    |false=>rfl
    |true=>
     have:=bqE hb;subst this;simp[Au,hd2]at hj
  show(bif Nat.beq j d||Nat.beq j e then Sl.one .dead else _)=_;rw[W.1,W.2];exact Sl.kill_stay hst _ _ _
 .have hne:L≠id:=by
   rintro rfl
   rw[HN M]at U;cases U
  show((Ap js s).r.set id r0++[Ac.dead,Ac.dead]).getD L .dead=_;rw[gDE,gAL (by simpa using hid),List.getElem?_set_ne (Ne.symm hne),<-gDE]
end
theorem CR.frz1{ts:List V}{cts:Array Value}(h:CR C σ ts cts w D ρ F){j:Nat}(hj:j<σ.length)(ho:σ.getD j .dead=.nd false true sz 1 f)(hk:k<sz):
  X1 C (σ.set j (upd [(0,k)] (σ.getD j .dead) (Go.Ve.frz (f 0 k)))) (ts.map (AP j [(0,k)])) cts w:=by
 have hr0:=h.wr.rel j hj;rw[ho]at hr0;rcases hr0 with⟨h0,_⟩|⟨b,o,cap,G,hcv,hcap,hmax,hs,hr,_,hown⟩
 .cases h0
 obtain⟨hb,hnb,hdis,hfp⟩:=hown rfl;have hGF:∀k' x,k'<sz->G 0 k' x->F j x:=λk' x L B=>(hfp x).2 (.inr ⟨0,k',Nat.one_pos,L,B⟩)
 have hF:∀i x,(if i=j then λx=>F j x/\¬G 0 k x else F i) x->F i x/\¬G 0 k x:=by
  intro i x B;split at B
  .rename_i e;subst e;exact B
  .rename_i e
   exact⟨B,λZ=>h.wr.disj i j x e B (hGF k x hk Z)⟩
 refine⟨λx=>D x\/G 0 k x,ρ,λi=>if i=j then λx=>F j x/\¬G 0 k x else F i,⟨λi hi=>?_,λi l x hil h1 h2=>h.wr.disj i l x hil (hF _ _ h1).1 (hF _ _ h2).1,λi x B hd=>?_,λx B=>?_,λi x hi B=>h.wr.out i x (by simpa using hi) (hF _ _ B).1⟩,by simpa using h.sz,λt ht=>?_,h.fr,λi x B=>h.Fn i x (hF _ _ B).1,λx B=>.inl (h.D1 x B),λx B hlt=>?_,h.rt,by simpa using h.ml⟩
 .have hi:i<σ.length:=by simpa using hi
  by_cases he:i=j
  .subst he
   rw[Ag hj,ho];simp only[if_true];obtain⟨G',hG'⟩:∃G':Nat->Nat->Nat->Prop,G'=λi' k'=>if i'=0/\k'=k then noF else G i' k':=⟨_,rfl⟩
   have g0:G' 0 k=noF:=by rw[hG'];exact if_pos ⟨rfl,rfl⟩
   have gi:∀i' k',¬ (i'=0/\k'=k)->G' i' k'=G i' k':=λi' k' e=>by rw[hG'];exact if_neg e
   have gg:∀i' k' x,G' i' k' x->¬ (i'=0/\k'=k)/\G i' k' x:=λi' k' x B=>by
    by_cases e:i'=0/\k'=k
    .rw[e.1,e.2,g0]at B;exact B.elim
    .rw[gi _ _ e]at B;exact⟨e,B⟩
   refine .inr ⟨b,o,cap,G',hcv,hcap,hmax,hs,λi' k' M L=>?_,λe=>(by cases e),λ_=>⟨hb,λi' k' M L B=>hnb i' k' M L (gg _ _ _ B).2,λi1 k1 i2 k2 x a1 a2 a3 a4 a5 g1 g2=>hdis i1 k1 i2 k2 x a1 a2 a3 a4 a5 (gg _ _ _ g1).2 (gg _ _ _ g2).2,λx=>?_⟩⟩
   .obtain⟨x,B,hrx⟩:=hr i' k' M L
    refine⟨x,B,?_⟩;obtain rfl:i'=0:=by omega
    by_cases e:k'=k
    .subst e
     simp only[and_self,if_true];rw[g0];exact Rel.frz _ _ _ hrx
    .simp only[e,and_false,if_false]
     rw[gi 0 k' λh=>e h.2]
     exact Rel.mono (λ_ h=>.inl h) (λ_ _ h=>h) _ _ _ (λ_ _=>rfl) hrx
   .constructor
    .rintro ⟨h1,h2⟩
     rcases(hfp x).1 h1 with e|⟨i',k',M,L,Z⟩
     .exact .inl e
     .refine .inr ⟨i',k',M,L,?_⟩
      rw[gi _ _ λe=>h2 (by rw[<-e.1,<-e.2];exact Z)]
      exact Z
    .rintro (e|⟨i',k',M,L,Z⟩)
     .subst e
      exact⟨(hfp _).2 (.inl rfl),hnb 0 k Nat.one_pos hk⟩
     .obtain⟨e,Z⟩:=gg _ _ _ Z
      obtain rfl:i'=0:=by omega
      refine⟨hGF k' x L Z,λhg2=>hdis 0 k' 0 k x M L M hk (.inr λe2=>e ⟨rfl,e2⟩) Z hg2⟩
  .rw[Af (Ne.symm he)]
   simp only[he,if_false];exact Rel.mono (λ_ h=>.inl h) (λ_ _ h=>h) _ _ _ (λ_ _=>rfl) (h.wr.rel i hi)
 .obtain⟨h1,h2⟩:=hF i x B
  exact hd.elim (h.wr.dD i x h1) h2
 .exact B.elim (h.wr.Dlt x) λZ=>h.wr.lt j x (hGF k x hk Z)
 .simp at ht
  have e1:(ts.map (AP j [(0,k)])).getD t .dead=AP j [(0,k)] (ts.getD t .dead):=by simp[ht]
  rw[e1];refine Rel.mono (λ_ h=>.inl h) (λ_ _ h=>h) _ _ _ (λ_ _=>rfl) ((Be _ _).rel (R':=Am (σ.set j (upd [(0,k)] (σ.getD j .dead) (Go.Ve.frz (f 0 k)))) ρ w) (λ_ _=>rfl) ?_ ?_ ?_ _ _ noF (λ_ h=>h) (h.tm t ht))
  .rintro id q off len cv ⟨W,O,n',f',cn,ha,r⟩
   simp only[AP];split
   .exact λ_ h=>h
   .rename_i U
    refine⟨⟨by simpa using W,?_⟩,λ_ h=>h⟩
    by_cases e:id=j
    .subst e
     rw[Ag hj];obtain⟨f2,h2⟩:=At.keep (x:=Go.Ve.frz (f 0 k)) [(0,k)] q _ _ (by rw[ho];exact⟨rfl,Nat.one_pos,hk,trivial⟩) (by simpa using U) ha
     exact⟨O,n',f2,cn,h2,r⟩
    .rw[Af (Ne.symm e)]
     exact⟨O,n',f',cn,ha,r⟩
  .rintro id q i' k' cv ⟨W,s',O,n',f',b',o',cap',ha,r⟩
   simp only[AP];split
   .exact λ_ h=>h
   .rename_i U
    refine⟨⟨by simpa using W,?_⟩,λ_ h=>h⟩
    by_cases e:id=j
    .subst e
     rw[Ag hj];obtain⟨f2,h2⟩:=At.keep (x:=Go.Ve.frz (f 0 k)) [(0,k)] q _ _ (by rw[ho];exact⟨rfl,Nat.one_pos,hk,trivial⟩) (by simpa using U) ha
     exact⟨s',O,n',f2,b',o',cap',h2,r⟩
    .rw[Af (Ne.symm e)]
     exact⟨s',O,n',f',b',o',cap',ha,r⟩
  .rintro id q cv ⟨W,l',b',ha,r⟩
   simp only[AP];split
   .exact λ_ h=>h
   .rename_i U
    refine⟨⟨by simpa using W,l',b',?_,r⟩,λ_ h=>h⟩
    by_cases e:id=j
    .subst e
     rw[Ag hj];exact At.keepM (x:=Go.Ve.frz (f 0 k)) [(0,k)] q _ _ (by rw[ho];exact⟨rfl,Nat.one_pos,hk,trivial⟩) (by simpa using U) ha
    .rw[Af (Ne.symm e)]
     exact ha
 .rcases B with B|B
  .exact h.D2 x B hlt
  .exact(h.Fn j x (hGF k x hk B)).elim .inr λhge=>absurd hlt (Nat.not_lt.2 hge)
def Ab6(id k:Nat)(s:St):Option St:=match s.r.getD id .dead with
 |.obj false l=>match l.getD k .dead with
  |.c (.sl t) (_+1) xs=>match(s.r.getD id .dead).setAt [] 0 k (.c (.sl t) 0 xs)with
   |some r0=>some ⟨λi=>(s.t i).kill id [k] [],s.r.set id r0⟩
   |none=>none
  |_=>some s
 |_=>some s
theorem Zg(h:Ab6 id k s=some s')(hs:AU C N s.den a w):AU C N s'.den a w/\Kp (λ_=>true) s s':=by
 unfold Ab6 at h;split at h
 case h_2=>cases h;exact⟨hs,Kp.refl _ _⟩
 rename_i l hr;split at h
 case h_2=>cases h;exact⟨hs,Kp.refl _ _⟩
 rename_i t d xs hl;split at h
 case h_2=>cases h
 rename_i r0 L;cases h;have B:id<s.r.length:=by
  rcases Nat.lt_or_ge id s.r.length with h|h
  .exact h
  .rw[gDE,List.getElem?_eq_none h]at hr;cases hr
 have Z:k<l.length:=by
  rcases Nat.lt_or_ge k l.length with h|h
  .exact h
  .rw[gDE,List.getElem?_eq_none h]at hl;cases hl
 have hσ:s.den.σ.getD id .dead=Bi true (l.map Cl.v0):=by
  show(s.r.map Ac.v).getD id .dead=_;rw[Aq,hr];rfl
 obtain⟨hd,hdd,D,ρ,F,hcr⟩:=hs;have hf:=hcr.frz1 (by simpa [St.den]using B) hσ (by simpa using Z)
 have M:Go.Ve.frz ((l.map Cl.v0).getD k .dead)=(Cl.c (.sl t) 0 xs).v0:=by
  have:(l.map Cl.v0).getD k .dead=(l.getD k .dead).v0:=by
   simp[gDE,List.getElem?_map,gEE Z]
  rw[this,hl];exact Q5 (t:=.sl t) rfl _ _
 have W:∀id' q,hit id [k] [] id' q=false->(Ae (s.r.set id r0) id' q).len=(Ae s.r id' q).len:=by
  intro id' q hq;by_cases e:id'=id
  .subst e
   have hp:pre [k] q=false:=by
    unfold hit at hq;simpa using hq
   have h1:=Ka [] _ _ L q hp;unfold Ae;have e2:(s.r.set id' r0).getD id' .dead=r0:=by simp[gDE,B]
   rw[e2];exact h1
  .rw[Bk e]
 have hk:=λy=>Sl.kill_v (r:=s.r) (r':=s.r.set id r0) (GOK.kill (id:=id) (P:=[(0,k)])) W y
 refine⟨⟨hd,λi O=>?_,?_⟩,⟨λi _ hst=>Sl.kill_stay hst _ _ _,λid' _ U=>?_,by simp⟩⟩
 .have h0:(s.t i).v s.r=.dead:=hdd i O
  have h1:=hk (s.t i);rw[h0]at h1;rcases h1 with h|h
  .exact h
  .exact h
 .obtain⟨D',ρ',F',hc'⟩:=hf
  refine⟨D',ρ',F',hc'.sub (by simp[St.den]) (λi _=>?_) (by simp) λi O=>?_⟩
  .by_cases e:i=id
   .subst e
    rw[Ag (by simpa [St.den]using B)]
    show Sub (upd [(0,k)] _ (Go.Ve.frz ((l.map Cl.v0).getD k .dead))) (((s.r.set i r0).map Ac.v).getD i .dead);rw[M];rw[Aq];have e2:(s.r.set i r0).getD i .dead=r0:=by simp[gDE,B]
    rw[e2];have e3:s.den.σ.getD i .dead=(s.r.getD i .dead).v:=Aq _ _;rw[e3];exact Iu [] _ _ L
   .rw[Af (Ne.symm e)]
    show Sub ((s.r.map Ac.v).getD i .dead) (((s.r.set id r0).map Ac.v).getD i .dead);rw[Aq,Aq];have e2:(s.r.set id r0).getD i .dead=s.r.getD i .dead:=by simp only[gDE,List.getElem?_set_ne (Ne.symm e)]
    rw[e2];exact Sub.refl _
  .have O:i<N:=by simpa using O
   have e1:(((List.range N).map s.den.t).map (AP id [(0,k)])).getD i .dead=AP id [(0,k)] ((s.t i).v s.r):=by simp[O,St.den]
   rw[e1,AX O];exact hk (s.t i)
 .have hne:id'≠id:=by
   rintro rfl
   rw[hr]at U;cases U
  simp only[gDE,List.getElem?_set_ne (Ne.symm hne)]
def OL(id:Nat):List Nat->St->Option St
 |[],s=>some s
 |k::l,s=>match Ab6 id k s with
  |some s'=>OL id l s'
  |none=>none
def Kh{C:Ctx}{N:Nat}{id:Nat}{a:Act}{w:World}:∀(l:List Nat) {s s':St},OL id l s=some s'->AU C N s.den a w->AU C N s'.den a w/\Kp (λ_=>true) s s'
 |[],s,s',h,e=>by cases h;exact⟨e,Kp.refl _ _⟩
 |k::l,s,s',h,e=>by
  unfold OL at h;split at h
  case h_2=>cases h
  rename_i s1 B;obtain⟨g1,g2⟩:=Zg B e;obtain⟨M,L⟩:=Kh l h g1;exact⟨M,g2.trans L (λ_ _=>rfl) λ_ _=>rfl⟩
def frzO(E:Env)(s:St)(o:Oper):Option St:=match o.op,o.dst with
 |.load t (.tmp z),some d=>bif E.h.fz.contains (4000000+d)then(match s.t z,E.Θ.look t with
  |.one (.rp id [] 0 k),some i=>OL id ((List.range i.ty.w).map λj=>k+j) s
  |_,_=>some s)else some s
 |.move (.tmp z),some d=>bif E.h.fz.contains (6000000+d)then(match s.t z with
  |.one (.rf id [])=>OJ id s
  |_=>some s)else some s
 |_,_=>some s
theorem Ab5(h:frzO E s o=some s')(M:AU C N s.den a w):AU C N s'.den a w/\Kp (λ_=>true) s s':=by
 have B:some s=some s'->AU C N s'.den a w/\Kp (λ_=>true) s s':=λe=>by cases e;exact⟨M,Kp.refl _ _⟩
 unfold frzO at h;split at h
 case h_3=>exact B h
 case h_2=>
  rename_i z d _ _;cases L:E.h.fz.contains (6000000+d)with
  |false=>rw[L]at h;exact B h
  |true=>
   rw[L]at h;simp only[cond_true]at h;split at h
   .exact⟨Xt h M,Xu h⟩
   .exact B h
 rename_i t z d _ _;cases L:E.h.fz.contains (4000000+d)with
 |false=>rw[L]at h;exact B h
 |true=>
  rw[L]at h;simp only[cond_true]at h;split at h
  .exact Kh _ h M
  .exact B h
def frzP(E:Env)(s:St)(o:Oper):Option St:=match o.op with
 |.store t (.tmp z) _=>bif E.h.fz.contains (5000000+z)then(match s.t z,E.Θ.look t with
  |.one (.rp id [] 0 k),some i=>OL id ((List.range i.ty.w).map λj=>k+j) s
  |_,_=>some s)else some s
 |_=>some s
theorem Ab4(h:frzP E s o=some s')(L:AU C N s.den a w):AU C N s'.den a w/\Kp (λ_=>true) s s':=by
 have B:some s=some s'->AU C N s'.den a w/\Kp (λ_=>true) s s':=λe=>by cases e;exact⟨L,Kp.refl _ _⟩
 unfold frzP at h;split at h
 case h_2=>exact B h
 rename_i t z _ _;cases M:E.h.fz.contains (5000000+z)with
 |false=>rw[M]at h;exact B h
 |true=>
  rw[M]at h;simp only[cond_true]at h;split at h
  .exact Kh _ h L
  .exact B h
end Go.Ve


namespace Go.Ve
variable{p p':AW}{a:Act}{C:Ctx}{J:List Nat}{i id j j' k k':Nat}{o:Oper}{P:Program}{s:St}{w:World}
def J0(t:Ty)(d:Nat)(l:List Cl):Option t.T:=IG t d (l.map (fit d))
theorem DY{t:Ty}{d:Nat}{l:List Cl}{x:t.T}(h:J0 t d l=some x)(r:List Ac):CG (l.map (Cl.v r)) (tyV t d x)/\l.map (Cl.v r)=l.map Cl.v0:=by
 have:=Dj h r
 have B:(l.map (fit d)).map (Cl.v r)=l.map (Cl.v r):=by
  rw[List.map_map];exact List.map_congr_left λc _=>(Ab8 d r c).1
 have e:(l.map (fit d)).map Cl.v0=l.map Cl.v0:=by
  rw[List.map_map];exact List.map_congr_left λc _=>(Ab8 d r c).2
 grind
def Ab9:List CM->List Cl->List (Nat×Nat)
 |.r i _ _ _::l,.rp id _ _ _::ys=>(i,id)::Ab9 l ys
 |_::l,_::ys=>Ab9 l ys
 |_,_=>[]
def Zj:List AM->List (Option Sl)->List (Nat×Nat)
 |.r i _ _ _::l,some (.one (.rp id _ _ _))::ys=>(i,id)::Zj l ys
 |.k _ c::l,some (.pk _ cs)::ys=>Ab9 c cs++Zj l ys
 |_::l,_::ys=>Zj l ys
 |_,_=>[]
def idOf(i:Nat):List (Nat×Nat)->Nat
 |[]=>0
 |a::l=>bif Nat.beq a.1 i then a.2 else idOf i l
def Acu(J:List Nat)(i:Nat)(p:AW)(j k id:Nat)(p':AW)(j' k':Nat):Bool:=Nat.blt i J.length&&Nat.beq (J.getD i 0) id&&eqP p p'&&Nat.beq j j'&&Nat.beq k k'
def UQ(J:List Nat):(l:List CM)->List Cl->Option (CsM l).T
 |[],[]=>some ()
 |.p t::l,y::ys=>match DZ t 0 y with
  |some x=>match UQ J l ys with
   |some z=>some (x,z)
   |none=>none
  |none=>none
 |.r i p j k::l,.rp id p' j' k'::ys=>bif Acu J i p j k id p' j' k' then UQ J l ys else none
 |_,_=>none
def Jh(s:St)(J:List Nat):(l:List AM)->List (Option Sl)->Option (PM l).T
 |[],[]=>some ()
 |.p b t::l,y::ys=>bif uok y then(match Jg s b t y with
  |some x=>match Jh s J l ys with
   |some z=>some (x,z)
   |none=>none
  |none=>none)else none
 |.r i p j k::l,some (.one (.rp id p' j' k'))::ys=>bif Acu J i p j k id p' j' k' then Jh s J l ys else none
 |.k g c::l,some (.pk (.cl g') cs)::ys=>bif Nat.beq g g' then(match UQ J c cs with
  |some x=>match Jh s J l ys with
   |some z=>some (x,z)
   |none=>none
  |none=>none)else none
 |_,_=>none
def YJ(s:St):(ts:List (Nat×Ty))->List Nat->Option (TM ts).T
 |[],[]=>some ()
 |p::l,id::J=>match s.r.getD id .dead with
  |.obj false c=>match J0 p.2 p.1 c with
   |some x=>match YJ s l J with
    |some z=>some (x,z)
    |none=>none
   |none=>none
  |_=>none
 |_,_=>none
def AcA(J:List Nat)(id:Nat)(q:AW):Bool:=J.contains id&&match q with
 |[]=>false
 |_=>true
def Og:List Nat->List Ac->List Ac->List Ac
 |j::J,v::vs,r=>Og J vs (r.set j v)
 |_,_,r=>r
structure O7 where
 α:Type
 o:Option α
 y:α->Sl
 st:α->St
def Q3(e:EnM)(ys:List (Option Sl)):List Nat:=(List.range e.S.ts.length).map λi=>idOf i (Zj e.S.ps ys)
def Mh(e:EnM)(s:St)(ys:List (Option Sl)):Option O7:=bif ndB (Q3 e ys)&&Hj e.S.rs then(match Jh s (Q3 e ys) e.S.ps ys,YJ s e.S.ts (Q3 e ys)with
  |some z,some x=>some ⟨(RT e.S.rs).T×(TM e.S.ts).T,e.g z x,λu=>Nl true e.S.rs u.1,λu=>⟨λi=>(s.t i).killP (AcA (Q3 e ys)),Og (Q3 e ys) (Bd e.S.ts u.2) s.r⟩⟩
  |_,_=>none)else none
def K8:List EnM->St->FuncId->List (Option Sl)->Option O7
 |[],_,_,_=>none
 |e::M,s,f,ys=>bif Nat.beq e.f f then(match Mh e s ys with
  |some A=>some A
  |none=>K8 M s f ys)else K8 M s f ys
def Acj(s:St):Op->Option (FuncId×List (Option Sl))
 |.call c=>match c.callee with
  |.value (.func f)=>some (f,c.args.toList.map s.ev)
  |.value (.tmp y)=>match s.t y with
   |.pk (.cl g) cs=>bif Nat.blt g 1000000 then some (g,c.args.toList.map s.ev++cs.map λc=>some (.one c))else none
   |_=>none
  |_=>none
 |_=>none
def AbF(M:List EnM)(h:Cz)(s:St)(o:Oper):Option O7:=match M with
 |[]=>none
 |M=>bif(match o.dst with
  |some d=>Nat.blt d h.n&& !h.fz.contains d
  |none=>true)then(match Acj s o.op with
  |some (f,ys)=>K8 M s f ys
  |none=>none)else none
def NE{s:St}{f:FuncId}{ys:List (Option Sl)}{A:O7}:∀{M:List EnM},K8 M s f ys=some A->∃e∈M,e.f=f/\Mh e s ys=some A
 |[],h=>by cases h
 |e::M,h=>by
  have back:K8 M s f ys=some A->∃B∈e::M,B.f=f/\Mh B s ys=some A:=λh=>by
   obtain⟨B,W,U⟩:=NE h;exact⟨B,mCM _ W,U⟩
  unfold K8 at h;cases L:Nat.beq e.f f with
  |false=>rw[L]at h;exact back h
  |true=>
   rw[L]at h;simp only[cond_true]at h;split at h
   .rename_i A' O
    cases h;exact⟨e,List.mem_cons_self ..,bqE L,O⟩
   .exact back h
def refB_v(h:Acu J i p j k id p' j' k'=true):i<J.length/\J.getD i 0=id/\p=p'/\j=j'/\k=k':=by
 unfold Acu at h;simp only[bAE]at h;exact⟨blE h.1.1.1.1,bqE h.1.1.1.2,OR _ _ h.1.1.2,bqE h.1.2,bqE h.2⟩
def WF{s:St}:∀{ts:List (Nat×Ty)}{J:List Nat}{x:(TM ts).T},YJ s ts J=some x->J.length=ts.length/\∀k,k<J.length->∃(t:Ty) (l:List Cl),s.r.getD (J.getD k 0) .dead=.obj false l/\l.length=t.w/\Sub (s.r.getD (J.getD k 0) .dead).v ((Bd ts x).getD k .dead).v/\∀e:(TM ts).T,∃L:List Cl,(Bd ts e).getD k .dead=.obj false L/\L.length=t.w
 |[],[],x,_=>⟨rfl,λk B=>by simp at B⟩
 |p::ts,id::J,x,h=>by
  unfold YJ at h;split at h
  case h_2=>cases h
  rename_i c M;split at h
  case h_2=>cases h
  rename_i y U;split at h
  case h_2=>cases h
  rename_i z O;cases h;obtain⟨h1,Z⟩:=WF O;obtain⟨g1,g2⟩:=DY U [];rw[g2]at g1;have W:c.length=p.2.w:=by
   have:=g1.len;rw[List.length_map,AB]at this;exact this
  refine⟨by simp[h1],λk B=>?_⟩
  cases k with
  |zero=>
   refine⟨p.2,c,M,W,?_,λe=>⟨AA p.2 p.1 e.1,rfl,LH _ _ _⟩⟩
   show Sub (s.r.getD id .dead).v (Bi true ((AA p.2 p.1 y).map Cl.v0));rw[M,Bv];exact CG.obj g1
  |succ k=>
   obtain⟨t,l,k1,k2,k3,k4⟩:=Z k (by simpa using B)
   exact⟨t,l,k1,k2,k3,λe=>k4 e.2⟩
 |[],_::_,_,h=>by cases h
 |_::_,[],_,h=>by cases h
def WO:∀(J:List Nat) (e r:List Ac),(Og J e r).map Ac.v=HH J (e.map Ac.v) (r.map Ac.v)
 |j::J,v::e,r=>by
  show(Og J e (r.set j v)).map Ac.v=HH J (e.map Ac.v) ((r.map Ac.v).set j v.v);rw[WO J e,List.map_set]
 |[],_,_=>rfl
 |_::_,[],_=>rfl
def QB:∀(J:List Nat) (e r:List Ac),(Og J e r).length=r.length
 |j::J,v::e,r=>by
  show(Og J e (r.set j v)).length=_;rw[QB J e];simp
 |[],_,_=>rfl
 |_::_,[],_=>rfl
def PB:∀(J:List Nat) (e r:List Ac) (i:Nat),i∉J->(Og J e r).getD i .dead=r.getD i .dead
 |j::J,v::e,r,i,h=>by
  simp only[List.mem_cons,not_or]at h;show(Og J e (r.set j v)).getD i .dead=_;rw[PB J e _ i h.2,Iv (Ne.symm h.1)]
 |[],_,_,_,_=>rfl
 |_::_,[],_,_,_=>rfl
def Of:∀(J:List Nat) (B r:List Ac) (i:Nat),(∀v∈B,v.len=1)->(∀j∈J,(r.getD j .dead).len=1)->((Og J B r).getD i .dead).len=(r.getD i .dead).len
 |j::J,v::B,r,i,h,hj=>by
  show((Og J B (r.set j v)).getD i .dead).len=_
  have e:∀k,((r.set j v).getD k .dead).len=(r.getD k .dead).len:=by
   intro k;by_cases M:k=j
   .subst M
    rw[hj k (List.mem_cons_self ..)];rcases Nat.lt_or_ge k r.length with L|L
    .have:(r.set k v).getD k .dead=v:=by simp[L]
     rw[this];exact h v (List.mem_cons_self ..)
    .have:=hj k (List.mem_cons_self ..)
     rw[gDE,List.getElem?_eq_none L]at this;cases this
   .rw[Iv (Ne.symm M)]
  rw[Of J B _ i (λv O=>h v (mCM _ O)) (λk L=>by rw[e];exact hj k (mCM _ L)),e]
 |[],_,_,_,_,_=>rfl
 |_::_,[],_,_,_,_=>rfl
section
variable {s:St}{σ0:List V}{ρ ρ0:Nat->Value}{w:World}{D:Nat->Prop}{J:List Nat}
def slM_v(b:Bool)(t:Ty)(x:t.T):(slM b t x).v []=vOf b t 0 x:=by
 cases b with
 |true=>show Aj ((AA t 0 x).map (Cl.v []))=_;rw[Cl.v_c];rfl
 |false=>rfl
def Wy(H:∀i p j k cv,i<J.length->Am (s.r.map Ac.v) ρ w (.rp (J.getD i 0) p j k) cv->Am σ0 ρ0 w (.rp i p j k) cv)(h:Acu J i p j k id p' j' k'=true){cv:Value}(e:Rel D w (Am (s.r.map Ac.v) ρ w) (.rp id p' j' k') cv noF):Rel D w (Am σ0 ρ0 w) (.rp i p j k) cv noF:=by
 obtain⟨B,rfl,rfl,rfl,rfl⟩:=refB_v h;exact⟨H _ _ _ _ _ B e.1,λ_ h=>h⟩
theorem Pv(H:∀i p j k cv,i<J.length->Am (s.r.map Ac.v) ρ w (.rp (J.getD i 0) p j k) cv->Am σ0 ρ0 w (.rp i p j k) cv):∀(l:List CM) (ys:List Cl) (x:(CsM l).T),UQ J l ys=some x->
  (M8 l x).length=ys.length/\∀i cv,i<ys.length->Rel D w (Am (s.r.map Ac.v) ρ w) ((ys.getD i .dead).v s.r) cv noF->Rel D w (Am σ0 ρ0 w) (((M8 l x).getD i .dead).v []) cv noF
 |[],[],x,_=>⟨rfl,λi cv B _=>by simp at B⟩
 |.p t::l,y::ys,x,h=>by
  unfold UQ at h;split at h
  case h_2=>cases h
  rename_i L Z;split at h
  case h_2=>cases h
  rename_i z W;cases h;obtain⟨g1,g2⟩:=Pv H l ys z W;refine⟨congrArg (· +1) g1,λi cv B e=>?_⟩
  cases i with
  |zero=>
   have M:clean ((Cl.c t 0 L).v s.r):=Cl.clean_v (by cases t<;>rfl)
   have U:=Rel.sub (J1 Z s.r).1 e;exact Rel.clean _ _ _ _ _ M U
  |succ i=>exact g2 i cv (by simpa using B) e
 |.r i0 p j k::l,y::ys,x,h=>by
  cases y with
  |rp id p' j' k'=>
   have h:(bif Acu J i0 p j k id p' j' k' then UQ J l ys else none)=some x:=h;obtain⟨O,h⟩:=A7 h;obtain⟨g1,g2⟩:=Pv H l ys _ h;refine⟨congrArg (· +1) g1,λi cv B e=>?_⟩
   cases i with
   |zero=>exact Wy H O e
   |succ i=>exact g2 i cv (by simpa using B) e
  |_=>cases h
 |[],_::_,_,h=>by cases h
 |.p _::_,[],_,h=>by cases h
 |.r _ _ _ _::_,[],_,h=>by cases h
theorem DV:∀(l:List AM) (ys:List (Option Sl)) (z:(PM l).T),Jh s J l ys=some z->(Jj l z).length=ys.length
 |[],[],_,_=>rfl
 |.p b t::l,y::ys,z,h=>by
  unfold Jh at h;obtain⟨_,h⟩:=A7 h;split at h
  case h_2=>cases h
  split at h
  case h_2=>cases h
  rename_i z2 e;cases h;exact congrArg (· +1) (DV l ys z2 e)
 |.r i p j k::l,some (.one (.rp id p' j' k'))::ys,z,h=>by
  unfold Jh at h;obtain⟨_,h⟩:=A7 h;exact congrArg (· +1) (DV l ys z h)
 |.k g c::l,some (.pk (.cl g') cs)::ys,z,h=>by
  unfold Jh at h;obtain⟨_,h⟩:=A7 h;split at h
  case h_2=>cases h
  split at h
  case h_2=>cases h
  rename_i z2 e;cases h;exact congrArg (· +1) (DV l ys z2 e)
theorem Mp(H:∀i p j k cv,i<J.length->Am (s.r.map Ac.v) ρ w (.rp (J.getD i 0) p j k) cv->Am σ0 ρ0 w (.rp i p j k) cv):∀(l:List AM) (ys:List (Option Sl)) (z:(PM l).T),Jh s J l ys=some z->
  ∀i,i<ys.length->∃y,ys[i]? =some (some y)/\∀cv,Rel D w (Am (s.r.map Ac.v) ρ w) (y.v s.r) cv noF->Rel D w (Am σ0 ρ0 w) (((Jj l z).getD i (.one .dead)).v []) cv noF
 |[],[],_,_,i,hi=>by simp at hi
 |.p b t::l,y::ys,z,h,i,hi=>by
  unfold Jh at h;obtain⟨L,h⟩:=A7 h;split at h
  case h_2=>cases h
  rename_i M h1;split at h
  case h_2=>cases h
  rename_i z2 h2;cases h;cases i with
  |zero=>
   cases y with
   |none=>cases L
   |some y=>
    have L:(!y.lent&&y.notB)=true:=L;rw[bAE,Bool.not_eq_true']at L;obtain⟨g1,_,g3⟩:=ZL L.1 L.2 h1;refine⟨y,rfl,λcv U=>?_⟩
    show Rel D w (Am σ0 ρ0 w) ((slM b t M).v []) cv noF;rw[slM_v];exact Rel.sub g1 (Rel.clean _ _ _ _ _ g3 U)
  |succ i=>exact Mp H l ys z2 h2 i (by simpa using hi)
 |.r i0 p j k::l,some (.one (.rp id p' j' k'))::ys,z,h,i,hi=>by
  unfold Jh at h;obtain⟨hb,h⟩:=A7 h;cases i with
  |zero=>exact⟨_,rfl,λcv U=>Wy H hb U⟩
  |succ i=>exact Mp H l ys z h i (by simpa using hi)
 |.k g c::l,some (.pk (.cl g') cs)::ys,z,h,i,hi=>by
  unfold Jh at h;obtain⟨hb,h⟩:=A7 h;split at h
  case h_2=>cases h
  rename_i M h1;split at h
  case h_2=>cases h
  rename_i z2 h2;cases h;have hg:=bqE hb;subst hg;cases i with
  |zero=>
   refine⟨_,rfl,λcv U=>?_⟩
   obtain⟨g1,g2⟩:=Pv (D:=D) H c cs M h1;obtain⟨B,G,Z,hn,O,_,W⟩:=U;refine⟨B,λ_=>noF,Z,?_,λk e=>?_,λ_ _ _ _ _ _ h=>h.elim,λb=>⟨λh=>h.elim,fun⟨_,_,h⟩=>h⟩⟩
   .rw[hn,List.length_map,List.length_map]
    exact g1.symm
   .have e:k<cs.length:=by
     have e:k<((M8 c M).map (Cl.v [])).length:=e;rw[List.length_map,g1]at e;exact e
    have h3:=O k (by rw[List.length_map];exact e)
    show Rel D w (Am σ0 ρ0 w) (((M8 c M).map (Cl.v [])).getD k .dead) (B.getD k undef) noF;rw[AG (f:=Cl.v []) (a:=.dead) rfl];refine g2 k _ e ?_;have h4:Rel D w (Am (s.r.map Ac.v) ρ w) ((cs.map (Cl.v s.r)).getD k .dead) (B.getD k undef) (G k):=h3;rw[AG (f:=Cl.v s.r) (a:=.dead) rfl]at h4;exact Rel.fp_congr (λb=>⟨λh=>(W b).2 ⟨k,by rw[List.length_map];exact e,h⟩,λh=>h.elim⟩) h4
  |succ i=>exact Mp H l ys z2 h2 i (by simpa using hi)
end
theorem Zv{N:Nat}{f:FuncId}{ys:List (Option Sl)}(h:Acj s o.op=some (f,ys))(hc:Ai P f=true)(hs:AU C N s.den a w):
  ∃cvs,(execOp a.eval o).run P w=.ok (.enter f cvs) w/\cvs.size=ys.length/\∀D ρ F,CR C s.den.σ ((List.range N).map s.den.t) a.tmps w D ρ F->∀i y,ys[i]? =some (some y)->Rel D w (Am s.den.σ ρ w) (y.v s.r) (cvs.getD i undef) noF:=by
 obtain⟨_,hdd,D0,ρ0,F0,hcr0⟩:=hs
 have args:∀(xs:Array Operand) (cs:Array Value) D ρ F,CR C s.den.σ ((List.range N).map s.den.t) a.tmps w D ρ F->∀i y,(xs.toList.map s.ev)[i]? =some (some y)->Rel D w (Am s.den.σ ρ w) (y.v s.r) ((xs.map a.eval++cs).getD i undef) noF:=by
  intro xs cs D ρ F M i y L;rw[List.getElem?_map]at L;cases O:xs.toList[i]? with
  |none=>rw[O]at L;cases L
  |some x=>
   rw[O]at L;have L:s.ev x=some y:=by simpa using L
   have W:i<xs.size:=by
    have:=(List.getElem?_eq_some_iff.1 O).1;simpa using this
   have h1:=Bu M hdd x;rw[Bh L]at h1;have hxe:xs[i]=x:=by
    have:=(List.getElem?_eq_some_iff.1 O).2;simpa using this
   have e:(xs.map a.eval++cs).getD i undef=a.eval x:=by
    have hi':i<(xs.map a.eval).size:=by simpa using W
    simp[Array.getElem?_append_left hi',W,hxe]
   rw[e];exact h1
 unfold Acj at h;split at h
 case h_2=>cases h
 rename_i c hop;obtain⟨callee,xs,ats⟩:=c;split at h
 case h_3=>cases h
 .rename_i f' Z
  cases h;have Z:callee=.value (.func f):=Z;subst Z;refine⟨xs.map a.eval++ #[],Ic hop rfl hc,by simp,λD ρ F M i y L=>args xs #[] D ρ F M i y L⟩
 .rename_i y0 Z
  have Z:callee=.value (.tmp y0):=Z;subst Z;split at h
  case h_2=>cases h
  rename_i g cs hy0;obtain⟨hlt,h⟩:=A7 h;cases h
  have fv:∀D ρ F,CR C s.den.σ ((List.range N).map s.den.t) a.tmps w D ρ F->∃B:Array Value,a.eval (.tmp y0)=.func (.func f) #[] B/\B.size=cs.length/\∀k,k<cs.length->Rel D w (Am s.den.σ ρ w) ((cs.getD k .dead).v s.r) (B.getD k undef) noF:=by
   intro D ρ F M;have h1:=Bu M hdd (.tmp y0)
   have e:s.den.ev (.tmp y0)=(Sl.pk (.cl f) cs).v s.r:=by
    show(s.t y0).v s.r=_;rw[hy0]
   rw[e]at h1;obtain⟨B,G,U,hn,hrel,_,hfp⟩:=h1;have U:a.eval (.tmp y0)=XH f B:=U;rw[Ue hlt]at U;rw[List.length_map]at hn;refine⟨B,U,hn,λk hk=>?_⟩
   have h4:Rel D w (Am s.den.σ ρ w) ((cs.map (Cl.v s.r)).getD k .dead) (B.getD k undef) (G k):=hrel k (by rw[List.length_map];exact hk)
   rw[AG (f:=Cl.v s.r) (a:=.dead) rfl]at h4;exact Rel.fp_congr (λb=>⟨λh=>(hfp b).2 ⟨k,by rw[List.length_map];exact hk,h⟩,λh=>h.elim⟩) h4
  obtain⟨B,e1,e2,_⟩:=fv D0 ρ0 F0 hcr0;refine⟨xs.map a.eval++B,Ic hop e1 hc,by simp[e2],λD ρ F M i y L=>?_⟩
  by_cases W:i<xs.toList.length
  .rw[gAL (by simpa using W)]at L
   exact args xs B D ρ F M i y L
  .have W:xs.toList.length<=i:=Nat.le_of_not_lt W
   rw[gAR (by simpa using W)]at L
   obtain⟨cs1,e3,e4,e5⟩:=fv D ρ F M;rw[e1]at e3;cases e3;rw[List.getElem?_map]at L;cases O:cs[i-(xs.toList.map s.ev).length]? with
   |none=>rw[O]at L;cases L
   |some c=>
    rw[O]at L;have L:Sl.one c=y:=by simpa using L
    subst L;have hl:(xs.toList.map s.ev).length=xs.size:=by simp
    rw[hl]at O;have hk:=(List.getElem?_eq_some_iff.1 O).1;have h6:=e5 _ hk;have e7:cs.getD (i-xs.size) .dead=c:=by rw[gDE,O];rfl
    rw[e7]at h6
    have e8:(xs.map a.eval++B).getD i undef=B.getD (i-xs.size) undef:=by
     have h2:(xs.map a.eval).size<=i:=by simpa using W
     rw[Array.getD_eq_getD_getElem?,Array.getD_eq_getD_getElem?,Array.getElem?_append_right h2];simp
    rw[e8];exact h6
theorem YF{S S':Ms}(e:S'.σ.length=S.σ.length)(B:∀i,i<S.σ.length->Sub (S.σ.getD i .dead) (S'.σ.getD i .dead))(L:∀i,As (S.t i) (S'.t i))(h:Cz)(d:Option Nat)(r:V):
  (S'.res h d r).σ.length=(S.res h d r).σ.length/\(∀i,i<(S.res h d r).σ.length->Sub ((S.res h d r).σ.getD i .dead) ((S'.res h d r).σ.getD i .dead))/\∀i,As ((S.res h d r).t i) ((S'.res h d r).t i):=by
 have M:∀(d:Nat) (v:V) (i:Nat),As (AJ S.t d v i) (AJ S'.t d v i):=by
  intro d v i;unfold AJ;split
  .exact As.refl _
  .exact L i
 unfold Ms.res;cases d with
 |none=>exact⟨e,B,L⟩
 |some d=>
  simp only;split
  .split
   .exact⟨e,B,M d _⟩
   .rw[e]
    refine⟨by simp[e],λi U=>?_,M d _⟩
    by_cases O:i<S.σ.length
    .rw[AE O,AE (by omega)]
     exact B i O
    .simp only[gDE]
     rw[gAR (by omega),gAR (by omega),e]
     exact Sub.refl _
  .exact⟨e,B,L⟩
theorem Cl.killP_v{r r':List Ac}{M:V->V}{h:Nat->AW->Bool}(B:VC M (λid q=>h id q=false))(O:∀id q,h id q=false->(Ae r' id q).len=(Ae r id q).len)(y:Cl):As (M (y.v r)) ((y.killP h).v r'):=by
 cases y with
 |dead=>exact As.dead _
 |nil=>show As (M (.c _)) _;rw[B.m.c];exact As.refl _
 |nilp=>show As (M (.c _)) _;rw[B.m.c];exact As.refl _
 |nilf=>show As (M (.c _)) _;rw[B.m.c];exact As.refl _
 |nilm=>show As (M (.c _)) _;rw[B.m.c];exact As.refl _
 |c t d x=>
  have e:M (cV t d x)=cV t d x:=by
   cases t with
   |int k=>exact B.m.c _
   |bool=>exact B.m.c _
   |str=>exact B.m.c _
   |sl t=>exact B.m.nd _ _ _ _ _
   |ptr t=>exact B.m.nd _ _ _ _ _
   |unit=>exact B.m.dead
   |clo g u=>exact B.m.clo
   |osl u=>exact B.m.osl
   |mp a b=>exact B.m.mp _ _
   |pair a b=>exact B.m.dead
  show As (M (cV t d x)) (cV t d x);rw[e];exact As.refl _
 |rf id q=>
  show As (M (.rs id q 0 _)) ((bif h id q then Cl.dead else .rf id q).v r');cases L:h id q with
  |true=>exact As.dead _
  |false=>
   rw[B.rs id q _ _ L];show As _ (V.rs id q 0 (Ae r' id q).len);rw[O id q L];exact As.refl _
 |rs id q off len=>
  show As (M (.rs id q off len)) ((bif h id q then Cl.dead else .rs id q off len).v r');cases L:h id q with
  |true=>exact As.dead _
  |false=>rw[B.rs id q _ _ L];exact As.refl _
 |rm id q=>
  show As (M (.rm id q)) ((bif h id q then Cl.dead else .rm id q).v r');cases L:h id q with
  |true=>exact As.dead _
  |false=>rw[B.rm id q L];exact As.refl _
 |rp id q i k=>
  show As (M (.rp id q i k)) ((bif h id q then Cl.dead else .rp id q i k).v r');cases L:h id q with
  |true=>exact As.dead _
  |false=>rw[B.rp id q _ _ L];exact As.refl _
theorem Sl.killP_v{r r':List Ac}{M:V->V}{h:Nat->AW->Bool}(e:VC M (λid q=>h id q=false))(L:∀id q,h id q=false->(Ae r' id q).len=(Ae r id q).len)(y:Sl):As (M (y.v r)) ((y.killP h).v r'):=by
 have key:∀(l:List Cl) (k:Nat),As (((l.map (Cl.v r)).map M).getD k .dead) (((l.map (Cl.killP h)).map (Cl.v r')).getD k .dead):=by
  intro l k;rw[List.map_map,List.map_map];exact BJ (f:=λy=>M (y.v r)) (g:=λy=>(y.killP h).v r') e.m.dead rfl (λy=>Cl.killP_v e L y) k
 cases y with
 |one c=>exact Cl.killP_v e L c
 |new l=>
  show As (M (Bi true (l.map Cl.v0))) (Bi true (l.map Cl.v0));rw[show M (Bi true (l.map Cl.v0))=Bi true (l.map Cl.v0)from e.m.nd _ _ _ _ _]
  exact As.refl _
 |agg l=>
  show As (M (Aj _)) (Aj _);rw[G_mk e.m];exact As.mk (by simp) λk _=>key l k
 |pk t l=>
  show As (M (pkL t _)) (pkL t _);rw[G_pk e.m];exact As.pk (by simp) λk _=>key l k
 |tup l=>
  show As (M (DH _)) (DH _);rw[Acn e.m];refine As.tup (by simp) λk B=>?_
  have B:k<l.length:=by simpa using B
  simp only[gDE,List.getElem?_map,gEE B,Option.map_some,Option.getD_some];generalize l[k]=p;obtain⟨b,m⟩:=p;cases b with
  |true=>
   show As (M (Aj (m.map (Cl.v r)))) (Aj ((m.map (Cl.killP h)).map (Cl.v r')));rw[G_mk e.m];exact As.mk (by simp) λk _=>key m k
  |false=>
   have:=key m 0;cases m with
   |nil=>show As (M .dead) .dead;exact As.dead _
   |cons y m=>simpa using this
theorem Q4{q:AW}(h:AcA J id q=false):¬ (id∈J/\q≠[]):=by
 rintro ⟨B,e⟩
 unfold AcA at h;rw[show J.contains id=true by simpa using B]at h
 cases q with
 |nil=>exact e rfl
 |cons a q=>cases h
def D6:∀{l:List Nat},ndB l=true->l.Nodup
 |[],_=>List.nodup_nil
 |a::l,h=>by
  have h:(!l.contains a&&ndB l)=true:=h;rw[bAE,Bool.not_eq_true']at h;refine List.nodup_cons.2 ⟨λe=>?_,D6 h.2⟩
  rw[show l.contains a=true by simpa using e]at h
  cases h.1
theorem YW{C:Ctx}{h:Cz}{s':St}{M:List EnM}{A:O7}{u:A.α}{a:Act}{w:World}{next:Act->World->Prop}{Q:Exit->Act->World->Prop}(hM:∀e∈M,e.OK P)(O:AbF M h s o=some A)(hu:A.o=some u)(hp:(A.st u).put h o.dst (A.y u)=some s')
  (hs:AU C h.n s.den a w) (hn:∀a' w',Kp (λi=>decide (o.dst≠some i)) s s'->AU C h.n s'.den a' w'->next a' w'):o.wp P a w next Q:=by
 unfold AbF at O;split at O
 case h_1=>cases O
 obtain⟨hd,O⟩:=A7 O;split at O
 case h_2=>cases O
 rename_i f ys hf;obtain⟨e,he,rfl,h1⟩:=NE O;obtain⟨hcall,hft⟩:=hM e he;unfold Mh at h1;obtain⟨hb,h1⟩:=A7 h1;rw[bAE]at hb;split at h1
 case h_2=>cases h1
 rename_i z x hz hx;cases h1;have hu:e.g z x=some u:=hu;have hfc:=hft z x u hu;obtain⟨cvs,hrun,hcs,hrel⟩:=Zv hf hcall hs;obtain⟨r1,r2⟩:=WF hx;generalize Q3 e ys=J at*;have hmem:∀j∈J,∃k,k<J.length/\J.getD k 0=j:=λj W=>by
  obtain⟨k,B,rfl⟩:=List.getElem_of_mem W;exact⟨k,B,by simp[B]⟩
 have L:∀j∈J,∃l,s.r.getD j .dead=.obj false l:=λj W=>by
  obtain⟨k,B,rfl⟩:=hmem j W;obtain⟨t,l,k1,_⟩:=r2 k B;exact⟨l,k1⟩
 have hlt:∀j∈J,j<s.r.length:=λj W=>by
  obtain⟨l,hl⟩:=L j W;rcases Nat.lt_or_ge j s.r.length with h|h
  .exact h
  .rw[gDE,List.getElem?_eq_none h]at hl;cases hl
 have hg:∀(ts:List (Nat×Ty)) (x:(TM ts).T) (k:Nat),((Bd ts x).map Ac.v).getD k .dead=((Bd ts x).getD k .dead).v:=λts x k=>Aq _ _
 have hs0:∀k,k<J.length->Sub (s.den.σ.getD (J.getD k 0) .dead) (((Bd e.S.ts x).map Ac.v).getD k .dead):=λk B=>by
  obtain⟨t,l,_,_,k3,_⟩:=r2 k B;rw[hg];show Sub ((s.r.map Ac.v).getD (J.getD k 0) .dead) _;rw[Aq];exact k3
 have hl0:((Bd e.S.ts x).map Ac.v).length=J.length:=by rw[List.length_map,CJ,r1]
 have hσl:s.den.σ.length=s.r.length:=List.length_map ..;refine Zu hs hrun hfc hl0 hs0 (D6 hb.1) (λj W=>by rw[hσl];exact hlt j W) (by rw[List.length_map,CJ,r1]) (λk B=>?_) (by rw[hcs,List.length_map,DV _ _ _ hz]) (λD ρ F hcr i U=>?_) (λd hdd=>?_) λa' w' h2=>?_
 .obtain⟨t,l,k1,k2,_,k4⟩:=r2 k B
  obtain⟨l',k5,k6⟩:=k4 u.2;refine⟨false,t.w,1,λi k=>([l.map Cl.v0].getD i []).getD k .dead,λi k=>([l'.map Cl.v0].getD i []).getD k .dead,?_,?_⟩
  .show(s.r.map Ac.v).getD (J.getD k 0) .dead=_
   rw[Aq,k1];show Bi true (l.map Cl.v0)=_;unfold Bi;rw[List.length_map,k2]
  .rw[hg,k5]
   show Bi true (l'.map Cl.v0)=_;unfold Bi;rw[List.length_map,k6]
 .have U:i<ys.length:=by
   rw[List.length_map,DV _ _ _ hz]at U;exact U
  obtain⟨y,hy,h3⟩:=Mp (σ0:=(Bd e.S.ts x).map Ac.v) (ρ:=ρ) (ρ0:=λk=>ρ (J.getD k 0)) (w:=w) (D:=D) (λi p j k cv U hr=>by
   obtain⟨hid,s1,sz,n,f,b,o,cap,ha,r⟩:=hr;obtain⟨f',ha'⟩:=At.sub' (hs0 i U) ha;exact⟨by omega,s1,sz,n,f',b,o,cap,ha',r⟩) _ _ _ hz i U
  have:=h3 _ (hrel D ρ F hcr i y hy);rw[AG (f:=Sl.v []) (a:=.one .dead) rfl];exact this
 .rw[hdd]at hd
  simp only[bAE,Bool.not_eq_true']at hd;exact⟨blE hd.1,hd.2⟩
 .have Z:∀id q,AcA J id q=false->(Ae (Og J (Bd e.S.ts u.2) s.r) id q).len=(Ae s.r id q).len:=by
   intro id q hh;by_cases hid:id∈J
   .have hq:q=[]:=Classical.byContradiction λhq=>Q4 hh ⟨hid,hq⟩
    subst hq;refine Of J _ _ id (λv hv=>?_) λj W=>?_
    .obtain⟨k,B,rfl⟩:=List.getElem_of_mem hv
     have hk':k<e.S.ts.length:=by rw[CJ]at B;exact B
     obtain⟨t,l,_,_,_,k4⟩:=r2 k (by omega)
     obtain⟨l',k5,_⟩:=k4 u.2;have:(Bd e.S.ts u.2).getD k .dead=(Bd e.S.ts u.2)[k]:=by simp[B]
     rw[<-this,k5];rfl
    .obtain⟨l,hl⟩:=L j W
     rw[hl];rfl
   .unfold Ae
    rw[PB _ _ _ _ hid]
  have hy:=NQ (r:=Og J (Bd e.S.ts u.2) s.r) true e.S.rs u.1 hb.2;rw[Dx]at hy
  obtain⟨m1,m2,m3⟩:=YF (S:=s.den.turn J ((Bd e.S.ts u.2).map Ac.v)) (S':=St.den ⟨λi=>(s.t i).killP (AcA J),Og J (Bd e.S.ts u.2) s.r⟩) (by
    show((Og J (Bd e.S.ts u.2) s.r).map Ac.v).length=(HH J _ (s.r.map Ac.v)).length;rw[WO]) (λi _=>by
    show Sub ((HH J _ (s.r.map Ac.v)).getD i .dead) (((Og J (Bd e.S.ts u.2) s.r).map Ac.v).getD i .dead);rw[WO];exact Sub.refl _) (λi=>Sl.killP_v (Vf λid q hh=>Q4 hh) Z (s.t i)) h o.dst (NP e.S.rs u.1)
  have h3:=h2.sub m1 m2 m3;rw[<-hy]at h3;refine hn a' w' ?_ (AU.put hp h3)
  have k1:Kp (λ_=>true) s ⟨λi=>(s.t i).killP (AcA J),Og J (Bd e.S.ts u.2) s.r⟩:=by
   refine⟨λi _ U=>Sl.killP_stay U _,λid _ hro=>?_,?_⟩
   .refine PB _ _ _ _ λO=>?_
    obtain⟨l,hl⟩:=L id O;rw[hl]at hro;cases hro
   .show s.r.length<=(Og J (Bd e.S.ts u.2) s.r).length
    rw[QB];exact Nat.le_refl _
  exact k1.trans (Oe hp) (λ_ _=>rfl) λi U=>U
end Go.Ve

