/- The typed machine. -/
import Derived.Test.YtojjlnbnneemaaaTj
import Derived.Test.YtojjlnbnneemaaaTu
import Derived.Test.YtojjlnbnneemaaaVwa
open List(length_map range getElem?_set_ne getElem?_eq_none mem_cons_self mem_cons map_cons mem_map singleton_inj any_map map_map length_set length_append)
open Nat(beq ble beq_refl le_refl blt lt_or_ge not_lt one_pos)
open Bool(not_eq_true')
set_option linter.all false
namespace Go.Ve
variable{p:AX}{r r':Ae}{c:Cl}{h:Cy}{i id k:Nat}{g:Nat->Bool}{d:Option Nat}{v x:Option Sl}{ti:Option TI}{P:Program}{y:Sl}{s s' s1:St}{Θ:Tab}
theorem VF{C:Ctx}{N:Nat}(hΘ:Θ.OK P){s s':St}{o:Oper}{t:TypeId}{x v:Operand}{a:Act}{w:World}{next:Act->World->Prop}{Q:Exit->Act->World->Prop}
  (ho:o.op=.store t x v) (hdst:o.dst=none) (h:IA s (Θ.look t) (s.ev x) (s.ev v)=some s') (hs:AQ C N s.den a w) (hn:∀a' w',AQ C N s'.den a' w'->next a' w'):o.wp P a w next Q:=by
 obtain⟨hd,Z,D,ρ,F,u⟩:=hs;unfold IA at h;split at h
 case h_2=>cases h
 rename_i ti id p i k y hti hx hv;split at h
 case h_2=>cases h
 rename_i l hl;obtain⟨hb,h⟩:=Bc h;simp only[bAE]at hb;obtain⟨⟨h1,h2⟩,h3⟩:=hb;have h1:=bqE h1;have h2:=blE h2;have hnsz:=Cn h3;obtain⟨hpl,hcv,_⟩:=CT (r:=s.r) hl;obtain⟨d,tii,z,hdt,hit,hz,his,_⟩:=CX (hΘ.ty hti);simp only at his;have J:=BE u Z x;rw[Bf hx]at J;have J:Rel D w (Aq s.den.σ ρ w) (.rp id p i k) (a.eval x) noF:=J;obtain⟨s0,sz,n,f,b,o',cap,hid,ha,hi,hk,had,_,hns,_,_⟩:=Jn u.wr J.1;have hrv:=BE u Z v;rw[Bf hv]at hrv;obtain⟨⟨O,B⟩,_⟩:=Ch (λv cv h=>Aq.one h) hpl hrv
 rw[hcv]at O B;have hlen:(l.map (Cl.v s.r)).length=l.length:=length_map ..
 have hcr2:CR C s.den.σ ((range N).map s.den.t++ .rp id p i k::l.map (Cl.v s.r)) (a.tmps.toList++ .pointer (some ⟨b,(o'+i*sz)+k,none⟩)::(a.eval v).cells.toList).toArray w D ρ F:=by
  have U:a.tmps.size=N:=by simpa using u.sz
  refine⟨u.wr,by simp[U,O],λj hj=>?_,u.fr,u.Fn,u.D1,u.D2,u.rt,u.ml⟩
  by_cases W:j<N
  .rw[AD (by simpa using W)]
   have h1:=u.tm j (by simpa using W)
   have e:(a.tmps.toList++ .pointer (some ⟨b,(o'+i*sz)+k,none⟩)::(a.eval v).cells.toList).toArray.getD j undef=a.tmps.getD j undef:=by
    simp[gAL,U,W]
   rw[e];exact h1
  .obtain⟨m,rfl⟩:∃m,j=N+m:=⟨j-N,by omega⟩
   have e1:((range N).map s.den.t++ .rp id p i k::l.map (Cl.v s.r)).getD (N+m) .dead=(.rp id p i k::l.map (Cl.v s.r)).getD m .dead:=by
    simp[gAR]
   have e2:(a.tmps.toList++ .pointer (some ⟨b,(o'+i*sz)+k,none⟩)::(a.eval v).cells.toList).toArray.getD (N+m) undef=(.pointer (some ⟨b,(o'+i*sz)+k,none⟩)::(a.eval v).cells.toList).getD m undef:=by
    simp only[Array.getD_eq_getD_getElem?,List.getElem?_toArray,gDE];rw[gAR (by simp;omega)]
    simp[U]
   rw[e1,e2];cases m with
   |zero=>rw[had]at J;exact J
   |succ m=>
    simp at hj;have:=B m (by simpa using hj)
    simpa using this
 obtain⟨w',hrun,hdd',hcr3⟩:=Q4 (P:=P) l.length l (a.eval v).cells.toList 0 s s' w ρ F hcr2 (by simpa using u.sz) Z (by simpa using O) (by show k+0+l.length<=AW (s.r.map Ae.v) id p;rw[hnsz];omega) h
 have hsv:(storeVar t ⟨b,(o'+i*sz)+k,none⟩ (a.eval v)).run P w=.ok () w':=by
  simp only[storeVar,Sem.run_bind,sizeOf,typeInfo];have e:(a.eval v).cells.size=ti.ty.w:=by rw[O,hlen,h1]
  simp[hit,his,hrun,e]
 have hex:(execOp a.eval o).run P w=.ok .skip w':=by
  unfold execOp;rw[ho];simp[Instr.storeAt,had,Instr.sureAddr,hsv]
 unfold Oper.wp;rw[hex,Oper.upon_skip,hdst];exact hn a w' ⟨hd,hdd',hcr3⟩
structure PD where
 p:Prop
 dec:Decidable p
def WB:AX->AX->Option PD
 |[],[]=>some ⟨True,inferInstance⟩
 |(i,k)::p,(j,l)::q=>bif beq k l then(match WB p q with
  |some c=>some ⟨(i<=j/\j<=i)/\c.p,@instDecidableAnd _ _ inferInstance c.dec⟩
  |none=>none)else none
 |_,_=>none
def IV:∀(p q:AX) (c:PD),WB p q=some c->c.p->p=q
 |[],[],_,_,_=>rfl
 |(i,k)::p,(j,l)::q,c,h,hc=>by
  unfold WB at h;cases u:beq k l with
  |false=>grind
  |true=>
   rw[u]at h;split at h
   case h_2=>grind
   rename_i c' B;cases h;rw[bqE u,IV p q c' B hc.2,Nat.le_antisymm hc.1.1 hc.1.2]
 |[],_::_,_,h,_=>by cases h
 |_::_,[],_,h,_=>by cases h
structure PtR where
 p:Prop
 dec:Decidable p
 s:St
variable{A:PtR}
def VM(s:St):Option TI->Option Sl->Option Sl->Option PtR
 |some ti,some (.one (.rp id p i k)),some (.one (.rs id' q off len))=>bif beq id' id&&beq ti.ty.w 1&&ble (k+1) (Ag s.r id p).w&&(Ag s.r id p).live then(match WB q (p++[(i,k)])with
  |some c=>match Ag s.r id q with
   |.arr false t d xs=>match(s.r.getD id .dead).setAt p i k (.c (.sl t) (d+1) (Oq off len xs t.dflt))with
    |some r0=>some ⟨c.p,c.dec,⟨λx=>(s.t x).kill id ((p++[(i,k)]).map (·.2)) [],s.r.set id r0⟩⟩
    |none=>none
   |_=>none
  |none=>none)else none
 |_,_,_=>none
theorem Yq{C:Ctx}{N:Nat}(hΘ:Θ.OK P){s:St}{o:Oper}{t:TypeId}{x v:Operand}{a:Act}{w:World}{next:Act->World->Prop}{Q:Exit->Act->World->Prop}{A:PtR}
  (ho:o.op=.store t x v) (hdst:o.dst=none) (h:VM s (Θ.look t) (s.ev x) (s.ev v)=some A) (hp:A.p) (hs:AQ C N s.den a w) (hn:∀a' w',AQ C N A.s.den a' w'->next a' w'):o.wp P a w next Q:=by
 obtain⟨hd,hdd,D,ρ,F,B⟩:=hs;unfold VM at h;split at h
 case h_2=>cases h
 rename_i ti id p i k id' q off len hti hx hv;obtain⟨hb,h⟩:=Bc h;simp only[bAE]at hb;obtain⟨⟨⟨h0,h1⟩,h2⟩,h3⟩:=hb;have h0:=bqE h0;subst h0;have h1:=bqE h1;have h2:=blE h2;split at h
 case h_2=>cases h
 rename_i c hc;split at h
 case h_2=>cases h
 rename_i u d xs hnode;split at h
 case h_2=>cases h
 rename_i r0 hset;cases h;obtain rfl:=IV _ _ _ hc hp;have hnsz:=Cn h3;obtain⟨d1,tii,z,hdt,hity,hz,his,_⟩:=CX (hΘ.ty hti);simp only at his;have O:=BE B hdd x;rw[Bf hx]at O;have O:Rel D w (Aq s.den.σ ρ w) (.rp id' p i k) (a.eval x) noF:=O;obtain⟨s0,sz,n,f,b,o',cap,hid,ha,hi,hk,had,_,hns,_,_⟩:=Jn B.wr O.1;have U:=BE B hdd v;rw[Bf hv]at U;have U:Rel D w (Aq s.den.σ ρ w) (.rs id' (p++[(i,k)]) off len) (a.eval v) noF:=U;have hone:(a.eval v).oneCell'=true:=Aq.one U.1;have Z:a.tmps.size=N:=by simpa using B.sz
 have hcr2:CR C s.den.σ ((range N).map s.den.t++V.rp id' p i k::[V.rs id' (p++[(i,k)]) off len]) (a.tmps.toList++Value.pointer (some ⟨b,(o'+i*sz)+k,none⟩)::[a.eval v]).toArray w D ρ F:=by
  refine⟨B.wr,by simp[Z],λj hj=>?_,B.fr,B.Fn,B.D1,B.D2,B.rt,B.ml⟩
  by_cases hjt:j<N
  .rw[AD (by simpa using hjt)]
   have h1:=B.tm j (by simpa using hjt)
   have e:(a.tmps.toList++Value.pointer (some ⟨b,(o'+i*sz)+k,none⟩)::[a.eval v]).toArray.getD j undef=a.tmps.getD j undef:=by
    simp[gAL,Z,hjt]
   rw[e];exact h1
  .obtain⟨m,rfl⟩:∃m,j=N+m:=⟨j-N,by omega⟩
   have e1:((range N).map s.den.t++V.rp id' p i k::[V.rs id' (p++[(i,k)]) off len]).getD (N+m) .dead=([V.rp id' p i k,V.rs id' (p++[(i,k)]) off len]:List V).getD m .dead:=by
    simp[gAR]
   have e2:(a.tmps.toList++Value.pointer (some ⟨b,(o'+i*sz)+k,none⟩)::[a.eval v]).toArray.getD (N+m) undef=([Value.pointer (some ⟨b,(o'+i*sz)+k,none⟩),a.eval v]:List Value).getD m undef:=by
    simp only[Array.getD_eq_getD_getElem?,List.getElem?_toArray,gDE];rw[gAR (by simp;omega)]
    simp[Z]
   rw[e1,e2];simp at hj
   match m with
   |0=>rw[had]at O;exact O
   |1=>exact U
   |m+2=>omega
 have hnode2:sub (p++[(i,k)]) (s.den.σ.getD id' .dead)=arr true u.w (tyV u d) u.dflt xs:=by
  have:=AV (r:=s.r) (id:=id') (p:=p++[(i,k)]) (by rw[hnode];simp)
  rw[hnode]at this;exact this
 obtain⟨X,hX⟩:∃X:V,X=.nd true true u.w len λa b=>(tyV u d (xs.getD (a+off) u.dflt)).getD b .dead:=⟨_,rfl⟩
 have hput:LY id' p i k (.rs id' (p++[(i,k)]) off len) [] s.den.σ (λcs' σ2 G2=>σ2=s.den.σ.set id' (upd (p++[(i,k)]) (s.den.σ.getD id' .dead) X)/\G2=AJ id' (p++[(i,k)])):=by
  unfold LY;simp only[hnode2,arr];rw[if_pos ⟨trivial,trivial⟩];refine⟨?_,trivial⟩;rw[hX]
 obtain⟨G2,σ2,b1,o1,ρ1,F1,⟨y,hy⟩,hfz,h1c,⟨ofs,had1,hoff⟩,hGm,⟨hσ2,hGG⟩,hns1,hcr1⟩:=Id hcr2 (by simpa using Z) (by show k<AW (s.r.map Ae.v) id' p;rw[hnsz];omega) hput
 subst hσ2;subst hGG;simp only[Value.pointer.injEq,Option.some.injEq,Addr.mk.injEq,and_true]at had1;obtain⟨rfl,had1⟩:=had1;obtain rfl:ofs=o'+i*sz:=by omega
 have hidr:id'<s.r.length:=by simpa [St.den]using hid
 have hG:GOK (AJ id' (p++[(i,k)])) id' ((p++[(i,k)]).map (·.2)) []:=GOK.kill
 have hlen:∀W q2,hit id' ((p++[(i,k)]).map (·.2)) [] W q2=false->(Ag (s.r.set id' r0) W q2).len=(Ag s.r W q2).len:=by
  intro W q2 hh;by_cases he:W=id'
  .subst he
   rw[BR hidr];refine JF p _ _ hset q2 ?_;cases hp2:pre ((p++[(i,k)]).map (·.2)) q2 with
   |false=>rfl
   |true=>
    unfold hit at hh;rw[beq_refl,hp2]at hh;cases hh
  .rw[Bn he]
 have hsub:∀j,Sub ((s.den.σ.set id' (upd (p++[(i,k)]) (s.den.σ.getD id' .dead) X)).getD j .dead) (((s.r.set id' r0).map Ae.v).getD j .dead):=λj=>by
  refine CD ?_ j;show Sub (upd (p++[(i,k)]) ((s.r.map Ae.v).getD id' .dead) X) r0.v;rw[Ax];refine Hu ?_ p _ _ hset;rw[hX];show Sub _ (arr true u.w (tyV u d) u.dflt (Oq off len xs u.dflt));unfold arr;have hl:(Oq off len xs u.dflt).length=len:=by simp[Oq]
  rw[hl];refine⟨_,rfl,λa2 b2 ha2 hb2=>?_⟩
  have e:(Oq off len xs u.dflt).getD a2 u.dflt=xs.getD (a2+off) u.dflt:=by
   simp[Oq,ha2,Nat.add_comm]
  rw[e];exact Sub.refl _
 have hs':AQ C N (St.den ⟨λx=>(s.t x).kill id' ((p++[(i,k)]).map (·.2)) [],s.r.set id' r0⟩) a (w.setCell ⟨b,o1,none⟩ (a.eval v)):=by
  have kv:=λj=>Sl.kill_v hG hlen (s.t j)
  refine⟨hd,λj hj=>?_,D,ρ1,F1,?_⟩
  .have h2:(s.t j).v s.r=.dead:=hdd j hj
   have h1:=kv j;rw[h2,hG.m.dead]at h1;exact Ay.of_dead h1
  .have hcr3:=hcr1.left (by simpa using Z)
   have e3:(a.tmps.toList).toArray=a.tmps:=by simp
   rw[e3]at hcr3;refine hcr3.sub (by simp[St.den]) (λj _=>hsub j) (by simp) λj hj=>?_
   have hj:j<N:=by simpa using hj
   have:=kv j;simpa [hj,St.den]using this
 have hsv:(storeVar t ⟨b,(o'+i*sz)+k,none⟩ (a.eval v)).run P w=.ok () (w.setCell ⟨b,o1,none⟩ (a.eval v)):=by
  have J:(a.eval v).cells.toList=[a.eval v]:=by
   have:=(Rel.cells1 U (λ_ _ h=>Aq.one h) rfl).1
   rw[this]
  simp only[storeVar,Sem.run_bind,sizeOf,typeInfo];have e:(a.eval v).cells.size=ti.ty.w:=by rw[h1,<-Array.length_toList,J];rfl
  have ea:(⟨b,(o'+i*sz)+k,none⟩:Addr).add 0=⟨b,o1,none⟩:=by rw[AZ rfl,hoff];rfl
  have hrun:(storeCells ⟨b,(o'+i*sz)+k,none⟩ (a.eval v).cells.toList 0).run P w=.ok () (w.setCell ⟨b,o1,none⟩ (a.eval v)):=by
   rw[J];simp only[storeCells,Sem.run_bind,ea];rw[run_store P w _ _ .plain hone,hy];simp only[hfz,Bool.false_eq_true,if_false];rfl
  simp[hity,his,hrun,e]
 have hex:(execOp a.eval o).run P w=.ok .skip (w.setCell ⟨b,o1,none⟩ (a.eval v)):=by
  unfold execOp;rw[ho];simp[Instr.storeAt,had,Instr.sureAddr,hsv]
 unfold Oper.wp;rw[hex,Oper.upon_skip,hdst];exact hn a _ hs'
def Cl.stay:Cl->Bool
 |.rf _ _=>false
 |.rs _ _ _ _=>false
 |.rp _ _ _ _=>false
 |.rm _ _=>false
 |_=>true
def Sl.stay:Sl->Bool
 |.one y=>y.stay
 |.new _=>true
 |.agg l=>l.all Cl.stay
 |.pk _ l=>l.all Cl.stay
 |.tup l=>l.all λp=>p.2.all Cl.stay
theorem AS{α:Type}{f:α->α}{l:List α}(h:∀y∈l,f y=y):l.map f=l:=by
 have:=List.map_congr_left h
 simp_all
theorem Sl.chk_stay(h:y.stay=true)(m:Nat):y.chk m=y:=by
 have c1:∀y:Cl,y.stay=true->y.chk m=y:=by intro y h;cases y<;>first|rfl|cases h
 cases y with
 |one y=>exact congrArg Sl.one (c1 y h)
 |new l=>rfl
 |agg l=>exact congrArg Sl.agg (AS λy u=>c1 y (aET.1 h y u))
 |pk t l=>exact congrArg (Sl.pk t) (AS λy u=>c1 y (aET.1 h y u))
 |tup l=>
  refine congrArg Sl.tup (AS λp B=>?_)
  obtain⟨b,m⟩:=p;exact congrArg (Prod.mk b) (AS λy u=>c1 y (aET.1 (aET.1 h _ B) y u))
theorem Sl.kill_stay(h:y.stay=true)(id:Nat)(ks:List Nat)(j:Mv):y.kill id ks j=y:=by
 have c1:∀y:Cl,y.stay=true->y.kill id ks j=y:=by intro y h;cases y<;>first|rfl|cases h
 cases y with
 |one y=>exact congrArg Sl.one (c1 y h)
 |new l=>rfl
 |agg l=>exact congrArg Sl.agg (AS λy u=>c1 y (aET.1 h y u))
 |pk t l=>exact congrArg (Sl.pk t) (AS λy u=>c1 y (aET.1 h y u))
 |tup l=>
  refine congrArg Sl.tup (AS λp B=>?_)
  obtain⟨b,m⟩:=p;exact congrArg (Prod.mk b) (AS λy u=>c1 y (aET.1 (aET.1 h _ B) y u))
def Ae.isRo:Ae->Bool
 |.obj ro _=>ro
 |.arr ro _ _ _=>ro
 |.opt ro _ _ _=>ro
 |.mp ro _ _ _=>ro
 |.dead=>true
theorem MA{u:Ae}{q:AX}(h:MB r q=some u):r.isRo=false:=by
 unfold MB at h;split at h
 case h_2=>grind
 split at h
 case h_3=>grind
 .rfl
 rfl
structure Kp(g:Nat->Bool)(s s':St):Prop where
 t:∀i,g i=true->(s.t i).stay=true->s'.t i=s.t i
 r:∀id,id<s.r.length->(s.r.getD id .dead).isRo=true->s'.r.getD id .dead=s.r.getD id .dead
 l:s.r.length<=s'.r.length
def Kp.refl(g:Nat->Bool)(s:St):Kp g s s:=⟨λ_ _ _=>rfl,λ_ _ _=>rfl,le_refl _⟩
theorem Kp.trans{g1 g2:Nat->Bool}{W:St}(u:Kp g1 s s1)(U:Kp g2 s1 W)(O:∀i,g i=true->g1 i=true)(J:∀i,g i=true->g2 i=true):Kp g s W:=by
 refine⟨λi hi hs=>?_,λid Z B=>?_,Nat.le_trans u.l U.l⟩
 .have e:=u.t i (O i hi) hs
  rw[U.t i (J i hi) (by grind),e]
 .have e:=u.r id Z B
  rw[U.r id (Nat.lt_of_lt_of_le Z u.l) (by grind),e]
def Kp.weak{u:Nat->Bool}(h:Kp u s s')(J:∀i,g i=true->u i=true):Kp g s s':=⟨λi B=>h.t i (J i B),h.r,h.l⟩
def A1{t:Nat->Sl}{d:Nat}(h:i≠d):AK t d y i=t i:=by
 unfold AK;rw[BK h];rfl
theorem Qe(u:s.put h d y=some s'):(∃new,s'.r=s.r++new)/\(∀i,d≠some i->(s.t i).stay=true->s'.t i=s.t i)/\(s'.r=s.r->∀i,d≠some i->s'.t i=s.t i):=by
 unfold St.put at u;cases d with
 |none=>simp_all
 |some d=>
  simp only at u;cases U:blt d h.n with
  |false=>grind
  |true=>
   rw[U]at u;simp only[cond_true]at u;cases O:h.fz.contains d with
   |true=>
    rw[O]at u;split at u
    .cases u
     exact⟨⟨[],by simp⟩,λi B _=>A1 λe=>B (by rw[e]),λ_ i B=>A1 λe=>B (by rw[e])⟩
    .cases u
   |false=>
    rw[O]at u;simp only[cond_false,Option.some.injEq]at u;subst u;unfold St.add;split
    .exact⟨⟨[],by simp⟩,λi B _=>A1 λe=>B (by rw[e]),λ_ i B=>A1 λe=>B (by rw[e])⟩
    .rename_i q new _
     refine⟨⟨q::new,rfl⟩,λi B J=>?_,λW=>?_⟩
     .show AK (λi=>(s.t i).chk s.r.length) d (y.prom s.r.length).1 i=s.t i
      rw[A1 (λe=>B (by rw[e]))]
      exact Sl.chk_stay J _
     grind
theorem Qd(B:s.put h d y=some s'):Kp (λi=>decide (d≠some i)) s s':=by
 obtain⟨⟨new,U⟩,ht,_⟩:=Qe B;refine⟨λi O u=>ht i (of_decide_eq_true O) u,λid W J=>?_,by grind⟩
 grind
theorem KF(h:r.setCell i k c=some r'):r.isRo=false:=by
 cases r with
 |dead=>cases h
 |opt=>cases h
 |mp=>cases h
 |obj ro l=>cases ro with
  |true=>cases h
  |false=>rfl
 |arr ro t d xs=>cases ro with
  |true=>cases h
  |false=>rfl
theorem Hv(h:r.setAt p i k c=some r'):r.isRo=false:=by
 cases p with
 |nil=>exact KF h
 |cons a p=>
  unfold Ae.setAt at h;split at h
  .split at h
   .exact KF h
   grind
  grind
theorem Yo{r r':List Ae}{j:Mv}(h:OI id p i k c r=some (r',j)):∀id',(r.getD id' .dead).isRo=true->r'.getD id' .dead=r.getD id' .dead:=by
 intro id' u
 have key:∀x r0 y,(r.getD id .dead).setAt p i k y=some r0->(r.set id x).getD id' .dead=r.getD id' .dead:=by
  intro x r0 y J;have:id'≠id:=by
   rintro rfl
   rw[Hv J]at u;cases u
  simp only[gDE,getElem?_set_ne (Ne.symm this)]
 unfold OI at h;split at h
 .rename_i B
  cases O:beq B id with
  |true=>rw[O]at h;cases h
  |false=>
   rw[O]at h;simp only[cond_false]at h;split at h
   case h_2=>cases h
   rename_i t d xs W;split at h
   case h_2=>cases h
   rename_i r0 J;cases h;have:id'≠B:=by rintro rfl;rw[W]at u;cases u
   have e:((r.set id r0).set B .dead).getD id' .dead=(r.set id r0).getD id' .dead:=by
    simp only[gDE,getElem?_set_ne (Ne.symm this)]
   rw[e];exact key _ _ _ J
 .rename_i B a q
  cases O:beq B id with
  |true=>rw[O]at h;cases h
  |false=>
   rw[O]at h;simp only[cond_false]at h;split at h
   case h_2=>cases h
   rename_i t d xs W;split at h
   case h_2=>cases h
   rename_i r1 r0 U J;cases h;have h1:id'≠B:=by
    rintro rfl
    rw[MA U]at u;cases u
   have h2:id'≠id:=by
    rintro rfl
    rw[Hv J]at u;cases u
   simp only[gDE,getElem?_set_ne (Ne.symm h2)];rcases lt_or_ge id' r.length with h3|h3
   .rw[gAL (by simpa using h3),getElem?_set_ne (Ne.symm h1)]
   .rw[getElem?_eq_none (l:=r) h3]
    by_cases Z:id'=r.length
    .subst Z
     rw[gAR (by simp)]
     simp
    .rw[getElem?_eq_none (by simp;omega)]
 .rename_i B
  cases O:beq B id with
  |true=>rw[O]at h;cases h
  |false=>
   rw[O]at h;simp only[cond_false]at h;split at h
   case h_2=>cases h
   rename_i kt vt xs W;split at h
   case h_2=>cases h
   rename_i r0 J;cases h;have:id'≠B:=by rintro rfl;rw[W]at u;cases u
   have e:((r.set id r0).set B .dead).getD id' .dead=(r.set id r0).getD id' .dead:=by
    simp only[gDE,getElem?_set_ne (Ne.symm this)]
   rw[e];exact key _ _ _ J
 .obtain⟨O,h⟩:=Bc h
  split at h
  case h_2=>cases h
  rename_i r0 J;cases h;exact key _ _ _ J
theorem AaP:∀(m k:Nat) (cs:List Cl) (s s':St),Yp id p i m k cs s=some s'->Kp (λ_=>true) s s':=by
 intro m
 induction m with
 |zero=>intro k cs s s' h;cases cs<;>cases h;exact Kp.refl _ _
 |succ m B=>
  intro k cs s s' h;cases cs with
  |nil=>cases h;exact Kp.refl _ _
  |cons c cs=>
   unfold Yp at h;split at h
   case h_2=>grind
   rename_i r' O u;refine Kp.trans ⟨λx _ J=>Sl.kill_stay J _ _ _,λid' _=>Yo u id',by obtain⟨_,_,_,_,_,U,_⟩:=VL u [];grind⟩ (B _ _ _ _ h) (λ_ _=>rfl) λ_ _=>rfl
theorem VG(h:IA s ti x v=some s'):Kp (λ_=>true) s s':=by
 unfold IA at h;split at h
 case h_2=>grind
 split at h
 case h_2=>grind
 rename_i ti id p i k y _ l B;cases u:(beq l.length ti.ty.w&&ble (k+ti.ty.w) (Ag s.r id p).w&&(Ag s.r id p).live)with
 |false=>grind
 |true=>rw[u]at h;exact AaP _ _ _ _ _ h
theorem Yr(h:VM s ti x v=some A):Kp (λ_=>true) s A.s:=by
 unfold VM at h;split at h
 case h_2=>cases h
 rename_i ti id p i k id' q off len;cases W:(beq id' id&&beq ti.ty.w 1&&ble (k+1) (Ag s.r id p).w&&(Ag s.r id p).live)with
 |false=>grind
 |true=>
 rw[W]at h;split at h
 case h_2=>cases h
 split at h
 case h_2=>cases h
 split at h
 case h_2=>cases h
 rename_i r0 u;cases h;refine⟨λj _ O=>Sl.kill_stay O _ _ _,λB U J=>?_,by simp⟩
 have:B≠id:=by
  rintro rfl
  rw[Hv u]at J;grind
 grind
theorem Sl.kH_stay(h:y.stay=true)(r:List Ae)(j:Nat):y.kH r j=y:=by
 cases y with
 |one c=>
  cases c with
  |rf=>cases h
  |rs=>cases h
  |rp=>cases h
  |rm=>cases h
  |_=>rfl
 |new=>rfl
 |agg=>exact Sl.kill_stay h j [] []
 |tup=>exact Sl.kill_stay h j [] []
 |pk=>exact Sl.kill_stay h j [] []
theorem La:∀(js:List Nat) (s:St),(∀j∈js,(s.r.getD j .dead).isRo=false\/s.r.getD j .dead=.dead)->Kp (λ_=>true) s (Ap js s)
 |[],s,_=>Kp.refl _ _
 |j::js,s,h=>by
  have W:Kp (λ_=>true) s (HV j s):=by
   refine⟨λi _ J=>Sl.kH_stay J _ _,λid B U=>?_,by rw[JU];simp⟩
   by_cases u:j=id
   .subst u
    rcases h j (mem_cons_self ..)with h2|h2
    .grind
    .show(s.r.set j .dead).getD j .dead=_
     rw[h2];simp[B]
   .exact OX u
  refine W.trans (La js (HV j s) λi J=>?_) (λ_ _=>rfl) λ_ _=>rfl
  by_cases O:i=j
  .subst O
   right;show(s.r.set i .dead).getD i .dead=.dead
   grind
  .have:(HV j s).r.getD i .dead=s.r.getD i .dead:=OX (Ne.symm O)
   grind
def JT(js:List Nat)(s:St)(h:∀j∈js,(s.r.getD j .dead).isRo=false):Kp (λ_=>true) s (Ap js s):=La js s λj u=>.inl (h j u)
def Sl.gv_stay(h:y.stay=true)(r:List Ae)(j:Nat)(z:Cl):y.gv r j z=y:=by
 unfold Sl.gv;split
 .cases h
 .exact Sl.kH_stay h r j
theorem Y7{j:Nat}(h:Xi j s=some s'):Kp (λ_=>true) s s':=by
 obtain⟨l,t,x,U,B,W,rfl⟩:=K3 h;refine⟨λi _ O=>Sl.gv_stay O _ _ _,λid J u=>OX λe=>?_,by simp⟩
 rw[<-e,B]at u
 trivial
def I3:∀(xs:List Operand) {s s':St},N4 xs s=some s'->Kp (λ_=>true) s s'
 |[],s,s',h=>by cases h;exact Kp.refl _ _
 |x::xs,s,s',h=>by
  unfold N4 at h;split at h
  .split at h
   case h_2=>grind
   rename_i u;exact(Y7 u).trans (I3 xs h) (λ_ _=>rfl) λ_ _=>rfl
  .exact I3 xs h
theorem Sl.mapC_stay(h:y.stay=true)(id:Nat)(q:AX)(m:Nat):y.mapC (Cl.rr id q m)=y:=by
 have c1:∀y:Cl,y.stay=true->y.rr id q m=y:=by intro y h;cases y<;>first|rfl|cases h
 cases y with
 |one y=>exact congrArg Sl.one (c1 y h)
 |new l=>rfl
 |agg l=>exact congrArg Sl.agg (AS λy u=>c1 y (aET.1 h y u))
 |pk t l=>exact congrArg (Sl.pk t) (AS λy u=>c1 y (aET.1 h y u))
 |tup l=>
  refine congrArg Sl.tup (AS λp B=>?_)
  obtain⟨b,m⟩:=p;exact congrArg (Prod.mk b) (AS λy u=>c1 y (aET.1 (aET.1 h _ B) y u))
theorem Mz(h:Aal s x=some s'):Kp (λ_=>true) s s':=by
 unfold Aal at h;split at h
 case h_2=>cases h;exact Kp.refl _ _
 rename_i id b O
 have key:∀(B R:Ae),MB (s.r.getD id .dead) (b::O)=some B->Kp (λ_=>true) s ⟨λi=>(s.t i).mapC (Cl.rr id (b::O) s.r.length),s.r.set id B++[R]⟩:=by
  intro B R u;refine⟨λi _ Z=>Sl.mapC_stay Z _ _ _,λid' W J=>?_,by simp⟩
  have U:id'≠id:=by
   rintro rfl
   rw[MA u]at J;grind
  grind
 split at h
 case h_2=>cases h;exact Kp.refl _ _
 grind
theorem Sl.mapK_stay(h:y.stay=true)(id:Nat)(q:AX)(m:Nat):y.mapC (Cl.rk id q m)=y:=by
 have c1:∀y:Cl,y.stay=true->y.rk id q m=y:=by intro y h;cases y<;>first|rfl|cases h
 cases y with
 |one y=>exact congrArg Sl.one (c1 y h)
 |new l=>rfl
 |agg l=>exact congrArg Sl.agg (AS λy u=>c1 y (aET.1 h y u))
 |pk t l=>exact congrArg (Sl.pk t) (AS λy u=>c1 y (aET.1 h y u))
 |tup l=>
  refine congrArg Sl.tup (AS λp B=>?_)
  obtain⟨b,m⟩:=p;exact congrArg (Prod.mk b) (AS λy u=>c1 y (aET.1 (aET.1 h _ B) y u))
theorem Ab9{x:Operand}(h:cutO s x=some s'):Kp (λ_=>true) s s':=by
 unfold cutO at h;split at h
 case h_2=>exact Mz h
 rename_i y;split at h
 case h_2=>exact Mz h
 rename_i id b q1 O;split at h
 case h_2=>exact Mz h
 rename_i r1 t d v u hn;cases h;refine⟨λi _ J=>?_,λid' W B=>?_,by simp⟩
 .show(bif beq i y then Sl.one (.rf s.r.length [])else(s.t i).mapC _)=s.t i
  cases Z:beq i y with
  |false=>exact Sl.mapK_stay J _ _ _
  |true=>
   have e:=bqE Z;subst e;rw[O]at J;trivial
 .have U:id'≠id:=by
   rintro rfl
   rw[MA u]at B;grind
  grind
theorem PA{t:Ty}{y:Option Sl}{d:Nat}{ys:List t.T}{js:List Nat}(h:U5 s t id y=some (d,ys,js)):∀j∈js,(s.r.getD j .dead).isRo=false:=by
 replace h:=(XH h).1
 unfold U4 at h;split at h
 case h_4=>cases h
 .grind
 .rename_i j q
  split at h
  case h_2=>cases h
  rename_i ro U Z u B;split at h
  case isFalse=>cases h
  cases O:beq j id with
  |true=>rw[O]at h;cases h
  |false=>
   rw[O]at h;simp only[cond_false]at h;cases hd:beq t.dep 0 with
   |true=>rw[hd]at h;cases h;intro j W;cases W
   |false=>
    rw[hd]at h;simp only[cond_false]at h;split at h
    case h_2=>cases h
    cases ro with
    |true=>cases h
    |false=>
     cases h;intro i J;simp at J;subst J;have B:s.r.getD i .dead=.arr false U d u:=B;rw[B];rfl
 grind
theorem Ug{i:Option TI}{y:Option Sl}{A:LR}(h:Jg s i x y=some A):∀j∈A.js,(s.r.getD j .dead).isRo=false:=by
 unfold Jg at h;split at h
 .cases h
 rename_i ti;obtain⟨Z,h⟩:=Bc h;split at h
 case h_3=>cases h
 .split at h
  case h_2=>cases h
  rename_i u;cases h;exact PA u
 .split at h
  case h_2=>cases h
  rename_i W d xs O;split at h
  case isFalse=>cases h
  rename_i J;subst J;split at h
  case h_2=>cases h
  rename_i d' ys js u;obtain⟨U,h⟩:=Bc h;cases h;intro j B;rcases mem_cons.1 B with rfl|B
  .rw[O];rfl
  .exact PA u j B
theorem AaX(wr:∀{l m:List Cl}{js:List (Option Nat)},Lw s.r l=some (m,js)->∀j∈UM js,(s.r.getD j .dead).isRo=false){n:Nat}{ps:List (Nat×Option Sl)}{i:Option TI}{A:LR}(h:tBSM s n ps i=some A):∀j∈A.js,(s.r.getD j .dead).isRo=false:=by
 unfold tBSM at h;split at h
 case h_2=>grind
 grind
def Lu{r:List Ae}:∀{l m:List Cl}{js:List (Option Nat)},Lw r l=some (m,js)->∀j∈UM js,(r.getD j .dead).isRo=false
 |[],m,js,h=>by cases h;intro j B;cases B
 |y::l,m,js,h=>by
  unfold Lw at h;split at h
  .rename_i J;cases J
  .rename_i id Z J
   cases J;split at h
   case h_2=>cases h
   rename_i t d xs u;split at h
   case h_2=>cases h
   rename_i W O U;cases h;intro j B;rcases mem_cons.1 B with rfl|B
   .rw[u];rfl
   .exact Lu U j B
  .rename_i y' Z hne J
   cases J;cases hi:y.imm with
   |false=>grind
   |true=>
    rw[hi]at h;split at h
    case h_2=>cases h
    rename_i W O U;cases h;exact λj B=>Lu (l:=l) U j B
def VS{Γ:List EnW}{f:FuncId}{xs:List (Option Sl)}{A:XW}{u:A.α}(B:M8 Γ s f xs=some A)(J:A.st u=some s1):Kp (λ_=>true) s s1:=by
 unfold M8 at B;cases B
def Acy:List Operand->St->Option St
 |[],s=>some s
 |x::xs,s=>match cutO s x with
  |some s'=>Acy xs s'
  |none=>none
def Xx{C:Ctx}{N:Nat}{a:Act}{w:World}:∀(xs:List Operand) {s s':St},Acy xs s=some s'->AQ C N s.den a w->AQ C N s'.den a w
 |[],s,s',h,hs=>by cases h;grind
 |x::xs,s,s',h,hs=>by
  unfold Acy at h;split at h
  case h_2=>grind
  rename_i u;exact Xx xs h (Ab8 u hs)
def Xy:∀(xs:List Operand) {s s':St},Acy xs s=some s'->Kp (λ_=>true) s s'
 |[],s,s',h=>by cases h;exact Kp.refl _ _
 |x::xs,s,s',h=>by
  unfold Acy at h;split at h
  case h_2=>grind
  rename_i u;exact(Ab9 u).trans (Xy xs h) (λ_ _=>rfl) λ_ _=>rfl
end Go.Ve


namespace Go.Ve
variable{r:List Ae}{Y:List Nat}{m:Nat}{p:Nat×Nat}{y:Sl}{s s1:St}
def backs:List (Nat×Nat)->Ms->Ms
 |[],S=>S
 |p::B,S=>backs B ⟨AI S.t p.1 (KJ p.2 (S.t p.1)),S.σ.set p.2 (S.t p.1)⟩
def Kn(v:V):Prop:=∃s sz n f,v=.nd s true sz n f/\(s=false->0<sz/\n=1)
def PR.backs{C:Ctx}{N:Nat}{a:Act}{w:World}{D:Nat->Prop}{ρ:Nat->Value}:∀(B:List (Nat×Nat)) (t:Nat->V) (σ:List V) (F:Nat->Nat->Prop) (T:Nat->Nat->Prop),PR C N σ ρ F t a w D T->
  (B.map (·.1)).Nodup->(B.map (·.2)).Nodup->(∀p∈B,p.1<N/\p.2<σ.length/\σ.getD p.2 .dead=.dead/\a.tmps.getD p.1 undef=ρ p.2/\Kn (t p.1))->
  ∃F' T',PR C N (Go.Ve.backs B ⟨t,σ⟩).σ ρ F' (Go.Ve.backs B ⟨t,σ⟩).t a w D T'/\∀x b,T' x b->T x b/\x∉B.map (·.1)
 |[],t,σ,F,T,h,_,_,_=>⟨F,T,h,λx b u=>⟨u,by simp⟩⟩
 |p::B,t,σ,F,T,h,hn1,hn2,hB=>by
  obtain⟨h1,h2,h3,h4,s,sz,n,f,Z,W⟩:=hB p (mem_cons_self ..);have u:=h.back2 h1 h2 h3 Z W h4;rw[map_cons,List.nodup_cons]at hn1 hn2;obtain⟨F',T',O,U⟩:=PR.backs B _ _ _ _ u hn1.2 hn2.2 λq J=>by
   obtain⟨g1,g2,g3,g4,g5⟩:=hB q (mCM _ J);have e1:q.1≠p.1:=λe=>hn1.1 (e▸mem_map.2 ⟨q,J,rfl⟩)
   have e2:q.2≠p.2:=λe=>hn2.1 (e▸mem_map.2 ⟨q,J,rfl⟩)
   refine⟨g1,by simpa using g2,?_,g4,?_⟩
   .refine Eq.trans ?_ g3
    simp only[gDE];rw[getElem?_set_ne (Ne.symm e2)]
   .simp[AI,e1,if_false]
    exact g5
  refine⟨F',T',O,λx b u=>?_⟩
  obtain⟨k1,k2⟩:=U x b u;refine⟨k1.2,?_⟩;rw[map_cons,mem_cons];exact λh=>h.elim k1.1 k2
def Z2:List Cl->Nat
 |[]=>0
 |.c t d _::l=>bif ble (Ou d t.dep) (Z2 l)then Z2 l else Ou d t.dep
 |_::l=>Z2 l
def V6(D:Nat):Cl->Bool
 |.c t d _=>beq (Ou d t.dep) (Ou D t.dep)
 |_=>false
theorem Ab1(D:Nat):∀(l:List Cl) (y:Dy),DO l=some y->l.all (V6 D)=true->tyV y.t D y.x=l.map Cl.v0:=by
 intro l
 induction l with
 |nil=>intro y h _;cases h;rfl
 |cons a l W=>
  intro y h u;rw[List.all_cons,bAE]at u;unfold DO at h;split at h
  case h_2=>cases h
  rename_i t d x;have B:=bqE u.1;rw[Il,Il]at B;obtain⟨Z,h⟩:=Bc h;have J:[cV t d x]=tyV t D x:=by rw[BN Z,Lj B]
  split at h
  .cases h
   exact J.symm
  .rename_i b l'
   split at h
   case h_2=>cases h
   rename_i U O hf;cases h;show tyV t D x++tyV U D O=cV t d x::_;rw[W _ hf u.2,<-J];rfl
def Cu(s:St)(y:Nat):Option Nat:=match s.t y with
 |.one (.rf id [])=>match s.r.getD id .dead with
  |.arr false _ _ _=>some id
  |_=>none
 |.one (.rp id [] 0 0)=>match s.r.getD id .dead with
  |.obj false l=>match DO l with
   |some _=>bif l.all (V6 (Z2 l))&& !beq l.length 0 then some id else none
   |none=>none
  |_=>none
 |_=>none
def ZR(s:St)(y:Nat):Sl:=match s.t y with
 |.one (.rf id [])=>match s.r.getD id .dead with
  |.arr false t d xs=>.one (.c (.sl t) (d+1) xs)
  |_=>.one .dead
 |.one (.rp id [] 0 0)=>match s.r.getD id .dead with
  |.obj false l=>match DO l with
   |some ⟨t,x⟩=>.one (.c (.ptr t) (Z2 l+1) x)
   |none=>.one .dead
  |_=>.one .dead
 |_=>.one .dead
def UP(s:St):List Nat->Option (List Nat)
 |[]=>some []
 |y::l=>match Cu s y with
  |some id=>match UP s l with
   |some m=>some (id::m)
   |none=>none
  |none=>none
def ndB:List Nat->Bool
 |[]=>true
 |a::l=>!l.contains a&&ndB l
def JV(Y:List Nat)(s:St):Option St:=match Y with
 |[]=>some s
 |Y=>match UP s Y with
  |some u=>bif ndB u then some ⟨λi=>bif Y.contains i then ZR s i else(Ap u s).t i,(Ap u s).r⟩else none
  |none=>none
theorem Y8{c:Cl}(h:c.own=false):frz c.v0=c.v0:=by
 cases c with
 |c t d x=>
  cases t with
  |int k=>rfl
  |bool=>rfl
  |str=>rfl
  |unit=>rfl
  |pair a b=>rfl
  |sl t=>cases d with
   |zero=>exact singleton_inj.1 (Bj (.sl t) 0 x)
   |succ d=>cases h
  |ptr t=>cases d with
   |zero=>exact singleton_inj.1 (Bj (.ptr t) 0 x)
   |succ d=>cases h
  |clo g t=>exact singleton_inj.1 (Bj (.clo g t) 0 x)
  |mp a b=>cases d with
   |zero=>exact singleton_inj.1 (Bj (.mp a b) 0 x)
   |succ d=>cases h
  |osl t=>cases d with
   |zero=>exact singleton_inj.1 (Bj (.osl t) 0 x)
   |succ d=>cases x with
    |none=>rfl
    |some y=>cases h
 |_=>rfl
theorem Cj{y id:Nat}(h:Cu s y=some id):(s.r.getD id .dead).isRo=false/\(s.t y).stay=false/\Kn (s.r.getD id .dead).v/\(∀r,(ZR s y).v r=(s.r.getD id .dead).v)/\(s.t y).v s.r=KJ id (s.r.getD id .dead).v:=by
 unfold Cu at h;split at h
 case h_3=>cases h
 .rename_i id' u
  split at h
  case h_2=>cases h
  rename_i t d xs B;cases h;rw[B];refine⟨rfl,by rw[u];rfl,⟨true,_,_,_,rfl,λh=>by cases h⟩,λr=>?_,?_⟩
  .unfold ZR
   rw[u];simp only[B];show arr (decide (0<d+1)) t.w (tyV t (d+1-1)) t.dflt xs=arr true t.w (tyV t d) t.dflt xs;simp
  .rw[u]
   show V.rs id [] 0 (Ag s.r id []).len=_
   have:(Ag s.r id []).len=xs.length:=by
    show(s.r.getD id .dead).len=_;rw[B];rfl
   rw[this];rfl
 .rename_i id' u
  split at h
  case h_2=>cases h
  rename_i l B;split at h
  case h_2=>cases h
  rename_i D O;obtain⟨J,h⟩:=Bc h;cases h;rw[bAE,not_eq_true']at J;have U:0<l.length:=by
   rcases Nat.eq_zero_or_pos l.length with e|e
   .rw[e]at J;cases J.2
   .exact e
  rw[B];refine⟨rfl,by rw[u];rfl,⟨false,_,_,_,rfl,λ_=>⟨by simpa using U,rfl⟩⟩,λr=>?_,?_⟩
  .obtain⟨t,x⟩:=D
   unfold ZR;rw[u];simp only[B,O];show Bp (decide (0<Z2 l+1)) (tyV t (Z2 l+1-1) x)=Bp true (l.map Cl.v0);have W:tyV t (Z2 l) x=l.map Cl.v0:=Ab1 _ _ _ O J.1;rw[Nat.add_sub_cancel,W,dT (Nat.succ_pos _)]
  .rw[u];rfl
theorem JL{s:St}:∀{Y u:List Nat},UP s Y=some u->(∀y∈Y,∃id∈u,Cu s y=some id)/\(∀id∈u,∃y∈Y,Cu s y=some id)
 |[],u,h=>by cases h;simp
 |y::Y,u,h=>by
  unfold UP at h;split at h
  case h_2=>grind
  split at h
  case h_2=>grind
  rename_i m B;obtain⟨O,J⟩:=JL B
  grind
theorem WL{s:St}:∀{Y B:List Nat},UP s Y=some B->ndB B=true->∀x∈Y,∀y∈Y,∀id,Cu s x=some id->Cu s y=some id->x=y
 |[],_,_,_,x,hx,_,_,_,_,_=>by cases hx
 |z::Y,B,h,O,x,hx,y,hy,id,h1,h2=>by
  unfold UP at h;split at h
  case h_2=>cases h
  rename_i J hid;split at h
  case h_2=>cases h
  rename_i m W;cases h;have O:(!m.contains J&&ndB m)=true:=O;rw[bAE,not_eq_true']at O;have out:∀u∈Y,Cu s u≠some J:=by
   intro u Z he;obtain⟨i,hi,hi2⟩:=(JL W).1 u Z
   grind
  by_cases ex:x=z
  .grind
  .have U:x∈Y:=(mem_cons.1 hx).resolve_left ex
   by_cases ey:y=z
   .grind
   .exact WL W O.2 x U y ((mem_cons.1 hy).resolve_left ey) id h1 h2
theorem Oe{C:Ctx}{N:Nat}{a:Act}{w:World}(h:JV Y s=some s1)(hs:AQ C N s.den a w){w':World}(hB:Below w.heap.size w w'):
  ∃D ρ F T,PR C N s1.den.σ ρ F s1.den.t a w' D T/\(∀x b,T x b->x∈Y)/\∀x id,x<N->Cu s x=some id->a.tmps.getD x undef=ρ id:=by
 obtain⟨hdf,hdd,D0,ρ0,F0,hcr0⟩:=hs;obtain⟨D,ρ,F,B⟩:=hcr0.below hB;have hsz:a.tmps.size=N:=by simpa using B.sz
 have base:∀{s1:St}{F1:Nat->Nat->Prop},CR C s1.den.σ ((range N).map s1.den.t) a.tmps w' D ρ F1->(∀x,N<=x->s1.den.t x=.dead)->PR C N s1.den.σ ρ F1 s1.den.t a w' D (λ_=>noF):=by
  intro s1 F1 hc hd;refine⟨hdf,hsz,hd,hc.wr,λx W=>?_,λ_ _ h=>h.elim,λ_ _ _ _ h=>h,λ_ _ _ _ h=>h.elim,λ_ _ h=>h.elim,hc.fr,hc.Fn,hc.D1,hc.D2,hc.rt,hc.ml,λ_ _ _ h=>h⟩
  have h1:=hc.tm x (by simpa using W)
  rw[AY W]at h1;exact h1
 have hval:∀x id,x<N->Cu s x=some id->a.tmps.getD x undef=ρ id:=by
  intro x id W Z;obtain⟨g1,g2,⟨s0,sz0,n0,f0,g3,g4⟩,g5,g6⟩:=Cj Z;have hr:=B.tm x (by simpa using W)
  rw[AY W]at hr;have e0:s.den.t x=KJ id (s.r.getD id .dead).v:=g6;rw[e0]at hr;have e3:s.den.σ.getD id .dead=(s.r.getD id .dead).v:=Ax _ _;have hlt:id<s.r.length:=by
   rcases lt_or_ge id s.r.length with h|h
   .exact h
   .rw[gDE,getElem?_eq_none h]at g1;cases g1
  have J:=B.wr.rel id (by simpa [St.den]using hlt)
  rw[e3]at J;exact Wg g3 g4 (by rw[e3]) J hr
 unfold JV at h;split at h
 .cases h
  exact⟨D,ρ,F,λ_=>noF,base B hdd,λ_ _ h=>h.elim,hval⟩
 split at h
 case h_2=>cases h
 rename_i O hids;obtain⟨hn,h⟩:=Bc h;cases h;obtain⟨v1,v2⟩:=JL hids;have hlt:∀j∈O,j<s.r.length:=by
  intro j hj;obtain⟨y,_,hy⟩:=v2 j hj;have hr:=(Cj hy).1;rcases lt_or_ge j s.r.length with h|h
  .exact h
  .rw[gDE,getElem?_eq_none h]at hr;cases hr
 obtain⟨F1,hcr1,hF1⟩:=CP O B hlt;have hp:=base (s1:=Ap O s) hcr1 (BZ O hdd);have hYN:∀y∈Y,y<N:=by
  intro y hy;obtain⟨id,_,hi⟩:=v1 y hy;obtain⟨_,_,⟨s0,_,_,_,h1,_⟩,_,h2⟩:=Cj hi;rcases lt_or_ge y N with h|h
  .exact h
  .have:=hdd y h
   have e:(s.t y).v s.r=.dead:=this;rw[h2,h1]at e;cases s0<;>cases e
 have hnot:∀{x:Nat},x∉Y->Y.contains x=false:=by
  intro x W;cases hc:Y.contains x with
  |false=>rfl
  |true=>exact absurd (by simpa using hc) W
 refine⟨D,ρ,F1,λx b=>x∈Y/\∃id,Cu s x=some id/\F id b,⟨hdf,hsz,λx W=>?_,hp.wr,λx W=>?_,λx b U=>?_,λi x b U hT=>?_,λx y b hxy h1 h2=>?_,λx b U=>?_,hp.fr,hp.Fn,hp.D1,hp.D2,hp.rt,hp.ml,λx b W U=>?_⟩,λx b U=>U.1,hval⟩
 .have u:x∉Y:=λh=>absurd (hYN x h) (not_lt.2 W)
  show(bif Y.contains x then ZR s x else(Ap O s).t x).v _=.dead;rw[hnot u];exact BZ O hdd x W
 .by_cases u:x∈Y
  .obtain⟨id,hi,Z⟩:=v1 x u
   obtain⟨g1,g2,⟨s0,sz0,n0,f0,g3,g4⟩,g5,g6⟩:=Cj Z;have hc:Y.contains x=true:=by simpa using u
   show Rel D _ _ ((bif Y.contains x then ZR s x else(Ap O s).t x).v _) (a.tmps.getD x undef) _;rw[hc,cond_true,g5];have hr:=B.tm x (by simpa using W)
   rw[AY W]at hr;have e0:s.den.t x=KJ id (s.r.getD id .dead).v:=g6;rw[e0]at hr;have e3:s.den.σ.getD id .dead=(s.r.getD id .dead).v:=Ax _ _;have J:=B.wr.rel id (by simpa [St.den]using hlt id hi)
   rw[e3]at J;have ecv:a.tmps.getD x undef=ρ id:=Wg g3 g4 (by rw[e3]) J hr
   rw[ecv];refine Rel.fp_congr (λb=>⟨λU=>⟨u,id,Z,U⟩,fun⟨_,i,hi,U⟩=>?_⟩) (Rel.noR_mono J)
   rw[Z]at hi;cases hi;exact U
  .show Rel D _ _ ((bif Y.contains x then ZR s x else(Ap O s).t x).v _) (a.tmps.getD x undef) _
   rw[hnot u,cond_false];exact Rel.fp_congr (λb=>⟨λh=>h.elim,λh=>absurd h.1 u⟩) (hp.tm x W)
 .obtain⟨_,id,_,U⟩:=U
  exact B.wr.dD id b U
 .obtain⟨u,id,Z,hb2⟩:=hT
  obtain⟨g1,g2⟩:=hF1 i b U;obtain⟨id',hi',he⟩:=v1 x u;rw[Z]at he;cases he;exact B.wr.disj i id b (λe=>g2 (e▸hi')) g1 hb2
 .obtain⟨u,id1,hid1,hb1⟩:=h1
  obtain⟨hyY,id2,hid2,hb2⟩:=h2;by_cases e:id1=id2
  .subst e
   exact hxy (WL hids hn x u y hyY id1 hid1 hid2)
  .exact B.wr.disj id1 id2 b e hb1 hb2
 .obtain⟨_,id,_,U⟩:=U
  exact B.Fn id b U
 .exact absurd (hYN x U.1) (not_lt.2 W)
theorem Of(h:JV Y s=some s1):Kp (λ_=>true) s s1:=by
 unfold JV at h;split at h
 .cases h;exact Kp.refl _ _
 split at h
 case h_2=>grind
 rename_i u B;cases hn:ndB u with
 |false=>grind
 |true=>
 rw[hn]at h;cases h;obtain⟨Z,W⟩:=JL B;have J:=JT u s λj hj=>by
  obtain⟨y,_,hy⟩:=W j hj;exact(Cj hy).1
 refine⟨λi hi U=>?_,J.r,J.l⟩
 have hiY:i∉Y:=by
  intro h;obtain⟨id,_,O⟩:=Z i h;rw[(Cj O).2.1]at U;grind
 show(bif Y.contains i then ZR s i else(Ap u s).t i)=s.t i;have hc:Y.contains i=false:=by
  grind
 rw[hc];exact J.t i hi U
def St.promA:List (Option Nat)->St->St
 |[],s=>s
 |none::ds,s=>St.promA ds s
 |some d::ds,s=>bif(s.t d).own then St.promA ds (s.add d ((s.t d).prom s.r.length))else St.promA ds s
theorem Ay.trans:∀{v v' u:V},Ay v v'->Ay v' u->Ay v u:=by
 have dd:∀u,Ay .dead u->u=.dead:=by
  intro u h;rcases h with h|h
  .exact h
  trivial
 intro v
 induction v with
 |many t n f O=>
  intro v' u h B;rcases h with rfl|⟨g,rfl,h⟩
  .rw[dd _ B];exact Ay.dead _
  .rcases B with rfl|⟨W,rfl,B⟩
   .exact Ay.dead _
   .exact .inr ⟨W,rfl,λk J=>O k (h k J) (B k J)⟩
 |c v=>
  intro v' u h B;rcases h with rfl|h
  .rw[dd _ B];exact Ay.dead _
  .rcases h with rfl|⟨rfl,own,sz,f,rfl⟩
   .grind
   .rcases B with rfl|B
    .exact Ay.dead _
    .exact .inr (Sub.trans (.inr ⟨rfl,own,sz,f,rfl⟩) B)
 |dead=>grind
 |nd s own sz n f _=>
  intro v' u h B;rcases h with rfl|h
  .rw[dd _ B];exact Ay.dead _
  .have U:=h
   obtain⟨g,rfl,_⟩:=h;rcases B with rfl|B
   .exact Ay.dead _
   .exact .inr (Sub.trans U B)
 |rs id p off len=>
  intro v' u h B;rcases h with rfl|h
  .rw[dd _ B];exact Ay.dead _
  .subst h
   grind
 |rm id p=>
  intro v' u h B;rcases h with rfl|h
  .rw[dd _ B];exact Ay.dead _
  .subst h
   grind
 |mp own l=>
  intro v' u h B;rcases h with rfl|h
  .rw[dd _ B];exact Ay.dead _
  .cases h
   exact B
 |rp id p i k=>
  intro v' u h B;rcases h with rfl|h
  .rw[dd _ B];exact Ay.dead _
  .subst h
   exact B
structure Zo(ds:List (Option Nat))(S:Ms)(s:St):Prop where
 σ:S.σ=s.den.σ
 t:∀i,Ay (S.t i) (s.den.t i)
 o:∀i,some i∈ds->((s.t i).own=true->(s.t i).stay=true)/\(S.t i=s.den.t i\/((s.t i).own=false/\AN (S.t i)=false))
theorem PY(h:y.stay=true)(r r':List Ae):y.v r=y.v r':=by
 have c1:∀y:Cl,y.stay=true->y.v r=y.v r':=by intro y h;cases y<;>first|rfl|cases h
 have cl:∀l:List Cl,l.all Cl.stay=true->l.map (Cl.v r)=l.map (Cl.v r'):=λl h=>List.map_congr_left λy u=>c1 y (aET.1 h y u)
 cases y with
 |one y=>exact c1 y h
 |new l=>rfl
 |agg l=>exact congrArg Am (cl l h)
 |pk t l=>exact congrArg (pkL t) (cl l h)
 |tup l=>
  refine congrArg DC (List.map_congr_left λp B=>?_)
  rw[cl p.2 (aET.1 h p B)]
theorem Abi(y:Sl)(m:Nat):(y.chk m).own=y.own:=by
 have c1:∀y:Cl,(y.chk m).own=y.own:=by
  intro y;cases y with
  |rf id p=>show(bif blt id m then Cl.rf id p else .dead).own=_;cases blt id m<;>rfl
  |rs id p a b=>show(bif blt id m then Cl.rs id p a b else .dead).own=_;cases blt id m<;>rfl
  |rp id p a b=>show(bif blt id m then Cl.rp id p a b else .dead).own=_;cases blt id m<;>rfl
  |_=>rfl
 have cl:∀l:List Cl,(l.map (Cl.chk m)).any Cl.own=l.any Cl.own:=by
  grind
 cases y with
 |one y=>exact c1 y
 |new l=>rfl
 |agg l=>exact cl l
 |pk t l=>exact cl l
 |tup l=>
  show(l.map _).any _=l.any _;rw[any_map]
  congr 1
  funext p
  obtain⟨b,l⟩:=p;cases b with
  |true=>grind
  |false=>
   cases l with
   |nil=>rfl
   |cons y l=>exact c1 y
theorem O7:AN ((y.prom m).1.v r)=false:=by
 have J:∀(u m:Nat) (y:Cl),((y.prom u m).1).own=false:=by
  intro u m y;cases y with
  |c t d x=>cases t<;>cases d<;>first|rfl|(cases x<;>rfl)|(show(bif blt 0 _ then(Cl.rp m [] 0 0,_)else(Cl.dead,_)).1.own=false;cases blt 0 _<;>rfl)
  |rf id p=>show(bif blt id u then Cl.rf id p else .dead).own=_;cases blt id u<;>rfl
  |rs id p a b=>show(bif blt id u then Cl.rs id p a b else .dead).own=_;cases blt id u<;>rfl
  |rp id p a b=>show(bif blt id u then Cl.rp id p a b else .dead).own=_;cases blt id u<;>rfl
  |_=>rfl
 have B:∀(u:Nat) (l:List Cl) (m:Nat),((B5 u m l).1).any Cl.own=false:=by
  intro u l
  induction l with
  |nil=>intro m;rfl
  |cons y l O=>intro m;show(((y.prom u m).1).own||((B5 u _ l).1).any Cl.own)=false;rw[J,O];rfl
 have U:∀(u:Nat) (l:List (Bool×List Cl)) (m:Nat),((Dx u m l).1).any (λp=>if p.1 then p.2.any Cl.own else(p.2.getD 0 .dead).own)=false:=by
  intro u l
  induction l with
  |nil=>intro m;rfl
  |cons p l O=>
   intro m;show((if(Ig u m p).1.1 then(Ig u m p).1.2.any Cl.own else((Ig u m p).1.2.getD 0 .dead).own)||((Dx u _ l).1).any _)=false
   rw[O,Bool.or_false];obtain⟨b,l⟩:=p;cases b with
   |true=>exact B u l m
   |false=>exact J u m _
 rw[Sl.own_v];cases y with
 |one y=>exact J m m y
 |new l=>show(bif blt 0 l.length then(Sl.one (.rp m [] 0 0),[Ae.obj false l])else(.one .dead,[])).1.own=false;cases blt 0 l.length<;>rfl
 |agg l=>exact B m l m
 |pk t l=>exact B m l m
 |tup l=>exact U m l m
theorem pn:∀(v:V) (m:Nat),AN (Go.Ve.prom v m).1=false:=by
 have J:∀(g:Nat->Nat->V×List V),(∀k m,AN (g k m).1=false)->∀n m,∀x∈(BP g n m).1,AN x=false:=by
  intro g O n m
  induction n with
  |zero=>intro x u;cases u
  |succ n B=>
   intro x u;unfold BP at u
   grind
 intro v
 induction v with
 |many t n f B=>
  intro m;show((range n).any λk=>AN ((BP (λk=>Go.Ve.prom (f k)) n m).1.getD k .dead))=false
  rw[List.any_eq_false];intro k _;have h:=J (λk=>Go.Ve.prom (f k)) (λk m=>B k m) n m
  rw[gDE];cases u:(BP (λk=>Go.Ve.prom (f k)) n m).1[k]? with
  |none=>trivial
  |some x=>grind
 |nd s own sz n f _=>
  intro m;cases own with
  |false=>cases s<;>rfl
  |true=>cases s with
   |true=>rfl
   |false=>
    show AN (if 0<sz then(V.rp m [] 0 0,[V.nd false true sz n f])else(.dead,[])).1=false
    split<;>rfl
 |mp own l=>intro m;cases own<;>rfl
 |_=>intro m;rfl
theorem Jw:∀(ds:List (Option Nat)) (S:Ms) (s:St),Zo ds S s->(∀i,Ay ((Go.Ve.promA ds S).t i) ((s.promA ds).den.t i))/\(Go.Ve.promA ds S).σ=(s.promA ds).den.σ:=by
 intro ds
 induction ds with
 |nil=>intro S s h;exact⟨h.t,h.σ⟩
 |cons d ds ih=>
  intro S s h;have B:∀i,some i∈ds->some i∈d::ds:=λi W=>mCM _ W
  cases d with
  |none=>exact ih S s ⟨h.σ,h.t,λi W=>h.o i (B i W)⟩
  |some d=>
   show(∀i,Ay ((if AN (S.t d)then Go.Ve.promA ds ⟨AI S.t d (Go.Ve.prom (S.t d) S.σ.length).1,S.σ++(Go.Ve.prom (S.t d) S.σ.length).2⟩else Go.Ve.promA ds S).t i) ((bif(s.t d).own then St.promA ds (s.add d ((s.t d).prom s.r.length))else St.promA ds s).den.t i))/\
    (if AN (S.t d)then Go.Ve.promA ds ⟨AI S.t d (Go.Ve.prom (S.t d) S.σ.length).1,S.σ++(Go.Ve.prom (S.t d) S.σ.length).2⟩else Go.Ve.promA ds S).σ=(bif(s.t d).own then St.promA ds (s.add d ((s.t d).prom s.r.length))else St.promA ds s).den.σ
   obtain⟨_,hd⟩:=h.o d (mem_cons_self ..);cases ho:(s.t d).own with
   |false=>
    have:AN (S.t d)=false:=by
     rcases hd with e|e
     .rw[e];show AN ((s.t d).v s.r)=false;rw[Sl.own_v,ho]
     .exact e.2
    rw[this];exact ih S s ⟨h.σ,h.t,λi W=>h.o i (B i W)⟩
   |true=>
    have e:S.t d=(s.t d).v s.r:=by
     rcases hd with e|e
     .exact e
     .rw[ho]at e;cases e.1
    have:AN (S.t d)=true:=by rw[e,Sl.own_v,ho]
    rw[this];have hl:S.σ.length=s.r.length:=by rw[h.σ];show(s.r.map Ae.v).length=_;exact length_map ..
    obtain⟨a1,a2⟩:=XO (s:=s) (d:=d) (y:=s.t d)
    have hself:(s.add d ((s.t d).prom s.r.length)).t d=((s.t d).prom s.r.length).1:=by
     have hu:∀(t:Nat->Sl) (y:Sl),AK t d y d=y:=λt y=>by unfold AK;rw[beq_refl];rfl
     unfold St.add;split
     .exact hu _ _
     .exact hu (λi=>(s.t i).chk s.r.length) _
    have O:∀i,i≠d->(s.add d ((s.t d).prom s.r.length)).t i=s.t i\/(s.add d ((s.t d).prom s.r.length)).t i=(s.t i).chk s.r.length:=by
     intro i W;unfold St.add;split
     .exact .inl (A1 W)
     .exact .inr (A1 (t:=λi=>(s.t i).chk s.r.length) W)
    refine ih _ _ ⟨?_,λi=>?_,λi W=>?_⟩
    .show S.σ++(Go.Ve.prom (S.t d) S.σ.length).2=_
     rw[e,hl,h.σ];exact a2
    .have h1:=a1 i
     show Ay (AI S.t d (Go.Ve.prom (S.t d) S.σ.length).1 i) _;rw[e,hl];unfold AI at h1⊢;by_cases J:i=d
     .rw[if_pos J]at h1⊢;exact h1
     .rw[if_neg J]at h1⊢;exact(h.t i).trans h1
    .obtain⟨k1,k2⟩:=h.o i (B i W)
     by_cases J:i=d
     .subst J
      rw[hself]
      have hno:(((s.t i).prom s.r.length).1).own=false:=by
       have:=O7 (y:=s.t i) (m:=s.r.length) (r:=s.r);rw[Sl.own_v]at this;exact this
      refine⟨(λh=>by rw[hno]at h;cases h),.inr ⟨hno,?_⟩⟩
      show AN (AI S.t i (Go.Ve.prom (S.t i) S.σ.length).1 i)=false;unfold AI;rw[if_pos rfl];exact pn _ _
     .have hV:AI S.t d (Go.Ve.prom (S.t d) S.σ.length).1 i=S.t i:=by unfold AI;rw[if_neg J]
      have U:(s.t i).own=true->(s.add d ((s.t d).prom s.r.length)).t i=s.t i:=λu=>by
       rcases O i J with h'|h'
       .exact h'
       .rw[h',Sl.chk_stay (k1 u)]
      have Z:((s.add d ((s.t d).prom s.r.length)).t i).own=(s.t i).own:=by
       rcases O i J with h'|h'
       .rw[h']
       .rw[h',Abi]
      refine⟨λu=>?_,?_⟩
      .rw[Z]at u
       rw[U u];exact k1 u
      .cases u:(s.t i).own with
       |false=>
        refine .inr ⟨by rw[Z,u],?_⟩
        show AN (AI S.t d (Go.Ve.prom (S.t d) S.σ.length).1 i)=false;rw[hV];rcases k2 with k2|k2
        .rw[k2];show AN ((s.t i).v s.r)=false;rw[Sl.own_v,u]
        .exact k2.2
       |true=>
        left;show AI S.t d (Go.Ve.prom (S.t d) S.σ.length).1 i=_;rw[hV];rcases k2 with k2|k2
        .rw[k2]
         show(s.t i).v s.r=((s.add d ((s.t d).prom s.r.length)).t i).v _;rw[U u];exact PY (k1 u) _ _
        .rw[u]at k2;cases k2.1
theorem add_kp{d:Nat}{p:Sl×List Ae}:Kp (λi=>decide (i≠d)) s (s.add d p):=by
 unfold St.add;split
 .exact⟨λi u _=>A1 (of_decide_eq_true u),λ_ _ _=>rfl,le_refl _⟩
 .refine⟨λi u B=>?_,λid O J=>?_,by simp⟩
  .show AK (λi=>(s.t i).chk s.r.length) d p.1 i=s.t i
   rw[A1 (of_decide_eq_true u)];exact Sl.chk_stay B _
  grind
theorem HD:∀(l:List Oper) (s:St),Kp (As l) s (s.promA (l.map (·.dst)))
 |[],s=>Kp.refl _ _
 |o::l,s=>by
  have B:∀i,As (o::l) i=true->o.dst≠some i/\As l i=true:=by
   intro i h
   have B:As (o::l) i=((match o.dst with
    |some e=>!beq e i
    |none=>true)&&As l i):=rfl
   rw[B,bAE]at h;refine⟨λhd=>?_,h.2⟩
   simp_all
  rw[map_cons];cases hd:o.dst with
  |none=>exact(HD l s).weak λi u=>(B i u).2
  |some d=>
   show Kp _ s (bif(s.t d).own then St.promA (l.map (·.dst)) (s.add d ((s.t d).prom s.r.length))else St.promA (l.map (·.dst)) s)
   cases (s.t d).own with
   |false=>exact(HD l s).weak λi u=>(B i u).2
   |true=>
    exact Kp.trans add_kp (HD l _) (λi u=>dT λe=>(B i u).1 (by grind)) λi u=>(B i u).2
def Cl.clr(id:Nat):Cl->Cl
 |.rf j p=>bif beq j id then .dead else .rf j p
 |.rs j p off len=>bif beq j id then .dead else .rs j p off len
 |.rp j p i k=>bif beq j id then .dead else .rp j p i k
 |y=>y
def Sl.clr(id:Nat):Sl->Sl
 |.one y=>.one (y.clr id)
 |.new l=>.new l
 |.agg l=>.agg (l.map (Cl.clr id))
 |.pk t l=>.pk t (l.map (Cl.clr id))
 |.tup l=>.tup (l.map λp=>(p.1,p.2.map (Cl.clr id)))
theorem Cl.clr_v{r':List Ae}(u:∀id,id≠m->r'.getD id .dead=r.getD id .dead)(y:Cl):Ay (y.v r) ((y.clr m).v r'):=by
 cases y with
 |rf id p=>
  show Ay _ ((bif beq id m then Cl.dead else .rf id p).v r');cases B:beq id m with
  |true=>exact Ay.dead _
  |false=>
   show Ay (V.rs id p 0 (Ag r id p).len) (V.rs id p 0 (Ag r' id p).len);unfold Ag;rw[u id (λe=>by simp_all)]
   exact Ay.refl _
 |rs id p off len=>
  show Ay _ ((bif beq id m then Cl.dead else .rs id p off len).v r');cases beq id m with
  |true=>exact Ay.dead _
  |false=>exact Ay.refl _
 |rp id p off len=>
  show Ay _ ((bif beq id m then Cl.dead else .rp id p off len).v r');cases beq id m with
  |true=>exact Ay.dead _
  |false=>exact Ay.refl _
 |_=>exact Ay.refl _
theorem Sl.clr_v{r r':List Ae}{m:Nat}(u:∀id,id≠m->r'.getD id .dead=r.getD id .dead)(y:Sl):Ay (y.v r) ((y.clr m).v r'):=by
 have agg:∀l:List Cl,Ay (Am (l.map (Cl.v r))) (Am ((l.map (Cl.clr m)).map (Cl.v r'))):=by
  intro l;refine Ay.mk (by simp) λk _=>?_
  rw[map_map];exact Bz rfl rfl (λy=>Cl.clr_v u y) k
 cases y with
 |one c=>exact Cl.clr_v u c
 |new l=>exact Ay.refl _
 |agg l=>exact agg l
 |pk t l=>
  refine Ay.pk (by simp) λk _=>?_
  rw[map_map];exact Bz rfl rfl (λy=>Cl.clr_v u y) k
 |tup l=>
  refine Ay.tup (by simp) λk B=>?_
  have B:k<l.length:=by simpa using B
  simp only[gDE,List.getElem?_map,gEE B,Option.map_some,Option.getD_some];generalize l[k]=p;obtain⟨b,q⟩:=p;cases b with
  |true=>exact agg q
  |false=>
   have:=Bz (l:=q) (f:=Cl.v r) (g:=λy=>(y.clr m).v r') rfl rfl (λy=>Cl.clr_v u y) 0
   grind
theorem Sl.clr_stay(h:y.stay=true)(m:Nat):y.clr m=y:=by
 have c1:∀y:Cl,y.stay=true->y.clr m=y:=by intro y h;cases y<;>first|rfl|cases h
 cases y with
 |one y=>exact congrArg Sl.one (c1 y h)
 |new l=>rfl
 |agg l=>exact congrArg Sl.agg (AS λy u=>c1 y (aET.1 h y u))
 |pk t l=>exact congrArg (Sl.pk t) (AS λy u=>c1 y (aET.1 h y u))
 |tup l=>
  refine congrArg Sl.tup (AS λp B=>?_)
  obtain⟨b,q⟩:=p;exact congrArg (Prod.mk b) (AS λy u=>c1 y (aET.1 (aET.1 h _ B) y u))
theorem Abh(y:Sl)(m:Nat):(y.clr m).own=y.own:=by
 have c1:∀y:Cl,(y.clr m).own=y.own:=by
  intro y;cases y with
  |rf id p=>show(bif beq id m then Cl.dead else .rf id p).own=_;cases beq id m<;>rfl
  |rs id p a b=>show(bif beq id m then Cl.dead else .rs id p a b).own=_;cases beq id m<;>rfl
  |rp id p a b=>show(bif beq id m then Cl.dead else .rp id p a b).own=_;cases beq id m<;>rfl
  |_=>rfl
 have cl:∀l:List Cl,(l.map (Cl.clr m)).any Cl.own=l.any Cl.own:=by
  grind
 cases y with
 |one y=>exact c1 y
 |new l=>rfl
 |agg l=>exact cl l
 |pk t l=>exact cl l
 |tup l=>
  show(l.map _).any _=l.any _;rw[any_map]
  congr 1
  funext p
  obtain⟨b,l⟩:=p;cases b with
  |true=>exact cl l
  |false=>
   cases l with
   |nil=>rfl
   |cons y l=>exact c1 y
def B8:Sl->Ae
 |.one (.c (.ptr t) (d+1) x)=>.obj false (AA t d x)
 |.one (.c (.sl t) (d+1) xs)=>.arr false t d xs
 |.new l=>.obj false l
 |_=>.dead
def D5:Sl->Bool
 |.one (.c (.ptr t) (_+1) _)=>blt 0 t.w
 |.one (.c (.sl _) (_+1) _)=>true
 |.new l=>blt 0 l.length
 |_=>false
def Nq(id:Nat):Ae->Cl
 |.obj _ _=>.rp id [] 0 0
 |_=>.rf id []
def St.back1(p:Nat×Nat)(s:St):St:=⟨AK (λi=>(s.t i).clr p.2) p.1 (.one (Nq p.2 (B8 (s.t p.1)))),s.r.set p.2 (B8 (s.t p.1))⟩
def XD(i:Nat):(s.back1 p).t i=AK (λi=>(s.t i).clr p.2) p.1 (.one (Nq p.2 (B8 (s.t p.1)))) i:=rfl
def MI{i:Nat}(h:i≠p.1):(s.back1 p).t i=(s.t i).clr p.2:=(XD i).trans (A1 h)
def St.backs:List (Nat×Nat)->St->St
 |[],s=>s
 |p::B,s=>St.backs B (s.back1 p)
theorem U2(t:Ty)(d:Nat)(x:t.T):(AA t d x).length=t.w:=by
 have:=congrArg List.length (BM t d x);rw[length_map,AB]at this
 grind
theorem Co(h:D5 y=true):y.stay=true/\(∀r,y.v r=(B8 y).v)/\Kn (B8 y).v/\∀(r:List Ae) (id:Nat),id<r.length->(Sl.one (Nq id (B8 y))).v (r.set id (B8 y))=KJ id (B8 y).v:=by
 unfold D5 at h;split at h
 case h_4=>grind
 .rename_i t d x
  have B:0<t.w:=blE h;refine⟨rfl,λr=>?_,⟨false,_,_,_,rfl,λ_=>⟨by simpa [U2]using B,rfl⟩⟩,λr id u=>rfl⟩
  show Bp (decide (0<d+1)) (tyV t (d+1-1) x)=Bp true ((AA t d x).map Cl.v0);rw[BM];rfl
 .rename_i t d xs
  refine⟨rfl,λr=>?_,⟨true,_,_,_,rfl,λh=>by grind⟩,λr id u=>?_⟩
  .rfl
  .show V.rs id [] 0 (Ag (r.set id (.arr false t d xs)) id []).len=_
   have:(Ag (r.set id (.arr false t d xs)) id []).len=xs.length:=by
    show((r.set id (.arr false t d xs)).getD id .dead).len=_;simp[u];rfl
   rw[this];rfl
 .rename_i l
  have B:0<l.length:=blE h;exact⟨rfl,λr=>rfl,⟨false,_,_,_,rfl,λ_=>⟨by simpa using B,rfl⟩⟩,λr id u=>rfl⟩
theorem XE{ds:List (Option Nat)}{S:Ms}(h:Zo ds S s)(hd:some p.1∉ds)(hp:p.2<s.r.length)(he:S.t p.1=s.den.t p.1)(Z:D5 (s.t p.1)=true):
  Zo ds ⟨AI S.t p.1 (KJ p.2 (S.t p.1)),S.σ.set p.2 (S.t p.1)⟩ (s.back1 p):=by
 obtain⟨h1,h2,h3,h4⟩:=Co Z;have e:S.t p.1=(B8 (s.t p.1)).v:=he.trans (h2 _)
 have hg:∀id,id≠p.2->(s.r.set p.2 (B8 (s.t p.1))).getD id .dead=s.r.getD id .dead:=λid W=>by
  simp only[gDE];rw[getElem?_set_ne (Ne.symm W)]
 have u:∀i,i≠p.1->(s.back1 p).t i=(s.t i).clr p.2:=λi O=>MI O
 refine⟨?_,λi=>?_,λi O=>?_⟩
 .show S.σ.set p.2 (S.t p.1)=(s.r.set p.2 (B8 (s.t p.1))).map Ae.v
  rw[h.σ,List.map_set,e];rfl
 .show Ay (AI S.t p.1 (KJ p.2 (S.t p.1)) i) _
  unfold AI;by_cases O:i=p.1
  .subst O
   rw[if_pos rfl,e]
   have e2:(s.back1 p).t p.1=.one (Nq p.2 (B8 (s.t p.1))):=by
    rw[XD];unfold AK;rw[beq_refl];rfl
   show Ay _ (((s.back1 p).t p.1).v _);rw[e2];rw[show(s.back1 p).r=s.r.set p.2 (B8 (s.t p.1))from rfl,h4 s.r p.2 hp]
   exact Ay.refl _
  .rw[if_neg O]
   show Ay _ (((s.back1 p).t i).v _);rw[u i O];exact(h.t i).trans (Sl.clr_v hg (s.t i))
 .have J:i≠p.1:=λe=>hd (e▸O)
  obtain⟨k1,k2⟩:=h.o i O;have hV:AI S.t p.1 (KJ p.2 (S.t p.1)) i=S.t i:=by unfold AI;rw[if_neg J]
  have U:((s.back1 p).t i).own=(s.t i).own:=by rw[u i J,Abh]
  refine⟨λB=>?_,?_⟩
  .rw[U]at B
   rw[u i J,Sl.clr_stay (k1 B)];exact k1 B
  .show AI S.t p.1 (KJ p.2 (S.t p.1)) i=_\/(_/\AN (AI S.t p.1 (KJ p.2 (S.t p.1)) i)=false)
   rw[hV];cases B:(s.t i).own with
   |false=>
    right;refine⟨by rw[U,B],?_⟩
    rcases k2 with k2|k2
    .rw[k2];show AN ((s.t i).v s.r)=false;rw[Sl.own_v,B]
    .exact k2.2
   |true=>
    left;rcases k2 with k2|k2
    .rw[k2]
     show(s.t i).v s.r=((s.back1 p).t i).v _;rw[u i J,Sl.clr_stay (k1 B)];exact PY (k1 B) _ _
    .rw[B]at k2;cases k2.1
theorem J3{ds:List (Option Nat)}:∀(B:List (Nat×Nat)) (S:Ms) (s:St),Zo ds S s->(B.map (·.1)).Nodup->(∀p∈B,some p.1∉ds/\p.2<s.r.length/\S.t p.1=s.den.t p.1/\D5 (s.t p.1)=true)->Zo ds (Go.Ve.backs B S) (St.backs B s)
 |[],S,s,h,_,_=>h
 |p::B,S,s,h,hn,hB=>by
  obtain⟨h1,Z,W,U⟩:=hB p (mem_cons_self ..);rw[map_cons,List.nodup_cons]at hn;refine J3 B _ _ (XE h h1 Z W U) hn.2 λq O=>?_
  obtain⟨g1,g2,g3,g4⟩:=hB q (mCM _ O);have J:q.1≠p.1:=λe=>hn.1 (e▸mem_map.2 ⟨q,O,rfl⟩)
  have u:=(Co g4).1
  have e1:(s.back1 p).t q.1=s.t q.1:=by
   rw[MI J,Sl.clr_stay u]
  refine⟨g1,by show q.2<(s.r.set _ _).length;grind,?_,by grind⟩
  show AI S.t p.1 _ q.1=((s.back1 p).t q.1).v _;unfold AI;rw[if_neg J,g3,e1];exact PY u _ _
theorem MH:∀(B:List (Nat×Nat)) (s:St),(∀i,(∀p∈B,p.1≠i)->(s.t i).stay=true->(St.backs B s).t i=s.t i)/\(∀id,(∀p∈B,p.2≠id)->(St.backs B s).r.getD id .dead=s.r.getD id .dead)/\(St.backs B s).r.length=s.r.length
 |[],s=>⟨λ_ _ _=>rfl,λ_ _=>rfl,rfl⟩
 |p::B,s=>by
  obtain⟨h1,Z,W⟩:=MH B (s.back1 p);refine⟨λi O U=>?_,λid J=>?_,W.trans (by show(s.r.set _ _).length=_;simp)⟩
  .have e:(s.back1 p).t i=s.t i:=by
    rw[MI λe=>O p (mem_cons_self ..) e.symm,Sl.clr_stay U]
   refine(h1 i (λq u=>O q (mCM _ u)) (by grind)).trans e
  .refine(Z id λq u=>J q (mCM _ u)).trans ?_
   show(s.r.set _ _).getD id .dead=_
   grind
def rerefs(id:Nat)(v:V):List Nat->(Nat->V)->(Nat->V)
 |[],t=>t
 |y::Y,t=>rerefs id v Y (AI t y (KJ id v))
theorem PR.reref{C:Ctx}{N:Nat}{σ:List V}{ρ:Nat->Value}{F:Nat->Nat->Prop}{a:Act}{w:World}{D:Nat->Prop}{T:Nat->Nat->Prop}{id:Nat}{v:V}(B:id<σ.length)(J:σ.getD id .dead=v)(U:Kn v):∀(Y:List Nat) (t:Nat->V),PR C N σ ρ F t a w D T->
  (∀y∈Y,y<N/\a.tmps.getD y undef=ρ id/\∀b,¬T y b)->PR C N σ ρ F (rerefs id v Y t) a w D T
 |[],t,h,_=>h
 |y::Y,t,h,hY=>by
  obtain⟨h1,h2,h3⟩:=hY y (mem_cons_self ..);refine PR.reref B J U Y _ ⟨h.df,h.sz,λx O=>?_,h.wr,λx O=>?_,h.tD,h.tF,h.tT,h.tn,h.fr,h.Fn,h.D1,h.D2,h.rt,h.ml,h.tx⟩ λz hz=>hY z (mCM _ hz)
  .have:¬x=y:=by omega
   simp[AI,this,if_false];exact h.dd x O
  .by_cases W:x=y
   .subst W
    simp only[AI,if_true];rw[h2];obtain⟨s0,sz,n,f,Z,e2⟩:=U;have u:=h.wr.rel id B;rw[J,Z]at u;rw[Z]at J⊢;exact Rel.fp_congr (λb=>⟨λh=>h.elim,λh=>absurd h (h3 b)⟩) (LT B J e2 u)
   .simp only[AI,W,if_false]
    exact h.tm x O
def St.rerefs(id:Nat)(R:Ae):List Nat->St->St
 |[],s=>s
 |y::Y,s=>St.rerefs id R Y ⟨AK s.t y (.one (Nq id R)),s.r⟩
theorem KH{ds:List (Option Nat)}{id:Nat}{R:Ae}(O:Kn R.v):∀(Y:List Nat) (S:Ms) (s:St),Zo ds S s->(s.r.getD id .dead)=R->(∀y∈Y,some y∉ds)->Zo ds ⟨Go.Ve.rerefs id R.v Y S.t,S.σ⟩ (St.rerefs id R Y s)
 |[],S,s,h,_,_=>h
 |y::Y,S,s,h,hr,hY=>by
  have U:∀i,some i∈ds->i≠y:=λi J e=>hY y (mem_cons_self ..) (e▸J)
  have u:(Sl.one (Nq id R)).v s.r=KJ id R.v:=by
   cases R with
   |obj ro l=>rfl
   |arr ro t d xs=>
    show V.rs id [] 0 (Ag s.r id []).len=_
    have:(Ag s.r id []).len=xs.length:=by
     show(s.r.getD id .dead).len=_;rw[hr];rfl
    rw[this];rfl
   |dead=>obtain⟨_,_,_,_,e,_⟩:=O;cases e
   |mp=>obtain⟨_,_,_,_,e,_⟩:=O;cases e
   |opt ro t d x=>
    obtain⟨_,_,_,_,e,_⟩:=O;cases x with
    |none=>cases e
    |some xs=>
     show V.rs id [] 0 (Ag s.r id []).len=_
     have:(Ag s.r id []).len=xs.length:=by
      show(s.r.getD id .dead).len=_;rw[hr];rfl
     rw[this];rfl
  refine KH O Y ⟨AI S.t y (KJ id R.v),S.σ⟩ ⟨AK s.t y (.one (Nq id R)),s.r⟩ ⟨h.σ,λi=>?_,λi J=>?_⟩ hr λz W=>hY z (mCM _ W)
  .show Ay (AI S.t y (KJ id R.v) i) ((AK s.t y (.one (Nq id R)) i).v s.r)
   unfold AI;by_cases B:i=y
   .subst B
    rw[if_pos rfl];have:AK s.t i (.one (Nq id R)) i=.one (Nq id R):=by unfold AK;simp
    rw[this,u];exact Ay.refl _
   .rw[if_neg B,A1 B];exact h.t i
  .have B:=U i J
   obtain⟨k1,k2⟩:=h.o i J;show((AK s.t y (.one (Nq id R)) i).own=true->(AK s.t y (.one (Nq id R)) i).stay=true)/\(AI S.t y (KJ id R.v) i=(AK s.t y (.one (Nq id R)) i).v s.r\/((AK s.t y (.one (Nq id R)) i).own=false/\AN (AI S.t y (KJ id R.v) i)=false));unfold AI;rw[if_neg B,A1 B];exact⟨k1,k2⟩
theorem Nm{id:Nat}{R:Ae}:∀(Y:List Nat) (s:St),(St.rerefs id R Y s).r=s.r/\∀i,i∉Y->(St.rerefs id R Y s).t i=s.t i
 |[],s=>⟨rfl,λ_ _=>rfl⟩
 |y::Y,s=>by
  obtain⟨J,B⟩:=Nm Y ⟨AK s.t y (.one (Nq id R)),s.r⟩;refine⟨J,λi u=>(B i λh=>u (mCM _ h)).trans ?_⟩
  exact A1 λe=>u (e▸mem_cons_self ..)
end Go.Ve


namespace Go.Ve
open Go Go.Ve
variable{a:Act}{ops:Array Oper}{C:Ctx}{E:Env}{fs:List Nat}{late:List Oper}{σ σ':List V}{N d id k m n sz:Nat}{F:Nat->Nat->Prop}{f:Nat->Nat->V}{D:Nat->Prop}{ρ:Nat->Value}{o o1 o2 o3:Oper}{x y:Operand}{A:PtR}{s s':St}{t:TypeId}{cv:Value}{w:World}
theorem Wf{q:List (Nat×Nat)}(u:sub q (σ.getD id .dead)=.nd true true sz n f)(h:Aq σ ρ w (.rs id q 0 n) cv):
  id<σ.length/\At w q (σ.getD id .dead) (ρ id) (.nd true true sz n f) cv:=by
 obtain⟨B,U,Z,f',cn,O,W,J⟩:=h;have e:=(At.sub O).trans u;cases e;refine⟨B,?_⟩;have:cv=cn:=by
  rcases J with⟨b,o,cap,rfl,rfl⟩|⟨h0,_,_,h1,_⟩
  .simp[AC]
  grind
 grind
def elI0(E:Env)(t:TypeId):Option TI:=((E.Θ.look t).bind (·.elem)).bind E.Θ.look
section
variable {P:Program}{Θ:Tab}
theorem QR(hΘ:Θ.OK P){C:Ctx}{N:Nat}{s:St}{o:Oper}{t:TypeId}{x y:Operand}{a:Act}{w:World}{d:Nat}
  (ho:o.op=.call ⟨.builtin .append,#[x,y],#[t,t]⟩) (hdst:o.dst=some d) (hdn:d<N) {ti:TI} (hti:((Θ.look t).bind (·.elem)).bind Θ.look=some ti) (hby:0<ti.bytes) (hw:0<ti.ty.w)
  {id:Nat}{q:AX} (hx:s.ev x=some (.one (.rf id q))) {ro:Bool}{dx:Nat}{xs:List ti.ty.T} (U:Ag s.r id q=.arr ro ti.ty dx xs)
  {ys:List ti.ty.T}{dy:Nat}{js:List Nat} (hy:U5 s ti.ty id (s.ev y)=some (dy,ys,js)) (hdk:dOK ti.ty dy dx=true) (hlim:xs.length+ys.length<=NV ti.bytes) (hs:AQ C N s.den a w):
  ∃v' w',(execOp a.eval o).run P w=.ok (.value v') w'/\AQ C N ⟨AI (λi=>AJ s.r.length [] (rrV id q s.r.length ((Ap js s).den.t i))) d (.rs (s.r.length+1) [] 0 (xs.length+ys.length)),
   ((Ap js s).den.σ.set id (upd q ((Ap js s).den.σ.getD id .dead) .dead)++[.dead])++[arr true ti.ty.w (tyV ti.ty dx) ti.ty.dflt (xs++ys)]⟩ (a.put (some d) v') w'/\
   ∃D ρ F,CR C ((Ap js s).den.σ.set id (upd q ((Ap js s).den.σ.getD id .dead) .dead)++[sub q ((Ap js s).den.σ.getD id .dead)]) (((range N).map (Ap js s).den.t).map (rrV id q s.r.length)) a.tmps w D ρ F/\∀c,c<w.heap.size->¬F s.r.length c->w'.heap[c]? =w.heap[c]?:=by
 obtain⟨hdf,hdd,D,ρ,F,B⟩:=hs;obtain⟨e,hsl,_⟩:=Dz hΘ hti;have hY:=Iv B hdd hy;obtain⟨⟨Fy,hrd,hFy,hFd⟩,hjs2⟩:=hY;rw[show tyV ti.ty dy=tyV ti.ty dx from funext λz=>Dl _ _ _ z (Mx hdk)]at hrd
 have hidj:id∉js:=λh=>(hjs2 id h).2 rfl
 have hlσ:s.den.σ.length=s.r.length:=by simp[St.den]
 -- the drop
 obtain⟨F1,hcr1,hF1⟩:=CP js B (λj hj=>(hjs2 j hj).1)
 have hdd1:=BZ js (N:=N) hdd
 -- the row
 have hrx:=BE B hdd x;rw[Bf hx]at hrx;have hrx:Rel D w (Aq s.den.σ ρ w) (.rs id q 0 (Ag s.r id q).len) (a.eval x) noF:=hrx
 have hsub:sub q (s.den.σ.getD id .dead)=arr true ti.ty.w (tyV ti.ty dx) ti.ty.dflt xs:=by
  have:=AV (r:=s.r) (id:=id) (p:=q) (by rw[U];simp)
  rw[U]at this;exact this
 rw[U]at hrx;obtain⟨hid,hat⟩:=Wf (show sub q (s.den.σ.getD id .dead)=V.nd true true ti.ty.w xs.length (λi k=>(tyV ti.ty dx (xs.getD i ti.ty.dflt)).getD k .dead)from hsub) hrx.1
 have hid1:id<s.r.length:=by rw[<-hlσ];exact hid
 have W:∀(js:List Nat) (s:St),id∉js->(Ap js s).den.σ.getD id .dead=s.den.σ.getD id .dead:=by
  intro js
  induction js with
  |nil=>exact λ_ _=>rfl
  |cons j js ih=>
   intro s hj;simp only[mem_cons,not_or]at hj;show(Ap js (HV j s)).den.σ.getD id .dead=_;rw[ih _ hj.2];show((s.r.set j .dead).map Ae.v).getD id .dead=_;rw[Ax];show _=(s.r.map Ae.v).getD id .dead;rw[Ax,gDE,getElem?_set_ne (Ne.symm hj.1),<-gDE]
 have W:=W js s hidj;have hl1:(Ap js s).den.σ.length=s.r.length:=by simp[St.den,Iq]
 rw[<-W]at hat
 -- it is cut out
 obtain⟨ρ2,F2,u,hρ2,hρ2',hF2⟩:=CR.reroot hcr1 (by rw[hl1];exact hid1) hat
 rw[hl1]at u hρ2 hρ2';obtain⟨m,hm⟩:∃m,m=s.r.length:=⟨_,rfl⟩;rw[<-hm]at u hρ2 hρ2' hl1 hid1;have Z:((Ap js s).den.σ.set id (upd q ((Ap js s).den.σ.getD id .dead) .dead)).length=m:=by rw[length_set];exact hl1
 have hlast:∀v:V,((Ap js s).den.σ.set id (upd q ((Ap js s).den.σ.getD id .dead) .dead)++[v]).getD m .dead=v:=λv=>by
  rw[gDE,gAR (by rw[Z];exact le_refl _),Z];simp
 have hrow:Rel D w noR (arr true ti.ty.w (tyV ti.ty dx) ti.ty.dflt xs) (a.eval x) (F2 m):=by
  have:=u.wr.rel m (by rw[length_append,Z];exact Nat.lt_succ_self m)
  rw[hlast,W,hsub,hρ2]at this;exact this
 have hF2D:∀b,D b->¬F2 m b:=λb O h=>u.wr.dD m b h O
 have hF2o:∀i b,F2 i b->∃j,F j b/\j∉js:=λi b h=>by
  obtain⟨j,h1⟩:=hF2 i b h;obtain⟨h2,h3⟩:=hF1 j b h1;exact⟨j,h2,h3⟩
 have O:(xs.length+ys.length)*ti.bytes<=140737488355328:=by
  rw[Nat.mul_comm];exact(Nat.mul_comm _ _▸(Nat.le_div_iff_mul_le hby).1 hlim)
 have h63:xs.length+ys.length<=maxLen:=by
  have:xs.length+ys.length<=(xs.length+ys.length)*ti.bytes:=Nat.le_mul_of_pos_right _ hby;simp only[maxLen];omega
 obtain⟨v',w',fp,hrun,hos,htp,hout,hdr,hsz,hbl,hr',hfp⟩:=Rel.append (P:=P) (ty:=o.type) (f:=λi k=>(tyV ti.ty dx (xs.getD i ti.ty.dflt)).getD k .dead) hsl hw hrow hF2D B.wr.Dlt hrd
  (λi k c hi hk hF=>by
   obtain⟨j,hj,J⟩:=hFy i k c hi hk hF;refine⟨B.wr.dD j c J,λhx=>?_⟩
   obtain⟨j2,h2,h3⟩:=hF2o m c hx;exact B.wr.disj j j2 c (λe=>h3 (e▸hj)) J h2) hFd h63 O
 have hdrop:=CR.drop u (j:=m) (by rw[length_append,Z];exact Nat.lt_succ_self m)
 have hfpG:∀b,fp b->(F2 m b\/∃j∈js,F j b)\/w.heap.size<=b:=by
  intro b O;rcases hfp b O with h1|⟨i,k,hi,hk,h1⟩|h1
  .exact .inl (.inl h1)
  .obtain⟨j,hj,J⟩:=hFy i k b hi hk h1
   exact .inl (.inr ⟨j,hj,J⟩)
  .exact .inr h1
 have hr2:Rel D w' noR (arr true ti.ty.w (tyV ti.ty dx) ti.ty.dflt (xs++ys)) v' fp:=
  Rel.sub (MG rfl rfl (λ_ _ _=>rfl) (λ_ _ _=>rfl)) hr'
 have hc:=CR.own hdrop (G:=λb=>F2 m b\/∃j∈js,F j b) (D':=D) (λi b O hG=>by
   split at O
   .exact O.elim
   .rename_i hne
    rcases hG with h1|⟨j,hj,J⟩
    .exact u.wr.disj i m b hne O h1
    .obtain⟨j2,h2,h3⟩:=hF2o i b O
     exact B.wr.disj j j2 b (λe=>h3 (e▸hj)) J h2)
  (λb O hG=>hG.elim (hF2D b O) fun⟨j,_,J⟩=>B.wr.dD j b J O)
  (λb hG=>hG.elim (λh=>u.Fn m b h) fun⟨j,_,J⟩=>B.Fn j b J) hos htp hout hdr hsz
  (λc hc hG=>hbl c hc λh=>hG (.inl h)) hr2 hfpG (λ_ h=>h) (λ_ h=>.inl h)
  (λb O=>⟨Nat.lt_of_lt_of_le (B.wr.Dlt b O) hsz,λh=>by
   rcases hfpG b h with(h1|⟨j,_,J⟩)|h2
   .exact hF2D b O h1
   .exact B.wr.dD j b J O
   .have:=B.wr.Dlt b O;omega⟩) d
 have hl3:(((Ap js s).den.σ.set id (upd q ((Ap js s).den.σ.getD id .dead) .dead)++[sub q ((Ap js s).den.σ.getD id .dead)]).set m .dead)=(Ap js s).den.σ.set id (upd q ((Ap js s).den.σ.getD id .dead) .dead)++[.dead]:=by
  rw[List.set_append_right _ _ (by rw[Z];exact le_refl _),Z];simp
 rw[hl3]at hc
 have hl4:((Ap js s).den.σ.set id (upd q ((Ap js s).den.σ.getD id .dead) .dead)++[V.dead]).length=m+1:=by
  rw[length_append,length_set,hl1];rfl
 rw[hl4,show prom (arr true ti.ty.w (tyV ti.ty dx) ti.ty.dflt (xs++ys)) (m+1)=(.rs (m+1) [] 0 (xs++ys).length,[arr true ti.ty.w (tyV ti.ty dx) ti.ty.dflt (xs++ys)])from rfl,length_append]at hc
 have hex:(execOp a.eval o).run P w=.ok (.value v') w':=by
  unfold execOp;simp only[ho,resolve,invoke,builtin,Sem.run_bind,Sem.run_pure,Result.andThen_ok,List.map_toArray,map_cons,List.map_nil,hrun]
 rw[<-hm];refine⟨v',w',hex,⟨hdf,λz hz=>?_,?_⟩,D,ρ2,F2,u,λc hc hF=>hbl c hc hF⟩
 .show AI (λi=>AJ m [] (rrV id q m ((Ap js s).den.t i))) d (V.rs (m+1) [] 0 (xs.length+ys.length)) z=.dead
  unfold AI;rw[if_neg (by omega)]
  show AJ m [] (rrV id q m ((Ap js s).den.t z))=.dead;rw[hdd1 z hz];rfl
 .rw[map_map,map_map,Db hdn]at hc
  exact hc
theorem app_in(U:Θ.OK P){C:Ctx}{N:Nat}{s:St}{o:Oper}{t:TypeId}{x y:Operand}{a:Act}{w:World}{d:Nat}{next:Act->World->Prop}{Q:Exit->Act->World->Prop}
  (ho:o.op=.call ⟨.builtin .append,#[x,y],#[t,t]⟩) (u:o.dst=some d) (Z:d<N) {ti:TI} (W:((Θ.look t).bind (·.elem)).bind Θ.look=some ti) (hby:0<ti.bytes) (hw:0<ti.ty.w)
  {id:Nat}{q:AX} (hx:s.ev x=some (.one (.rf id q))) {ro:Bool}{dx:Nat}{xs:List ti.ty.T} (B:Ag s.r id q=.arr ro ti.ty dx xs)
  {ys:List ti.ty.T}{dy:Nat}{js:List Nat} (hy:U5 s ti.ty id (s.ev y)=some (dy,ys,js)) (hdk:dOK ti.ty dy dx=true) (O:xs.length+ys.length<=NV ti.bytes) (hs:AQ C N s.den a w)
  (hn:∀v' w',AQ C N ⟨AI (λi=>AJ s.r.length [] (rrV id q s.r.length ((Ap js s).den.t i))) d (.rs (s.r.length+1) [] 0 (xs.length+ys.length)),
   ((Ap js s).den.σ.set id (upd q ((Ap js s).den.σ.getD id .dead) .dead)++[.dead])++[arr true ti.ty.w (tyV ti.ty dx) ti.ty.dflt (xs++ys)]⟩ (a.put (some d) v') w'->next (a.put (some d) v') w'):o.wp P a w next Q:=by
 obtain⟨v',w',J,hs',_⟩:=QR U ho u Z W hby hw hx B hy hdk O hs;unfold Oper.wp;rw[J,Oper.upon_value,u]
 grind
def Abm(d:Nat):Operand->Bool
 |.tmp z=>!beq z d
 |.const _=>true
 |_=>false
theorem Ab3{t:Nat->V}{v:V}(h:Abm d x=true):Ms.ev ⟨AI t d v,σ⟩ x=Ms.ev ⟨t,σ'⟩ x:=by
 cases x with
 |tmp z=>
  show AI t d v z=t z;unfold AI;rw[if_neg]
  rintro rfl
  simp[Abm]at h
 |const c=>rfl
 |_=>rfl
def rowF(o1 o2 o3:Oper):Option ((Nat×TypeId×Operand×Operand)×(Nat×TypeId×Operand×Operand)×TypeId):=match o1.op,o1.dst,o2.op,o2.dst,o3.op,o3.dst with
 |.call c,some d,.indexAddr t2 u v,some e,.store t3 (.tmp e') (.tmp d'),none=>(match c.callee,c.args.toList,c.argTypes.toList with
  |.builtin .append,[x,y],[t,t']=>bif beq t t'&&beq e e'&&beq d d'&& !beq d e&&Abm d u&&Abm d v then some ((d,t,x,y),(e,t2,u,v),t3)else none
  |_,_,_=>none)
 |_,_,_,_,_,_=>none
theorem Jo{e:Nat}{t2 t3:TypeId}{u v:Operand}(h:rowF o1 o2 o3=some ((d,t,x,y),(e,t2,u,v),t3)):
  o1.op=.call ⟨.builtin .append,#[x,y],#[t,t]⟩/\o1.dst=some d/\o2.op=.indexAddr t2 u v/\o2.dst=some e/\o3.op=.store t3 (.tmp e) (.tmp d)/\o3.dst=none/\d≠e/\Abm d u=true/\Abm d v=true:=by
 unfold rowF at h;split at h
 case h_2=>cases h
 rename_i c d0 t20 u0 v0 e0 t30 e' d' h1 h2 h3 h4 h5 Z;split at h
 case h_2=>cases h
 rename_i x0 y0 t0 t' hc ha W;obtain⟨U,h⟩:=Bc h;cases h;simp only[bAE,not_eq_true']at U;obtain⟨⟨⟨⟨⟨O,J⟩,B⟩,b4⟩,b5⟩,b6⟩:=U;have O:=bqE O;have J:=bqE J;have B:=bqE B;subst O J B;refine⟨?_,h2,h3,h4,h5,Z,(λe=>by rw[e,beq_refl]at b4;cases b4),b5,b6⟩
 rw[h1];obtain⟨ce,ar,at'⟩:=c;obtain⟨ar⟩:=ar;obtain⟨at'⟩:=at'
 grind
def Qv(E:Env)(s:St)(m id:Nat)(q:AX)(o:Oper):Bool:=match o.op with
 |.fieldAddr t _ k=>match(E.Θ.look t).bind (·.flds[k]?)with
  |some _=>true
  |none=>false
 |.move _=>true
 |.indexAddr _ _ _=>true
 |.load t (.tmp z)=>match E.Θ.look t,s.t z with
  |some ti,.one (.rp id' p _ k)=>!hit id (q.map λx=>x.2) [(m,[])] id' p&&(Ag s.r id' p).live&&ble (k+ti.ty.w) (Ag s.r id' p).w&&blt 0 ti.ty.w
  |some ti,.one (.c (.ptr u) 0 _)=>ble ti.ty.w u.w&&blt 0 ti.ty.w
  |_,_=>false
 |_=>false
def VK(E:Env)(s:St)(late:List Oper)(o1 o2 o3:Oper):Option PtR:=match rowF o1 o2 o3 with
 |some ((d,t,x,y),(e,t2,u,v),t3)=>(match elI0 E t,elI0 E t2,E.Θ.look t3,s.ev x with
  |some ti,some ti2,some ti3,some (.one (.rf id q))=>(match Ag s.r id q,U5 s ti.ty id (s.ev y)with
   |.arr _ t' dx xs,some (dy,ys,js)=>if ht:t'=ti.ty then(match(Ap js s).ev u,(Ap js s).ev v with
     |some (.one (.rf id' p)),some (.one (.c (.int _) _ i))=>bif beq id' id&&blt 0 ti.bytes&&blt 0 ti.ty.w&&dOK ti.ty dy dx&&beq ti3.ty.w 1&&beq (Ag (Ap js s).r id p).w ti2.ty.w&&beq ti2.ty.w 1&&(Ag (Ap js s).r id p).live&&blt d E.h.n&&blt e E.h.n&& !E.h.fz.contains e&&late.all (Qv E (Ap js s) s.r.length id q)then
       (match WB q (p++[(i.toNat,0)]),((Ap js s).r.getD id .dead).setAt p i.toNat 0 (.c (.sl ti.ty) (dx+1) (Acc (ht▸xs) ys))with
       |some c,some r0=>some ⟨(((0:Int)<=i/\i<(((Ag (Ap js s).r id p).len:Nat):Int))/\c.p)/\HL (ht▸xs)+HL ys<=NV ti.bytes,@instDecidableAnd _ _ (@instDecidableAnd _ _ inferInstance c.dec) inferInstance,
         ⟨λz=>bif beq z d||beq z e then .one .dead else((Ap js s).t z).kill id ((p++[(i.toNat,0)]:AX).map λz=>z.2) [(s.r.length,[]),(s.r.length+1,[])],(Ap js s).r.set id r0++[.dead,.dead]⟩⟩
       |_,_=>none)else none
     |_,_=>none)else none
   |_,_=>none)
  |_,_,_,_=>none)
 |none=>none
theorem ev_G{t:Nat->V}{v0 y:V}{G:V->V}(u:Abm d x=true)(B:Ms.ev ⟨t,σ⟩ x=y)(J:G y=y):Ms.ev ⟨AI (λi=>G (t i)) d v0,σ'⟩ x=y:=by
 rw[Ab3 (σ':=σ') u];cases x with
 |tmp z=>
  show G (t z)=y;rw[show t z=y from B,J]
 |const c=>trivial
 |_=>trivial
theorem Zk{a b:Nat}(h:blt a b=true):a<b:=by simp_all
theorem GOK.row{Q:AX}:GOK (λv=>A9 id Q (m+1) (AJ m [] (rrV id Q m v))) id (Q.map (·.2)) [(m,[]),(m+1,[])]:=by
 have U:∀id' q,hit id (Q.map (·.2)) [(m,[]),(m+1,[])] id' q=false->id'≠m/\id'≠m+1/\¬ (id'=id/\AT Q q=true):=λid' q h=>
  ⟨λe=>(CN h).2 m [] (by simp) ⟨e,rfl⟩,λe=>(CN h).2 (m+1) [] (by simp) ⟨e,rfl⟩,(CN h).1⟩
 have O:∀id' (q:AX),id'≠m->¬ (id'=m/\AT [] q=true):=λ_ _ h W=>h W.1
 refine⟨Bb.comp (De _ _ _) (Bb.comp (Ba _ _) (Do _ _ _)),λid' q off len h=>?_,λid' q i k h=>?_,λid' q h=>?_⟩
 .obtain⟨J,B,u⟩:=U _ _ h
  simp[rrV,if_neg u,AJ,if_neg (O id' q J),A9,if_neg B]
 .obtain⟨J,B,u⟩:=U _ _ h
  simp[rrV,if_neg u,AJ,if_neg (O id' q J),A9,if_neg B]
 .obtain⟨J,B,u⟩:=U _ _ h
  simp[rrV,if_neg u,AJ,if_neg (O id' q J),A9,if_neg B]
def Pd{p:AX}{x:Nat×Nat}{y:V}(u:Kb p (σ.getD id .dead))(B:σ'.getD id .dead=upd (p++[x]) (σ.getD id .dead) y):AW σ' id p=AW σ id p:=by
 unfold AW;rw[B,D8 _ _ _ _ u,Ji _ _ _ u];cases sub p (σ.getD id .dead)<;>rfl
theorem VI(hΘ:E.Θ.OK P){next:Act->World->Prop}{Q:Exit->Act->World->Prop}(h:VK E s late o1 o2 o3=some A)(hp:A.p)(hs:AQ C E.h.n s.den a w)
  (hn:∀a' w',AQ C E.h.n A.s.den a' w'->next a' w'):o1.wp P a w (λa1 w1=>o2.wp P a1 w1 (λa2 w2=>o3.wp P a2 w2 next Q) Q) Q:=by
 unfold VK at h;split at h
 case h_2=>cases h
 rename_i d t x y e t2 u v t3 hrow;obtain⟨ho1,hd1,ho2,hd2,ho3,hd3,hde,hnu,hnv⟩:=Jo hrow;split at h
 case h_2=>cases h
 rename_i ti ti2 ti3 id q hti hti2 hti3 hx;split at h
 case h_2=>cases h
 rename_i ro t' dx xs dy ys js hnode hy;split at h
 case isFalse=>cases h
 rename_i ht;subst ht;split at h
 case h_2=>cases h
 rename_i id' p kk di i hu hv;obtain⟨hb,h⟩:=Bc h;simp only[bAE,not_eq_true']at hb;obtain⟨⟨⟨⟨⟨⟨⟨⟨⟨⟨⟨b1,b2⟩,b3⟩,b4⟩,b5⟩,b6⟩,b7⟩,b8⟩,b9⟩,b10⟩,b11⟩,_⟩:=hb;have b1:=bqE b1;subst b1;have b5:=bqE b5;have b6:=bqE b6;have b7:=bqE b7;have b9:=Zk b9;have b10:=Zk b10;split at h
 case h_2=>cases h
 rename_i c r0 hc hset;cases h;obtain⟨⟨⟨hi0,hil⟩,hcp⟩,hlim⟩:=hp;obtain rfl:=IV _ _ _ hc hcp;have hY:∀j∈js,j<s.r.length/\j≠id':=by
  obtain⟨_,_,D,ρ,F,hcr⟩:=hs;exact(Iv hcr ‹_› hy).js
 refine app_in hΘ ho1 hd1 b9 hti (Lk b2) (Lk b3) hx hnode hy b4 (by simpa [HL]using hlim) hs λv' w' hs1=>?_
 have hsd:∃D ρ F,CR C (Ap js s).den.σ ((range E.h.n).map (Ap js s).den.t) a.tmps w D ρ F/\∀x,E.h.n<=x->(Ap js s).den.t x=.dead:=by
  obtain⟨_,hdd,D,ρ,F,hcr⟩:=hs;obtain⟨F1,hcr1,_⟩:=CP js hcr (λj hj=>(hY j hj).1)
  exact⟨D,ρ,F1,hcr1,BZ js hdd⟩
 obtain⟨D1,ρ1,F1,hcr1,hdd1⟩:=hsd;have hru:=BE hcr1 hdd1 u;rw[Bf hu]at hru;have hru:Rel D1 w (Aq (Ap js s).den.σ ρ1 w) (.rs id' p 0 (Ag (Ap js s).r id' p).len) (a.eval u) noF:=hru;obtain⟨⟨hid,_,_,_,_,hat,_,_⟩,_⟩:=hru;have hok:=At.ok hat;have hidr:id'<(Ap js s).r.length:=by simpa [St.den]using hid
 have hl:(Ap js s).r.length=s.r.length:=Iq js s;obtain⟨m,hm⟩:∃m,m=s.r.length:=⟨_,rfl⟩;rw[<-hm]at hs1 hl;simp only[<-hm]at hn;generalize hS1:((Ap js s).den.σ.set id' (upd (p++[(i.toNat,0)]) ((Ap js s).den.σ.getD id' .dead) .dead)++[.dead])++[arr true ti.ty.w (tyV ti.ty dx) ti.ty.dflt (xs++ys)]=B at hs1;generalize hT1:AI (λi_1=>AJ m [] (rrV id' (p++[(i.toNat,0)]) m ((Ap js s).den.t i_1))) d (.rs (m+1) [] 0 (xs.length+ys.length))=T1 at hs1
 have Z:(Ap js s).den.σ.length=m:=by rw[<-hl];simp[St.den]
 have W:B.getD id' .dead=upd (p++[(i.toNat,0)]) ((Ap js s).den.σ.getD id' .dead) .dead:=by
  rw[<-hS1,AD (by simp;omega),AD (by simp;omega),Aj (by omega)]
 have U:B.getD (m+1) .dead=arr true ti.ty.w (tyV ti.ty dx) ti.ty.dflt (xs++ys):=by
  rw[<-hS1,gDE,gAR (by simp;omega)]
  simp[Z]
 have hsz1:AW B id' p=ti2.ty.w:=by
  rw[Pd hok W,<-b6];exact Cn b8
 have hidm:id'≠m:=by omega
 obtain⟨e2,hsl,_⟩:=Dz hΘ hti2;refine Hl (h:=E.h) (K:=λS'=>S'=⟨AI T1 e (.rp id' p i.toNat 0),B⟩) ?_ hs1 λS' a2 w2 hS' hs2=>?_
 .unfold vop
  rw[ho2]
  have hu1:Ms.ev ⟨T1,B⟩ u=.rs id' p 0 (Ag (Ap js s).r id' p).len:=by
   rw[<-hT1];exact ev_G (G:=λv=>AJ m [] (rrV id' (p++[(i.toNat,0)]) m v)) (t:=(Ap js s).den.t) (σ:=(Ap js s).den.σ) hnu (Bf hu) (by simp[rrV,Im,AJ,hidm])
  have hv1:Ms.ev ⟨T1,B⟩ v=.c (.int kk i):=by
   rw[<-hT1];exact ev_G (G:=λv=>AJ m [] (rrV id' (p++[(i.toNat,0)]) m v)) (t:=(Ap js s).den.t) (σ:=(Ap js s).den.σ) hnv (Bf hv) rfl
  show Nu P B (Ms.ev ⟨T1,B⟩) (.indexAddr t2 u v) _;unfold Nu
  dsimp only
  rw[hu1,hv1,hsl];refine⟨hsz1,by omega,⟨hi0,hil⟩,.rp id' p i.toNat 0,by rw[Nat.zero_add];exact Sub.refl _,?_⟩
  show Ms.res _ E.h o2.dst _=_;rw[hd2];unfold Ms.res;simp only[b10,if_true,b11];simp[prom]
 .subst hS'
  refine Hl (h:=E.h) (K:=λS'=>S'=⟨λz=>A9 id' (p++[(i.toNat,0)]) (m+1) (AI T1 e (.rp id' p i.toNat 0) z),
   (B.set id' (upd (p++[(i.toNat,0)]) (B.getD id' .dead) (B.getD (m+1) .dead))).set (m+1) .dead⟩) ?_ hs2 λS' a3 w3 hS' hs3=>hn a3 w3 ?_
  .unfold vop
   rw[ho3];refine⟨hd3,?_⟩;have he1:Ms.ev ⟨AI T1 e (.rp id' p i.toNat 0),B⟩ (.tmp e)=.rp id' p i.toNat 0:=by
    show AI T1 e _ e=_;unfold AI;rw[if_pos rfl]
   have he2:Ms.ev ⟨AI T1 e (.rp id' p i.toNat 0),B⟩ (.tmp d)=.rs (m+1) [] 0 (xs.length+ys.length):=by
    show AI T1 e _ d=_;rw[<-hT1];unfold AI;rw[if_neg hde,if_pos rfl]
   rw[he1,he2,hΘ.ty hti3];unfold Vp;refine⟨rfl,⟨b5.symm,by rw[hsz1,b7,b5];exact le_refl _⟩,?_⟩
   rw[b5];show LY id' p i.toNat 0 (.rs (m+1) [] 0 (xs.length+ys.length)) [] B _;unfold LY;have hsub:sub [] (B.getD (m+1) .dead)=.nd true true ti.ty.w (xs++ys).length λi k=>(tyV ti.ty dx ((xs++ys).getD i ti.ty.dflt)).getD k .dead:=U
   simp only[hsub];have hne:m+1≠id':=by omega
   rw[if_neg (λh=>hne h.1)]
   refine⟨⟨trivial,by simp,hne⟩,?_⟩
   rfl
  .subst hS'
   have hG:GOK (λv=>A9 id' (p++[(i.toNat,0)]) (m+1) (AJ m [] (rrV id' (p++[(i.toNat,0)]) m v))) id' ((p++[(i.toNat,0)]:AX).map λz=>z.2) [(m,[]),(m+1,[])]:=GOK.row
   have hlen:∀J q2,hit id' ((p++[(i.toNat,0)]:AX).map λz=>z.2) [(m,[]),(m+1,[])] J q2=false->(Ag ((Ap js s).r.set id' r0++[Ae.dead,Ae.dead]) J q2).len=(Ag (Ap js s).r J q2).len:=by
    intro J q2 hh;have h1:J≠m/\J≠m+1:=⟨λe=>(CN hh).2 m [] (by simp) ⟨e,rfl⟩,λe=>(CN hh).2 (m+1) [] (by simp) ⟨e,rfl⟩⟩
    rcases lt_or_ge J m with h2|h2
    .have e1:Ag ((Ap js s).r.set id' r0++[Ae.dead,Ae.dead]) J q2=Ag ((Ap js s).r.set id' r0) J q2:=by
      unfold Ag;rw[gDE,gAL (by simp;omega),<-gDE]
     rw[e1];by_cases he:J=id'
     .subst he
      rw[BR hidr];refine JF p _ _ hset q2 ?_;cases hp2:pre ((p++[(i.toNat,0)]:AX).map λz=>z.2) q2 with
      |false=>rfl
      |true=>
       unfold hit at hh;rw[beq_refl,hp2]at hh;cases hh
     .rw[Bn he]
    .have e1:Ag ((Ap js s).r.set id' r0++[Ae.dead,Ae.dead]) J q2=Ag (Ap js s).r J q2:=by
      unfold Ag;rw[gDE,gDE,getElem?_eq_none (by simp;omega),getElem?_eq_none (by omega)]
     rw[e1]
   refine hs3.sub ?_ (λj hj=>?_) λz=>?_
   .rw[<-hS1]
    simp[St.den]
   .have hσd:∀j,(Ap js s).den.σ.getD j .dead=((Ap js s).r.getD j .dead).v:=λj=>Ax _ _
    have hσo:∀j,m<=j->(Ap js s).den.σ.getD j .dead=.dead:=λj hj=>by rw[gDE,getElem?_eq_none (by omega)];rfl
    have hR:∀j,(((Ap js s).r.set id' r0++[Ae.dead,Ae.dead]).map Ae.v).getD j .dead=if j=id' then r0.v else(Ap js s).den.σ.getD j .dead:=by
     intro j;rw[Ax];by_cases O:j=id'
     .subst O
      rw[if_pos rfl,gDE,gAL (by simp;omega),List.getElem?_set_self hidr];rfl
     .rw[if_neg O,hσd]
      rcases lt_or_ge j m with h2|h2
      .rw[gDE,gAL (by simp;omega),getElem?_set_ne (Ne.symm O),<-gDE]
      .rw[gDE,gDE,gAR (by simp;omega),getElem?_eq_none (l:=(Ap js s).r) (by omega)]
       simp only[length_set,hl]
       match hk:j-m with
       |0=>rfl
       |1=>rfl
       |k+2=>rfl
    show Sub _ ((((Ap js s).r.set id' r0++[Ae.dead,Ae.dead]).map Ae.v).getD j .dead);rw[hR,W,U,Ku];by_cases hj1:j=m+1
    .subst hj1
     rw[if_neg (by omega),hσo (m+1) (by omega),Aj (by simpa using hj)]
     exact Sub.refl _
    .rw[Ai (Ne.symm hj1)]
     by_cases O:j=id'
     .subst O
      rw[if_pos rfl,Aj (by simp at hj;omega),hσd]
      exact Hu (Sub.refl _) p _ _ hset
     .rw[if_neg O,Ai (Ne.symm O),<-hS1]
      rcases lt_or_ge j m with h2|h2
      .rw[AD (by simp;omega),AD (by simp;omega),Ai (Ne.symm O)]
       exact Sub.refl _
      .have hj2:j=m:=by
        simp[<-hS1,Z]at hj;omega
       rw[hσo j (by omega),AD (by simp;omega),gDE,gAR (by simp;omega)]
       simp only[length_set,Z,hj2,Nat.sub_self];exact Sub.refl _
   .show Ay (A9 id' (p++[(i.toNat,0)]) (m+1) (AI T1 e (.rp id' p i.toNat 0) z)) (Sl.v _ (bif beq z d||beq z e then .one .dead else _))
    cases hz:(beq z d||beq z e)with
    |true=>exact Ay.dead _
    |false=>
     rw[Bool.or_eq_false_iff]at hz;have hzd:z≠d:=λe=>by rw[e,beq_refl]at hz;cases hz.1
     have hze:z≠e:=λe=>by rw[e,beq_refl]at hz;cases hz.2
     rw[<-hT1];unfold AI;rw[if_neg hze,if_neg hzd];exact Sl.kill_v hG hlen ((Ap js s).t z)
theorem YA(wr:Bu σ w D ρ F){p:List (Nat×Nat)}{i:Nat}(h:Aq σ ρ w (.rp id p i k) cv):∃b off,cv=.pointer (some ⟨b,off,none⟩)/\F id b:=by
 obtain⟨B,s,sz,n,f,b,o,cap,J,hi,hk,rfl⟩:=h;obtain⟨fp1,U,u,_⟩:=C9 (w':=w) p _ _ _ _ _ (wr.rel id B) (λb Z h'=>wr.dD id b h' Z) J
 refine⟨b,_,rfl,u b ?_⟩;rcases U with⟨h0,_⟩|⟨b',o',O,G,W,_,_,_,_,_,h6⟩
 .omega
 .obtain⟨rfl,_,_⟩:=Aw W
  exact((h6 rfl).2.2.2 b).2 (.inl rfl)
theorem Y1(hΘ:E.Θ.OK P){C:Ctx}{m id:Nat}{q:AX}{ops:Array Oper}{fs:List Nat}{a:Act}{w w':World}{σ2:List V}(hdd:∀x,N<=x->s.den.t x=.dead)
  (h1:∃D ρ F,CR C s.den.σ ((range N).map s.den.t) a.tmps w D ρ F) (h2:∃D ρ F,CR C σ2 (((range N).map s.den.t).map (rrV id q m)) a.tmps w D ρ F/\∀c,c<w.heap.size->¬F m c->w'.heap[c]? =w.heap[c]?)
  (hl:∀f∈fs,∀o,ops[f]? =some o->Qv E s m id q o=true):FlL P ops fs a w w':=by
 intro f hf o ho t x hop ad had;have h:=hl f hf o ho;unfold Qv at h;rw[hop]at h;cases x with
 |tmp z=>
  dsimp only at h
  obtain⟨D1,ρ1,F1,W⟩:=h1;obtain⟨D2,ρ2,F2,J,hsame⟩:=h2;have had:a.tmps.getD z undef=.pointer (some ad):=had
  have hsz:∀(ti:TI),E.Θ.look t=some ti->∀s,(sizeOf t).run P w=.ok s w->s=ti.ty.w:=λti hti s hs=>by
   obtain⟨d,i,z,hu,hi,_,his,_⟩:=CX (hΘ.ty hti);unfold Go.sizeOf typeInfo at hs;rw[Sem.run_bind,Sem.run_bind]at hs;have e:(Go.program.run P w:Result Program)=.ok P w:=rfl;rw[e]at hs;simp only[Result.andThen_ok,hi]at hs;have his:i.size=ti.ty.w:=his;have hs:Result.ok i.size w=.ok s w:=hs;cases hs;exact his
  have hz:s.den.t z≠.dead->z<N:=λhne=>by
   rcases lt_or_ge z N with h|h
   .exact h
   .exact absurd (hdd z h) hne
  split at h
  case h_3=>cases h
  .rename_i ti id' p i k hti hsz1
   simp only[bAE,not_eq_true']at h;obtain⟨⟨⟨g1,g2⟩,g3⟩,g4⟩:=h;have g3:=blE g3;have g4:=Lk g4;have hv:s.den.t z=.rp id' p i k:=by show(s.t z).v s.r=_;rw[hsz1];rfl
   have O:=hz (by rw[hv];simp)
   have r1:=W.tm z (by simpa using O)
   have r2:=J.tm z (by simpa using O)
   have e1:((range N).map s.den.t).getD z .dead=.rp id' p i k:=by rw[AY O,hv]
   have e2:(((range N).map s.den.t).map (rrV id q m)).getD z .dead=.rp id' p i k:=by
    have:(((range N).map s.den.t).map (rrV id q m)).getD z .dead=rrV id q m (s.den.t z):=by simp[O]
    rw[this,hv];exact if_neg (CN g1).1
   rw[e1,had]at r1;rw[e2,had]at r2;obtain⟨s0,sz,n,f0,b,o0,cap,hid,hat,hi,hk,he,_,hns,_,_⟩:=Jn W.wr r1.1;obtain⟨b2,off2,he2,hF⟩:=YA J.wr r2.1;have hbb:b2=b:=by rw[he]at he2;cases he2;rfl
   subst hbb;have hnsz:sz=(Ag s.r id' p).w:=by rw[<-hns];exact Cn g2
   have hne:id'≠m:=λe=>(CN g1).2 m [] (by simp) ⟨e,rfl⟩
   have hblk:w'.heap[b2]? =w.heap[b2]?:=hsame b2 (J.wr.lt _ _ hF) λhm=>J.wr.disj id' m b2 hne hF hm
   have B:∀k',k+k'<sz->∃y,w.cell? ⟨b2,o0+i*sz+(k+k'),none⟩=some y:=λk' U=>by
    obtain⟨fp1,hr,_,_⟩:=C9 (w':=w) p _ _ _ _ _ (W.wr.rel id' hid) (λb hb h'=>W.wr.dD id' b h' hb) hat
    rcases hr with⟨h0,_⟩|⟨b',o',cap',G,he',_,_,_,h5,_⟩
    .omega
    .obtain⟨rfl,rfl,_⟩:=Aw he'
     obtain⟨y,Z,_⟩:=h5 i (k+k') hi U;exact⟨y,Z⟩
   cases he;refine⟨hblk,?_,λs1 hs1 k' U=>?_⟩
   .obtain⟨y,Z⟩:=B 0 (by omega)
    exact⟨y,by simpa [Nat.add_assoc]using Z⟩
   .rw[hsz ti hti s1 hs1]at U
    obtain⟨y,Z⟩:=B k' (by omega)
    refine⟨y,?_⟩;rw[AZ rfl];simpa [Nat.add_assoc]using Z
  .rename_i ti u xv hti hsz1
   simp only[bAE]at h;obtain⟨g3,g4⟩:=h;have g3:=blE g3;have g4:=Lk g4;have hv:s.den.t z=Bp false (tyV u 0 xv):=by show(s.t z).v s.r=_;rw[hsz1];rfl
   have O:=hz (by rw[hv];simp[Bp])
   have r2:=J.tm z (by simpa using O)
   have e2:(((range N).map s.den.t).map (rrV id q m)).getD z .dead=Bp false (tyV u 0 xv):=by
    have:(((range N).map s.den.t).map (rrV id q m)).getD z .dead=rrV id q m (s.den.t z):=by simp[O]
    rw[this,hv];rfl
   rw[e2,had]at r2;have hul:(tyV u 0 xv).length=u.w:=AB u 0 xv;rcases r2 with⟨_,h0,_⟩|⟨b,o0,cap,G,he,_,_,_,h5,h6,_⟩
   .cases h0
   .have hb:=(h6 rfl).1 (by rw[hul];omega)
    have hblk:w'.heap[b]? =w.heap[b]?:=hsame b (J.wr.Dlt b hb) λhm=>J.wr.dD m b hm hb
    have B:∀k',k'<u.w->∃y,w.cell? ⟨b,o0+k',none⟩=some y:=λk' U=>by
     obtain⟨y,Z,_⟩:=h5 0 k' (by omega) (by rw[hul];exact U)
     exact⟨y,by simpa using Z⟩
    cases he;refine⟨hblk,?_,λs1 hs1 k' U=>?_⟩
    .obtain⟨y,Z⟩:=B 0 (by omega)
     exact⟨y,by simpa using Z⟩
    .rw[hsz ti hti s1 hs1]at U
     obtain⟨y,Z⟩:=B k' (by omega)
     refine⟨y,?_⟩;rw[AZ rfl];exact Z
 |_=>cases h
def flT(E:Env)(ops:Array Oper)(fs:List Nat):Bool:=fs.all λf=>match ops[f]? with
 |some o=>Acw o.op&&(match o.op with
  |.fieldAddr t _ k=>match(E.Θ.look t).bind (·.flds[k]?)with
   |some _=>true
   |none=>false
  |_=>true)
 |none=>true
theorem Aaf(B:E.Θ.OK P)(h:flT E ops fs=true):FlT P ops fs:=by
 intro f hf o Z;have u:=aET.1 h f hf;rw[Z]at u;simp at u;refine⟨u.1,λt x k J=>?_⟩
 have O:=u.2;rw[J]at O
 dsimp only at O
 split at O
 case h_2=>grind
 rename_i p U;obtain⟨off,sz⟩:=p;cases W:E.Θ.look t with
 |none=>grind
 |some i=>
  rw[W]at U;exact⟨off,sz,B.fld W U⟩
theorem Aa4(W:E.Θ.OK P){ops:Array Oper}{n:Nat}{fs:List Nat}(h:VK E s late o1 o2 o3=some A)(hp:A.p)(hs:AQ C E.h.n s.den a w)
  (hon:ops[n]? =some o1) (O:∀f∈fs,∀o,ops[f]? =some o->o∈late) (hft:FlT P ops fs):FlH P ops n fs a w:=by
 unfold VK at h;split at h
 case h_2=>cases h
 rename_i d t x y e t2 u v t3 hrow;obtain⟨ho1,hd1,ho2,hd2,ho3,hd3,hde,hnu,hnv⟩:=Jo hrow;split at h
 case h_2=>cases h
 rename_i ti ti2 ti3 id q hti hti2 hti3 hx;split at h
 case h_2=>cases h
 rename_i ro t' dx xs dy ys js J hy;split at h
 case isFalse=>cases h
 rename_i ht;subst ht;split at h
 case h_2=>cases h
 rename_i id' p kk di i hu hv;obtain⟨hb,h⟩:=Bc h;simp only[bAE,not_eq_true']at hb;obtain⟨⟨⟨⟨⟨⟨⟨⟨⟨⟨⟨b1,b2⟩,b3⟩,b4⟩,b5⟩,b6⟩,b7⟩,b8⟩,b9⟩,b10⟩,b11⟩,b12⟩:=hb;have b1:=bqE b1;subst b1;have b5:=bqE b5;have b6:=bqE b6;have b7:=bqE b7;have b9:=Zk b9;have b10:=Zk b10;split at h
 case h_2=>cases h
 rename_i c r0 hc hset;cases h;obtain⟨⟨⟨hi0,hil⟩,hcp⟩,hlim⟩:=hp;obtain rfl:=IV _ _ _ hc hcp;have hY:∀j∈js,j<s.r.length/\j≠id':=by
  obtain⟨_,_,D,ρ,F,U⟩:=hs;exact(Iv U ‹_› hy).js
 obtain⟨v',w',hrun,_,D,ρ,F,hcr2,B⟩:=QR W ho1 hd1 b9 hti (Lk b2) (Lk b3) hx J hy b4 (by simpa [HL]using hlim) hs
 have Z:(∃D ρ F,CR C (Ap js s).den.σ ((range E.h.n).map (Ap js s).den.t) a.tmps w D ρ F)/\∀x,E.h.n<=x->(Ap js s).den.t x=.dead:=by
  obtain⟨_,hdd,D,ρ,F,U⟩:=hs;obtain⟨F1,hcr1,_⟩:=CP js U (λj hj=>(hY j hj).1)
  exact⟨⟨D,ρ,F1,hcr1⟩,BZ js hdd⟩
 intro on hon';obtain rfl:on=o1:=Option.some.inj (hon'.symm.trans hon);refine⟨v',w',hrun,FlT.same hft (Y1 W Z.2 Z.1 ⟨D,ρ,F,hcr2,B⟩ λf hf o ho=>aET.1 b12 o (O f hf o ho))⟩
theorem VJ(h:VK E s late o1 o2 o3=some A):Kp (As [o1,o2,o3]) s A.s:=by
 unfold VK at h;split at h
 case h_2=>cases h
 rename_i d t x y e t2 u v t3 U;obtain⟨_,hd1,_,hd2,_,_,_,_,_⟩:=Jo U;split at h
 case h_2=>cases h
 rename_i ti B ti3 id q hti hti2 hti3 hx;split at h
 case h_2=>cases h
 rename_i ro t' dx xs dy ys js hnode hy;split at h
 case isFalse=>cases h
 rename_i ht;split at h
 case h_2=>cases h
 rename_i id' p kk di i hu hv;generalize hcond:(beq id' id&&blt 0 ti.bytes&&blt 0 ti.ty.w&&dOK ti.ty dy dx&&beq ti3.ty.w 1&&beq (Ag (Ap js s).r id p).w B.ty.w&&beq B.ty.w 1&&(Ag (Ap js s).r id p).live&&blt d E.h.n&&blt e E.h.n&& !E.h.fz.contains e&&late.all (Qv E (Ap js s) s.r.length id q))=cond at h;cases cond with
 |false=>cases h
 |true=>
 simp only[cond_true]at h;split at h
 case h_2=>cases h
 rename_i c r0 hc O;cases h;have k0:Kp (As [o1,o2,o3]) s (Ap js s):=(JT js s (PA hy)).weak λ_ _=>rfl
 refine k0.trans ⟨λj hj hst=>?_,λJ hid W=>?_,by simp⟩ (λ_ h=>h) λ_ h=>h
 .have Z:beq j d=false/\beq j e=false:=by
   refine⟨?_,?_⟩
   .cases hb:beq j d with
    |false=>rfl
    |true=>
     have:=bqE hb;subst this;simp[As,hd1]at hj
   .cases hb:beq j e with
    |false=>rfl
    |true=>
     have:=bqE hb;subst this;simp[As,hd2]at hj
  show(bif beq j d||beq j e then Sl.one .dead else _)=_;rw[Z.1,Z.2];exact Sl.kill_stay hst _ _ _
 .have hne:J≠id:=by
   rintro rfl
   rw[Hv O]at W;cases W
  show((Ap js s).r.set id r0++[Ae.dead,Ae.dead]).getD J .dead=_;rw[gDE,gAL (by simpa using hid),getElem?_set_ne (Ne.symm hne),<-gDE]
end
theorem CR.frz1{ts:List V}{cts:Array Value}(h:CR C σ ts cts w D ρ F){j:Nat}(hj:j<σ.length)(ho:σ.getD j .dead=.nd false true sz 1 f)(hk:k<sz):
  XX C (σ.set j (upd [(0,k)] (σ.getD j .dead) (Go.Ve.frz (f 0 k)))) (ts.map (AJ j [(0,k)])) cts w:=by
 have hr0:=h.wr.rel j hj;rw[ho]at hr0;rcases hr0 with⟨h0,_⟩|⟨b,o,cap,G,hcv,hcap,hmax,hs,hr,_,hown⟩
 .cases h0
 obtain⟨hb,hnb,hdis,hfp⟩:=hown rfl;have hGF:∀k' x,k'<sz->G 0 k' x->F j x:=λk' x B u=>(hfp x).2 (.inr ⟨0,k',one_pos,B,u⟩)
 have hF:∀i x,(if i=j then λx=>F j x/\¬G 0 k x else F i) x->F i x/\¬G 0 k x:=by
  intro i x u;split at u
  .rename_i e;subst e;exact u
  .rename_i e
   exact⟨u,λZ=>h.wr.disj i j x e u (hGF k x hk Z)⟩
 refine⟨λx=>D x\/G 0 k x,ρ,λi=>if i=j then λx=>F j x/\¬G 0 k x else F i,⟨λi hi=>?_,λi l x hil h1 h2=>h.wr.disj i l x hil (hF _ _ h1).1 (hF _ _ h2).1,λi x u hd=>?_,λx u=>?_,λi x hi u=>h.wr.out i x (by simpa using hi) (hF _ _ u).1⟩,by simpa using h.sz,λt ht=>?_,h.fr,λi x u=>h.Fn i x (hF _ _ u).1,λx u=>.inl (h.D1 x u),λx u hlt=>?_,h.rt,by simpa using h.ml⟩
 .have hi:i<σ.length:=by simpa using hi
  by_cases he:i=j
  .subst he
   rw[Aj hj,ho];simp only[if_true];obtain⟨G',hG'⟩:∃G':Nat->Nat->Nat->Prop,G'=λi' k'=>if i'=0/\k'=k then noF else G i' k':=⟨_,rfl⟩
   have g0:G' 0 k=noF:=by rw[hG'];exact if_pos ⟨rfl,rfl⟩
   have gi:∀i' k',¬ (i'=0/\k'=k)->G' i' k'=G i' k':=λi' k' e=>by rw[hG'];exact if_neg e
   have gg:∀i' k' x,G' i' k' x->¬ (i'=0/\k'=k)/\G i' k' x:=λi' k' x u=>by
    by_cases e:i'=0/\k'=k
    .rw[e.1,e.2,g0]at u;exact u.elim
    .rw[gi _ _ e]at u;exact⟨e,u⟩
   refine .inr ⟨b,o,cap,G',hcv,hcap,hmax,hs,λi' k' J B=>?_,λe=>(by cases e),λ_=>⟨hb,λi' k' J B u=>hnb i' k' J B (gg _ _ _ u).2,λi1 k1 i2 k2 x a1 a2 a3 a4 a5 g1 g2=>hdis i1 k1 i2 k2 x a1 a2 a3 a4 a5 (gg _ _ _ g1).2 (gg _ _ _ g2).2,λx=>?_⟩⟩
   .obtain⟨x,u,hrx⟩:=hr i' k' J B
    refine⟨x,u,?_⟩;obtain rfl:i'=0:=by omega
    by_cases e:k'=k
    .subst e
     simp only[and_self,if_true];rw[g0];exact Rel.frz _ _ _ hrx
    .simp only[e,and_false,if_false]
     rw[gi 0 k' λh=>e h.2]
     exact Rel.mono (λ_ h=>.inl h) (λ_ _ h=>h) _ _ _ (λ_ _=>rfl) hrx
   .constructor
    .rintro ⟨h1,h2⟩
     rcases(hfp x).1 h1 with e|⟨i',k',J,B,Z⟩
     .exact .inl e
     .refine .inr ⟨i',k',J,B,?_⟩
      rw[gi _ _ λe=>h2 (by rw[<-e.1,<-e.2];exact Z)]
      exact Z
    .rintro (e|⟨i',k',J,B,Z⟩)
     .subst e
      exact⟨(hfp _).2 (.inl rfl),hnb 0 k one_pos hk⟩
     .obtain⟨e,Z⟩:=gg _ _ _ Z
      obtain rfl:i'=0:=by omega
      refine⟨hGF k' x B Z,λhg2=>hdis 0 k' 0 k x J B J hk (.inr λe2=>e ⟨rfl,e2⟩) Z hg2⟩
  .rw[Ai (Ne.symm he)]
   simp only[he,if_false];exact Rel.mono (λ_ h=>.inl h) (λ_ _ h=>h) _ _ _ (λ_ _=>rfl) (h.wr.rel i hi)
 .obtain⟨h1,h2⟩:=hF i x u
  exact hd.elim (h.wr.dD i x h1) h2
 .exact u.elim (h.wr.Dlt x) λZ=>h.wr.lt j x (hGF k x hk Z)
 .simp at ht
  have e1:(ts.map (AJ j [(0,k)])).getD t .dead=AJ j [(0,k)] (ts.getD t .dead):=by simp[ht]
  rw[e1];refine Rel.mono (λ_ h=>.inl h) (λ_ _ h=>h) _ _ _ (λ_ _=>rfl) ((Ba _ _).rel (R':=Aq (σ.set j (upd [(0,k)] (σ.getD j .dead) (Go.Ve.frz (f 0 k)))) ρ w) (λ_ _=>rfl) ?_ ?_ ?_ _ _ noF (λ_ h=>h) (h.tm t ht))
  .rintro id q off len cv ⟨W,O,n',f',cn,ha,r⟩
   simp only[AJ];split
   .exact λ_ h=>h
   .rename_i U
    refine⟨⟨by simpa using W,?_⟩,λ_ h=>h⟩
    by_cases e:id=j
    .subst e
     rw[Aj hj];obtain⟨f2,h2⟩:=At.keep (x:=Go.Ve.frz (f 0 k)) [(0,k)] q _ _ (by rw[ho];exact⟨rfl,one_pos,hk,trivial⟩) (by simpa using U) ha
     exact⟨O,n',f2,cn,h2,r⟩
    .rw[Ai (Ne.symm e)]
     exact⟨O,n',f',cn,ha,r⟩
  .rintro id q i' k' cv ⟨W,s',O,n',f',b',o',cap',ha,r⟩
   simp only[AJ];split
   .exact λ_ h=>h
   .rename_i U
    refine⟨⟨by simpa using W,?_⟩,λ_ h=>h⟩
    by_cases e:id=j
    .subst e
     rw[Aj hj];obtain⟨f2,h2⟩:=At.keep (x:=Go.Ve.frz (f 0 k)) [(0,k)] q _ _ (by rw[ho];exact⟨rfl,one_pos,hk,trivial⟩) (by simpa using U) ha
     exact⟨s',O,n',f2,b',o',cap',h2,r⟩
    .rw[Ai (Ne.symm e)]
     exact⟨s',O,n',f',b',o',cap',ha,r⟩
  .rintro id q cv ⟨W,l',b',ha,r⟩
   simp only[AJ];split
   .exact λ_ h=>h
   .rename_i U
    refine⟨⟨by simpa using W,l',b',?_,r⟩,λ_ h=>h⟩
    by_cases e:id=j
    .subst e
     rw[Aj hj];exact At.keepM (x:=Go.Ve.frz (f 0 k)) [(0,k)] q _ _ (by rw[ho];exact⟨rfl,one_pos,hk,trivial⟩) (by simpa using U) ha
    .rw[Ai (Ne.symm e)]
     exact ha
 .rcases u with u|u
  .exact h.D2 x u hlt
  .exact(h.Fn j x (hGF k x hk u)).elim .inr λhge=>absurd hlt (not_lt.2 hge)
def Ab0(id k:Nat)(s:St):Option St:=match s.r.getD id .dead with
 |.obj false l=>match l.getD k .dead with
  |.c (.sl t) (_+1) xs=>match(s.r.getD id .dead).setAt [] 0 k (.c (.sl t) 0 xs)with
   |some r0=>some ⟨λi=>(s.t i).kill id [k] [],s.r.set id r0⟩
   |none=>none
  |_=>some s
 |_=>some s
theorem Zb(h:Ab0 id k s=some s')(hs:AQ C N s.den a w):AQ C N s'.den a w/\Kp (λ_=>true) s s':=by
 unfold Ab0 at h;split at h
 case h_2=>cases h;exact⟨hs,Kp.refl _ _⟩
 rename_i l hr;split at h
 case h_2=>cases h;exact⟨hs,Kp.refl _ _⟩
 rename_i t d xs hl;split at h
 case h_2=>cases h
 rename_i r0 B;cases h;have u:id<s.r.length:=by
  rcases lt_or_ge id s.r.length with h|h
  .exact h
  .rw[gDE,getElem?_eq_none h]at hr;cases hr
 have Z:k<l.length:=by
  rcases lt_or_ge k l.length with h|h
  .exact h
  .rw[gDE,getElem?_eq_none h]at hl;cases hl
 have hσ:s.den.σ.getD id .dead=Bp true (l.map Cl.v0):=by
  show(s.r.map Ae.v).getD id .dead=_;rw[Ax,hr];rfl
 obtain⟨hd,hdd,D,ρ,F,hcr⟩:=hs;have hf:=hcr.frz1 (by simpa [St.den]using u) hσ (by simpa using Z)
 have J:Go.Ve.frz ((l.map Cl.v0).getD k .dead)=(Cl.c (.sl t) 0 xs).v0:=by
  have:(l.map Cl.v0).getD k .dead=(l.getD k .dead).v0:=by
   simp[gDE,List.getElem?_map,gEE Z]
  rw[this,hl];exact Xn (t:=.sl t) rfl _ _
 have W:∀id' q,hit id [k] [] id' q=false->(Ag (s.r.set id r0) id' q).len=(Ag s.r id' q).len:=by
  intro id' q hq;by_cases e:id'=id
  .subst e
   have hp:pre [k] q=false:=by
    unfold hit at hq;simpa using hq
   have h1:=JF [] _ _ B q hp;unfold Ag;have e2:(s.r.set id' r0).getD id' .dead=r0:=by simp[gDE,u]
   rw[e2];exact h1
  .rw[Bn e]
 have hk:=λy=>Sl.kill_v (r:=s.r) (r':=s.r.set id r0) (GOK.kill (id:=id) (P:=[(0,k)])) W y
 refine⟨⟨hd,λi O=>?_,?_⟩,⟨λi _ hst=>Sl.kill_stay hst _ _ _,λid' _ U=>?_,by simp⟩⟩
 .have h0:(s.t i).v s.r=.dead:=hdd i O
  have h1:=hk (s.t i);rw[h0]at h1;rcases h1 with h|h
  .exact h
  .exact h
 .obtain⟨D',ρ',F',hc'⟩:=hf
  refine⟨D',ρ',F',hc'.sub (by simp[St.den]) (λi _=>?_) (by simp) λi O=>?_⟩
  .by_cases e:i=id
   .subst e
    rw[Aj (by simpa [St.den]using u)]
    show Sub (upd [(0,k)] _ (Go.Ve.frz ((l.map Cl.v0).getD k .dead))) (((s.r.set i r0).map Ae.v).getD i .dead);rw[J];rw[Ax];have e2:(s.r.set i r0).getD i .dead=r0:=by simp[gDE,u]
    rw[e2];have e3:s.den.σ.getD i .dead=(s.r.getD i .dead).v:=Ax _ _;rw[e3];exact H9 [] _ _ B
   .rw[Ai (Ne.symm e)]
    show Sub ((s.r.map Ae.v).getD i .dead) (((s.r.set id r0).map Ae.v).getD i .dead);rw[Ax,Ax];have e2:(s.r.set id r0).getD i .dead=s.r.getD i .dead:=by simp only[gDE,getElem?_set_ne (Ne.symm e)]
    rw[e2];exact Sub.refl _
  .have O:i<N:=by simpa using O
   have e1:(((range N).map s.den.t).map (AJ id [(0,k)])).getD i .dead=AJ id [(0,k)] ((s.t i).v s.r):=by simp[O,St.den]
   rw[e1,AY O];exact hk (s.t i)
 .have hne:id'≠id:=by
   rintro rfl
   rw[hr]at U;cases U
  simp only[gDE,getElem?_set_ne (Ne.symm hne)]
def N6(id:Nat):List Nat->St->Option St
 |[],s=>some s
 |k::l,s=>match Ab0 id k s with
  |some s'=>N6 id l s'
  |none=>none
def JN{C:Ctx}{N:Nat}{id:Nat}{a:Act}{w:World}:∀(l:List Nat) {s s':St},N6 id l s=some s'->AQ C N s.den a w->AQ C N s'.den a w/\Kp (λ_=>true) s s'
 |[],s,s',h,u=>by cases h;exact⟨u,Kp.refl _ _⟩
 |k::l,s,s',h,u=>by
  unfold N6 at h;split at h
  case h_2=>cases h
  rename_i s1 B;obtain⟨g1,g2⟩:=Zb B u;obtain⟨O,J⟩:=JN l h g1;exact⟨O,g2.trans J (λ_ _=>rfl) λ_ _=>rfl⟩
def frzO(E:Env)(s:St)(o:Oper):Option St:=match o.op,o.dst with
 |.load t (.tmp z),some d=>bif E.h.fz.contains (4000000+d)then(match s.t z,E.Θ.look t with
  |.one (.rp id [] 0 k),some i=>N6 id ((range i.ty.w).map λj=>k+j) s
  |_,_=>some s)else some s
 |_,_=>some s
theorem AbZ(h:frzO E s o=some s')(B:AQ C N s.den a w):AQ C N s'.den a w/\Kp (λ_=>true) s s':=by
 have u:some s=some s'->AQ C N s'.den a w/\Kp (λ_=>true) s s':=λe=>by cases e;exact⟨B,Kp.refl _ _⟩
 unfold frzO at h;split at h
 case h_2=>exact u h
 rename_i t z d _ _;cases J:E.h.fz.contains (4000000+d)with
 |false=>rw[J]at h;exact u h
 |true=>
  rw[J]at h;simp only[cond_true]at h;split at h
  .exact JN _ h B
  .exact u h
def frzP(E:Env)(s:St)(o:Oper):Option St:=match o.op with
 |.store t (.tmp z) _=>bif E.h.fz.contains (5000000+z)then(match s.t z,E.Θ.look t with
  |.one (.rp id [] 0 k),some i=>N6 id ((range i.ty.w).map λj=>k+j) s
  |_,_=>some s)else some s
 |_=>some s
theorem AbY(h:frzP E s o=some s')(B:AQ C N s.den a w):AQ C N s'.den a w/\Kp (λ_=>true) s s':=by
 have u:some s=some s'->AQ C N s'.den a w/\Kp (λ_=>true) s s':=λe=>by cases e;exact⟨B,Kp.refl _ _⟩
 unfold frzP at h;split at h
 case h_2=>exact u h
 rename_i t z _ _;cases J:E.h.fz.contains (5000000+z)with
 |false=>rw[J]at h;exact u h
 |true=>
  rw[J]at h;simp only[cond_true]at h;split at h
  .exact JN _ h B
  .exact u h
end Go.Ve

