/- The typed machine. -/
import Derived.Test.YteakdlfnmhlifaaTj
import Derived.Test.YteakdlfnmhlifaaTu
import Derived.Test.YteakdlfnmhlifaaVwa
import Derived.Test.YteakdlfnmhlifaaTd
open List(length_map range map_congr_left getElem?_set_ne getElem?_eq_none mem_cons_self mem_cons map_cons nodup_cons mem_map singleton_inj any_map map_map getElem?_map length_set length_append)
open Nat(beq ble beq_refl le_refl blt lt_or_ge not_lt one_pos)
open Bool(not_eq_true')
set_option linter.all false
namespace Go.Ve
variable{p:AI}{r r':Aa}{h:BW}{c:Cl}{d i id j k:Nat}{g:Nat->Bool}{v x:Option Sl}{ti:Option TI}{P:Program}{y:Sl}{s s' s1:St}{Θ:Tab}
theorem WF{C:Ctx}{N:Nat}(hΘ:Θ.OK P){s s':St}{o:Oper}{t:TypeId}{x v:Operand}{a:Act}{w:World}{next:Act->World->Prop}{Q:Exit->Act->World->Prop}
  (ho:o.op=.store t x v) (hdst:o.dst=none) (h:IV s (Θ.look t) (s.ev x) (s.ev v)=some s') (hs:AA C N s.den a w) (hn:∀a' w',AA C N s'.den a' w'->next a' w'):o.wp P a w next Q:=by
 obtain⟨hd,hdd,D,ρ,F,B⟩:=hs;unfold IV at h;split at h
 case h_2=>cases h
 rename_i ti id p i k y hti hx hv;split at h
 case h_2=>cases h
 rename_i l hl;obtain⟨hb,h⟩:=A1 h;simp only[bAE]at hb;obtain⟨⟨h1,h2⟩,h3⟩:=hb;have h1:=bqE h1;have h2:=blE h2;have hnsz:=Cd h3;obtain⟨hpl,hcv,_⟩:=CL (r:=s.r) hl;obtain⟨d,tii,z,hdt,hit,hz,his,_⟩:=CP (hΘ.ty hti);simp only at his;have U:=Bh B hdd x;rw[Bg hx]at U;have U:Rel D w (Ae s.den.σ ρ w) (.rp id p i k) (a.eval x) noF:=U;obtain⟨s0,sz,n,f,b,o',cap,hid,ha,hi,hk,had,_,hns,_,_⟩:=JS B.wr U.1;have hrv:=Bh B hdd v;rw[Bg hv]at hrv;obtain⟨⟨W,H⟩,_⟩:=B9 (λv cv h=>Ae.one h) hpl hrv
 rw[hcv]at W H;have hlen:(l.map (Cl.v s.r)).length=l.length:=length_map ..
 have hcr2:CR C s.den.σ ((range N).map s.den.t++ .rp id p i k::l.map (Cl.v s.r)) (a.tmps.toList++ .pointer (some ⟨b,(o'+i*sz)+k,none⟩)::(a.eval v).cells.toList).toArray w D ρ F:=by
  have Z:a.tmps.size=N:=by simpa using B.sz
  refine⟨B.wr,by simp[Z,W],λj hj=>?_,B.fr,B.Fn,B.D1,B.D2,B.rt,B.ml⟩
  by_cases hjt:j<N
  .rw[Az (by simpa using hjt)]
   have h1:=B.tm j (by simpa using hjt)
   have e:(a.tmps.toList++ .pointer (some ⟨b,(o'+i*sz)+k,none⟩)::(a.eval v).cells.toList).toArray.getD j undef=a.tmps.getD j undef:=by
    simp[gAL,Z,hjt]
   rw[e];exact h1
  .obtain⟨m,rfl⟩:∃m,j=N+m:=⟨j-N,by omega⟩
   have e1:((range N).map s.den.t++ .rp id p i k::l.map (Cl.v s.r)).getD (N+m) .dead=(.rp id p i k::l.map (Cl.v s.r)).getD m .dead:=by
    simp[gAR]
   have e2:(a.tmps.toList++ .pointer (some ⟨b,(o'+i*sz)+k,none⟩)::(a.eval v).cells.toList).toArray.getD (N+m) undef=(.pointer (some ⟨b,(o'+i*sz)+k,none⟩)::(a.eval v).cells.toList).getD m undef:=by
    simp only[Array.getD_eq_getD_getElem?,List.getElem?_toArray,gDE];rw[gAR (by simp;omega)]
    simp[Z]
   rw[e1,e2];cases m with
   |zero=>rw[had]at U;exact U
   |succ m=>
    simp at hj;have:=H m (by simpa using hj)
    simpa using this
 obtain⟨w',hrun,hdd',hcr3⟩:=U4 (P:=P) l.length l (a.eval v).cells.toList 0 s s' w ρ F hcr2 (by simpa using B.sz) hdd (by simpa using W) (by show k+0+l.length<=AW (s.r.map Aa.v) id p;rw[hnsz];omega) h
 have hsv:(storeVar t ⟨b,(o'+i*sz)+k,none⟩ (a.eval v)).run P w=.ok () w':=by
  simp only[storeVar,Sem.run_bind,sizeOf,typeInfo];have e:(a.eval v).cells.size=ti.ty.w:=by rw[W,hlen,h1]
  simp[hit,his,hrun,e]
 have hex:(execOp a.eval o).run P w=.ok .skip w':=by
  unfold execOp;rw[ho];simp[Instr.storeAt,had,Instr.sureAddr,hsv]
 unfold Oper.wp;rw[hex,Oper.upon_skip,hdst];exact hn a w' ⟨hd,hdd',hcr3⟩
structure PD where
 p:Prop
 dec:Decidable p
def XC:AI->AI->Option PD
 |[],[]=>some ⟨True,inferInstance⟩
 |(i,k)::p,(j,l)::q=>bif beq k l then(match XC p q with
  |some c=>some ⟨(i<=j/\j<=i)/\c.p,@instDecidableAnd _ _ inferInstance c.dec⟩
  |none=>none)else none
 |_,_=>none
def Jm:∀(p q:AI) (c:PD),XC p q=some c->c.p->p=q
 |[],[],_,_,_=>rfl
 |(i,k)::p,(j,l)::q,c,h,hc=>by
  unfold XC at h;cases B:beq k l with
  |false=>grind
  |true=>
   rw[B]at h;split at h
   case h_2=>grind
   rename_i c' H;cases h;rw[bqE B,Jm p q c' H hc.2,Nat.le_antisymm hc.1.1 hc.1.2]
 |[],_::_,_,h,_=>by cases h
 |_::_,[],_,h,_=>by cases h
structure PtR where
 p:Prop
 dec:Decidable p
 s:St
variable{A:PtR}
def WM(s:St):Option TI->Option Sl->Option Sl->Option PtR
 |some ti,some (.one (.rp id p i k)),some (.one (.rs id' q off len))=>bif beq id' id&&beq ti.ty.w 1&&ble (k+1) (Ac s.r id p).w&&(Ac s.r id p).live then(match XC q (p++[(i,k)])with
  |some c=>match Ac s.r id q with
   |.arr false t d xs=>match(s.r.getD id .dead).setAt p i k (.c (.sl t) (d+1) (Vi off len xs t.dflt))with
    |some B=>some ⟨c.p,c.dec,⟨λx=>(s.t x).kill id ((p++[(i,k)]).map (·.2)) [],s.r.set id B⟩⟩
    |none=>none
   |_=>none
  |none=>none)else none
 |_,_,_=>none
theorem Zg{C:Ctx}{N:Nat}(hΘ:Θ.OK P){s:St}{o:Oper}{t:TypeId}{x v:Operand}{a:Act}{w:World}{next:Act->World->Prop}{Q:Exit->Act->World->Prop}{A:PtR}
  (ho:o.op=.store t x v) (hdst:o.dst=none) (h:WM s (Θ.look t) (s.ev x) (s.ev v)=some A) (hp:A.p) (hs:AA C N s.den a w) (hn:∀a' w',AA C N A.s.den a' w'->next a' w'):o.wp P a w next Q:=by
 obtain⟨hd,hdd,D,ρ,F,B⟩:=hs;unfold WM at h;split at h
 case h_2=>cases h
 rename_i ti id p i k id' q off len hti hx hv;obtain⟨hb,h⟩:=A1 h;simp only[bAE]at hb;obtain⟨⟨⟨h0,h1⟩,h2⟩,h3⟩:=hb;have h0:=bqE h0;subst h0;have h1:=bqE h1;have h2:=blE h2;split at h
 case h_2=>cases h
 rename_i c hc;split at h
 case h_2=>cases h
 rename_i u d xs hnode;split at h
 case h_2=>cases h
 rename_i r0 hset;cases h;obtain rfl:=Jm _ _ _ hc hp;have hnsz:=Cd h3;obtain⟨d1,tii,z,hdt,hity,hz,his,_⟩:=CP (hΘ.ty hti);simp only at his;have U:=Bh B hdd x;rw[Bg hx]at U;have U:Rel D w (Ae s.den.σ ρ w) (.rp id' p i k) (a.eval x) noF:=U;obtain⟨s0,sz,n,f,b,o',cap,hid,ha,hi,hk,had,_,hns,_,_⟩:=JS B.wr U.1;have W:=Bh B hdd v;rw[Bg hv]at W;have W:Rel D w (Ae s.den.σ ρ w) (.rs id' (p++[(i,k)]) off len) (a.eval v) noF:=W;have hone:(a.eval v).oneCell'=true:=Ae.one W.1;have hsz:a.tmps.size=N:=by simpa using B.sz
 have hcr2:CR C s.den.σ ((range N).map s.den.t++V.rp id' p i k::[V.rs id' (p++[(i,k)]) off len]) (a.tmps.toList++Value.pointer (some ⟨b,(o'+i*sz)+k,none⟩)::[a.eval v]).toArray w D ρ F:=by
  refine⟨B.wr,by simp[hsz],λj hj=>?_,B.fr,B.Fn,B.D1,B.D2,B.rt,B.ml⟩
  by_cases hjt:j<N
  .rw[Az (by simpa using hjt)]
   have h1:=B.tm j (by simpa using hjt)
   have e:(a.tmps.toList++Value.pointer (some ⟨b,(o'+i*sz)+k,none⟩)::[a.eval v]).toArray.getD j undef=a.tmps.getD j undef:=by
    simp[gAL,hsz,hjt]
   rw[e];exact h1
  .obtain⟨m,rfl⟩:∃m,j=N+m:=⟨j-N,by omega⟩
   have e1:((range N).map s.den.t++V.rp id' p i k::[V.rs id' (p++[(i,k)]) off len]).getD (N+m) .dead=([V.rp id' p i k,V.rs id' (p++[(i,k)]) off len]:List V).getD m .dead:=by
    simp[gAR]
   have e2:(a.tmps.toList++Value.pointer (some ⟨b,(o'+i*sz)+k,none⟩)::[a.eval v]).toArray.getD (N+m) undef=([Value.pointer (some ⟨b,(o'+i*sz)+k,none⟩),a.eval v]:List Value).getD m undef:=by
    simp only[Array.getD_eq_getD_getElem?,List.getElem?_toArray,gDE];rw[gAR (by simp;omega)]
    simp[hsz]
   rw[e1,e2];simp at hj
   match m with
   |0=>rw[had]at U;exact U
   |1=>exact W
   |m+2=>omega
 have hnode2:sub (p++[(i,k)]) (s.den.σ.getD id' .dead)=arr true u.w (tyV u d) u.dflt xs:=by
  have:=AV (r:=s.r) (id:=id') (p:=p++[(i,k)]) (by rw[hnode];simp)
  rw[hnode]at this;exact this
 obtain⟨X,hX⟩:∃X:V,X=.nd true true u.w len λa b=>(tyV u d (xs.getD (a+off) u.dflt)).getD b .dead:=⟨_,rfl⟩
 have hput:MQ id' p i k (.rs id' (p++[(i,k)]) off len) [] s.den.σ (λcs' σ2 G2=>σ2=s.den.σ.set id' (upd (p++[(i,k)]) (s.den.σ.getD id' .dead) X)/\G2=AF id' (p++[(i,k)])):=by
  unfold MQ;simp only[hnode2,arr];rw[if_pos ⟨trivial,trivial⟩];refine⟨?_,trivial⟩;rw[hX]
 obtain⟨G2,σ2,b1,o1,ρ1,F1,⟨y,hy⟩,hfz,h1c,⟨ofs,had1,hoff⟩,hGm,⟨hσ2,hGG⟩,hns1,hcr1⟩:=Iw hcr2 (by simpa using hsz) (by show k<AW (s.r.map Aa.v) id' p;rw[hnsz];omega) hput
 subst hσ2;subst hGG;simp only[Value.pointer.injEq,Option.some.injEq,Addr.mk.injEq,and_true]at had1;obtain⟨rfl,had1⟩:=had1;obtain rfl:ofs=o'+i*sz:=by omega
 have hidr:id'<s.r.length:=by simpa [St.den]using hid
 have hG:GOK (AF id' (p++[(i,k)])) id' ((p++[(i,k)]).map (·.2)) []:=GOK.kill
 have hlen:∀Z q2,hit id' ((p++[(i,k)]).map (·.2)) [] Z q2=false->(Ac (s.r.set id' r0) Z q2).len=(Ac s.r Z q2).len:=by
  intro Z q2 hh;by_cases he:Z=id'
  .subst he
   rw[BI hidr];refine Kf p _ _ hset q2 ?_;cases hp2:pre ((p++[(i,k)]).map (·.2)) q2 with
   |false=>rfl
   |true=>
    unfold hit at hh;rw[beq_refl,hp2]at hh;cases hh
  .rw[Bd he]
 have hsub:∀j,Sub ((s.den.σ.set id' (upd (p++[(i,k)]) (s.den.σ.getD id' .dead) X)).getD j .dead) (((s.r.set id' r0).map Aa.v).getD j .dead):=λj=>by
  refine D7 ?_ j;show Sub (upd (p++[(i,k)]) ((s.r.map Aa.v).getD id' .dead) X) r0.v;rw[Ai];refine HD ?_ p _ _ hset;rw[hX];show Sub _ (arr true u.w (tyV u d) u.dflt (Vi off len xs u.dflt));unfold arr;have hl:(Vi off len xs u.dflt).length=len:=by simp[Vi]
  rw[hl];refine⟨_,rfl,λa2 b2 ha2 hb2=>?_⟩
  have e:(Vi off len xs u.dflt).getD a2 u.dflt=xs.getD (a2+off) u.dflt:=by
   simp[Vi,ha2,Nat.add_comm]
  rw[e];exact Sub.refl _
 have hs':AA C N (St.den ⟨λx=>(s.t x).kill id' ((p++[(i,k)]).map (·.2)) [],s.r.set id' r0⟩) a (w.setCell ⟨b,o1,none⟩ (a.eval v)):=by
  have kv:=λj=>Sl.kill_v hG hlen (s.t j)
  refine⟨hd,λj hj=>?_,D,ρ1,F1,?_⟩
  .have h2:(s.t j).v s.r=.dead:=hdd j hj
   have h1:=kv j;rw[h2,hG.m.dead]at h1;exact Ak.of_dead h1
  .have hcr3:=hcr1.left (by simpa using hsz)
   have e3:(a.tmps.toList).toArray=a.tmps:=by simp
   rw[e3]at hcr3;refine hcr3.sub (by simp[St.den]) (λj _=>hsub j) (by simp) λj hj=>?_
   have hj:j<N:=by simpa using hj
   have:=kv j;simpa [hj,St.den]using this
 have hsv:(storeVar t ⟨b,(o'+i*sz)+k,none⟩ (a.eval v)).run P w=.ok () (w.setCell ⟨b,o1,none⟩ (a.eval v)):=by
  have H:(a.eval v).cells.toList=[a.eval v]:=by
   have:=(Rel.cells1 W (λ_ _ h=>Ae.one h) rfl).1
   rw[this]
  simp only[storeVar,Sem.run_bind,sizeOf,typeInfo];have e:(a.eval v).cells.size=ti.ty.w:=by rw[h1,<-Array.length_toList,H];rfl
  have ea:(⟨b,(o'+i*sz)+k,none⟩:Addr).add 0=⟨b,o1,none⟩:=by rw[AZ rfl,hoff];rfl
  have hrun:(storeCells ⟨b,(o'+i*sz)+k,none⟩ (a.eval v).cells.toList 0).run P w=.ok () (w.setCell ⟨b,o1,none⟩ (a.eval v)):=by
   rw[H];simp only[storeCells,Sem.run_bind,ea];rw[run_store P w _ _ .plain hone,hy];simp only[hfz,Bool.false_eq_true,if_false];rfl
  simp[hity,his,hrun,e]
 have hex:(execOp a.eval o).run P w=.ok .skip (w.setCell ⟨b,o1,none⟩ (a.eval v)):=by
  unfold execOp;rw[ho];simp[Instr.storeAt,had,Instr.sureAddr,hsv]
 unfold Oper.wp;rw[hex,Oper.upon_skip,hdst];exact hn a _ hs'
def Cl.stay:Cl->Bool
 |.rf _ _=>false
 |.rs _ _ _ _=>false
 |.rp _ _ _ _=>false
 |.rm _ _=>false
 |_=>true
def Sl.stay:Sl->Bool
 |.one y=>y.stay
 |.new _=>true
 |.agg l=>l.all Cl.stay
 |.pk _ l=>l.all Cl.stay
 |.tup l=>l.all λp=>p.2.all Cl.stay
theorem AH{α:Type}{f:α->α}{l:List α}(h:∀y∈l,f y=y):l.map f=l:=by
 have:=map_congr_left h
 simp_all
theorem Sl.chk_stay(h:y.stay=true)(m:Nat):y.chk m=y:=by
 have c1:∀y:Cl,y.stay=true->y.chk m=y:=by intro y h;cases y<;>first|rfl|cases h
 cases y with
 |one y=>exact congrArg Sl.one (c1 y h)
 |new l=>rfl
 |agg l=>exact congrArg Sl.agg (AH λy B=>c1 y (aET.1 h y B))
 |pk t l=>exact congrArg (Sl.pk t) (AH λy B=>c1 y (aET.1 h y B))
 |tup l=>
  refine congrArg Sl.tup (AH λp H=>?_)
  obtain⟨b,m⟩:=p;exact congrArg (Prod.mk b) (AH λy B=>c1 y (aET.1 (aET.1 h _ H) y B))
theorem Sl.kill_stay(h:y.stay=true)(id:Nat)(ks:List Nat)(j:Mv):y.kill id ks j=y:=by
 have c1:∀y:Cl,y.stay=true->y.kill id ks j=y:=by intro y h;cases y<;>first|rfl|cases h
 cases y with
 |one y=>exact congrArg Sl.one (c1 y h)
 |new l=>rfl
 |agg l=>exact congrArg Sl.agg (AH λy B=>c1 y (aET.1 h y B))
 |pk t l=>exact congrArg (Sl.pk t) (AH λy B=>c1 y (aET.1 h y B))
 |tup l=>
  refine congrArg Sl.tup (AH λp H=>?_)
  obtain⟨b,m⟩:=p;exact congrArg (Prod.mk b) (AH λy B=>c1 y (aET.1 (aET.1 h _ H) y B))
def Aa.isRo:Aa->Bool
 |.obj ro _=>ro
 |.arr ro _ _ _=>ro
 |.opt ro _ _ _=>ro
 |.mp ro _ _ _=>ro
 |.dead=>true
theorem Nl{B:Aa}{q:AI}(h:Nm r q=some B):r.isRo=false:=by
 unfold Nm at h;split at h
 case h_2=>grind
 split at h
 case h_3=>grind
 .rfl
 rfl
structure Kp(g:Nat->Bool)(s s':St):Prop where
 t:∀i,g i=true->(s.t i).stay=true->s'.t i=s.t i
 r:∀id,id<s.r.length->(s.r.getD id .dead).isRo=true->s'.r.getD id .dead=s.r.getD id .dead
 l:s.r.length<=s'.r.length
def Kp.refl(g:Nat->Bool)(s:St):Kp g s s:=⟨λ_ _ _=>rfl,λ_ _ _=>rfl,le_refl _⟩
theorem Kp.trans{g1 g2:Nat->Bool}{s2:St}(B:Kp g1 s s1)(Z:Kp g2 s1 s2)(W:∀i,g i=true->g1 i=true)(U:∀i,g i=true->g2 i=true):Kp g s s2:=by
 refine⟨λi hi hs=>?_,λid hl H=>?_,Nat.le_trans B.l Z.l⟩
 .have e:=B.t i (W i hi) hs
  rw[Z.t i (U i hi) (by grind),e]
 .have e:=B.r id hl H
  rw[Z.r id (Nat.lt_of_lt_of_le hl B.l) (by grind),e]
def Kp.weak{B:Nat->Bool}(h:Kp B s s')(H:∀i,g i=true->B i=true):Kp g s s':=⟨λi hi=>h.t i (H i hi),h.r,h.l⟩
def AU{t:Nat->Sl}(h:i≠d):AC t d y i=t i:=by
 unfold AC;rw[BB h];rfl
theorem Q6{d:Option Nat}(B:s.put h d y=some s'):(∃new,s'.r=s.r++new)/\(∀i,d≠some i->(s.t i).stay=true->s'.t i=s.t i)/\(s'.r=s.r->∀i,d≠some i->s'.t i=s.t i):=by
 unfold St.put at B;cases d with
 |none=>simp_all
 |some d=>
  simp only at B;cases W:blt d h.n with
  |false=>grind
  |true=>
   rw[W]at B;simp only[cond_true]at B;cases U:h.fz.contains d with
   |true=>
    rw[U]at B;split at B
    .cases B
     exact⟨⟨[],by simp⟩,λi hi _=>AU λe=>hi (by rw[e]),λ_ i hi=>AU λe=>hi (by rw[e])⟩
    .cases B
   |false=>
    rw[U]at B;simp only[cond_false,Option.some.injEq]at B;subst B;unfold St.add;split
    .exact⟨⟨[],by simp⟩,λi hi _=>AU λe=>hi (by rw[e]),λ_ i hi=>AU λe=>hi (by rw[e])⟩
    .rename_i q new _
     refine⟨⟨q::new,rfl⟩,λi hi H=>?_,λZ=>?_⟩
     .show AC (λi=>(s.t i).chk s.r.length) d (y.prom s.r.length).1 i=s.t i
      rw[AU (λe=>hi (by rw[e]))]
      exact Sl.chk_stay H _
     grind
theorem Ou{d:Option Nat}(H:s.put h d y=some s'):Kp (λi=>decide (d≠some i)) s s':=by
 obtain⟨⟨new,W⟩,ht,_⟩:=Q6 H;refine⟨λi hi B=>ht i (of_decide_eq_true hi) B,λid Z U=>?_,by grind⟩
 grind
theorem Ll(h:r.setCell i k c=some r'):r.isRo=false:=by
 cases r with
 |dead=>cases h
 |opt=>cases h
 |mp=>cases h
 |obj ro l=>cases ro with
  |true=>cases h
  |false=>rfl
 |arr ro t d xs=>cases ro with
  |true=>cases h
  |false=>rfl
theorem HE(h:r.setAt p i k c=some r'):r.isRo=false:=by
 cases p with
 |nil=>exact Ll h
 |cons a p=>
  unfold Aa.setAt at h;split at h
  .split at h
   .exact Ll h
   grind
  grind
theorem Ze{r r':List Aa}{j:Mv}(h:Pv id p i k c r=some (r',j)):∀id',(r.getD id' .dead).isRo=true->r'.getD id' .dead=r.getD id' .dead:=by
 intro id' B
 have key:∀x H y,(r.getD id .dead).setAt p i k y=some H->(r.set id x).getD id' .dead=r.getD id' .dead:=by
  intro x H y U;have:id'≠id:=by
   rintro rfl
   rw[HE U]at B;cases B
  simp only[gDE,getElem?_set_ne (Ne.symm this)]
 unfold Pv at h;split at h
 .rename_i j'
  cases W:beq j' id with
  |true=>rw[W]at h;cases h
  |false=>
   rw[W]at h;simp only[cond_false]at h;split at h
   case h_2=>cases h
   rename_i t d xs hj;split at h
   case h_2=>cases h
   rename_i H U;cases h;have:id'≠j':=by rintro rfl;rw[hj]at B;cases B
   have e:((r.set id H).set j' .dead).getD id' .dead=(r.set id H).getD id' .dead:=by
    simp only[gDE,getElem?_set_ne (Ne.symm this)]
   rw[e];exact key _ _ _ U
 .rename_i j' a q
  cases W:beq j' id with
  |true=>rw[W]at h;cases h
  |false=>
   rw[W]at h;simp only[cond_false]at h;split at h
   case h_2=>cases h
   rename_i t d xs hj;split at h
   case h_2=>cases h
   rename_i r1 H Z U;cases h;have h1:id'≠j':=by
    rintro rfl
    rw[Nl Z]at B;cases B
   have h2:id'≠id:=by
    rintro rfl
    rw[HE U]at B;cases B
   simp only[gDE,getElem?_set_ne (Ne.symm h2)];rcases lt_or_ge id' r.length with h3|h3
   .rw[gAL (by simpa using h3),getElem?_set_ne (Ne.symm h1)]
   .rw[getElem?_eq_none (l:=r) h3]
    by_cases h4:id'=r.length
    .subst h4
     rw[gAR (by simp)]
     simp
    .rw[getElem?_eq_none (by simp;omega)]
 .rename_i j'
  cases W:beq j' id with
  |true=>rw[W]at h;cases h
  |false=>
   rw[W]at h;simp only[cond_false]at h;split at h
   case h_2=>cases h
   rename_i kt vt xs hj;split at h
   case h_2=>cases h
   rename_i H U;cases h;have:id'≠j':=by rintro rfl;rw[hj]at B;cases B
   have e:((r.set id H).set j' .dead).getD id' .dead=(r.set id H).getD id' .dead:=by
    simp only[gDE,getElem?_set_ne (Ne.symm this)]
   rw[e];exact key _ _ _ U
 .obtain⟨W,h⟩:=A1 h
  split at h
  case h_2=>cases h
  rename_i H U;cases h;exact key _ _ _ U
theorem AbJ:∀(m k:Nat) (cs:List Cl) (s s':St),Zf id p i m k cs s=some s'->Kp (λ_=>true) s s':=by
 intro m
 induction m with
 |zero=>intro k cs s s' h;cases cs<;>cases h;exact Kp.refl _ _
 |succ m H=>
  intro k cs s s' h;cases cs with
  |nil=>cases h;exact Kp.refl _ _
  |cons c cs=>
   unfold Zf at h;split at h
   case h_2=>grind
   rename_i r' mv B;refine Kp.trans ⟨λx _ U=>Sl.kill_stay U _ _ _,λid' _=>Ze B id',by obtain⟨_,_,_,_,_,W,_⟩:=WL B [];grind⟩ (H _ _ _ _ h) (λ_ _=>rfl) λ_ _=>rfl
theorem WG(h:IV s ti x v=some s'):Kp (λ_=>true) s s':=by
 unfold IV at h;split at h
 case h_2=>grind
 split at h
 case h_2=>grind
 rename_i ti id p i k y _ l H;cases B:(beq l.length ti.ty.w&&ble (k+ti.ty.w) (Ac s.r id p).w&&(Ac s.r id p).live)with
 |false=>grind
 |true=>rw[B]at h;exact AbJ _ _ _ _ _ h
theorem Zh(h:WM s ti x v=some A):Kp (λ_=>true) s A.s:=by
 unfold WM at h;split at h
 case h_2=>cases h
 rename_i ti id p i k id' q off len;cases Z:(beq id' id&&beq ti.ty.w 1&&ble (k+1) (Ac s.r id p).w&&(Ac s.r id p).live)with
 |false=>grind
 |true=>
 rw[Z]at h;split at h
 case h_2=>cases h
 split at h
 case h_2=>cases h
 split at h
 case h_2=>cases h
 rename_i r0 B;cases h;refine⟨λj _ hj=>Sl.kill_stay hj _ _ _,λH W U=>?_,by simp⟩
 have:H≠id:=by
  rintro rfl
  rw[HE B]at U;grind
 grind
theorem Sl.kH_stay(h:y.stay=true)(r:List Aa)(j:Nat):y.kH r j=y:=by
 cases y with
 |one c=>
  cases c with
  |rf=>cases h
  |rs=>cases h
  |rp=>cases h
  |rm=>cases h
  |_=>rfl
 |new=>rfl
 |agg=>exact Sl.kill_stay h j [] []
 |tup=>exact Sl.kill_stay h j [] []
 |pk=>exact Sl.kill_stay h j [] []
theorem LX:∀(js:List Nat) (s:St),(∀j∈js,(s.r.getD j .dead).isRo=false\/s.r.getD j .dead=.dead)->Kp (λ_=>true) s (Aj js s)
 |[],s,_=>Kp.refl _ _
 |j::js,s,h=>by
  have Z:Kp (λ_=>true) s (Jd j s):=by
   refine⟨λi _ hi=>Sl.kH_stay hi _ _,λid H W=>?_,by rw[Ku];simp⟩
   by_cases B:j=id
   .subst B
    rcases h j (mem_cons_self ..)with h2|h2
    .grind
    .show(s.r.set j .dead).getD j .dead=_
     rw[h2];simp[H]
   .exact DI B
  refine Z.trans (LX js (Jd j s) λi hi=>?_) (λ_ _=>rfl) λ_ _=>rfl
  by_cases U:i=j
  .subst U
   right;show(s.r.set i .dead).getD i .dead=.dead
   grind
  .have:(Jd j s).r.getD i .dead=s.r.getD i .dead:=DI (Ne.symm U)
   grind
def Ks(js:List Nat)(s:St)(h:∀j∈js,(s.r.getD j .dead).isRo=false):Kp (λ_=>true) s (Aj js s):=LX js s λj hj=>.inl (h j hj)
def Sl.gv_stay(h:y.stay=true)(r:List Aa)(j:Nat)(z:Cl):y.gv r j z=y:=by
 unfold Sl.gv;split
 .cases h
 .exact Sl.kH_stay h r j
theorem Z4(h:Yf j s=some s'):Kp (λ_=>true) s s':=by
 obtain⟨l,t,x,hj,H,W,rfl⟩:=LN h;refine⟨λi _ hi=>Sl.gv_stay hi _ _ _,λid U B=>DI λe=>?_,by simp⟩
 rw[<-e,H]at B
 trivial
theorem Ye(h:OV j s=some s'):Kp (λ_=>true) s s':=by
 unfold OV at h;split at h
 case h_2=>cases h
 rename_i t d0 xs Z;cases h;have H:∀y:Sl,y.stay=true->y.gvS s.r j (.c (.sl t) 0 xs)=y:=by
  intro y U;have W:=Sl.gv_stay U s.r j (.c (.sl t) 0 xs);cases y with
  |one c=>cases c<;>first|exact W|cases U
  |_=>exact W
 refine⟨λi _ hi=>H _ hi,λid hid B=>DI λe=>?_,by simp⟩
 rw[<-e,Z]at B;cases B
def Jp:∀(xs:List Operand) {s s':St},Nf xs s=some s'->Kp (λ_=>true) s s'
 |[],s,s',h=>by cases h;exact Kp.refl _ _
 |x::xs,s,s',h=>by
  unfold Nf at h;split at h
  .split at h
   case h_2=>grind
   rename_i B;exact(Z4 B).trans (Jp xs h) (λ_ _=>rfl) λ_ _=>rfl
  .exact Jp xs h
theorem Sl.mapC_stay(h:y.stay=true)(id:Nat)(q:AI)(m:Nat):y.mapC (Cl.rr id q m)=y:=by
 have c1:∀y:Cl,y.stay=true->y.rr id q m=y:=by intro y h;cases y<;>first|rfl|cases h
 cases y with
 |one y=>exact congrArg Sl.one (c1 y h)
 |new l=>rfl
 |agg l=>exact congrArg Sl.agg (AH λy B=>c1 y (aET.1 h y B))
 |pk t l=>exact congrArg (Sl.pk t) (AH λy B=>c1 y (aET.1 h y B))
 |tup l=>
  refine congrArg Sl.tup (AH λp H=>?_)
  obtain⟨b,m⟩:=p;exact congrArg (Prod.mk b) (AH λy B=>c1 y (aET.1 (aET.1 h _ H) y B))
theorem Nk(h:Aao s x=some s'):Kp (λ_=>true) s s':=by
 unfold Aao at h;split at h
 case h_2=>cases h;exact Kp.refl _ _
 rename_i id b W
 have key:∀(H R:Aa),Nm (s.r.getD id .dead) (b::W)=some H->Kp (λ_=>true) s ⟨λi=>(s.t i).mapC (Cl.rr id (b::W) s.r.length),s.r.set id H++[R]⟩:=by
  intro H R B;refine⟨λi _ hi=>Sl.mapC_stay hi _ _ _,λid' hlt U=>?_,by simp⟩
  have Z:id'≠id:=by
   rintro rfl
   rw[Nl B]at U;grind
  grind
 split at h
 case h_2=>cases h;exact Kp.refl _ _
 grind
theorem Sl.mapK_stay(h:y.stay=true)(id:Nat)(q:AI)(m:Nat):y.mapC (Cl.rk id q m)=y:=by
 have c1:∀y:Cl,y.stay=true->y.rk id q m=y:=by intro y h;cases y<;>first|rfl|cases h
 cases y with
 |one y=>exact congrArg Sl.one (c1 y h)
 |new l=>rfl
 |agg l=>exact congrArg Sl.agg (AH λy B=>c1 y (aET.1 h y B))
 |pk t l=>exact congrArg (Sl.pk t) (AH λy B=>c1 y (aET.1 h y B))
 |tup l=>
  refine congrArg Sl.tup (AH λp H=>?_)
  obtain⟨b,m⟩:=p;exact congrArg (Prod.mk b) (AH λy B=>c1 y (aET.1 (aET.1 h _ H) y B))
theorem Ac2{x:Operand}(h:cutO s x=some s'):Kp (λ_=>true) s s':=by
 unfold cutO at h;split at h
 case h_2=>exact Nk h
 rename_i y;split at h
 case h_2=>exact Nk h
 rename_i id b q1 U;split at h
 case h_2=>exact Nk h
 rename_i r1 t d v B hn;cases h;refine⟨λi _ hi=>?_,λid' Z H=>?_,by simp⟩
 .show(bif beq i y then Sl.one (.rf s.r.length [])else(s.t i).mapC _)=s.t i
  cases he:beq i y with
  |false=>exact Sl.mapK_stay hi _ _ _
  |true=>
   have e:=bqE he;subst e;rw[U]at hi;trivial
 .have W:id'≠id:=by
   rintro rfl
   rw[Nl B]at H;grind
  grind
theorem Ql{t:Ty}{y:Option Sl}{ys:List t.T}{js:List Nat}(h:V7 s t id y=some (d,ys,js)):∀j∈js,(s.r.getD j .dead).isRo=false:=by
 replace h:=(YD h).1
 unfold V6 at h;split at h
 case h_4=>cases h
 .grind
 .rename_i j q
  split at h
  case h_2=>cases h
  rename_i ro W Z B H;split at h
  case isFalse=>cases h
  cases U:beq j id with
  |true=>rw[U]at h;cases h
  |false=>
   rw[U]at h;simp only[cond_false]at h;cases hd:beq t.dep 0 with
   |true=>rw[hd]at h;cases h;intro j hj;cases hj
   |false=>
    rw[hd]at h;simp only[cond_false]at h;split at h
    case h_2=>cases h
    cases ro with
    |true=>cases h
    |false=>
     cases h;intro i hi;simp at hi;subst hi;have H:s.r.getD i .dead=.arr false W d B:=H;rw[H];rfl
 grind
theorem Vh{i:Option TI}{y:Option Sl}{A:LR}(h:JJ s i x y=some A):∀j∈A.js,(s.r.getD j .dead).isRo=false:=by
 unfold JJ at h;split at h
 .cases h
 rename_i ti;obtain⟨hb,h⟩:=A1 h;split at h
 case h_3=>cases h
 .split at h
  case h_2=>cases h
  rename_i B;cases h;exact Ql B
 .split at h
  case h_2=>cases h
  rename_i Z d xs U;split at h
  case isFalse=>cases h
  rename_i H;subst H;split at h
  case h_2=>cases h
  rename_i d' ys js B;obtain⟨W,h⟩:=A1 h;cases h;intro j hj;rcases mem_cons.1 hj with rfl|hj
  .rw[U];rfl
  .exact Ql B j hj
theorem AbR(wr:∀{l m:List Cl}{js:List (Option Nat)},KU s.r l=some (m,js)->∀j∈VO js,(s.r.getD j .dead).isRo=false){n:Nat}{ps:List (Nat×Option Sl)}{i:Option TI}{A:LR}(h:tBSM s n ps i=some A):∀j∈A.js,(s.r.getD j .dead).isRo=false:=by
 unfold tBSM at h;split at h
 case h_2=>grind
 grind
def Jg{r:List Aa}:∀{l m:List Cl}{js:List (Option Nat)},KU r l=some (m,js)->∀j∈VO js,(r.getD j .dead).isRo=false
 |[],m,js,h=>by cases h;intro j hj;cases hj
 |y::l,m,js,h=>by
  unfold KU at h;split at h
  .rename_i H;cases H
  .rename_i id l' H
   cases H;split at h
   case h_2=>cases h
   rename_i t d xs B;split at h
   case h_2=>cases h
   rename_i Z U W;cases h;intro j hj;rcases mem_cons.1 hj with rfl|hj
   .rw[B];rfl
   .exact Jg W j hj
  .rename_i id k l' H
   cases H;split at h
   case h_2=>cases h
   rename_i cl B;split at h
   case h_2=>cases h
   split at h
   case h_2=>cases h
   rename_i Z U W;cases h;intro j hj;rcases mem_cons.1 hj with rfl|hj
   .rw[B];rfl
   .exact Jg W j hj
  .rename_i y' l' hne H
   cases H;cases hi:y.imm with
   |false=>grind
   |true=>
    rw[hi]at h;split at h
    case h_2=>cases h
    rename_i Z U W;cases h;exact λj hj=>Jg (l:=l) W j hj
theorem N2{u:Ty}{xs:List u.T}(h:r.setPath p u d xs=some r'):r.isRo=false:=by
 unfold Aa.setPath at h;split at h
 .split at h
  .rfl
  grind
 .exact HE h
theorem Lj{id:Nat}:∀(LD:List (Db×Nat)) (ys:List (Σ t:Ty,t.T)) (r r':List Aa),C5 LD ys r=some r'->(r.getD id .dead).isRo=true->r'.getD id .dead=r.getD id .dead
 |[],[],r,r',h,_=>by cases h;rfl
 |(a,d)::LD,⟨.sl u,xs⟩::ys,r,r',h,hro=>by
  unfold C5 at h;split at h
  case h_2=>grind
  rename_i x H;have B:a.1≠id:=λe=>by rw[<-e,N2 H]at hro;grind
  rw[Lj LD ys _ _ h (by grind),DI B]
 |[],_::_,_,_,h,_=>by cases h
 |_::_,[],_,_,h,_=>by cases h
 |_::_,⟨.int _,_⟩::_,_,_,h,_=>by cases h
 |_::_,⟨.bool,_⟩::_,_,_,h,_=>by cases h
 |_::_,⟨.str,_⟩::_,_,_,h,_=>by cases h
 |_::_,⟨.unit,_⟩::_,_,_,h,_=>by cases h
 |_::_,⟨.ptr _,_⟩::_,_,_,h,_=>by cases h
 |_::_,⟨.clo _ _,_⟩::_,_,_,h,_=>by cases h
 |_::_,⟨.osl _,_⟩::_,_,_,h,_=>by cases h
 |_::_,⟨.mp _ _,_⟩::_,_,_,h,_=>by cases h
 |_::_,⟨.pair _ _,_⟩::_,_,_,h,_=>by cases h
theorem Sl.killP_stay(h:y.stay=true)(f:Nat->AI->Bool):y.killP f=y:=by
 have c1:∀y:Cl,y.stay=true->y.killP f=y:=by intro y h;cases y<;>first|rfl|cases h
 cases y with
 |one y=>exact congrArg Sl.one (c1 y h)
 |new l=>rfl
 |agg l=>exact congrArg Sl.agg (AH λy B=>c1 y (aET.1 h y B))
 |pk t l=>exact congrArg (Sl.pk t) (AH λy B=>c1 y (aET.1 h y B))
 |tup l=>
  refine congrArg Sl.tup (AH λp H=>?_)
  obtain⟨b,m⟩:=p;exact congrArg (Prod.mk b) (AH λy B=>c1 y (aET.1 (aET.1 h _ H) y B))
theorem WU{Γ:List EnW}{f:FuncId}{xs:List (Option Sl)}{A:YR}{u:A.α}(U:NW Γ s f xs=some A)(B:A.st u=some s1):Kp (λ_=>true) s s1:=by
 unfold NW at U;split at U
 case h_2=>grind
 rename_i e he;split at U
 case h_2=>grind
 rename_i z LD hz;cases Z:Mg (LD.map (·.1))with
 |false=>grind
 |true=>
 rw[Z]at U;cases U
 have B:(match C5 LD (wOf (Di e.S.ps) u.2) s.r with
  |some r'=>some ⟨λi=>(s.t i).killP (Z0 (LD.map (·.1)) s.r.length),r'⟩
  |none=>none)=some s1:=B
 split at B
 case h_2=>grind
 rename_i r' H;cases B;exact⟨λi _ hi=>Sl.killP_stay hi _,λid _ W=>Lj LD _ _ _ H W,by
  rw[(JO _ _ _ _ H).1];simp⟩
def Adq:List Operand->St->Option St
 |[],s=>some s
 |x::xs,s=>match cutO s x with
  |some s'=>Adq xs s'
  |none=>none
def Yt{C:Ctx}{N:Nat}{a:Act}{w:World}:∀(xs:List Operand) {s s':St},Adq xs s=some s'->AA C N s.den a w->AA C N s'.den a w
 |[],s,s',h,hs=>by cases h;grind
 |x::xs,s,s',h,hs=>by
  unfold Adq at h;split at h
  case h_2=>grind
  rename_i B;exact Yt xs h (Ac1 B hs)
def Yu:∀(xs:List Operand) {s s':St},Adq xs s=some s'->Kp (λ_=>true) s s'
 |[],s,s',h=>by cases h;exact Kp.refl _ _
 |x::xs,s,s',h=>by
  unfold Adq at h;split at h
  case h_2=>grind
  rename_i B;exact(Ac2 B).trans (Yu xs h) (λ_ _=>rfl) λ_ _=>rfl
end Go.Ve


namespace Go.Ve
variable{r:List Aa}{Y:List Nat}{m:Nat}{p:Nat×Nat}{y:Sl}{s s1:St}
def backs:List (Nat×Nat)->Ms->Ms
 |[],S=>S
 |p::B,S=>backs B ⟨AD S.t p.1 (MI p.2 (S.t p.1)),S.σ.set p.2 (S.t p.1)⟩
def Cu(v:V):Prop:=∃s sz n f,v=.nd s true sz n f/\(s=false->0<sz/\n=1)
def PR.backs{C:Ctx}{N:Nat}{a:Act}{w:World}{D:Nat->Prop}{ρ:Nat->Value}:∀(B:List (Nat×Nat)) (t:Nat->V) (σ:List V) (F:Nat->Nat->Prop) (T:Nat->Nat->Prop),PR C N σ ρ F t a w D T->
  (B.map (·.1)).Nodup->(B.map (·.2)).Nodup->(∀p∈B,p.1<N/\p.2<σ.length/\σ.getD p.2 .dead=.dead/\a.tmps.getD p.1 undef=ρ p.2/\Cu (t p.1))->
  ∃F' T',PR C N (Go.Ve.backs B ⟨t,σ⟩).σ ρ F' (Go.Ve.backs B ⟨t,σ⟩).t a w D T'/\∀x b,T' x b->T x b/\x∉B.map (·.1)
 |[],t,σ,F,T,h,_,_,_=>⟨F,T,h,λx b H=>⟨H,by simp⟩⟩
 |p::B,t,σ,F,T,h,hn1,hn2,hB=>by
  obtain⟨h1,h2,h3,h4,s,sz,n,f,h5,h6⟩:=hB p (mem_cons_self ..);have H:=h.back2 h1 h2 h3 h5 h6 h4;rw[map_cons,nodup_cons]at hn1 hn2;obtain⟨F',T',W,Z⟩:=PR.backs B _ _ _ _ H hn1.2 hn2.2 λq U=>by
   obtain⟨g1,g2,g3,g4,g5⟩:=hB q (mCM _ U);have e1:q.1≠p.1:=λe=>hn1.1 (e▸mem_map.2 ⟨q,U,rfl⟩)
   have e2:q.2≠p.2:=λe=>hn2.1 (e▸mem_map.2 ⟨q,U,rfl⟩)
   refine⟨g1,by simpa using g2,?_,g4,?_⟩
   .refine Eq.trans ?_ g3
    simp only[gDE];rw[getElem?_set_ne (Ne.symm e2)]
   .simp[AD,e1,if_false]
    exact g5
  refine⟨F',T',W,λx b H=>?_⟩
  obtain⟨k1,k2⟩:=Z x b H;refine⟨k1.2,?_⟩;rw[map_cons,mem_cons];exact λh=>h.elim k1.1 k2
def Aa3:List Cl->Nat
 |[]=>0
 |.c t d _::l=>bif ble (Pm d t.dep) (Aa3 l)then Aa3 l else Pm d t.dep
 |_::l=>Aa3 l
def sameD(D:Nat):Cl->Bool
 |.c t d _=>beq (Pm d t.dep) (Pm D t.dep)
 |_=>false
theorem AcQ(D:Nat):∀(l:List Cl) (y:Dy),Hn l=some y->l.all (sameD D)=true->tyV y.t D y.x=l.map Cl.v0:=by
 intro l
 induction l with
 |nil=>intro y h _;cases h;rfl
 |cons a l ih=>
  intro y h B;rw[List.all_cons,bAE]at B;unfold Hn at h;split at h
  case h_2=>cases h
  rename_i t d x;have H:=bqE B.1;rw[ID,ID]at H;obtain⟨ho,h⟩:=A1 h;have U:[cV t d x]=tyV t D x:=by rw[Bm ho,Ma H]
  split at h
  .cases h
   exact U.symm
  .rename_i b l'
   split at h
   case h_2=>cases h
   rename_i Z W hf;cases h;show tyV t D x++tyV Z D W=cV t d x::_;rw[ih _ hf B.2,<-U];rfl
def Ci(s:St)(y:Nat):Option Nat:=match s.t y with
 |.one (.rf id [])=>match s.r.getD id .dead with
  |.arr false _ _ _=>some id
  |_=>none
 |.one (.rp id [] 0 0)=>match s.r.getD id .dead with
  |.obj false l=>match Hn l with
   |some _=>bif l.all (sameD (Aa3 l))&& !beq l.length 0 then some id else none
   |none=>none
  |_=>none
 |_=>none
def AaU(s:St)(y:Nat):Sl:=match s.t y with
 |.one (.rf id [])=>match s.r.getD id .dead with
  |.arr false t d xs=>.one (.c (.sl t) (d+1) xs)
  |_=>.one .dead
 |.one (.rp id [] 0 0)=>match s.r.getD id .dead with
  |.obj false l=>match Hn l with
   |some ⟨t,x⟩=>.one (.c (.ptr t) (Aa3 l+1) x)
   |none=>.one .dead
  |_=>.one .dead
 |_=>.one .dead
def VP(s:St):List Nat->Option (List Nat)
 |[]=>some []
 |y::l=>match Ci s y with
  |some id=>match VP s l with
   |some m=>some (id::m)
   |none=>none
  |none=>none
def ndB:List Nat->Bool
 |[]=>true
 |a::l=>!l.contains a&&ndB l
def Kv(Y:List Nat)(s:St):Option St:=match Y with
 |[]=>some s
 |Y=>match VP s Y with
  |some B=>bif ndB B then some ⟨λi=>bif Y.contains i then AaU s i else(Aj B s).t i,(Aj B s).r⟩else none
  |none=>none
theorem Z6{c:Cl}(h:c.own=false):frz c.v0=c.v0:=by
 cases c with
 |c t d x=>
  cases t with
  |int k=>rfl
  |bool=>rfl
  |str=>rfl
  |unit=>rfl
  |pair a b=>rfl
  |sl t=>cases d with
   |zero=>exact singleton_inj.1 (Ba (.sl t) 0 x)
   |succ d=>cases h
  |ptr t=>cases d with
   |zero=>exact singleton_inj.1 (Ba (.ptr t) 0 x)
   |succ d=>cases h
  |clo g t=>exact singleton_inj.1 (Ba (.clo g t) 0 x)
  |mp a b=>cases d with
   |zero=>exact singleton_inj.1 (Ba (.mp a b) 0 x)
   |succ d=>cases h
  |osl t=>cases d with
   |zero=>exact singleton_inj.1 (Ba (.osl t) 0 x)
   |succ d=>cases x with
    |none=>rfl
    |some y=>cases h
 |_=>rfl
theorem Cc{y id:Nat}(h:Ci s y=some id):(s.r.getD id .dead).isRo=false/\(s.t y).stay=false/\Cu (s.r.getD id .dead).v/\(∀r,(AaU s y).v r=(s.r.getD id .dead).v)/\(s.t y).v s.r=MI id (s.r.getD id .dead).v:=by
 unfold Ci at h;split at h
 case h_3=>cases h
 .rename_i id' B
  split at h
  case h_2=>cases h
  rename_i t d xs H;cases h;rw[H];refine⟨rfl,by rw[B];rfl,⟨true,_,_,_,rfl,λh=>by cases h⟩,λr=>?_,?_⟩
  .unfold AaU
   rw[B];simp only[H];show arr (decide (0<d+1)) t.w (tyV t (d+1-1)) t.dflt xs=arr true t.w (tyV t d) t.dflt xs;simp
  .rw[B]
   show V.rs id [] 0 (Ac s.r id []).len=_
   have:(Ac s.r id []).len=xs.length:=by
    show(s.r.getD id .dead).len=_;rw[H];rfl
   rw[this];rfl
 .rename_i id' B
  split at h
  case h_2=>cases h
  rename_i l H;split at h
  case h_2=>cases h
  rename_i D W;obtain⟨U,h⟩:=A1 h;cases h;rw[bAE,not_eq_true']at U;have Z:0<l.length:=by
   rcases Nat.eq_zero_or_pos l.length with e|e
   .rw[e]at U;cases U.2
   .exact e
  rw[H];refine⟨rfl,by rw[B];rfl,⟨false,_,_,_,rfl,λ_=>⟨by simpa using Z,rfl⟩⟩,λr=>?_,?_⟩
  .obtain⟨t,x⟩:=D
   unfold AaU;rw[B];simp only[H,W];show A3 (decide (0<Aa3 l+1)) (tyV t (Aa3 l+1-1) x)=A3 true (l.map Cl.v0);have e3:tyV t (Aa3 l) x=l.map Cl.v0:=AcQ _ _ _ W U.1;rw[Nat.add_sub_cancel,e3,dT (Nat.succ_pos _)]
  .rw[B];rfl
theorem Kk{s:St}:∀{Y B:List Nat},VP s Y=some B->(∀y∈Y,∃id∈B,Ci s y=some id)/\(∀id∈B,∃y∈Y,Ci s y=some id)
 |[],B,h=>by cases h;simp
 |y::Y,B,h=>by
  unfold VP at h;split at h
  case h_2=>grind
  split at h
  case h_2=>grind
  rename_i m hm;obtain⟨U,H⟩:=Kk hm
  grind
theorem XI{s:St}:∀{Y B:List Nat},VP s Y=some B->ndB B=true->∀x∈Y,∀y∈Y,∀id,Ci s x=some id->Ci s y=some id->x=y
 |[],_,_,_,x,hx,_,_,_,_,_=>by cases hx
 |z::Y,B,h,U,x,hx,y,hy,id,h1,h2=>by
  unfold VP at h;split at h
  case h_2=>cases h
  rename_i H hid;split at h
  case h_2=>cases h
  rename_i m hm;cases h;have U:(!m.contains H&&ndB m)=true:=U;rw[bAE,not_eq_true']at U;have out:∀u∈Y,Ci s u≠some H:=by
   intro u Z he;obtain⟨i,hi,hi2⟩:=(Kk hm).1 u Z
   grind
  by_cases ex:x=z
  .grind
  .have W:x∈Y:=(mem_cons.1 hx).resolve_left ex
   by_cases ey:y=z
   .grind
   .exact XI hm U.2 x W y ((mem_cons.1 hy).resolve_left ey) id h1 h2
theorem O6{C:Ctx}{N:Nat}{a:Act}{w:World}(h:Kv Y s=some s1)(hs:AA C N s.den a w){w':World}(hB:Below w.heap.size w w'):
  ∃D ρ F T,PR C N s1.den.σ ρ F s1.den.t a w' D T/\(∀x b,T x b->x∈Y)/\∀x id,x<N->Ci s x=some id->a.tmps.getD x undef=ρ id:=by
 obtain⟨hdf,hdd,D0,ρ0,F0,hcr0⟩:=hs;obtain⟨D,ρ,F,H⟩:=hcr0.below hB;have hsz:a.tmps.size=N:=by simpa using H.sz
 have base:∀{s1:St}{F1:Nat->Nat->Prop},CR C s1.den.σ ((range N).map s1.den.t) a.tmps w' D ρ F1->(∀x,N<=x->s1.den.t x=.dead)->PR C N s1.den.σ ρ F1 s1.den.t a w' D (λ_=>noF):=by
  intro s1 F1 hc hd;refine⟨hdf,hsz,hd,hc.wr,λx hx=>?_,λ_ _ h=>h.elim,λ_ _ _ _ h=>h,λ_ _ _ _ h=>h.elim,λ_ _ h=>h.elim,hc.fr,hc.Fn,hc.D1,hc.D2,hc.rt,hc.ml,λ_ _ _ h=>h⟩
  have h1:=hc.tm x (by simpa using hx)
  rw[Ay hx]at h1;exact h1
 have hval:∀x id,x<N->Ci s x=some id->a.tmps.getD x undef=ρ id:=by
  intro x id hx hid;obtain⟨g1,g2,⟨s0,sz0,n0,f0,g3,g4⟩,g5,g6⟩:=Cc hid;have hr:=H.tm x (by simpa using hx)
  rw[Ay hx]at hr;have e0:s.den.t x=MI id (s.r.getD id .dead).v:=g6;rw[e0]at hr;have e3:s.den.σ.getD id .dead=(s.r.getD id .dead).v:=Ai _ _;have hlt:id<s.r.length:=by
   rcases lt_or_ge id s.r.length with h|h
   .exact h
   .rw[gDE,getElem?_eq_none h]at g1;cases g1
  have U:=H.wr.rel id (by simpa [St.den]using hlt)
  rw[e3]at U;exact Xk g3 g4 (by rw[e3]) U hr
 unfold Kv at h;split at h
 .cases h
  exact⟨D,ρ,F,λ_=>noF,base H hdd,λ_ _ h=>h.elim,hval⟩
 split at h
 case h_2=>cases h
 rename_i W hids;obtain⟨hn,h⟩:=A1 h;cases h;obtain⟨v1,v2⟩:=Kk hids;have hlt:∀j∈W,j<s.r.length:=by
  intro j hj;obtain⟨y,_,hy⟩:=v2 j hj;have hr:=(Cc hy).1;rcases lt_or_ge j s.r.length with h|h
  .exact h
  .rw[gDE,getElem?_eq_none h]at hr;cases hr
 obtain⟨F1,hcr1,hF1⟩:=Cn W H hlt;have hp:=base (s1:=Aj W s) hcr1 (BT W hdd);have hYN:∀y∈Y,y<N:=by
  intro y hy;obtain⟨id,_,hi⟩:=v1 y hy;obtain⟨_,_,⟨s0,_,_,_,h1,_⟩,_,h2⟩:=Cc hi;rcases lt_or_ge y N with h|h
  .exact h
  .have:=hdd y h
   have e:(s.t y).v s.r=.dead:=this;rw[h2,h1]at e;cases s0<;>cases e
 have hnot:∀{x:Nat},x∉Y->Y.contains x=false:=by
  intro x hx;cases hc:Y.contains x with
  |false=>rfl
  |true=>exact absurd (by simpa using hc) hx
 refine⟨D,ρ,F1,λx b=>x∈Y/\∃id,Ci s x=some id/\F id b,⟨hdf,hsz,λx hx=>?_,hp.wr,λx hx=>?_,λx b Z=>?_,λi x b Z hT=>?_,λx y b hxy h1 h2=>?_,λx b Z=>?_,hp.fr,hp.Fn,hp.D1,hp.D2,hp.rt,hp.ml,λx b hx Z=>?_⟩,λx b Z=>Z.1,hval⟩
 .have B:x∉Y:=λh=>absurd (hYN x h) (not_lt.2 hx)
  show(bif Y.contains x then AaU s x else(Aj W s).t x).v _=.dead;rw[hnot B];exact BT W hdd x hx
 .by_cases B:x∈Y
  .obtain⟨id,hi,hid⟩:=v1 x B
   obtain⟨g1,g2,⟨s0,sz0,n0,f0,g3,g4⟩,g5,g6⟩:=Cc hid;have hc:Y.contains x=true:=by simpa using B
   show Rel D _ _ ((bif Y.contains x then AaU s x else(Aj W s).t x).v _) (a.tmps.getD x undef) _;rw[hc,cond_true,g5];have hr:=H.tm x (by simpa using hx)
   rw[Ay hx]at hr;have e0:s.den.t x=MI id (s.r.getD id .dead).v:=g6;rw[e0]at hr;have e3:s.den.σ.getD id .dead=(s.r.getD id .dead).v:=Ai _ _;have U:=H.wr.rel id (by simpa [St.den]using hlt id hi)
   rw[e3]at U;have ecv:a.tmps.getD x undef=ρ id:=Xk g3 g4 (by rw[e3]) U hr
   rw[ecv];refine Rel.fp_congr (λb=>⟨λZ=>⟨B,id,hid,Z⟩,fun⟨_,i,hi,Z⟩=>?_⟩) (Rel.noR_mono U)
   rw[hid]at hi;cases hi;exact Z
  .show Rel D _ _ ((bif Y.contains x then AaU s x else(Aj W s).t x).v _) (a.tmps.getD x undef) _
   rw[hnot B,cond_false];exact Rel.fp_congr (λb=>⟨λh=>h.elim,λh=>absurd h.1 B⟩) (hp.tm x hx)
 .obtain⟨_,id,_,Z⟩:=Z
  exact H.wr.dD id b Z
 .obtain⟨B,id,hid,hb2⟩:=hT
  obtain⟨g1,g2⟩:=hF1 i b Z;obtain⟨id',hi',he⟩:=v1 x B;rw[hid]at he;cases he;exact H.wr.disj i id b (λe=>g2 (e▸hi')) g1 hb2
 .obtain⟨B,id1,hid1,hb1⟩:=h1
  obtain⟨hyY,id2,hid2,hb2⟩:=h2;by_cases e:id1=id2
  .subst e
   exact hxy (XI hids hn x B y hyY id1 hid1 hid2)
  .exact H.wr.disj id1 id2 b e hb1 hb2
 .obtain⟨_,id,_,Z⟩:=Z
  exact H.Fn id b Z
 .exact absurd (hYN x Z.1) (not_lt.2 hx)
theorem O7(h:Kv Y s=some s1):Kp (λ_=>true) s s1:=by
 unfold Kv at h;split at h
 .cases h;exact Kp.refl _ _
 split at h
 case h_2=>grind
 rename_i B H;cases hn:ndB B with
 |false=>grind
 |true=>
 rw[hn]at h;cases h;obtain⟨v1,v2⟩:=Kk H;have U:=Ks B s λj hj=>by
  obtain⟨y,_,hy⟩:=v2 j hj;exact(Cc hy).1
 refine⟨λi hi Z=>?_,U.r,U.l⟩
 have hiY:i∉Y:=by
  intro h;obtain⟨id,_,W⟩:=v1 i h;rw[(Cc W).2.1]at Z;grind
 show(bif Y.contains i then AaU s i else(Aj B s).t i)=s.t i;have hc:Y.contains i=false:=by
  grind
 rw[hc];exact U.t i hi Z
def St.promA:List (Option Nat)->St->St
 |[],s=>s
 |none::ds,s=>St.promA ds s
 |some d::ds,s=>bif(s.t d).own then St.promA ds (s.add d ((s.t d).prom s.r.length))else St.promA ds s
theorem Ak.trans:∀{v v' B:V},Ak v v'->Ak v' B->Ak v B:=by
 have dd:∀B,Ak .dead B->B=.dead:=by
  intro B h;rcases h with h|h
  .exact h
  trivial
 intro v
 induction v with
 |many t n f W=>
  intro v' B h H;rcases h with rfl|⟨g,rfl,h⟩
  .rw[dd _ H];exact Ak.dead _
  .rcases H with rfl|⟨g',rfl,H⟩
   .exact Ak.dead _
   .exact .inr ⟨g',rfl,λk U=>W k (h k U) (H k U)⟩
 |c v=>
  intro v' B h H;rcases h with rfl|h
  .rw[dd _ H];exact Ak.dead _
  .rcases h with rfl|⟨rfl,own,sz,f,rfl⟩
   .grind
   .rcases H with rfl|H
    .exact Ak.dead _
    .exact .inr (Sub.trans (.inr ⟨rfl,own,sz,f,rfl⟩) H)
 |dead=>grind
 |nd s own sz n f _=>
  intro v' B h H;rcases h with rfl|h
  .rw[dd _ H];exact Ak.dead _
  .have Z:=h
   obtain⟨g,rfl,_⟩:=h;rcases H with rfl|H
   .exact Ak.dead _
   .exact .inr (Sub.trans Z H)
 |rs id p off len=>
  intro v' B h H;rcases h with rfl|h
  .rw[dd _ H];exact Ak.dead _
  .subst h
   grind
 |rm id p=>
  intro v' B h H;rcases h with rfl|h
  .rw[dd _ H];exact Ak.dead _
  .subst h
   grind
 |mp own l=>
  intro v' B h H;rcases h with rfl|h
  .rw[dd _ H];exact Ak.dead _
  .cases h
   exact H
 |rp id p i k=>
  intro v' B h H;rcases h with rfl|h
  .rw[dd _ H];exact Ak.dead _
  .subst h
   exact H
structure Aax(ds:List (Option Nat))(S:Ms)(s:St):Prop where
 σ:S.σ=s.den.σ
 t:∀i,Ak (S.t i) (s.den.t i)
 o:∀i,some i∈ds->((s.t i).own=true->(s.t i).stay=true)/\(S.t i=s.den.t i\/((s.t i).own=false/\AJ (S.t i)=false))
theorem WY(h:y.stay=true)(r r':List Aa):y.v r=y.v r':=by
 have c1:∀y:Cl,y.stay=true->y.v r=y.v r':=by intro y h;cases y<;>first|rfl|cases h
 have cl:∀l:List Cl,l.all Cl.stay=true->l.map (Cl.v r)=l.map (Cl.v r'):=λl h=>map_congr_left λy B=>c1 y (aET.1 h y B)
 cases y with
 |one y=>exact c1 y h
 |new l=>rfl
 |agg l=>exact congrArg Ah (cl l h)
 |pk t l=>exact congrArg (pkL t) (cl l h)
 |tup l=>
  refine congrArg Dj (map_congr_left λp H=>?_)
  rw[cl p.2 (aET.1 h p H)]
theorem Acf(y:Sl)(m:Nat):(y.chk m).own=y.own:=by
 have c1:∀y:Cl,(y.chk m).own=y.own:=by
  intro y;cases y with
  |rf id p=>show(bif blt id m then Cl.rf id p else .dead).own=_;cases blt id m<;>rfl
  |rs id p a b=>show(bif blt id m then Cl.rs id p a b else .dead).own=_;cases blt id m<;>rfl
  |rp id p a b=>show(bif blt id m then Cl.rp id p a b else .dead).own=_;cases blt id m<;>rfl
  |_=>rfl
 have cl:∀l:List Cl,(l.map (Cl.chk m)).any Cl.own=l.any Cl.own:=by
  grind
 cases y with
 |one y=>exact c1 y
 |new l=>rfl
 |agg l=>exact cl l
 |pk t l=>exact cl l
 |tup l=>
  show(l.map _).any _=l.any _;rw[any_map]
  congr 1
  funext p
  obtain⟨b,l⟩:=p;cases b with
  |true=>grind
  |false=>
   cases l with
   |nil=>rfl
   |cons y l=>exact c1 y
theorem PU:AJ ((y.prom m).1.v r)=false:=by
 have U:∀(B m:Nat) (y:Cl),((y.prom B m).1).own=false:=by
  intro B m y;cases y with
  |c t d x=>cases t<;>cases d<;>first|rfl|(cases x<;>rfl)|(show(bif blt 0 _ then(Cl.rp m [] 0 0,_)else(Cl.dead,_)).1.own=false;cases blt 0 _<;>rfl)
  |rf id p=>show(bif blt id B then Cl.rf id p else .dead).own=_;cases blt id B<;>rfl
  |rs id p a b=>show(bif blt id B then Cl.rs id p a b else .dead).own=_;cases blt id B<;>rfl
  |rp id p a b=>show(bif blt id B then Cl.rp id p a b else .dead).own=_;cases blt id B<;>rfl
  |_=>rfl
 have H:∀(B:Nat) (l:List Cl) (m:Nat),((BZ B m l).1).any Cl.own=false:=by
  intro B l
  induction l with
  |nil=>intro m;rfl
  |cons y l W=>intro m;show(((y.prom B m).1).own||((BZ B _ l).1).any Cl.own)=false;rw[U,W];rfl
 have Z:∀(B:Nat) (l:List (Bool×List Cl)) (m:Nat),((Dw B m l).1).any (λp=>if p.1 then p.2.any Cl.own else(p.2.getD 0 .dead).own)=false:=by
  intro B l
  induction l with
  |nil=>intro m;rfl
  |cons p l W=>
   intro m;show((if(Iy B m p).1.1 then(Iy B m p).1.2.any Cl.own else((Iy B m p).1.2.getD 0 .dead).own)||((Dw B _ l).1).any _)=false
   rw[W,Bool.or_false];obtain⟨b,l⟩:=p;cases b with
   |true=>exact H B l m
   |false=>exact U B m _
 rw[Sl.own_v];cases y with
 |one y=>exact U m m y
 |new l=>show(bif blt 0 l.length then(Sl.one (.rp m [] 0 0),[Aa.obj false l])else(.one .dead,[])).1.own=false;cases blt 0 l.length<;>rfl
 |agg l=>exact H m l m
 |pk t l=>exact H m l m
 |tup l=>exact Z m l m
theorem pn:∀(v:V) (m:Nat),AJ (Go.Ve.prom v m).1=false:=by
 have U:∀(g:Nat->Nat->V×List V),(∀k m,AJ (g k m).1=false)->∀n m,∀x∈(BE g n m).1,AJ x=false:=by
  intro g W n m
  induction n with
  |zero=>intro x B;cases B
  |succ n H=>
   intro x B;unfold BE at B
   grind
 intro v
 induction v with
 |many t n f H=>
  intro m;show((range n).any λk=>AJ ((BE (λk=>Go.Ve.prom (f k)) n m).1.getD k .dead))=false
  rw[List.any_eq_false];intro k _;have h:=U (λk=>Go.Ve.prom (f k)) (λk m=>H k m) n m
  rw[gDE];cases B:(BE (λk=>Go.Ve.prom (f k)) n m).1[k]? with
  |none=>trivial
  |some x=>grind
 |nd s own sz n f _=>
  intro m;cases own with
  |false=>cases s<;>rfl
  |true=>cases s with
   |true=>rfl
   |false=>
    show AJ (if 0<sz then(V.rp m [] 0 0,[V.nd false true sz n f])else(.dead,[])).1=false
    split<;>rfl
 |mp own l=>intro m;cases own<;>rfl
 |_=>intro m;rfl
theorem J2:∀(ds:List (Option Nat)) (S:Ms) (s:St),Aax ds S s->(∀i,Ak ((Go.Ve.promA ds S).t i) ((s.promA ds).den.t i))/\(Go.Ve.promA ds S).σ=(s.promA ds).den.σ:=by
 intro ds
 induction ds with
 |nil=>intro S s h;exact⟨h.t,h.σ⟩
 |cons d ds ih=>
  intro S s h;have H:∀i,some i∈ds->some i∈d::ds:=λi hi=>mCM _ hi
  cases d with
  |none=>exact ih S s ⟨h.σ,h.t,λi hi=>h.o i (H i hi)⟩
  |some d=>
   show(∀i,Ak ((if AJ (S.t d)then Go.Ve.promA ds ⟨AD S.t d (Go.Ve.prom (S.t d) S.σ.length).1,S.σ++(Go.Ve.prom (S.t d) S.σ.length).2⟩else Go.Ve.promA ds S).t i) ((bif(s.t d).own then St.promA ds (s.add d ((s.t d).prom s.r.length))else St.promA ds s).den.t i))/\
    (if AJ (S.t d)then Go.Ve.promA ds ⟨AD S.t d (Go.Ve.prom (S.t d) S.σ.length).1,S.σ++(Go.Ve.prom (S.t d) S.σ.length).2⟩else Go.Ve.promA ds S).σ=(bif(s.t d).own then St.promA ds (s.add d ((s.t d).prom s.r.length))else St.promA ds s).den.σ
   obtain⟨_,hd⟩:=h.o d (mem_cons_self ..);cases ho:(s.t d).own with
   |false=>
    have:AJ (S.t d)=false:=by
     rcases hd with e|e
     .rw[e];show AJ ((s.t d).v s.r)=false;rw[Sl.own_v,ho]
     .exact e.2
    rw[this];exact ih S s ⟨h.σ,h.t,λi hi=>h.o i (H i hi)⟩
   |true=>
    have e:S.t d=(s.t d).v s.r:=by
     rcases hd with e|e
     .exact e
     .rw[ho]at e;cases e.1
    have:AJ (S.t d)=true:=by rw[e,Sl.own_v,ho]
    rw[this];have hl:S.σ.length=s.r.length:=by rw[h.σ];show(s.r.map Aa.v).length=_;exact length_map ..
    obtain⟨a1,a2⟩:=YL (s:=s) (d:=d) (y:=s.t d)
    have hself:(s.add d ((s.t d).prom s.r.length)).t d=((s.t d).prom s.r.length).1:=by
     have hu:∀(t:Nat->Sl) (y:Sl),AC t d y d=y:=λt y=>by unfold AC;rw[beq_refl];rfl
     unfold St.add;split
     .exact hu _ _
     .exact hu (λi=>(s.t i).chk s.r.length) _
    have W:∀i,i≠d->(s.add d ((s.t d).prom s.r.length)).t i=s.t i\/(s.add d ((s.t d).prom s.r.length)).t i=(s.t i).chk s.r.length:=by
     intro i hi;unfold St.add;split
     .exact .inl (AU hi)
     .exact .inr (AU (t:=λi=>(s.t i).chk s.r.length) hi)
    refine ih _ _ ⟨?_,λi=>?_,λi hi=>?_⟩
    .show S.σ++(Go.Ve.prom (S.t d) S.σ.length).2=_
     rw[e,hl,h.σ];exact a2
    .have h1:=a1 i
     show Ak (AD S.t d (Go.Ve.prom (S.t d) S.σ.length).1 i) _;rw[e,hl];unfold AD at h1⊢;by_cases U:i=d
     .rw[if_pos U]at h1⊢;exact h1
     .rw[if_neg U]at h1⊢;exact(h.t i).trans h1
    .obtain⟨k1,k2⟩:=h.o i (H i hi)
     by_cases U:i=d
     .subst U
      rw[hself]
      have hno:(((s.t i).prom s.r.length).1).own=false:=by
       have:=PU (y:=s.t i) (m:=s.r.length) (r:=s.r);rw[Sl.own_v]at this;exact this
      refine⟨(λh=>by rw[hno]at h;cases h),.inr ⟨hno,?_⟩⟩
      show AJ (AD S.t i (Go.Ve.prom (S.t i) S.σ.length).1 i)=false;unfold AD;rw[if_pos rfl];exact pn _ _
     .have hV:AD S.t d (Go.Ve.prom (S.t d) S.σ.length).1 i=S.t i:=by unfold AD;rw[if_neg U]
      have Z:(s.t i).own=true->(s.add d ((s.t d).prom s.r.length)).t i=s.t i:=λB=>by
       rcases W i U with h'|h'
       .exact h'
       .rw[h',Sl.chk_stay (k1 B)]
      have hown:((s.add d ((s.t d).prom s.r.length)).t i).own=(s.t i).own:=by
       rcases W i U with h'|h'
       .rw[h']
       .rw[h',Acf]
      refine⟨λB=>?_,?_⟩
      .rw[hown]at B
       rw[Z B];exact k1 B
      .cases B:(s.t i).own with
       |false=>
        refine .inr ⟨by rw[hown,B],?_⟩
        show AJ (AD S.t d (Go.Ve.prom (S.t d) S.σ.length).1 i)=false;rw[hV];rcases k2 with k2|k2
        .rw[k2];show AJ ((s.t i).v s.r)=false;rw[Sl.own_v,B]
        .exact k2.2
       |true=>
        left;show AD S.t d (Go.Ve.prom (S.t d) S.σ.length).1 i=_;rw[hV];rcases k2 with k2|k2
        .rw[k2]
         show(s.t i).v s.r=((s.add d ((s.t d).prom s.r.length)).t i).v _;rw[Z B];exact WY (k1 B) _ _
        .rw[B]at k2;cases k2.1
theorem add_kp{d:Nat}{p:Sl×List Aa}:Kp (λi=>decide (i≠d)) s (s.add d p):=by
 unfold St.add;split
 .exact⟨λi hi _=>AU (of_decide_eq_true hi),λ_ _ _=>rfl,le_refl _⟩
 .refine⟨λi hi B=>?_,λid U H=>?_,by simp⟩
  .show AC (λi=>(s.t i).chk s.r.length) d p.1 i=s.t i
   rw[AU (of_decide_eq_true hi)];exact Sl.chk_stay B _
  grind
theorem HM:∀(l:List Oper) (s:St),Kp (Ao l) s (s.promA (l.map (·.dst)))
 |[],s=>Kp.refl _ _
 |o::l,s=>by
  have B:∀i,Ao (o::l) i=true->o.dst≠some i/\Ao l i=true:=by
   intro i h
   have B:Ao (o::l) i=((match o.dst with
    |some e=>!beq e i
    |none=>true)&&Ao l i):=rfl
   rw[B,bAE]at h;refine⟨λhd=>?_,h.2⟩
   simp_all
  rw[map_cons];cases hd:o.dst with
  |none=>exact(HM l s).weak λi hi=>(B i hi).2
  |some d=>
   show Kp _ s (bif(s.t d).own then St.promA (l.map (·.dst)) (s.add d ((s.t d).prom s.r.length))else St.promA (l.map (·.dst)) s)
   cases (s.t d).own with
   |false=>exact(HM l s).weak λi hi=>(B i hi).2
   |true=>
    exact Kp.trans add_kp (HM l _) (λi hi=>dT λe=>(B i hi).1 (by grind)) λi hi=>(B i hi).2
def Cl.clr(id:Nat):Cl->Cl
 |.rf j p=>bif beq j id then .dead else .rf j p
 |.rs j p off len=>bif beq j id then .dead else .rs j p off len
 |.rp j p i k=>bif beq j id then .dead else .rp j p i k
 |y=>y
def Sl.clr(id:Nat):Sl->Sl
 |.one y=>.one (y.clr id)
 |.new l=>.new l
 |.agg l=>.agg (l.map (Cl.clr id))
 |.pk t l=>.pk t (l.map (Cl.clr id))
 |.tup l=>.tup (l.map λp=>(p.1,p.2.map (Cl.clr id)))
theorem Cl.clr_v{r':List Aa}(B:∀id,id≠m->r'.getD id .dead=r.getD id .dead)(y:Cl):Ak (y.v r) ((y.clr m).v r'):=by
 cases y with
 |rf id p=>
  show Ak _ ((bif beq id m then Cl.dead else .rf id p).v r');cases H:beq id m with
  |true=>exact Ak.dead _
  |false=>
   show Ak (V.rs id p 0 (Ac r id p).len) (V.rs id p 0 (Ac r' id p).len);unfold Ac;rw[B id (λe=>by simp_all)]
   exact Ak.refl _
 |rs id p off len=>
  show Ak _ ((bif beq id m then Cl.dead else .rs id p off len).v r');cases beq id m with
  |true=>exact Ak.dead _
  |false=>exact Ak.refl _
 |rp id p off len=>
  show Ak _ ((bif beq id m then Cl.dead else .rp id p off len).v r');cases beq id m with
  |true=>exact Ak.dead _
  |false=>exact Ak.refl _
 |_=>exact Ak.refl _
theorem Sl.clr_v{r r':List Aa}{m:Nat}(B:∀id,id≠m->r'.getD id .dead=r.getD id .dead)(y:Sl):Ak (y.v r) ((y.clr m).v r'):=by
 have agg:∀l:List Cl,Ak (Ah (l.map (Cl.v r))) (Ah ((l.map (Cl.clr m)).map (Cl.v r'))):=by
  intro l;refine Ak.mk (by simp) λk _=>?_
  rw[map_map];exact BA rfl rfl (λy=>Cl.clr_v B y) k
 cases y with
 |one c=>exact Cl.clr_v B c
 |new l=>exact Ak.refl _
 |agg l=>exact agg l
 |pk t l=>
  refine Ak.pk (by simp) λk _=>?_
  rw[map_map];exact BA rfl rfl (λy=>Cl.clr_v B y) k
 |tup l=>
  refine Ak.tup (by simp) λk H=>?_
  have H:k<l.length:=by simpa using H
  simp only[gDE,getElem?_map,gEE H,Option.map_some,Option.getD_some];generalize l[k]=p;obtain⟨b,q⟩:=p;cases b with
  |true=>exact agg q
  |false=>
   have:=BA (l:=q) (f:=Cl.v r) (g:=λy=>(y.clr m).v r') rfl rfl (λy=>Cl.clr_v B y) 0
   grind
theorem Sl.clr_stay(h:y.stay=true)(m:Nat):y.clr m=y:=by
 have c1:∀y:Cl,y.stay=true->y.clr m=y:=by intro y h;cases y<;>first|rfl|cases h
 cases y with
 |one y=>exact congrArg Sl.one (c1 y h)
 |new l=>rfl
 |agg l=>exact congrArg Sl.agg (AH λy B=>c1 y (aET.1 h y B))
 |pk t l=>exact congrArg (Sl.pk t) (AH λy B=>c1 y (aET.1 h y B))
 |tup l=>
  refine congrArg Sl.tup (AH λp H=>?_)
  obtain⟨b,q⟩:=p;exact congrArg (Prod.mk b) (AH λy B=>c1 y (aET.1 (aET.1 h _ H) y B))
theorem Ace(y:Sl)(m:Nat):(y.clr m).own=y.own:=by
 have c1:∀y:Cl,(y.clr m).own=y.own:=by
  intro y;cases y with
  |rf id p=>show(bif beq id m then Cl.dead else .rf id p).own=_;cases beq id m<;>rfl
  |rs id p a b=>show(bif beq id m then Cl.dead else .rs id p a b).own=_;cases beq id m<;>rfl
  |rp id p a b=>show(bif beq id m then Cl.dead else .rp id p a b).own=_;cases beq id m<;>rfl
  |_=>rfl
 have cl:∀l:List Cl,(l.map (Cl.clr m)).any Cl.own=l.any Cl.own:=by
  grind
 cases y with
 |one y=>exact c1 y
 |new l=>rfl
 |agg l=>exact cl l
 |pk t l=>exact cl l
 |tup l=>
  show(l.map _).any _=l.any _;rw[any_map]
  congr 1
  funext p
  obtain⟨b,l⟩:=p;cases b with
  |true=>exact cl l
  |false=>
   cases l with
   |nil=>rfl
   |cons y l=>exact c1 y
def Cj:Sl->Aa
 |.one (.c (.ptr t) (d+1) x)=>.obj false (Ar t d x)
 |.one (.c (.sl t) (d+1) xs)=>.arr false t d xs
 |.new l=>.obj false l
 |_=>.dead
def HX:Sl->Bool
 |.one (.c (.ptr t) (_+1) _)=>blt 0 t.w
 |.one (.c (.sl _) (_+1) _)=>true
 |.new l=>blt 0 l.length
 |_=>false
def PI(id:Nat):Aa->Cl
 |.obj _ _=>.rp id [] 0 0
 |_=>.rf id []
def St.back1(p:Nat×Nat)(s:St):St:=⟨AC (λi=>(s.t i).clr p.2) p.1 (.one (PI p.2 (Cj (s.t p.1)))),s.r.set p.2 (Cj (s.t p.1))⟩
def YA(i:Nat):(s.back1 p).t i=AC (λi=>(s.t i).clr p.2) p.1 (.one (PI p.2 (Cj (s.t p.1)))) i:=rfl
def Nu{i:Nat}(h:i≠p.1):(s.back1 p).t i=(s.t i).clr p.2:=(YA i).trans (AU h)
def St.backs:List (Nat×Nat)->St->St
 |[],s=>s
 |p::B,s=>St.backs B (s.back1 p)
theorem L5(t:Ty)(d:Nat)(x:t.T):(Ar t d x).length=t.w:=by
 have:=congrArg List.length (Br t d x);rw[length_map,Ax]at this
 grind
theorem Ct(h:HX y=true):y.stay=true/\(∀r,y.v r=(Cj y).v)/\Cu (Cj y).v/\∀(r:List Aa) (id:Nat),id<r.length->(Sl.one (PI id (Cj y))).v (r.set id (Cj y))=MI id (Cj y).v:=by
 unfold HX at h;split at h
 case h_4=>grind
 .rename_i t d x
  have H:0<t.w:=blE h;refine⟨rfl,λr=>?_,⟨false,_,_,_,rfl,λ_=>⟨by simpa [L5]using H,rfl⟩⟩,λr id B=>rfl⟩
  show A3 (decide (0<d+1)) (tyV t (d+1-1) x)=A3 true ((Ar t d x).map Cl.v0);rw[Br];rfl
 .rename_i t d xs
  refine⟨rfl,λr=>?_,⟨true,_,_,_,rfl,λh=>by grind⟩,λr id B=>?_⟩
  .rfl
  .show V.rs id [] 0 (Ac (r.set id (.arr false t d xs)) id []).len=_
   have:(Ac (r.set id (.arr false t d xs)) id []).len=xs.length:=by
    show((r.set id (.arr false t d xs)).getD id .dead).len=_;simp[B];rfl
   rw[this];rfl
 .rename_i l
  have H:0<l.length:=blE h;exact⟨rfl,λr=>rfl,⟨false,_,_,_,rfl,λ_=>⟨by simpa using H,rfl⟩⟩,λr id B=>rfl⟩
theorem YB{ds:List (Option Nat)}{S:Ms}(h:Aax ds S s)(hd:some p.1∉ds)(hp:p.2<s.r.length)(he:S.t p.1=s.den.t p.1)(hr:HX (s.t p.1)=true):
  Aax ds ⟨AD S.t p.1 (MI p.2 (S.t p.1)),S.σ.set p.2 (S.t p.1)⟩ (s.back1 p):=by
 obtain⟨h1,h2,h3,h4⟩:=Ct hr;have e:S.t p.1=(Cj (s.t p.1)).v:=he.trans (h2 _)
 have hg:∀id,id≠p.2->(s.r.set p.2 (Cj (s.t p.1))).getD id .dead=s.r.getD id .dead:=λid Z=>by
  simp only[gDE];rw[getElem?_set_ne (Ne.symm Z)]
 have B:∀i,i≠p.1->(s.back1 p).t i=(s.t i).clr p.2:=λi hi=>Nu hi
 refine⟨?_,λi=>?_,λi hi=>?_⟩
 .show S.σ.set p.2 (S.t p.1)=(s.r.set p.2 (Cj (s.t p.1))).map Aa.v
  rw[h.σ,List.map_set,e];rfl
 .show Ak (AD S.t p.1 (MI p.2 (S.t p.1)) i) _
  unfold AD;by_cases hi:i=p.1
  .subst hi
   rw[if_pos rfl,e]
   have e2:(s.back1 p).t p.1=.one (PI p.2 (Cj (s.t p.1))):=by
    rw[YA];unfold AC;rw[beq_refl];rfl
   show Ak _ (((s.back1 p).t p.1).v _);rw[e2];rw[show(s.back1 p).r=s.r.set p.2 (Cj (s.t p.1))from rfl,h4 s.r p.2 hp]
   exact Ak.refl _
  .rw[if_neg hi]
   show Ak _ (((s.back1 p).t i).v _);rw[B i hi];exact(h.t i).trans (Sl.clr_v hg (s.t i))
 .have U:i≠p.1:=λe=>hd (e▸hi)
  obtain⟨k1,k2⟩:=h.o i hi;have hV:AD S.t p.1 (MI p.2 (S.t p.1)) i=S.t i:=by unfold AD;rw[if_neg U]
  have W:((s.back1 p).t i).own=(s.t i).own:=by rw[B i U,Ace]
  refine⟨λH=>?_,?_⟩
  .rw[W]at H
   rw[B i U,Sl.clr_stay (k1 H)];exact k1 H
  .show AD S.t p.1 (MI p.2 (S.t p.1)) i=_\/(_/\AJ (AD S.t p.1 (MI p.2 (S.t p.1)) i)=false)
   rw[hV];cases H:(s.t i).own with
   |false=>
    right;refine⟨by rw[W,H],?_⟩
    rcases k2 with k2|k2
    .rw[k2];show AJ ((s.t i).v s.r)=false;rw[Sl.own_v,H]
    .exact k2.2
   |true=>
    left;rcases k2 with k2|k2
    .rw[k2]
     show(s.t i).v s.r=((s.back1 p).t i).v _;rw[B i U,Sl.clr_stay (k1 H)];exact WY (k1 H) _ _
    .rw[H]at k2;cases k2.1
theorem KH{ds:List (Option Nat)}:∀(B:List (Nat×Nat)) (S:Ms) (s:St),Aax ds S s->(B.map (·.1)).Nodup->(∀p∈B,some p.1∉ds/\p.2<s.r.length/\S.t p.1=s.den.t p.1/\HX (s.t p.1)=true)->Aax ds (Go.Ve.backs B S) (St.backs B s)
 |[],S,s,h,_,_=>h
 |p::B,S,s,h,hn,hB=>by
  obtain⟨h1,Z,h3,h4⟩:=hB p (mem_cons_self ..);rw[map_cons,nodup_cons]at hn;refine KH B _ _ (YB h h1 Z h3 h4) hn.2 λq W=>?_
  obtain⟨g1,g2,g3,g4⟩:=hB q (mCM _ W);have U:q.1≠p.1:=λe=>hn.1 (e▸mem_map.2 ⟨q,W,rfl⟩)
  have H:=(Ct g4).1
  have e1:(s.back1 p).t q.1=s.t q.1:=by
   rw[Nu U,Sl.clr_stay H]
  refine⟨g1,by show q.2<(s.r.set _ _).length;grind,?_,by grind⟩
  show AD S.t p.1 _ q.1=((s.back1 p).t q.1).v _;unfold AD;rw[if_neg U,g3,e1];exact WY H _ _
theorem Nt:∀(B:List (Nat×Nat)) (s:St),(∀i,(∀p∈B,p.1≠i)->(s.t i).stay=true->(St.backs B s).t i=s.t i)/\(∀id,(∀p∈B,p.2≠id)->(St.backs B s).r.getD id .dead=s.r.getD id .dead)/\(St.backs B s).r.length=s.r.length
 |[],s=>⟨λ_ _ _=>rfl,λ_ _=>rfl,rfl⟩
 |p::B,s=>by
  obtain⟨h1,Z,h3⟩:=Nt B (s.back1 p);refine⟨λi hi W=>?_,λid U=>?_,h3.trans (by show(s.r.set _ _).length=_;simp)⟩
  .have e:(s.back1 p).t i=s.t i:=by
    rw[Nu λe=>hi p (mem_cons_self ..) e.symm,Sl.clr_stay W]
   refine(h1 i (λq H=>hi q (mCM _ H)) (by grind)).trans e
  .refine(Z id λq H=>U q (mCM _ H)).trans ?_
   show(s.r.set _ _).getD id .dead=_
   grind
def rerefs(id:Nat)(v:V):List Nat->(Nat->V)->(Nat->V)
 |[],t=>t
 |y::Y,t=>rerefs id v Y (AD t y (MI id v))
theorem PR.reref{C:Ctx}{N:Nat}{σ:List V}{ρ:Nat->Value}{F:Nat->Nat->Prop}{a:Act}{w:World}{D:Nat->Prop}{T:Nat->Nat->Prop}{id:Nat}{v:V}(H:id<σ.length)(U:σ.getD id .dead=v)(hv:Cu v):∀(Y:List Nat) (t:Nat->V),PR C N σ ρ F t a w D T->
  (∀y∈Y,y<N/\a.tmps.getD y undef=ρ id/\∀b,¬T y b)->PR C N σ ρ F (rerefs id v Y t) a w D T
 |[],t,h,_=>h
 |y::Y,t,h,hY=>by
  obtain⟨h1,h2,h3⟩:=hY y (mem_cons_self ..);refine PR.reref H U hv Y _ ⟨h.df,h.sz,λx W=>?_,h.wr,λx W=>?_,h.tD,h.tF,h.tT,h.tn,h.fr,h.Fn,h.D1,h.D2,h.rt,h.ml,h.tx⟩ λz hz=>hY z (mCM _ hz)
  .have:¬x=y:=by omega
   simp[AD,this,if_false];exact h.dd x W
  .by_cases Z:x=y
   .subst Z
    simp only[AD,if_true];rw[h2];obtain⟨s0,sz,n,f,e1,e2⟩:=hv;have B:=h.wr.rel id H;rw[U,e1]at B;rw[e1]at U⊢;exact Rel.fp_congr (λb=>⟨λh=>h.elim,λh=>absurd h (h3 b)⟩) (Q1 H U e2 B)
   .simp only[AD,Z,if_false]
    exact h.tm x W
def St.rerefs(id:Nat)(R:Aa):List Nat->St->St
 |[],s=>s
 |y::Y,s=>St.rerefs id R Y ⟨AC s.t y (.one (PI id R)),s.r⟩
theorem Lp{ds:List (Option Nat)}{id:Nat}{R:Aa}(U:Cu R.v):∀(Y:List Nat) (S:Ms) (s:St),Aax ds S s->(s.r.getD id .dead)=R->(∀y∈Y,some y∉ds)->Aax ds ⟨Go.Ve.rerefs id R.v Y S.t,S.σ⟩ (St.rerefs id R Y s)
 |[],S,s,h,_,_=>h
 |y::Y,S,s,h,hr,hY=>by
  have W:∀i,some i∈ds->i≠y:=λi hi e=>hY y (mem_cons_self ..) (e▸hi)
  have B:(Sl.one (PI id R)).v s.r=MI id R.v:=by
   cases R with
   |obj ro l=>rfl
   |arr ro t d xs=>
    show V.rs id [] 0 (Ac s.r id []).len=_
    have:(Ac s.r id []).len=xs.length:=by
     show(s.r.getD id .dead).len=_;rw[hr];rfl
    rw[this];rfl
   |dead=>obtain⟨_,_,_,_,e,_⟩:=U;cases e
   |mp=>obtain⟨_,_,_,_,e,_⟩:=U;cases e
   |opt ro t d x=>
    obtain⟨_,_,_,_,e,_⟩:=U;cases x with
    |none=>cases e
    |some xs=>
     show V.rs id [] 0 (Ac s.r id []).len=_
     have:(Ac s.r id []).len=xs.length:=by
      show(s.r.getD id .dead).len=_;rw[hr];rfl
     rw[this];rfl
  refine Lp U Y ⟨AD S.t y (MI id R.v),S.σ⟩ ⟨AC s.t y (.one (PI id R)),s.r⟩ ⟨h.σ,λi=>?_,λi hi=>?_⟩ hr λz Z=>hY z (mCM _ Z)
  .show Ak (AD S.t y (MI id R.v) i) ((AC s.t y (.one (PI id R)) i).v s.r)
   unfold AD;by_cases H:i=y
   .subst H
    rw[if_pos rfl];have:AC s.t i (.one (PI id R)) i=.one (PI id R):=by unfold AC;simp
    rw[this,B];exact Ak.refl _
   .rw[if_neg H,AU H];exact h.t i
  .have H:=W i hi
   obtain⟨k1,k2⟩:=h.o i hi;show((AC s.t y (.one (PI id R)) i).own=true->(AC s.t y (.one (PI id R)) i).stay=true)/\(AD S.t y (MI id R.v) i=(AC s.t y (.one (PI id R)) i).v s.r\/((AC s.t y (.one (PI id R)) i).own=false/\AJ (AD S.t y (MI id R.v) i)=false));unfold AD;rw[if_neg H,AU H];exact⟨k1,k2⟩
theorem N8{id:Nat}{R:Aa}:∀(Y:List Nat) (s:St),(St.rerefs id R Y s).r=s.r/\∀i,i∉Y->(St.rerefs id R Y s).t i=s.t i
 |[],s=>⟨rfl,λ_ _=>rfl⟩
 |y::Y,s=>by
  obtain⟨H,B⟩:=N8 Y ⟨AC s.t y (.one (PI id R)),s.r⟩;refine⟨H,λi hi=>(B i λh=>hi (mCM _ h)).trans ?_⟩
  exact AU λe=>hi (e▸mem_cons_self ..)
end Go.Ve


namespace Go.Ve
open Go Go.Ve
variable{a:Act}{ops:Array Oper}{C:Ctx}{E:Env}{fs:List Nat}{late:List Oper}{σ σ':List V}{N d id k m n sz:Nat}{F:Nat->Nat->Prop}{f:Nat->Nat->V}{D:Nat->Prop}{ρ:Nat->Value}{o o1 o2 o3:Oper}{x y:Operand}{A:PtR}{s s':St}{t:TypeId}{cv:Value}{w:World}
theorem Xj{q:List (Nat×Nat)}(B:sub q (σ.getD id .dead)=.nd true true sz n f)(h:Ae σ ρ w (.rs id q 0 n) cv):
  id<σ.length/\At w q (σ.getD id .dead) (ρ id) (.nd true true sz n f) cv:=by
 obtain⟨H,Z,n',f',cn,W,hle,U⟩:=h;have e:=(At.sub W).trans B;cases e;refine⟨H,?_⟩;have:cv=cn:=by
  rcases U with⟨b,o,cap,rfl,rfl⟩|⟨h0,_,_,h1,_⟩
  .simp[Av]
  grind
 grind
def elI0(E:Env)(t:TypeId):Option TI:=((E.Θ.look t).bind (·.elem)).bind E.Θ.look
section
variable {P:Program}{Θ:Tab}
theorem US(hΘ:Θ.OK P){C:Ctx}{N:Nat}{s:St}{o:Oper}{t:TypeId}{x y:Operand}{a:Act}{w:World}{d:Nat}
  (ho:o.op=.call ⟨.builtin .append,#[x,y],#[t,t]⟩) (hdst:o.dst=some d) (hdn:d<N) {ti:TI} (hti:((Θ.look t).bind (·.elem)).bind Θ.look=some ti) (hby:0<ti.bytes) (hw:0<ti.ty.w)
  {id:Nat}{q:AI} (hx:s.ev x=some (.one (.rf id q))) {ro:Bool}{dx:Nat}{xs:List ti.ty.T} (Z:Ac s.r id q=.arr ro ti.ty dx xs)
  {ys:List ti.ty.T}{dy:Nat}{js:List Nat} (hy:V7 s ti.ty id (s.ev y)=some (dy,ys,js)) (hdk:dOK ti.ty dy dx=true) (hlim:xs.length+ys.length<=ON ti.bytes) (hs:AA C N s.den a w):
  ∃v' w',(execOp a.eval o).run P w=.ok (.value v') w'/\AA C N ⟨AD (λi=>AF s.r.length [] (rrV id q s.r.length ((Aj js s).den.t i))) d (.rs (s.r.length+1) [] 0 (xs.length+ys.length)),
   ((Aj js s).den.σ.set id (upd q ((Aj js s).den.σ.getD id .dead) .dead)++[.dead])++[arr true ti.ty.w (tyV ti.ty dx) ti.ty.dflt (xs++ys)]⟩ (a.put (some d) v') w'/\
   ∃D ρ F,CR C ((Aj js s).den.σ.set id (upd q ((Aj js s).den.σ.getD id .dead) .dead)++[sub q ((Aj js s).den.σ.getD id .dead)]) (((range N).map (Aj js s).den.t).map (rrV id q s.r.length)) a.tmps w D ρ F/\∀c,c<w.heap.size->¬F s.r.length c->w'.heap[c]? =w.heap[c]?:=by
 obtain⟨hdf,hdd,D,ρ,F,H⟩:=hs;obtain⟨e,hsl,_⟩:=DW hΘ hti;have hY:=IR H hdd hy;obtain⟨⟨Fy,hrd,hFy,hFd⟩,hjs2⟩:=hY;rw[show tyV ti.ty dy=tyV ti.ty dx from funext λz=>C3 _ _ _ z (Kw hdk)]at hrd
 have hidj:id∉js:=λh=>(hjs2 id h).2 rfl
 have hlσ:s.den.σ.length=s.r.length:=by simp[St.den]
 -- the drop
 obtain⟨F1,hcr1,hF1⟩:=Cn js H (λj hj=>(hjs2 j hj).1)
 have hdd1:=BT js (N:=N) hdd
 -- the row
 have hrx:=Bh H hdd x;rw[Bg hx]at hrx;have hrx:Rel D w (Ae s.den.σ ρ w) (.rs id q 0 (Ac s.r id q).len) (a.eval x) noF:=hrx
 have hsub:sub q (s.den.σ.getD id .dead)=arr true ti.ty.w (tyV ti.ty dx) ti.ty.dflt xs:=by
  have:=AV (r:=s.r) (id:=id) (p:=q) (by rw[Z];simp)
  rw[Z]at this;exact this
 rw[Z]at hrx;obtain⟨hid,hat⟩:=Xj (show sub q (s.den.σ.getD id .dead)=V.nd true true ti.ty.w xs.length (λi k=>(tyV ti.ty dx (xs.getD i ti.ty.dflt)).getD k .dead)from hsub) hrx.1
 have hid1:id<s.r.length:=by rw[<-hlσ];exact hid
 have hσ1:∀(js:List Nat) (s:St),id∉js->(Aj js s).den.σ.getD id .dead=s.den.σ.getD id .dead:=by
  intro js
  induction js with
  |nil=>exact λ_ _=>rfl
  |cons j js ih=>
   intro s hj;simp only[mem_cons,not_or]at hj;show(Aj js (Jd j s)).den.σ.getD id .dead=_;rw[ih _ hj.2];show((s.r.set j .dead).map Aa.v).getD id .dead=_;rw[Ai];show _=(s.r.map Aa.v).getD id .dead;rw[Ai,gDE,getElem?_set_ne (Ne.symm hj.1),<-gDE]
 have hσ1:=hσ1 js s hidj;have hl1:(Aj js s).den.σ.length=s.r.length:=by simp[St.den,IL]
 rw[<-hσ1]at hat
 -- it is cut out
 obtain⟨ρ2,F2,B,hρ2,hρ2',hF2⟩:=CR.reroot hcr1 (by rw[hl1];exact hid1) hat
 rw[hl1]at B hρ2 hρ2';obtain⟨m,hm⟩:∃m,m=s.r.length:=⟨_,rfl⟩;rw[<-hm]at B hρ2 hρ2' hl1 hid1;have hl2:((Aj js s).den.σ.set id (upd q ((Aj js s).den.σ.getD id .dead) .dead)).length=m:=by rw[length_set];exact hl1
 have hlast:∀v:V,((Aj js s).den.σ.set id (upd q ((Aj js s).den.σ.getD id .dead) .dead)++[v]).getD m .dead=v:=λv=>by
  rw[gDE,gAR (by rw[hl2];exact le_refl _),hl2];simp
 have hrow:Rel D w noR (arr true ti.ty.w (tyV ti.ty dx) ti.ty.dflt xs) (a.eval x) (F2 m):=by
  have:=B.wr.rel m (by rw[length_append,hl2];exact Nat.lt_succ_self m)
  rw[hlast,hσ1,hsub,hρ2]at this;exact this
 have hF2D:∀b,D b->¬F2 m b:=λb W h=>B.wr.dD m b h W
 have hF2o:∀i b,F2 i b->∃j,F j b/\j∉js:=λi b h=>by
  obtain⟨j,h1⟩:=hF2 i b h;obtain⟨h2,h3⟩:=hF1 j b h1;exact⟨j,h2,h3⟩
 have W:(xs.length+ys.length)*ti.bytes<=140737488355328:=by
  rw[Nat.mul_comm];exact(Nat.mul_comm _ _▸(Nat.le_div_iff_mul_le hby).1 hlim)
 have h63:xs.length+ys.length<=maxLen:=by
  have:xs.length+ys.length<=(xs.length+ys.length)*ti.bytes:=Nat.le_mul_of_pos_right _ hby;simp only[maxLen];omega
 obtain⟨v',w',fp,hrun,hos,htp,hout,hdr,hsz,hbl,hr',hfp⟩:=Rel.append (P:=P) (ty:=o.type) (f:=λi k=>(tyV ti.ty dx (xs.getD i ti.ty.dflt)).getD k .dead) hsl hw hrow hF2D H.wr.Dlt hrd
  (λi k c hi hk hF=>by
   obtain⟨j,hj,U⟩:=hFy i k c hi hk hF;refine⟨H.wr.dD j c U,λhx=>?_⟩
   obtain⟨j2,h2,h3⟩:=hF2o m c hx;exact H.wr.disj j j2 c (λe=>h3 (e▸hj)) U h2) hFd h63 W
 have hdrop:=CR.drop B (j:=m) (by rw[length_append,hl2];exact Nat.lt_succ_self m)
 have hfpG:∀b,fp b->(F2 m b\/∃j∈js,F j b)\/w.heap.size<=b:=by
  intro b W;rcases hfp b W with h1|⟨i,k,hi,hk,h1⟩|h1
  .exact .inl (.inl h1)
  .obtain⟨j,hj,U⟩:=hFy i k b hi hk h1
   exact .inl (.inr ⟨j,hj,U⟩)
  .exact .inr h1
 have hr2:Rel D w' noR (arr true ti.ty.w (tyV ti.ty dx) ti.ty.dflt (xs++ys)) v' fp:=
  Rel.sub (Nr rfl rfl (λ_ _ _=>rfl) (λ_ _ _=>rfl)) hr'
 have hc:=CR.own hdrop (G:=λb=>F2 m b\/∃j∈js,F j b) (D':=D) (λi b W hG=>by
   split at W
   .exact W.elim
   .rename_i hne
    rcases hG with h1|⟨j,hj,U⟩
    .exact B.wr.disj i m b hne W h1
    .obtain⟨j2,h2,h3⟩:=hF2o i b W
     exact H.wr.disj j j2 b (λe=>h3 (e▸hj)) U h2)
  (λb W hG=>hG.elim (hF2D b W) fun⟨j,_,U⟩=>H.wr.dD j b U W)
  (λb hG=>hG.elim (λh=>B.Fn m b h) fun⟨j,_,U⟩=>H.Fn j b U) hos htp hout hdr hsz
  (λc hc hG=>hbl c hc λh=>hG (.inl h)) hr2 hfpG (λ_ h=>h) (λ_ h=>.inl h)
  (λb W=>⟨Nat.lt_of_lt_of_le (H.wr.Dlt b W) hsz,λh=>by
   rcases hfpG b h with(h1|⟨j,_,U⟩)|h2
   .exact hF2D b W h1
   .exact H.wr.dD j b U W
   .have:=H.wr.Dlt b W;omega⟩) d
 have hl3:(((Aj js s).den.σ.set id (upd q ((Aj js s).den.σ.getD id .dead) .dead)++[sub q ((Aj js s).den.σ.getD id .dead)]).set m .dead)=(Aj js s).den.σ.set id (upd q ((Aj js s).den.σ.getD id .dead) .dead)++[.dead]:=by
  rw[List.set_append_right _ _ (by rw[hl2];exact le_refl _),hl2];simp
 rw[hl3]at hc
 have hl4:((Aj js s).den.σ.set id (upd q ((Aj js s).den.σ.getD id .dead) .dead)++[V.dead]).length=m+1:=by
  rw[length_append,length_set,hl1];rfl
 rw[hl4,show prom (arr true ti.ty.w (tyV ti.ty dx) ti.ty.dflt (xs++ys)) (m+1)=(.rs (m+1) [] 0 (xs++ys).length,[arr true ti.ty.w (tyV ti.ty dx) ti.ty.dflt (xs++ys)])from rfl,length_append]at hc
 have hex:(execOp a.eval o).run P w=.ok (.value v') w':=by
  unfold execOp;simp only[ho,resolve,invoke,builtin,Sem.run_bind,Sem.run_pure,Result.andThen_ok,List.map_toArray,map_cons,List.map_nil,hrun]
 rw[<-hm];refine⟨v',w',hex,⟨hdf,λz hz=>?_,?_⟩,D,ρ2,F2,B,λc hc hF=>hbl c hc hF⟩
 .show AD (λi=>AF m [] (rrV id q m ((Aj js s).den.t i))) d (V.rs (m+1) [] 0 (xs.length+ys.length)) z=.dead
  unfold AD;rw[if_neg (by omega)]
  show AF m [] (rrV id q m ((Aj js s).den.t z))=.dead;rw[hdd1 z hz];rfl
 .rw[map_map,map_map,BO hdn]at hc
  exact hc
theorem app_in(Z:Θ.OK P){C:Ctx}{N:Nat}{s:St}{o:Oper}{t:TypeId}{x y:Operand}{a:Act}{w:World}{d:Nat}{next:Act->World->Prop}{Q:Exit->Act->World->Prop}
  (ho:o.op=.call ⟨.builtin .append,#[x,y],#[t,t]⟩) (B:o.dst=some d) (hdn:d<N) {ti:TI} (hti:((Θ.look t).bind (·.elem)).bind Θ.look=some ti) (hby:0<ti.bytes) (hw:0<ti.ty.w)
  {id:Nat}{q:AI} (hx:s.ev x=some (.one (.rf id q))) {ro:Bool}{dx:Nat}{xs:List ti.ty.T} (H:Ac s.r id q=.arr ro ti.ty dx xs)
  {ys:List ti.ty.T}{dy:Nat}{js:List Nat} (hy:V7 s ti.ty id (s.ev y)=some (dy,ys,js)) (hdk:dOK ti.ty dy dx=true) (W:xs.length+ys.length<=ON ti.bytes) (hs:AA C N s.den a w)
  (hn:∀v' w',AA C N ⟨AD (λi=>AF s.r.length [] (rrV id q s.r.length ((Aj js s).den.t i))) d (.rs (s.r.length+1) [] 0 (xs.length+ys.length)),
   ((Aj js s).den.σ.set id (upd q ((Aj js s).den.σ.getD id .dead) .dead)++[.dead])++[arr true ti.ty.w (tyV ti.ty dx) ti.ty.dflt (xs++ys)]⟩ (a.put (some d) v') w'->next (a.put (some d) v') w'):o.wp P a w next Q:=by
 obtain⟨v',w',U,hs',_⟩:=US Z ho B hdn hti hby hw hx H hy hdk W hs;unfold Oper.wp;rw[U,Oper.upon_value,B]
 grind
def Acj(d:Nat):Operand->Bool
 |.tmp z=>!beq z d
 |.const _=>true
 |_=>false
theorem AcT{t:Nat->V}{v:V}(h:Acj d x=true):Ms.ev ⟨AD t d v,σ⟩ x=Ms.ev ⟨t,σ'⟩ x:=by
 cases x with
 |tmp z=>
  show AD t d v z=t z;unfold AD;rw[if_neg]
  rintro rfl
  simp[Acj]at h
 |const c=>rfl
 |_=>rfl
def rowF(o1 o2 o3:Oper):Option ((Nat×TypeId×Operand×Operand)×(Nat×TypeId×Operand×Operand)×TypeId):=match o1.op,o1.dst,o2.op,o2.dst,o3.op,o3.dst with
 |.call c,some d,.indexAddr t2 u v,some e,.store t3 (.tmp e') (.tmp d'),none=>(match c.callee,c.args.toList,c.argTypes.toList with
  |.builtin .append,[x,y],[t,t']=>bif beq t t'&&beq e e'&&beq d d'&& !beq d e&&Acj d u&&Acj d v then some ((d,t,x,y),(e,t2,u,v),t3)else none
  |_,_,_=>none)
 |_,_,_,_,_,_=>none
theorem JT{e:Nat}{t2 t3:TypeId}{u v:Operand}(h:rowF o1 o2 o3=some ((d,t,x,y),(e,t2,u,v),t3)):
  o1.op=.call ⟨.builtin .append,#[x,y],#[t,t]⟩/\o1.dst=some d/\o2.op=.indexAddr t2 u v/\o2.dst=some e/\o3.op=.store t3 (.tmp e) (.tmp d)/\o3.dst=none/\d≠e/\Acj d u=true/\Acj d v=true:=by
 unfold rowF at h;split at h
 case h_2=>cases h
 rename_i c d0 t20 u0 v0 e0 t30 e' d' h1 h2 h3 h4 h5 h6;split at h
 case h_2=>cases h
 rename_i x0 y0 t0 t' hc ha Z;obtain⟨W,h⟩:=A1 h;cases h;simp only[bAE,not_eq_true']at W;obtain⟨⟨⟨⟨⟨U,H⟩,B⟩,b4⟩,b5⟩,b6⟩:=W;have U:=bqE U;have H:=bqE H;have B:=bqE B;subst U H B;refine⟨?_,h2,h3,h4,h5,h6,(λe=>by rw[e,beq_refl]at b4;cases b4),b5,b6⟩
 rw[h1];obtain⟨ce,ar,at'⟩:=c;obtain⟨ar⟩:=ar;obtain⟨at'⟩:=at'
 grind
def Ur(E:Env)(s:St)(m id:Nat)(q:AI)(o:Oper):Bool:=match o.op with
 |.fieldAddr t _ k=>match(E.Θ.look t).bind (·.flds[k]?)with
  |some _=>true
  |none=>false
 |.move _=>true
 |.indexAddr _ _ _=>true
 |.load t (.tmp z)=>match E.Θ.look t,s.t z with
  |some ti,.one (.rp id' p _ k)=>!hit id (q.map λx=>x.2) [(m,[])] id' p&&(Ac s.r id' p).live&&ble (k+ti.ty.w) (Ac s.r id' p).w&&blt 0 ti.ty.w
  |some ti,.one (.c (.ptr u) 0 _)=>ble ti.ty.w u.w&&blt 0 ti.ty.w
  |_,_=>false
 |_=>false
def WK(E:Env)(s:St)(late:List Oper)(o1 o2 o3:Oper):Option PtR:=match rowF o1 o2 o3 with
 |some ((d,t,x,y),(e,t2,u,v),t3)=>(match elI0 E t,elI0 E t2,E.Θ.look t3,s.ev x with
  |some ti,some ti2,some ti3,some (.one (.rf id q))=>(match Ac s.r id q,V7 s ti.ty id (s.ev y)with
   |.arr _ t' dx xs,some (dy,ys,js)=>if ht:t'=ti.ty then(match(Aj js s).ev u,(Aj js s).ev v with
     |some (.one (.rf id' p)),some (.one (.c (.int _) _ i))=>bif beq id' id&&blt 0 ti.bytes&&blt 0 ti.ty.w&&dOK ti.ty dy dx&&beq ti3.ty.w 1&&beq (Ac (Aj js s).r id p).w ti2.ty.w&&beq ti2.ty.w 1&&(Ac (Aj js s).r id p).live&&blt d E.h.n&&blt e E.h.n&& !E.h.fz.contains e&&late.all (Ur E (Aj js s) s.r.length id q)then
       (match XC q (p++[(i.toNat,0)]),((Aj js s).r.getD id .dead).setAt p i.toNat 0 (.c (.sl ti.ty) (dx+1) (Ac6 (ht▸xs) ys))with
       |some c,some r0=>some ⟨(((0:Int)<=i/\i<(((Ac (Aj js s).r id p).len:Nat):Int))/\c.p)/\IE (ht▸xs)+IE ys<=ON ti.bytes,@instDecidableAnd _ _ (@instDecidableAnd _ _ inferInstance c.dec) inferInstance,
         ⟨λz=>bif beq z d||beq z e then .one .dead else((Aj js s).t z).kill id ((p++[(i.toNat,0)]:AI).map λz=>z.2) [(s.r.length,[]),(s.r.length+1,[])],(Aj js s).r.set id r0++[.dead,.dead]⟩⟩
       |_,_=>none)else none
     |_,_=>none)else none
   |_,_=>none)
  |_,_,_,_=>none)
 |none=>none
theorem ev_G{t:Nat->V}{v0 y:V}{G:V->V}(B:Acj d x=true)(H:Ms.ev ⟨t,σ⟩ x=y)(U:G y=y):Ms.ev ⟨AD (λi=>G (t i)) d v0,σ'⟩ x=y:=by
 rw[AcT (σ':=σ') B];cases x with
 |tmp z=>
  show G (t z)=y;rw[show t z=y from H,U]
 |const c=>trivial
 |_=>trivial
theorem Aau{a b:Nat}(h:blt a b=true):a<b:=by simp_all
theorem GOK.row{Q:AI}:GOK (λv=>AY id Q (m+1) (AF m [] (rrV id Q m v))) id (Q.map (·.2)) [(m,[]),(m+1,[])]:=by
 have hj:∀id' q,hit id (Q.map (·.2)) [(m,[]),(m+1,[])] id' q=false->id'≠m/\id'≠m+1/\¬ (id'=id/\AN Q q=true):=λid' q h=>
  ⟨λe=>(CI h).2 m [] (by simp) ⟨e,rfl⟩,λe=>(CI h).2 (m+1) [] (by simp) ⟨e,rfl⟩,(CI h).1⟩
 have U:∀id' (q:AI),id'≠m->¬ (id'=m/\AN [] q=true):=λ_ _ h W=>h W.1
 refine⟨A9.comp (CE _ _ _) (A9.comp (A5 _ _) (C6 _ _ _)),λid' q off len h=>?_,λid' q i k h=>?_,λid' q h=>?_⟩
 .obtain⟨H,B,h3⟩:=hj _ _ h
  simp[rrV,if_neg h3,AF,if_neg (U id' q H),AY,if_neg B]
 .obtain⟨H,B,h3⟩:=hj _ _ h
  simp[rrV,if_neg h3,AF,if_neg (U id' q H),AY,if_neg B]
 .obtain⟨H,B,h3⟩:=hj _ _ h
  simp[rrV,if_neg h3,AF,if_neg (U id' q H),AY,if_neg B]
def P0{p:AI}{x:Nat×Nat}{y:V}(B:KP p (σ.getD id .dead))(H:σ'.getD id .dead=upd (p++[x]) (σ.getD id .dead) y):AW σ' id p=AW σ id p:=by
 unfold AW;rw[H,Hg _ _ _ _ B,JK _ _ _ B];cases sub p (σ.getD id .dead)<;>rfl
theorem WI(hΘ:E.Θ.OK P){next:Act->World->Prop}{Q:Exit->Act->World->Prop}(h:WK E s late o1 o2 o3=some A)(hp:A.p)(hs:AA C E.h.n s.den a w)
  (hn:∀a' w',AA C E.h.n A.s.den a' w'->next a' w'):o1.wp P a w (λa1 w1=>o2.wp P a1 w1 (λa2 w2=>o3.wp P a2 w2 next Q) Q) Q:=by
 unfold WK at h;split at h
 case h_2=>cases h
 rename_i d t x y e t2 u v t3 hrow;obtain⟨ho1,hd1,ho2,hd2,ho3,hd3,hde,hnu,hnv⟩:=JT hrow;split at h
 case h_2=>cases h
 rename_i ti ti2 ti3 id q hti hti2 hti3 hx;split at h
 case h_2=>cases h
 rename_i ro t' dx xs dy ys js hnode hy;split at h
 case isFalse=>cases h
 rename_i ht;subst ht;split at h
 case h_2=>cases h
 rename_i id' p kk di i hu hv;obtain⟨hb,h⟩:=A1 h;simp only[bAE,not_eq_true']at hb;obtain⟨⟨⟨⟨⟨⟨⟨⟨⟨⟨⟨b1,b2⟩,b3⟩,b4⟩,b5⟩,b6⟩,b7⟩,b8⟩,b9⟩,b10⟩,b11⟩,_⟩:=hb;have b1:=bqE b1;subst b1;have b5:=bqE b5;have b6:=bqE b6;have b7:=bqE b7;have b9:=Aau b9;have b10:=Aau b10;split at h
 case h_2=>cases h
 rename_i c r0 hc hset;cases h;obtain⟨⟨⟨hi0,hil⟩,hcp⟩,hlim⟩:=hp;obtain rfl:=Jm _ _ _ hc hcp;have hY:∀j∈js,j<s.r.length/\j≠id':=by
  obtain⟨_,_,D,ρ,F,hcr⟩:=hs;exact(IR hcr ‹_› hy).js
 refine app_in hΘ ho1 hd1 b9 hti (Mb b2) (Mb b3) hx hnode hy b4 (by simpa [IE]using hlim) hs λv' w' hs1=>?_
 have hsd:∃D ρ F,CR C (Aj js s).den.σ ((range E.h.n).map (Aj js s).den.t) a.tmps w D ρ F/\∀x,E.h.n<=x->(Aj js s).den.t x=.dead:=by
  obtain⟨_,hdd,D,ρ,F,hcr⟩:=hs;obtain⟨F1,hcr1,_⟩:=Cn js hcr (λj hj=>(hY j hj).1)
  exact⟨D,ρ,F1,hcr1,BT js hdd⟩
 obtain⟨D1,ρ1,F1,hcr1,hdd1⟩:=hsd;have hru:=Bh hcr1 hdd1 u;rw[Bg hu]at hru;have hru:Rel D1 w (Ae (Aj js s).den.σ ρ1 w) (.rs id' p 0 (Ac (Aj js s).r id' p).len) (a.eval u) noF:=hru;obtain⟨⟨hid,_,_,_,_,hat,_,_⟩,_⟩:=hru;have hok:=At.ok hat;have hidr:id'<(Aj js s).r.length:=by simpa [St.den]using hid
 have hl:(Aj js s).r.length=s.r.length:=IL js s;obtain⟨m,hm⟩:∃m,m=s.r.length:=⟨_,rfl⟩;rw[<-hm]at hs1 hl;simp only[<-hm]at hn;generalize hS1:((Aj js s).den.σ.set id' (upd (p++[(i.toNat,0)]) ((Aj js s).den.σ.getD id' .dead) .dead)++[.dead])++[arr true ti.ty.w (tyV ti.ty dx) ti.ty.dflt (xs++ys)]=σ1 at hs1;generalize hT1:AD (λi_1=>AF m [] (rrV id' (p++[(i.toNat,0)]) m ((Aj js s).den.t i_1))) d (.rs (m+1) [] 0 (xs.length+ys.length))=T1 at hs1
 have Z:(Aj js s).den.σ.length=m:=by rw[<-hl];simp[St.den]
 have W:σ1.getD id' .dead=upd (p++[(i.toNat,0)]) ((Aj js s).den.σ.getD id' .dead) .dead:=by
  rw[<-hS1,Az (by simp;omega),Az (by simp;omega),Ag (by omega)]
 have U:σ1.getD (m+1) .dead=arr true ti.ty.w (tyV ti.ty dx) ti.ty.dflt (xs++ys):=by
  rw[<-hS1,gDE,gAR (by simp;omega)]
  simp[Z]
 have hsz1:AW σ1 id' p=ti2.ty.w:=by
  rw[P0 hok W,<-b6];exact Cd b8
 have hidm:id'≠m:=by omega
 obtain⟨e2,hsl,_⟩:=DW hΘ hti2;refine JC (h:=E.h) (K:=λS'=>S'=⟨AD T1 e (.rp id' p i.toNat 0),σ1⟩) ?_ hs1 λS' a2 w2 hS' hs2=>?_
 .unfold vop
  rw[ho2]
  have hu1:Ms.ev ⟨T1,σ1⟩ u=.rs id' p 0 (Ac (Aj js s).r id' p).len:=by
   rw[<-hT1];exact ev_G (G:=λv=>AF m [] (rrV id' (p++[(i.toNat,0)]) m v)) (t:=(Aj js s).den.t) (σ:=(Aj js s).den.σ) hnu (Bg hu) (by simp[rrV,IF,AF,hidm])
  have hv1:Ms.ev ⟨T1,σ1⟩ v=.c (.int kk i):=by
   rw[<-hT1];exact ev_G (G:=λv=>AF m [] (rrV id' (p++[(i.toNat,0)]) m v)) (t:=(Aj js s).den.t) (σ:=(Aj js s).den.σ) hnv (Bg hv) rfl
  show Oe P σ1 (Ms.ev ⟨T1,σ1⟩) (.indexAddr t2 u v) _;unfold Oe
  dsimp only
  rw[hu1,hv1,hsl];refine⟨hsz1,by omega,⟨hi0,hil⟩,.rp id' p i.toNat 0,by rw[Nat.zero_add];exact Sub.refl _,?_⟩
  show Ms.res _ E.h o2.dst _=_;rw[hd2];unfold Ms.res;simp only[b10,if_true,b11];simp[prom]
 .subst hS'
  refine JC (h:=E.h) (K:=λS'=>S'=⟨λz=>AY id' (p++[(i.toNat,0)]) (m+1) (AD T1 e (.rp id' p i.toNat 0) z),
   (σ1.set id' (upd (p++[(i.toNat,0)]) (σ1.getD id' .dead) (σ1.getD (m+1) .dead))).set (m+1) .dead⟩) ?_ hs2 λS' a3 w3 hS' hs3=>hn a3 w3 ?_
  .unfold vop
   rw[ho3];refine⟨hd3,?_⟩;have he1:Ms.ev ⟨AD T1 e (.rp id' p i.toNat 0),σ1⟩ (.tmp e)=.rp id' p i.toNat 0:=by
    show AD T1 e _ e=_;unfold AD;rw[if_pos rfl]
   have he2:Ms.ev ⟨AD T1 e (.rp id' p i.toNat 0),σ1⟩ (.tmp d)=.rs (m+1) [] 0 (xs.length+ys.length):=by
    show AD T1 e _ d=_;rw[<-hT1];unfold AD;rw[if_neg hde,if_pos rfl]
   rw[he1,he2,hΘ.ty hti3];unfold Wq;refine⟨rfl,⟨b5.symm,by rw[hsz1,b7,b5];exact le_refl _⟩,?_⟩
   rw[b5];show MQ id' p i.toNat 0 (.rs (m+1) [] 0 (xs.length+ys.length)) [] σ1 _;unfold MQ;have hsub:sub [] (σ1.getD (m+1) .dead)=.nd true true ti.ty.w (xs++ys).length λi k=>(tyV ti.ty dx ((xs++ys).getD i ti.ty.dflt)).getD k .dead:=U
   simp only[hsub];have hne:m+1≠id':=by omega
   rw[if_neg (λh=>hne h.1)]
   refine⟨⟨trivial,by simp,hne⟩,?_⟩
   rfl
  .subst hS'
   have hG:GOK (λv=>AY id' (p++[(i.toNat,0)]) (m+1) (AF m [] (rrV id' (p++[(i.toNat,0)]) m v))) id' ((p++[(i.toNat,0)]:AI).map λz=>z.2) [(m,[]),(m+1,[])]:=GOK.row
   have hlen:∀B q2,hit id' ((p++[(i.toNat,0)]:AI).map λz=>z.2) [(m,[]),(m+1,[])] B q2=false->(Ac ((Aj js s).r.set id' r0++[Aa.dead,Aa.dead]) B q2).len=(Ac (Aj js s).r B q2).len:=by
    intro B q2 hh;have h1:B≠m/\B≠m+1:=⟨λe=>(CI hh).2 m [] (by simp) ⟨e,rfl⟩,λe=>(CI hh).2 (m+1) [] (by simp) ⟨e,rfl⟩⟩
    rcases lt_or_ge B m with h2|h2
    .have e1:Ac ((Aj js s).r.set id' r0++[Aa.dead,Aa.dead]) B q2=Ac ((Aj js s).r.set id' r0) B q2:=by
      unfold Ac;rw[gDE,gAL (by simp;omega),<-gDE]
     rw[e1];by_cases he:B=id'
     .subst he
      rw[BI hidr];refine Kf p _ _ hset q2 ?_;cases hp2:pre ((p++[(i.toNat,0)]:AI).map λz=>z.2) q2 with
      |false=>rfl
      |true=>
       unfold hit at hh;rw[beq_refl,hp2]at hh;cases hh
     .rw[Bd he]
    .have e1:Ac ((Aj js s).r.set id' r0++[Aa.dead,Aa.dead]) B q2=Ac (Aj js s).r B q2:=by
      unfold Ac;rw[gDE,gDE,getElem?_eq_none (by simp;omega),getElem?_eq_none (by omega)]
     rw[e1]
   refine hs3.sub ?_ (λj hj=>?_) λz=>?_
   .rw[<-hS1]
    simp[St.den]
   .have hσd:∀j,(Aj js s).den.σ.getD j .dead=((Aj js s).r.getD j .dead).v:=λj=>Ai _ _
    have hσo:∀j,m<=j->(Aj js s).den.σ.getD j .dead=.dead:=λj hj=>by rw[gDE,getElem?_eq_none (by omega)];rfl
    have hR:∀j,(((Aj js s).r.set id' r0++[Aa.dead,Aa.dead]).map Aa.v).getD j .dead=if j=id' then r0.v else(Aj js s).den.σ.getD j .dead:=by
     intro j;rw[Ai];by_cases H:j=id'
     .subst H
      rw[if_pos rfl,gDE,gAL (by simp;omega),List.getElem?_set_self hidr];rfl
     .rw[if_neg H,hσd]
      rcases lt_or_ge j m with h2|h2
      .rw[gDE,gAL (by simp;omega),getElem?_set_ne (Ne.symm H),<-gDE]
      .rw[gDE,gDE,gAR (by simp;omega),getElem?_eq_none (l:=(Aj js s).r) (by omega)]
       simp only[length_set,hl]
       match hk:j-m with
       |0=>rfl
       |1=>rfl
       |k+2=>rfl
    show Sub _ ((((Aj js s).r.set id' r0++[Aa.dead,Aa.dead]).map Aa.v).getD j .dead);rw[hR,W,U,Ik];by_cases hj1:j=m+1
    .subst hj1
     rw[if_neg (by omega),hσo (m+1) (by omega),Ag (by simpa using hj)]
     exact Sub.refl _
    .rw[Ad (Ne.symm hj1)]
     by_cases H:j=id'
     .subst H
      rw[if_pos rfl,Ag (by simp at hj;omega),hσd]
      exact HD (Sub.refl _) p _ _ hset
     .rw[if_neg H,Ad (Ne.symm H),<-hS1]
      rcases lt_or_ge j m with h2|h2
      .rw[Az (by simp;omega),Az (by simp;omega),Ad (Ne.symm H)]
       exact Sub.refl _
      .have hj2:j=m:=by
        simp[<-hS1,Z]at hj;omega
       rw[hσo j (by omega),Az (by simp;omega),gDE,gAR (by simp;omega)]
       simp only[length_set,Z,hj2,Nat.sub_self];exact Sub.refl _
   .show Ak (AY id' (p++[(i.toNat,0)]) (m+1) (AD T1 e (.rp id' p i.toNat 0) z)) (Sl.v _ (bif beq z d||beq z e then .one .dead else _))
    cases hz:(beq z d||beq z e)with
    |true=>exact Ak.dead _
    |false=>
     rw[Bool.or_eq_false_iff]at hz;have hzd:z≠d:=λe=>by rw[e,beq_refl]at hz;cases hz.1
     have hze:z≠e:=λe=>by rw[e,beq_refl]at hz;cases hz.2
     rw[<-hT1];unfold AD;rw[if_neg hze,if_neg hzd];exact Sl.kill_v hG hlen ((Aj js s).t z)
theorem Zu(wr:Be σ w D ρ F){p:List (Nat×Nat)}{i:Nat}(h:Ae σ ρ w (.rp id p i k) cv):∃b off,cv=.pointer (some ⟨b,off,none⟩)/\F id b:=by
 obtain⟨H,s,sz,n,f,b,o,cap,U,hi,hk,rfl⟩:=h;obtain⟨fp1,Z,B,_⟩:=Ds (w':=w) p _ _ _ _ _ (wr.rel id H) (λb hb h'=>wr.dD id b h' hb) U
 refine⟨b,_,rfl,B b ?_⟩;rcases Z with⟨h0,_⟩|⟨b',o',W,G,he,_,_,_,_,_,h6⟩
 .omega
 .obtain⟨rfl,_,_⟩:=Am he
  exact((h6 rfl).2.2.2 b).2 (.inl rfl)
theorem ZU(hΘ:E.Θ.OK P){C:Ctx}{m id:Nat}{q:AI}{ops:Array Oper}{fs:List Nat}{a:Act}{w w':World}{σ2:List V}(hdd:∀x,N<=x->s.den.t x=.dead)
  (h1:∃D ρ F,CR C s.den.σ ((range N).map s.den.t) a.tmps w D ρ F) (h2:∃D ρ F,CR C σ2 (((range N).map s.den.t).map (rrV id q m)) a.tmps w D ρ F/\∀c,c<w.heap.size->¬F m c->w'.heap[c]? =w.heap[c]?)
  (hl:∀f∈fs,∀o,ops[f]? =some o->Ur E s m id q o=true):FlL P ops fs a w w':=by
 intro f hf o ho t x hop ad had;have h:=hl f hf o ho;unfold Ur at h;rw[hop]at h;cases x with
 |tmp z=>
  dsimp only at h
  obtain⟨D1,ρ1,F1,Z⟩:=h1;obtain⟨D2,ρ2,F2,H,hsame⟩:=h2;have had:a.tmps.getD z undef=.pointer (some ad):=had
  have hsz:∀(ti:TI),E.Θ.look t=some ti->∀s,(sizeOf t).run P w=.ok s w->s=ti.ty.w:=λti hti s hs=>by
   obtain⟨d,i,z,hu,hi,_,his,_⟩:=CP (hΘ.ty hti);unfold Go.sizeOf typeInfo at hs;rw[Sem.run_bind,Sem.run_bind]at hs;have e:(Go.program.run P w:Result Program)=.ok P w:=rfl;rw[e]at hs;simp only[Result.andThen_ok,hi]at hs;have his:i.size=ti.ty.w:=his;have hs:Result.ok i.size w=.ok s w:=hs;cases hs;exact his
  have hz:s.den.t z≠.dead->z<N:=λhne=>by
   rcases lt_or_ge z N with h|h
   .exact h
   .exact absurd (hdd z h) hne
  split at h
  case h_3=>cases h
  .rename_i ti id' p i k hti hsz1
   simp only[bAE,not_eq_true']at h;obtain⟨⟨⟨g1,g2⟩,g3⟩,g4⟩:=h;have g3:=blE g3;have g4:=Mb g4;have hv:s.den.t z=.rp id' p i k:=by show(s.t z).v s.r=_;rw[hsz1];rfl
   have U:=hz (by rw[hv];simp)
   have r1:=Z.tm z (by simpa using U)
   have r2:=H.tm z (by simpa using U)
   have e1:((range N).map s.den.t).getD z .dead=.rp id' p i k:=by rw[Ay U,hv]
   have e2:(((range N).map s.den.t).map (rrV id q m)).getD z .dead=.rp id' p i k:=by
    have:(((range N).map s.den.t).map (rrV id q m)).getD z .dead=rrV id q m (s.den.t z):=by simp[U]
    rw[this,hv];exact if_neg (CI g1).1
   rw[e1,had]at r1;rw[e2,had]at r2;obtain⟨s0,sz,n,f0,b,o0,cap,hid,hat,hi,hk,he,_,hns,_,_⟩:=JS Z.wr r1.1;obtain⟨b2,off2,he2,hF⟩:=Zu H.wr r2.1;have hbb:b2=b:=by rw[he]at he2;cases he2;rfl
   subst hbb;have hnsz:sz=(Ac s.r id' p).w:=by rw[<-hns];exact Cd g2
   have hne:id'≠m:=λe=>(CI g1).2 m [] (by simp) ⟨e,rfl⟩
   have hblk:w'.heap[b2]? =w.heap[b2]?:=hsame b2 (H.wr.lt _ _ hF) λhm=>H.wr.disj id' m b2 hne hF hm
   have B:∀k',k+k'<sz->∃y,w.cell? ⟨b2,o0+i*sz+(k+k'),none⟩=some y:=λk' W=>by
    obtain⟨fp1,hr,_,_⟩:=Ds (w':=w) p _ _ _ _ _ (Z.wr.rel id' hid) (λb hb h'=>Z.wr.dD id' b h' hb) hat
    rcases hr with⟨h0,_⟩|⟨b',o',cap',G,he',_,_,_,h5,_⟩
    .omega
    .obtain⟨rfl,rfl,_⟩:=Am he'
     obtain⟨y,hy,_⟩:=h5 i (k+k') hi W;exact⟨y,hy⟩
   cases he;refine⟨hblk,?_,λs1 hs1 k' W=>?_⟩
   .obtain⟨y,hy⟩:=B 0 (by omega)
    exact⟨y,by simpa [Nat.add_assoc]using hy⟩
   .rw[hsz ti hti s1 hs1]at W
    obtain⟨y,hy⟩:=B k' (by omega)
    refine⟨y,?_⟩;rw[AZ rfl];simpa [Nat.add_assoc]using hy
  .rename_i ti u xv hti hsz1
   simp only[bAE]at h;obtain⟨g3,g4⟩:=h;have g3:=blE g3;have g4:=Mb g4;have hv:s.den.t z=A3 false (tyV u 0 xv):=by show(s.t z).v s.r=_;rw[hsz1];rfl
   have U:=hz (by rw[hv];simp[A3])
   have r2:=H.tm z (by simpa using U)
   have e2:(((range N).map s.den.t).map (rrV id q m)).getD z .dead=A3 false (tyV u 0 xv):=by
    have:(((range N).map s.den.t).map (rrV id q m)).getD z .dead=rrV id q m (s.den.t z):=by simp[U]
    rw[this,hv];rfl
   rw[e2,had]at r2;have hul:(tyV u 0 xv).length=u.w:=Ax u 0 xv;rcases r2 with⟨_,h0,_⟩|⟨b,o0,cap,G,he,_,_,_,h5,h6,_⟩
   .cases h0
   .have hb:=(h6 rfl).1 (by rw[hul];omega)
    have hblk:w'.heap[b]? =w.heap[b]?:=hsame b (H.wr.Dlt b hb) λhm=>H.wr.dD m b hm hb
    have B:∀k',k'<u.w->∃y,w.cell? ⟨b,o0+k',none⟩=some y:=λk' W=>by
     obtain⟨y,hy,_⟩:=h5 0 k' (by omega) (by rw[hul];exact W)
     exact⟨y,by simpa using hy⟩
    cases he;refine⟨hblk,?_,λs1 hs1 k' W=>?_⟩
    .obtain⟨y,hy⟩:=B 0 (by omega)
     exact⟨y,by simpa using hy⟩
    .rw[hsz ti hti s1 hs1]at W
     obtain⟨y,hy⟩:=B k' (by omega)
     refine⟨y,?_⟩;rw[AZ rfl];exact hy
 |_=>cases h
def flT(E:Env)(ops:Array Oper)(fs:List Nat):Bool:=fs.all λf=>match ops[f]? with
 |some o=>Adp o.op&&(match o.op with
  |.fieldAddr t _ k=>match(E.Θ.look t).bind (·.flds[k]?)with
   |some _=>true
   |none=>false
  |_=>true)
 |none=>true
theorem Abc(H:E.Θ.OK P)(h:flT E ops fs=true):FlT P ops fs:=by
 intro f hf o ho;have B:=aET.1 h f hf;rw[ho]at B;simp at B;refine⟨B.1,λt x k U=>?_⟩
 have W:=B.2;rw[U]at W
 dsimp only at W
 split at W
 case h_2=>grind
 rename_i p Z;obtain⟨off,sz⟩:=p;cases hl:E.Θ.look t with
 |none=>grind
 |some i=>
  rw[hl]at Z;exact⟨off,sz,H.fld hl Z⟩
theorem Ab2(Z:E.Θ.OK P){ops:Array Oper}{n:Nat}{fs:List Nat}(h:WK E s late o1 o2 o3=some A)(hp:A.p)(hs:AA C E.h.n s.den a w)
  (hon:ops[n]? =some o1) (U:∀f∈fs,∀o,ops[f]? =some o->o∈late) (hft:FlT P ops fs):FlH P ops n fs a w:=by
 unfold WK at h;split at h
 case h_2=>cases h
 rename_i d t x y e t2 u v t3 hrow;obtain⟨ho1,hd1,ho2,hd2,ho3,hd3,hde,hnu,hnv⟩:=JT hrow;split at h
 case h_2=>cases h
 rename_i ti ti2 ti3 id q hti hti2 hti3 hx;split at h
 case h_2=>cases h
 rename_i ro t' dx xs dy ys js H hy;split at h
 case isFalse=>cases h
 rename_i ht;subst ht;split at h
 case h_2=>cases h
 rename_i id' p kk di i hu hv;obtain⟨hb,h⟩:=A1 h;simp only[bAE,not_eq_true']at hb;obtain⟨⟨⟨⟨⟨⟨⟨⟨⟨⟨⟨b1,b2⟩,b3⟩,b4⟩,b5⟩,b6⟩,b7⟩,b8⟩,b9⟩,b10⟩,b11⟩,b12⟩:=hb;have b1:=bqE b1;subst b1;have b5:=bqE b5;have b6:=bqE b6;have b7:=bqE b7;have b9:=Aau b9;have b10:=Aau b10;split at h
 case h_2=>cases h
 rename_i c r0 hc hset;cases h;obtain⟨⟨⟨hi0,hil⟩,hcp⟩,hlim⟩:=hp;obtain rfl:=Jm _ _ _ hc hcp;have hY:∀j∈js,j<s.r.length/\j≠id':=by
  obtain⟨_,_,D,ρ,F,W⟩:=hs;exact(IR W ‹_› hy).js
 obtain⟨v',w',hrun,_,D,ρ,F,hcr2,B⟩:=US Z ho1 hd1 b9 hti (Mb b2) (Mb b3) hx H hy b4 (by simpa [IE]using hlim) hs
 have hsd:(∃D ρ F,CR C (Aj js s).den.σ ((range E.h.n).map (Aj js s).den.t) a.tmps w D ρ F)/\∀x,E.h.n<=x->(Aj js s).den.t x=.dead:=by
  obtain⟨_,hdd,D,ρ,F,W⟩:=hs;obtain⟨F1,hcr1,_⟩:=Cn js W (λj hj=>(hY j hj).1)
  exact⟨⟨D,ρ,F1,hcr1⟩,BT js hdd⟩
 intro on hon';obtain rfl:on=o1:=Option.some.inj (hon'.symm.trans hon);refine⟨v',w',hrun,FlT.same hft (ZU Z hsd.2 hsd.1 ⟨D,ρ,F,hcr2,B⟩ λf hf o ho=>aET.1 b12 o (U f hf o ho))⟩
theorem WJ(h:WK E s late o1 o2 o3=some A):Kp (Ao [o1,o2,o3]) s A.s:=by
 unfold WK at h;split at h
 case h_2=>cases h
 rename_i d t x y e t2 u v t3 W;obtain⟨_,hd1,_,hd2,_,_,_,_,_⟩:=JT W;split at h
 case h_2=>cases h
 rename_i ti B ti3 id q hti hti2 hti3 hx;split at h
 case h_2=>cases h
 rename_i ro t' dx xs dy ys js hnode hy;split at h
 case isFalse=>cases h
 rename_i ht;split at h
 case h_2=>cases h
 rename_i id' p kk di i hu hv;generalize hcond:(beq id' id&&blt 0 ti.bytes&&blt 0 ti.ty.w&&dOK ti.ty dy dx&&beq ti3.ty.w 1&&beq (Ac (Aj js s).r id p).w B.ty.w&&beq B.ty.w 1&&(Ac (Aj js s).r id p).live&&blt d E.h.n&&blt e E.h.n&& !E.h.fz.contains e&&late.all (Ur E (Aj js s) s.r.length id q))=cond at h;cases cond with
 |false=>cases h
 |true=>
 simp only[cond_true]at h;split at h
 case h_2=>cases h
 rename_i c r0 hc U;cases h;have k0:Kp (Ao [o1,o2,o3]) s (Aj js s):=(Ks js s (Ql hy)).weak λ_ _=>rfl
 refine k0.trans ⟨λj hj hst=>?_,λH hid Z=>?_,by simp⟩ (λ_ h=>h) λ_ h=>h
 .have hjd:beq j d=false/\beq j e=false:=by
   refine⟨?_,?_⟩
   .cases hb:beq j d with
    |false=>rfl
    |true=>
     have:=bqE hb;subst this;simp[Ao,hd1]at hj
   .cases hb:beq j e with
    |false=>rfl
    |true=>
     have:=bqE hb;subst this;simp[Ao,hd2]at hj
  show(bif beq j d||beq j e then Sl.one .dead else _)=_;rw[hjd.1,hjd.2];exact Sl.kill_stay hst _ _ _
 .have hne:H≠id:=by
   rintro rfl
   rw[HE U]at Z;cases Z
  show((Aj js s).r.set id r0++[Aa.dead,Aa.dead]).getD H .dead=_;rw[gDE,gAL (by simpa using hid),getElem?_set_ne (Ne.symm hne),<-gDE]
end
theorem CR.frz1{ts:List V}{cts:Array Value}(h:CR C σ ts cts w D ρ F){j:Nat}(hj:j<σ.length)(ho:σ.getD j .dead=.nd false true sz 1 f)(hk:k<sz):
  Wi C (σ.set j (upd [(0,k)] (σ.getD j .dead) (Go.Ve.frz (f 0 k)))) (ts.map (AF j [(0,k)])) cts w:=by
 have hr0:=h.wr.rel j hj;rw[ho]at hr0;rcases hr0 with⟨h0,_⟩|⟨b,o,cap,G,hcv,hcap,hmax,hs,hr,_,hown⟩
 .cases h0
 obtain⟨hb,hnb,hdis,hfp⟩:=hown rfl;have hGF:∀k' x,k'<sz->G 0 k' x->F j x:=λk' x H B=>(hfp x).2 (.inr ⟨0,k',one_pos,H,B⟩)
 have hF:∀i x,(if i=j then λx=>F j x/\¬G 0 k x else F i) x->F i x/\¬G 0 k x:=by
  intro i x B;split at B
  .rename_i e;subst e;exact B
  .rename_i e
   exact⟨B,λhg=>h.wr.disj i j x e B (hGF k x hk hg)⟩
 refine⟨λx=>D x\/G 0 k x,ρ,λi=>if i=j then λx=>F j x/\¬G 0 k x else F i,⟨λi hi=>?_,λi l x hil h1 h2=>h.wr.disj i l x hil (hF _ _ h1).1 (hF _ _ h2).1,λi x B hd=>?_,λx B=>?_,λi x hi B=>h.wr.out i x (by simpa using hi) (hF _ _ B).1⟩,by simpa using h.sz,λt ht=>?_,h.fr,λi x B=>h.Fn i x (hF _ _ B).1,λx B=>.inl (h.D1 x B),λx B hlt=>?_,h.rt,by simpa using h.ml⟩
 .have hi:i<σ.length:=by simpa using hi
  by_cases he:i=j
  .subst he
   rw[Ag hj,ho];simp only[if_true];obtain⟨G',hG'⟩:∃G':Nat->Nat->Nat->Prop,G'=λi' k'=>if i'=0/\k'=k then noF else G i' k':=⟨_,rfl⟩
   have g0:G' 0 k=noF:=by rw[hG'];exact if_pos ⟨rfl,rfl⟩
   have gi:∀i' k',¬ (i'=0/\k'=k)->G' i' k'=G i' k':=λi' k' e=>by rw[hG'];exact if_neg e
   have gg:∀i' k' x,G' i' k' x->¬ (i'=0/\k'=k)/\G i' k' x:=λi' k' x B=>by
    by_cases e:i'=0/\k'=k
    .rw[e.1,e.2,g0]at B;exact B.elim
    .rw[gi _ _ e]at B;exact⟨e,B⟩
   refine .inr ⟨b,o,cap,G',hcv,hcap,hmax,hs,λi' k' U H=>?_,λe=>(by cases e),λ_=>⟨hb,λi' k' U H B=>hnb i' k' U H (gg _ _ _ B).2,λi1 k1 i2 k2 x a1 a2 a3 a4 a5 g1 g2=>hdis i1 k1 i2 k2 x a1 a2 a3 a4 a5 (gg _ _ _ g1).2 (gg _ _ _ g2).2,λx=>?_⟩⟩
   .obtain⟨x,B,hrx⟩:=hr i' k' U H
    refine⟨x,B,?_⟩;obtain rfl:i'=0:=by omega
    by_cases e:k'=k
    .subst e
     simp only[and_self,if_true];rw[g0];exact Rel.frz _ _ _ hrx
    .simp only[e,and_false,if_false]
     rw[gi 0 k' λh=>e h.2]
     exact Rel.mono (λ_ h=>.inl h) (λ_ _ h=>h) _ _ _ (λ_ _=>rfl) hrx
   .constructor
    .rintro ⟨h1,h2⟩
     rcases(hfp x).1 h1 with e|⟨i',k',U,H,hg⟩
     .exact .inl e
     .refine .inr ⟨i',k',U,H,?_⟩
      rw[gi _ _ λe=>h2 (by rw[<-e.1,<-e.2];exact hg)]
      exact hg
    .rintro (e|⟨i',k',U,H,hg⟩)
     .subst e
      exact⟨(hfp _).2 (.inl rfl),hnb 0 k one_pos hk⟩
     .obtain⟨e,hg⟩:=gg _ _ _ hg
      obtain rfl:i'=0:=by omega
      refine⟨hGF k' x H hg,λhg2=>hdis 0 k' 0 k x U H U hk (.inr λe2=>e ⟨rfl,e2⟩) hg hg2⟩
  .rw[Ad (Ne.symm he)]
   simp only[he,if_false];exact Rel.mono (λ_ h=>.inl h) (λ_ _ h=>h) _ _ _ (λ_ _=>rfl) (h.wr.rel i hi)
 .obtain⟨h1,h2⟩:=hF i x B
  exact hd.elim (h.wr.dD i x h1) h2
 .exact B.elim (h.wr.Dlt x) λhg=>h.wr.lt j x (hGF k x hk hg)
 .simp at ht
  have e1:(ts.map (AF j [(0,k)])).getD t .dead=AF j [(0,k)] (ts.getD t .dead):=by simp[ht]
  rw[e1];refine Rel.mono (λ_ h=>.inl h) (λ_ _ h=>h) _ _ _ (λ_ _=>rfl) ((A5 _ _).rel (R':=Ae (σ.set j (upd [(0,k)] (σ.getD j .dead) (Go.Ve.frz (f 0 k)))) ρ w) (λ_ _=>rfl) ?_ ?_ ?_ _ _ noF (λ_ h=>h) (h.tm t ht))
  .rintro id q off len cv ⟨hid,W,n',f',cn,ha,r⟩
   simp only[AF];split
   .exact λ_ h=>h
   .rename_i Z
    refine⟨⟨by simpa using hid,?_⟩,λ_ h=>h⟩
    by_cases e:id=j
    .subst e
     rw[Ag hj];obtain⟨f2,h2⟩:=At.keep (x:=Go.Ve.frz (f 0 k)) [(0,k)] q _ _ (by rw[ho];exact⟨rfl,one_pos,hk,trivial⟩) (by simpa using Z) ha
     exact⟨W,n',f2,cn,h2,r⟩
    .rw[Ad (Ne.symm e)]
     exact⟨W,n',f',cn,ha,r⟩
  .rintro id q i' k' cv ⟨hid,s',W,n',f',b',o',cap',ha,r⟩
   simp only[AF];split
   .exact λ_ h=>h
   .rename_i Z
    refine⟨⟨by simpa using hid,?_⟩,λ_ h=>h⟩
    by_cases e:id=j
    .subst e
     rw[Ag hj];obtain⟨f2,h2⟩:=At.keep (x:=Go.Ve.frz (f 0 k)) [(0,k)] q _ _ (by rw[ho];exact⟨rfl,one_pos,hk,trivial⟩) (by simpa using Z) ha
     exact⟨s',W,n',f2,b',o',cap',h2,r⟩
    .rw[Ad (Ne.symm e)]
     exact⟨s',W,n',f',b',o',cap',ha,r⟩
  .rintro id q cv ⟨hid,l',b',ha,r⟩
   simp only[AF];split
   .exact λ_ h=>h
   .rename_i Z
    refine⟨⟨by simpa using hid,l',b',?_,r⟩,λ_ h=>h⟩
    by_cases e:id=j
    .subst e
     rw[Ag hj];exact At.keepM (x:=Go.Ve.frz (f 0 k)) [(0,k)] q _ _ (by rw[ho];exact⟨rfl,one_pos,hk,trivial⟩) (by simpa using Z) ha
    .rw[Ad (Ne.symm e)]
     exact ha
 .rcases B with B|B
  .exact h.D2 x B hlt
  .exact(h.Fn j x (hGF k x hk B)).elim .inr λhge=>absurd hlt (not_lt.2 hge)
def AcP(id k:Nat)(s:St):Option St:=match s.r.getD id .dead with
 |.obj false l=>match l.getD k .dead with
  |.c (.sl t) (_+1) xs=>match(s.r.getD id .dead).setAt [] 0 k (.c (.sl t) 0 xs)with
   |some B=>some ⟨λi=>(s.t i).kill id [k] [],s.r.set id B⟩
   |none=>none
  |_=>some s
 |_=>some s
theorem Z9(h:AcP id k s=some s')(hs:AA C N s.den a w):AA C N s'.den a w/\Kp (λ_=>true) s s':=by
 unfold AcP at h;split at h
 case h_2=>cases h;exact⟨hs,Kp.refl _ _⟩
 rename_i l hr;split at h
 case h_2=>cases h;exact⟨hs,Kp.refl _ _⟩
 rename_i t d xs hl;split at h
 case h_2=>cases h
 rename_i B U;cases h;have H:id<s.r.length:=by
  rcases lt_or_ge id s.r.length with h|h
  .exact h
  .rw[gDE,getElem?_eq_none h]at hr;cases hr
 have hkl:k<l.length:=by
  rcases lt_or_ge k l.length with h|h
  .exact h
  .rw[gDE,getElem?_eq_none h]at hl;cases hl
 have hσ:s.den.σ.getD id .dead=A3 true (l.map Cl.v0):=by
  show(s.r.map Aa.v).getD id .dead=_;rw[Ai,hr];rfl
 obtain⟨hd,hdd,D,ρ,F,hcr⟩:=hs;have hf:=hcr.frz1 (by simpa [St.den]using H) hσ (by simpa using hkl)
 have W:Go.Ve.frz ((l.map Cl.v0).getD k .dead)=(Cl.c (.sl t) 0 xs).v0:=by
  have:(l.map Cl.v0).getD k .dead=(l.getD k .dead).v0:=by
   simp[gDE,getElem?_map,gEE hkl]
  rw[this,hl];exact Uz (t:=.sl t) rfl _ _
 have hlen:∀id' q,hit id [k] [] id' q=false->(Ac (s.r.set id B) id' q).len=(Ac s.r id' q).len:=by
  intro id' q hq;by_cases e:id'=id
  .subst e
   have hp:pre [k] q=false:=by
    unfold hit at hq;simpa using hq
   have h1:=Kf [] _ _ U q hp;unfold Ac;have e2:(s.r.set id' B).getD id' .dead=B:=by simp[gDE,H]
   rw[e2];exact h1
  .rw[Bd e]
 have hk:=λy=>Sl.kill_v (r:=s.r) (r':=s.r.set id B) (GOK.kill (id:=id) (P:=[(0,k)])) hlen y
 refine⟨⟨hd,λi hi=>?_,?_⟩,⟨λi _ hst=>Sl.kill_stay hst _ _ _,λid' _ Z=>?_,by simp⟩⟩
 .have h0:(s.t i).v s.r=.dead:=hdd i hi
  have h1:=hk (s.t i);rw[h0]at h1;rcases h1 with h|h
  .exact h
  .exact h
 .obtain⟨D',ρ',F',hc'⟩:=hf
  refine⟨D',ρ',F',hc'.sub (by simp[St.den]) (λi _=>?_) (by simp) λi hi=>?_⟩
  .by_cases e:i=id
   .subst e
    rw[Ag (by simpa [St.den]using H)]
    show Sub (upd [(0,k)] _ (Go.Ve.frz ((l.map Cl.v0).getD k .dead))) (((s.r.set i B).map Aa.v).getD i .dead);rw[W];rw[Ai];have e2:(s.r.set i B).getD i .dead=B:=by simp[gDE,H]
    rw[e2];have e3:s.den.σ.getD i .dead=(s.r.getD i .dead).v:=Ai _ _;rw[e3];exact Iq [] _ _ U
   .rw[Ad (Ne.symm e)]
    show Sub ((s.r.map Aa.v).getD i .dead) (((s.r.set id B).map Aa.v).getD i .dead);rw[Ai,Ai];have e2:(s.r.set id B).getD i .dead=s.r.getD i .dead:=by simp only[gDE,getElem?_set_ne (Ne.symm e)]
    rw[e2];exact Sub.refl _
  .have hi:i<N:=by simpa using hi
   have e1:(((range N).map s.den.t).map (AF id [(0,k)])).getD i .dead=AF id [(0,k)] ((s.t i).v s.r):=by simp[hi,St.den]
   rw[e1,Ay hi];exact hk (s.t i)
 .have hne:id'≠id:=by
   rintro rfl
   rw[hr]at Z;cases Z
  simp only[gDE,getElem?_set_ne (Ne.symm hne)]
def OX(id:Nat):List Nat->St->Option St
 |[],s=>some s
 |k::l,s=>match AcP id k s with
  |some s'=>OX id l s'
  |none=>none
def Km{C:Ctx}{N:Nat}{id:Nat}{a:Act}{w:World}:∀(l:List Nat) {s s':St},OX id l s=some s'->AA C N s.den a w->AA C N s'.den a w/\Kp (λ_=>true) s s'
 |[],s,s',h,B=>by cases h;exact⟨B,Kp.refl _ _⟩
 |k::l,s,s',h,B=>by
  unfold OX at h;split at h
  case h_2=>cases h
  rename_i s1 H;obtain⟨g1,g2⟩:=Z9 H B;obtain⟨W,U⟩:=Km l h g1;exact⟨W,g2.trans U (λ_ _=>rfl) λ_ _=>rfl⟩
def frzO(E:Env)(s:St)(o:Oper):Option St:=match o.op,o.dst with
 |.load t (.tmp z),some d=>bif E.h.fz.contains (4000000+d)then(match s.t z,E.Θ.look t with
  |.one (.rp id [] 0 k),some i=>OX id ((range i.ty.w).map λj=>k+j) s
  |_,_=>some s)else some s
 |.move (.tmp z),some d=>bif E.h.fz.contains (6000000+d)then(match s.t z with
  |.one (.rf id [])=>OV id s
  |_=>some s)else some s
 |_,_=>some s
theorem AcO(h:frzO E s o=some s')(U:AA C N s.den a w):AA C N s'.den a w/\Kp (λ_=>true) s s':=by
 have B:some s=some s'->AA C N s'.den a w/\Kp (λ_=>true) s s':=λe=>by cases e;exact⟨U,Kp.refl _ _⟩
 unfold frzO at h;split at h
 case h_3=>exact B h
 case h_2=>
  rename_i z d _ _;cases H:E.h.fz.contains (6000000+d)with
  |false=>rw[H]at h;exact B h
  |true=>
   rw[H]at h;simp only[cond_true]at h;split at h
   .exact⟨Yd h U,Ye h⟩
   .exact B h
 rename_i t z d _ _;cases H:E.h.fz.contains (4000000+d)with
 |false=>rw[H]at h;exact B h
 |true=>
  rw[H]at h;simp only[cond_true]at h;split at h
  .exact Km _ h U
  .exact B h
def frzP(E:Env)(s:St)(o:Oper):Option St:=match o.op with
 |.store t (.tmp z) _=>bif E.h.fz.contains (5000000+z)then(match s.t z,E.Θ.look t with
  |.one (.rp id [] 0 k),some i=>OX id ((range i.ty.w).map λj=>k+j) s
  |_,_=>some s)else some s
 |_=>some s
theorem AcN(h:frzP E s o=some s')(H:AA C N s.den a w):AA C N s'.den a w/\Kp (λ_=>true) s s':=by
 have B:some s=some s'->AA C N s'.den a w/\Kp (λ_=>true) s s':=λe=>by cases e;exact⟨H,Kp.refl _ _⟩
 unfold frzP at h;split at h
 case h_2=>exact B h
 rename_i t z _ _;cases U:E.h.fz.contains (5000000+z)with
 |false=>rw[U]at h;exact B h
 |true=>
  rw[U]at h;simp only[cond_true]at h;split at h
  .exact Km _ h H
  .exact B h
end Go.Ve


namespace Go.Ve
variable{p p':AI}{a:Act}{h:BW}{C:Ctx}{f:FuncId}{J:List Nat}{i id j j' k k':Nat}{o:Oper}{P:Program}{s s':St}{w:World}
def MS(t:Ty)(d:Nat)(l:List Cl):Option t.T:=IB t d (l.map (fit d))
theorem J4{t:Ty}{d:Nat}{l:List Cl}{x:t.T}(h:MS t d l=some x)(r:List Aa):CO (l.map (Cl.v r)) (tyV t d x)/\l.map (Cl.v r)=l.map Cl.v0:=by
 have:=Dd h r
 have H:(l.map (fit d)).map (Cl.v r)=l.map (Cl.v r):=by
  rw[map_map];exact map_congr_left λc _=>(AcR d r c).1
 have B:(l.map (fit d)).map Cl.v0=l.map Cl.v0:=by
  rw[map_map];exact map_congr_left λc _=>(AcR d r c).2
 grind
def AcS:List CM->List Cl->List (Nat×Nat)
 |.r i _ _ _::l,.rp id _ _ _::ys=>(i,id)::AcS l ys
 |_::l,_::ys=>AcS l ys
 |_,_=>[]
def Aac:List AM->List (Option Sl)->List (Nat×Nat)
 |.r i _ _ _::l,some (.one (.rp id _ _ _))::ys=>(i,id)::Aac l ys
 |.k _ c::l,some (.pk _ cs)::ys=>AcS c cs++Aac l ys
 |_::l,_::ys=>Aac l ys
 |_,_=>[]
def idOf(i:Nat):List (Nat×Nat)->Nat
 |[]=>0
 |a::l=>bif beq a.1 i then a.2 else idOf i l
def Adk(J:List Nat)(i:Nat)(p:AI)(j k id:Nat)(p':AI)(j' k':Nat):Bool:=blt i J.length&&beq (J.getD i 0) id&&eqP p p'&&beq j j'&&beq k k'
def Vo(J:List Nat):(l:List CM)->List Cl->Option (CsM l).T
 |[],[]=>some ()
 |.p t::l,y::ys=>match DM t 0 y with
  |some x=>match Vo J l ys with
   |some z=>some (x,z)
   |none=>none
  |none=>none
 |.r i p j k::l,.rp id p' j' k'::ys=>bif Adk J i p j k id p' j' k' then Vo J l ys else none
 |_,_=>none
def Ja(s:St)(J:List Nat):(l:List AM)->List (Option Sl)->Option (PM l).T
 |[],[]=>some ()
 |.p b t::l,y::ys=>bif uok y then(match KX s b t y with
  |some x=>match Ja s J l ys with
   |some z=>some (x,z)
   |none=>none
  |none=>none)else none
 |.r i p j k::l,some (.one (.rp id p' j' k'))::ys=>bif Adk J i p j k id p' j' k' then Ja s J l ys else none
 |.k g c::l,some (.pk (.cl g') cs)::ys=>bif beq g g' then(match Vo J c cs with
  |some x=>match Ja s J l ys with
   |some z=>some (x,z)
   |none=>none
  |none=>none)else none
 |_,_=>none
def Is(s:St):(ts:List (Nat×Ty))->List Nat->Option (TM ts).T
 |[],[]=>some ()
 |p::l,id::J=>match s.r.getD id .dead with
  |.obj false c=>match MS p.2 p.1 c with
   |some x=>match Is s l J with
    |some z=>some (x,z)
    |none=>none
   |none=>none
  |_=>none
 |_,_=>none
def Uw(J:List Nat)(id:Nat)(q:AI):Bool:=J.contains id&&match q with
 |[]=>false
 |_=>true
def D8:List Nat->List Aa->List Aa->List Aa
 |j::J,v::vs,r=>D8 J vs (r.set j v)
 |_,_,r=>r
structure Pj where
 α:Type
 o:Option α
 y:α->Sl
 st:α->St
def AcE(e:EnM)(ys:List (Option Sl)):List Nat:=(range e.S.ts.length).map λi=>idOf i (Aac e.S.ps ys)
def My(e:EnM)(s:St)(ys:List (Option Sl)):Option Pj:=bif ndB (AcE e ys)&&HH e.S.rs then(match Ja s (AcE e ys) e.S.ps ys,Is s e.S.ts (AcE e ys)with
  |some z,some x=>some ⟨(RT e.S.rs).T×(TM e.S.ts).T,e.g z x,λu=>Lo true e.S.rs u.1,λu=>⟨λi=>(s.t i).killP (Uw (AcE e ys)),D8 (AcE e ys) (AK e.S.ts u.2) s.r⟩⟩
  |_,_=>none)else none
def Lg:List EnM->St->FuncId->List (Option Sl)->Option Pj
 |[],_,_,_=>none
 |e::M,s,f,ys=>bif beq e.f f then(match My e s ys with
  |some A=>some A
  |none=>Lg M s f ys)else Lg M s f ys
def Ac7(s:St):Op->Option (FuncId×List (Option Sl))
 |.call c=>match c.callee with
  |.value (.func f)=>some (f,c.args.toList.map s.ev)
  |.value (.tmp y)=>match s.t y with
   |.pk (.cl g) cs=>bif blt g 1000000 then some (g,c.args.toList.map s.ev++cs.map λc=>some (.one c))else none
   |_=>none
  |_=>none
 |_=>none
def Acp(M:List EnM)(h:BW)(s:St)(o:Oper):Option Pj:=match M with
 |[]=>none
 |M=>bif(match o.dst with
  |some d=>blt d h.n&& !h.fz.contains d
  |none=>true)then(match Ac7 s o.op with
  |some (f,ys)=>Lg M s f ys
  |none=>none)else none
def NY{s:St}{f:FuncId}{ys:List (Option Sl)}{A:Pj}:∀{M:List EnM},Lg M s f ys=some A->∃e∈M,e.f=f/\My e s ys=some A
 |[],h=>by cases h
 |e::M,h=>by
  have back:Lg M s f ys=some A->∃B∈e::M,B.f=f/\My B s ys=some A:=λh=>by
   obtain⟨B,Z,W⟩:=NY h;exact⟨B,mCM _ Z,W⟩
  unfold Lg at h;cases H:beq e.f f with
  |false=>rw[H]at h;exact back h
  |true=>
   rw[H]at h;simp only[cond_true]at h;split at h
   .rename_i A' U
    cases h;exact⟨e,mem_cons_self ..,bqE H,U⟩
   .exact back h
def refB_v(h:Adk J i p j k id p' j' k'=true):i<J.length/\J.getD i 0=id/\p=p'/\j=j'/\k=k':=by
 unfold Adk at h;simp only[bAE]at h;exact⟨blE h.1.1.1.1,bqE h.1.1.1.2,O3 _ _ h.1.1.2,bqE h.1.2,bqE h.2⟩
def MJ{s:St}:∀{ts:List (Nat×Ty)}{J:List Nat}{x:(TM ts).T},Is s ts J=some x->J.length=ts.length/\∀k,k<J.length->∃(t:Ty) (l:List Cl),s.r.getD (J.getD k 0) .dead=.obj false l/\l.length=t.w/\Sub (s.r.getD (J.getD k 0) .dead).v ((AK ts x).getD k .dead).v/\∀B:(TM ts).T,∃U:List Cl,(AK ts B).getD k .dead=.obj false U/\U.length=t.w
 |[],[],x,_=>⟨rfl,λk H=>by simp at H⟩
 |p::ts,id::J,x,h=>by
  unfold Is at h;split at h
  case h_2=>cases h
  rename_i c W;split at h
  case h_2=>cases h
  rename_i y hy;split at h
  case h_2=>cases h
  rename_i z Z;cases h;obtain⟨h1,h2⟩:=MJ Z;obtain⟨g1,g2⟩:=J4 hy [];rw[g2]at g1;have hl:c.length=p.2.w:=by
   have:=g1.len;rw[length_map,Ax]at this;exact this
  refine⟨by simp[h1],λk H=>?_⟩
  cases k with
  |zero=>
   refine⟨p.2,c,W,hl,?_,λB=>⟨Ar p.2 p.1 B.1,rfl,L5 _ _ _⟩⟩
   show Sub (s.r.getD id .dead).v (A3 true ((Ar p.2 p.1 y).map Cl.v0));rw[W,Br];exact CO.obj g1
  |succ k=>
   obtain⟨t,l,k1,k2,k3,k4⟩:=h2 k (by simpa using H)
   exact⟨t,l,k1,k2,k3,λB=>k4 B.2⟩
 |[],_::_,_,h=>by cases h
 |_::_,[],_,h=>by cases h
def Q7:∀(J:List Nat) (B r:List Aa),(D8 J B r).map Aa.v=DB J (B.map Aa.v) (r.map Aa.v)
 |j::J,v::B,r=>by
  show(D8 J B (r.set j v)).map Aa.v=DB J (B.map Aa.v) ((r.map Aa.v).set j v.v);rw[Q7 J B,List.map_set]
 |[],_,_=>rfl
 |_::_,[],_=>rfl
def Jk:∀(J:List Nat) (B r:List Aa),(D8 J B r).length=r.length
 |j::J,v::B,r=>by
  show(D8 J B (r.set j v)).length=_;rw[Jk J B];simp
 |[],_,_=>rfl
 |_::_,[],_=>rfl
def PQ:∀(J:List Nat) (B r:List Aa) (i:Nat),i∉J->(D8 J B r).getD i .dead=r.getD i .dead
 |j::J,v::B,r,i,h=>by
  simp only[mem_cons,not_or]at h;show(D8 J B (r.set j v)).getD i .dead=_;rw[PQ J B _ i h.2,DI (Ne.symm h.1)]
 |[],_,_,_,_=>rfl
 |_::_,[],_,_,_=>rfl
def Ov:∀(J:List Nat) (B r:List Aa) (i:Nat),(∀v∈B,v.len=1)->(∀j∈J,(r.getD j .dead).len=1)->((D8 J B r).getD i .dead).len=(r.getD i .dead).len
 |j::J,v::B,r,i,h,hj=>by
  show((D8 J B (r.set j v)).getD i .dead).len=_
  have e:∀k,((r.set j v).getD k .dead).len=(r.getD k .dead).len:=by
   intro k;by_cases U:k=j
   .subst U
    rw[hj k (mem_cons_self ..)];rcases lt_or_ge k r.length with H|H
    .have:(r.set k v).getD k .dead=v:=by simp[H]
     rw[this];exact h v (mem_cons_self ..)
    .have:=hj k (mem_cons_self ..)
     rw[gDE,getElem?_eq_none H]at this;cases this
   .rw[DI (Ne.symm U)]
  rw[Ov J B _ i (λv hv=>h v (mCM _ hv)) (λk H=>by rw[e];exact hj k (mCM _ H)),e]
 |[],_,_,_,_,_=>rfl
 |_::_,[],_,_,_,_=>rfl
section
variable {s:St}{σ0:List V}{ρ ρ0:Nat->Value}{w:World}{D:Nat->Prop}{J:List Nat}
def slM_v(b:Bool)(t:Ty)(x:t.T):(slM b t x).v []=vOf b t 0 x:=by
 cases b with
 |true=>show Ah ((Ar t 0 x).map (Cl.v []))=_;rw[Cl.v_c];rfl
 |false=>rfl
def Xi(H:∀i p j k cv,i<J.length->Ae (s.r.map Aa.v) ρ w (.rp (J.getD i 0) p j k) cv->Ae σ0 ρ0 w (.rp i p j k) cv)(h:Adk J i p j k id p' j' k'=true){cv:Value}(B:Rel D w (Ae (s.r.map Aa.v) ρ w) (.rp id p' j' k') cv noF):Rel D w (Ae σ0 ρ0 w) (.rp i p j k) cv noF:=by
 obtain⟨U,rfl,rfl,rfl,rfl⟩:=refB_v h;exact⟨H _ _ _ _ _ U B.1,λ_ h=>h⟩
theorem PK(H:∀i p j k cv,i<J.length->Ae (s.r.map Aa.v) ρ w (.rp (J.getD i 0) p j k) cv->Ae σ0 ρ0 w (.rp i p j k) cv):∀(l:List CM) (ys:List Cl) (x:(CsM l).T),Vo J l ys=some x->
  (Ns l x).length=ys.length/\∀i cv,i<ys.length->Rel D w (Ae (s.r.map Aa.v) ρ w) ((ys.getD i .dead).v s.r) cv noF->Rel D w (Ae σ0 ρ0 w) (((Ns l x).getD i .dead).v []) cv noF
 |[],[],x,_=>⟨rfl,λi cv hi _=>by simp at hi⟩
 |.p t::l,y::ys,x,h=>by
  unfold Vo at h;split at h
  case h_2=>cases h
  rename_i U h1;split at h
  case h_2=>cases h
  rename_i z h2;cases h;obtain⟨g1,g2⟩:=PK H l ys z h2;refine⟨congrArg (· +1) g1,λi cv hi B=>?_⟩
  cases i with
  |zero=>
   have W:clean ((Cl.c t 0 U).v s.r):=Cl.clean_v (by cases t<;>rfl)
   have h3:=Rel.sub (J5 h1 s.r).1 B;exact Rel.clean _ _ _ _ _ W h3
  |succ i=>exact g2 i cv (by simpa using hi) B
 |.r i0 p j k::l,y::ys,x,h=>by
  cases y with
  |rp id p' j' k'=>
   have h:(bif Adk J i0 p j k id p' j' k' then Vo J l ys else none)=some x:=h;obtain⟨Z,h⟩:=A1 h;obtain⟨g1,g2⟩:=PK H l ys _ h;refine⟨congrArg (· +1) g1,λi cv hi B=>?_⟩
   cases i with
   |zero=>exact Xi H Z B
   |succ i=>exact g2 i cv (by simpa using hi) B
  |_=>cases h
 |[],_::_,_,h=>by cases h
 |.p _::_,[],_,h=>by cases h
 |.r _ _ _ _::_,[],_,h=>by cases h
theorem DJ:∀(l:List AM) (ys:List (Option Sl)) (z:(PM l).T),Ja s J l ys=some z->(K8 l z).length=ys.length
 |[],[],_,_=>rfl
 |.p b t::l,y::ys,z,h=>by
  unfold Ja at h;obtain⟨_,h⟩:=A1 h;split at h
  case h_2=>cases h
  split at h
  case h_2=>cases h
  rename_i B H;cases h;exact congrArg (· +1) (DJ l ys B H)
 |.r i p j k::l,some (.one (.rp id p' j' k'))::ys,z,h=>by
  unfold Ja at h;obtain⟨_,h⟩:=A1 h;exact congrArg (· +1) (DJ l ys z h)
 |.k g c::l,some (.pk (.cl g') cs)::ys,z,h=>by
  unfold Ja at h;obtain⟨_,h⟩:=A1 h;split at h
  case h_2=>cases h
  split at h
  case h_2=>cases h
  rename_i B H;cases h;exact congrArg (· +1) (DJ l ys B H)
theorem MK(H:∀i p j k cv,i<J.length->Ae (s.r.map Aa.v) ρ w (.rp (J.getD i 0) p j k) cv->Ae σ0 ρ0 w (.rp i p j k) cv):∀(l:List AM) (ys:List (Option Sl)) (z:(PM l).T),Ja s J l ys=some z->
  ∀i,i<ys.length->∃y,ys[i]? =some (some y)/\∀cv,Rel D w (Ae (s.r.map Aa.v) ρ w) (y.v s.r) cv noF->Rel D w (Ae σ0 ρ0 w) (((K8 l z).getD i (.one .dead)).v []) cv noF
 |[],[],_,_,i,hi=>by simp at hi
 |.p b t::l,y::ys,z,h,i,hi=>by
  unfold Ja at h;obtain⟨W,h⟩:=A1 h;split at h
  case h_2=>cases h
  rename_i Z h1;split at h
  case h_2=>cases h
  rename_i z2 h2;cases h;cases i with
  |zero=>
   cases y with
   |none=>cases W
   |some y=>
    have W:(!y.lent&&y.notB)=true:=W;rw[bAE,not_eq_true']at W;obtain⟨g1,_,g3⟩:=AaG W.1 W.2 h1;refine⟨y,rfl,λcv hr=>?_⟩
    show Rel D w (Ae σ0 ρ0 w) ((slM b t Z).v []) cv noF;rw[slM_v];exact Rel.sub g1 (Rel.clean _ _ _ _ _ g3 hr)
  |succ i=>exact MK H l ys z2 h2 i (by simpa using hi)
 |.r i0 p j k::l,some (.one (.rp id p' j' k'))::ys,z,h,i,hi=>by
  unfold Ja at h;obtain⟨hb,h⟩:=A1 h;cases i with
  |zero=>exact⟨_,rfl,λcv hr=>Xi H hb hr⟩
  |succ i=>exact MK H l ys z h i (by simpa using hi)
 |.k g c::l,some (.pk (.cl g') cs)::ys,z,h,i,hi=>by
  unfold Ja at h;obtain⟨hb,h⟩:=A1 h;split at h
  case h_2=>cases h
  rename_i Z h1;split at h
  case h_2=>cases h
  rename_i z2 h2;cases h;have hg:=bqE hb;subst hg;cases i with
  |zero=>
   refine⟨_,rfl,λcv hr=>?_⟩
   obtain⟨g1,g2⟩:=PK (D:=D) H c cs Z h1;obtain⟨U,G,hcv,hn,hrel,_,hfp⟩:=hr;refine⟨U,λ_=>noF,hcv,?_,λk B=>?_,λ_ _ _ _ _ _ h=>h.elim,λb=>⟨λh=>h.elim,fun⟨_,_,h⟩=>h⟩⟩
   .rw[hn,length_map,length_map]
    exact g1.symm
   .have B:k<cs.length:=by
     have B:k<((Ns c Z).map (Cl.v [])).length:=B;rw[length_map,g1]at B;exact B
    have h3:=hrel k (by rw[length_map];exact B)
    show Rel D w (Ae σ0 ρ0 w) (((Ns c Z).map (Cl.v [])).getD k .dead) (U.getD k undef) noF;rw[Aw (f:=Cl.v []) (a:=.dead) rfl];refine g2 k _ B ?_;have h4:Rel D w (Ae (s.r.map Aa.v) ρ w) ((cs.map (Cl.v s.r)).getD k .dead) (U.getD k undef) (G k):=h3;rw[Aw (f:=Cl.v s.r) (a:=.dead) rfl]at h4;exact Rel.fp_congr (λb=>⟨λh=>(hfp b).2 ⟨k,by rw[length_map];exact B,h⟩,λh=>h.elim⟩) h4
  |succ i=>exact MK H l ys z2 h2 i (by simpa using hi)
end
theorem Aas{N:Nat}{ys:List (Option Sl)}(h:Ac7 s o.op=some (f,ys))(hc:AE P f=true)(hs:AA C N s.den a w):
  ∃cvs,(execOp a.eval o).run P w=.ok (.enter f cvs) w/\cvs.size=ys.length/\∀D ρ F,CR C s.den.σ ((range N).map s.den.t) a.tmps w D ρ F->∀i y,ys[i]? =some (some y)->Rel D w (Ae s.den.σ ρ w) (y.v s.r) (cvs.getD i undef) noF:=by
 obtain⟨_,hdd,D0,ρ0,F0,hcr0⟩:=hs
 have args:∀(xs:Array Operand) (cs:Array Value) D ρ F,CR C s.den.σ ((range N).map s.den.t) a.tmps w D ρ F->∀i y,(xs.toList.map s.ev)[i]? =some (some y)->Rel D w (Ae s.den.σ ρ w) (y.v s.r) ((xs.map a.eval++cs).getD i undef) noF:=by
  intro xs cs D ρ F U i y H;rw[getElem?_map]at H;cases W:xs.toList[i]? with
  |none=>rw[W]at H;cases H
  |some x=>
   rw[W]at H;have H:s.ev x=some y:=by simpa using H
   have hi:i<xs.size:=by
    have:=(List.getElem?_eq_some_iff.1 W).1;simpa using this
   have h1:=Bh U hdd x;rw[Bg H]at h1;have hxe:xs[i]=x:=by
    have:=(List.getElem?_eq_some_iff.1 W).2;simpa using this
   have e:(xs.map a.eval++cs).getD i undef=a.eval x:=by
    have hi':i<(xs.map a.eval).size:=by simpa using hi
    simp[Array.getElem?_append_left hi',hi,hxe]
   rw[e];exact h1
 unfold Ac7 at h;split at h
 case h_2=>cases h
 rename_i c hop;obtain⟨callee,xs,ats⟩:=c;split at h
 case h_3=>cases h
 .rename_i f' hf
  cases h;have hf:callee=.value (.func f):=hf;subst hf;refine⟨xs.map a.eval++ #[],H5 hop rfl hc,by simp,λD ρ F U i y H=>args xs #[] D ρ F U i y H⟩
 .rename_i y0 hf
  have hf:callee=.value (.tmp y0):=hf;subst hf;split at h
  case h_2=>cases h
  rename_i g cs hy0;obtain⟨hlt,h⟩:=A1 h;cases h
  have fv:∀D ρ F,CR C s.den.σ ((range N).map s.den.t) a.tmps w D ρ F->∃B:Array Value,a.eval (.tmp y0)=.func (.func f) #[] B/\B.size=cs.length/\∀k,k<cs.length->Rel D w (Ae s.den.σ ρ w) ((cs.getD k .dead).v s.r) (B.getD k undef) noF:=by
   intro D ρ F U;have h1:=Bh U hdd (.tmp y0)
   have e:s.den.ev (.tmp y0)=(Sl.pk (.cl f) cs).v s.r:=by
    show(s.t y0).v s.r=_;rw[hy0]
   rw[e]at h1;obtain⟨B,G,Z,hn,hrel,_,hfp⟩:=h1;have Z:a.eval (.tmp y0)=Abi f B:=Z;rw[Pb hlt]at Z;rw[length_map]at hn;refine⟨B,Z,hn,λk hk=>?_⟩
   have h4:Rel D w (Ae s.den.σ ρ w) ((cs.map (Cl.v s.r)).getD k .dead) (B.getD k undef) (G k):=hrel k (by rw[length_map];exact hk)
   rw[Aw (f:=Cl.v s.r) (a:=.dead) rfl]at h4;exact Rel.fp_congr (λb=>⟨λh=>(hfp b).2 ⟨k,by rw[length_map];exact hk,h⟩,λh=>h.elim⟩) h4
  obtain⟨B,e1,e2,_⟩:=fv D0 ρ0 F0 hcr0;refine⟨xs.map a.eval++B,H5 hop e1 hc,by simp[e2],λD ρ F U i y H=>?_⟩
  by_cases hi:i<xs.toList.length
  .rw[gAL (by simpa using hi)]at H
   exact args xs B D ρ F U i y H
  .have hi:xs.toList.length<=i:=Nat.le_of_not_lt hi
   rw[gAR (by simpa using hi)]at H
   obtain⟨cs1,e3,e4,e5⟩:=fv D ρ F U;rw[e1]at e3;cases e3;rw[getElem?_map]at H;cases W:cs[i-(xs.toList.map s.ev).length]? with
   |none=>rw[W]at H;cases H
   |some c=>
    rw[W]at H;have H:Sl.one c=y:=by simpa using H
    subst H;have hl:(xs.toList.map s.ev).length=xs.size:=by simp
    rw[hl]at W;have hk:=(List.getElem?_eq_some_iff.1 W).1;have h6:=e5 _ hk;have e7:cs.getD (i-xs.size) .dead=c:=by rw[gDE,W];rfl
    rw[e7]at h6
    have e8:(xs.map a.eval++B).getD i undef=B.getD (i-xs.size) undef:=by
     have h2:(xs.map a.eval).size<=i:=by simpa using hi
     rw[Array.getD_eq_getD_getElem?,Array.getD_eq_getD_getElem?,Array.getElem?_append_right h2];simp
    rw[e8];exact h6
theorem Zx{S S':Ms}(B:S'.σ.length=S.σ.length)(H:∀i,i<S.σ.length->Sub (S.σ.getD i .dead) (S'.σ.getD i .dead))(U:∀i,Ak (S.t i) (S'.t i))(h:BW)(d:Option Nat)(r:V):
  (S'.res h d r).σ.length=(S.res h d r).σ.length/\(∀i,i<(S.res h d r).σ.length->Sub ((S.res h d r).σ.getD i .dead) ((S'.res h d r).σ.getD i .dead))/\∀i,Ak ((S.res h d r).t i) ((S'.res h d r).t i):=by
 have W:∀(d:Nat) (v:V) (i:Nat),Ak (AD S.t d v i) (AD S'.t d v i):=by
  intro d v i;unfold AD;split
  .exact Ak.refl _
  .exact U i
 unfold Ms.res;cases d with
 |none=>exact⟨B,H,U⟩
 |some d=>
  simp only;split
  .split
   .exact⟨B,H,W d _⟩
   .rw[B]
    refine⟨by simp[B],λi hi=>?_,W d _⟩
    by_cases Z:i<S.σ.length
    .rw[Az Z,Az (by omega)]
     exact H i Z
    .simp only[gDE]
     rw[gAR (by omega),gAR (by omega),B]
     exact Sub.refl _
  .exact⟨B,H,U⟩
theorem Cl.killP_v{r r':List Aa}{M:V->V}{h:Nat->AI->Bool}(B:Cr M (λid q=>h id q=false))(U:∀id q,h id q=false->(Ac r' id q).len=(Ac r id q).len)(y:Cl):Ak (M (y.v r)) ((y.killP h).v r'):=by
 cases y with
 |dead=>exact Ak.dead _
 |nil=>show Ak (M (.c _)) _;rw[B.m.c];exact Ak.refl _
 |nilp=>show Ak (M (.c _)) _;rw[B.m.c];exact Ak.refl _
 |nilf=>show Ak (M (.c _)) _;rw[B.m.c];exact Ak.refl _
 |nilm=>show Ak (M (.c _)) _;rw[B.m.c];exact Ak.refl _
 |raw _ _=>show Ak (M (.c _)) _;rw[B.m.c];exact Ak.refl _
 |c t d x=>
  have e:M (cV t d x)=cV t d x:=by
   cases t with
   |int k=>exact B.m.c _
   |bool=>exact B.m.c _
   |str=>exact B.m.c _
   |sl t=>exact B.m.nd _ _ _ _ _
   |ptr t=>exact B.m.nd _ _ _ _ _
   |unit=>exact B.m.dead
   |clo g u=>exact B.m.clo
   |osl u=>exact B.m.osl
   |mp a b=>exact B.m.mp _ _
   |pair a b=>exact B.m.dead
  show Ak (M (cV t d x)) (cV t d x);rw[e];exact Ak.refl _
 |rf id q=>
  show Ak (M (.rs id q 0 _)) ((bif h id q then Cl.dead else .rf id q).v r');cases H:h id q with
  |true=>exact Ak.dead _
  |false=>
   rw[B.rs id q _ _ H];show Ak _ (V.rs id q 0 (Ac r' id q).len);rw[U id q H];exact Ak.refl _
 |rs id q off len=>
  show Ak (M (.rs id q off len)) ((bif h id q then Cl.dead else .rs id q off len).v r');cases H:h id q with
  |true=>exact Ak.dead _
  |false=>rw[B.rs id q _ _ H];exact Ak.refl _
 |rm id q=>
  show Ak (M (.rm id q)) ((bif h id q then Cl.dead else .rm id q).v r');cases H:h id q with
  |true=>exact Ak.dead _
  |false=>rw[B.rm id q H];exact Ak.refl _
 |rp id q i k=>
  show Ak (M (.rp id q i k)) ((bif h id q then Cl.dead else .rp id q i k).v r');cases H:h id q with
  |true=>exact Ak.dead _
  |false=>rw[B.rp id q _ _ H];exact Ak.refl _
theorem Sl.killP_v{r r':List Aa}{M:V->V}{h:Nat->AI->Bool}(B:Cr M (λid q=>h id q=false))(U:∀id q,h id q=false->(Ac r' id q).len=(Ac r id q).len)(y:Sl):Ak (M (y.v r)) ((y.killP h).v r'):=by
 have key:∀(l:List Cl) (k:Nat),Ak (((l.map (Cl.v r)).map M).getD k .dead) (((l.map (Cl.killP h)).map (Cl.v r')).getD k .dead):=by
  intro l k;rw[map_map,map_map];exact BA (f:=λy=>M (y.v r)) (g:=λy=>(y.killP h).v r') B.m.dead rfl (λy=>Cl.killP_v B U y) k
 cases y with
 |one c=>exact Cl.killP_v B U c
 |new l=>
  show Ak (M (A3 true (l.map Cl.v0))) (A3 true (l.map Cl.v0));rw[show M (A3 true (l.map Cl.v0))=A3 true (l.map Cl.v0)from B.m.nd _ _ _ _ _]
  exact Ak.refl _
 |agg l=>
  show Ak (M (Ah _)) (Ah _);rw[Adt B.m];exact Ak.mk (by simp) λk _=>key l k
 |pk t l=>
  show Ak (M (pkL t _)) (pkL t _);rw[G_pk B.m];exact Ak.pk (by simp) λk _=>key l k
 |tup l=>
  show Ak (M (Dj _)) (Dj _);rw[AaB B.m];refine Ak.tup (by simp) λk H=>?_
  have H:k<l.length:=by simpa using H
  simp only[gDE,getElem?_map,gEE H,Option.map_some,Option.getD_some];generalize l[k]=p;obtain⟨b,m⟩:=p;cases b with
  |true=>
   show Ak (M (Ah (m.map (Cl.v r)))) (Ah ((m.map (Cl.killP h)).map (Cl.v r')));rw[Adt B.m];exact Ak.mk (by simp) λk _=>key m k
  |false=>
   have:=key m 0;cases m with
   |nil=>show Ak (M .dead) .dead;exact Ak.dead _
   |cons y m=>simpa using this
theorem Uv{q:AI}(h:Uw J id q=false):¬ (id∈J/\q≠[]):=by
 rintro ⟨H,B⟩
 unfold Uw at h;rw[show J.contains id=true by simpa using H]at h
 cases q with
 |nil=>exact B rfl
 |cons a q=>cases h
def DR:∀{l:List Nat},ndB l=true->l.Nodup
 |[],_=>List.nodup_nil
 |a::l,h=>by
  have h:(!l.contains a&&ndB l)=true:=h;rw[bAE,not_eq_true']at h;refine nodup_cons.2 ⟨λhm=>?_,DR h.2⟩
  rw[show l.contains a=true by simpa using hm]at h
  cases h.1
theorem OF{P:Program}{C:Ctx}{h:BW}{s s':St}{o:Oper}{f:FuncId}{ts:List (Nat×Ty)}{rs:List (Bool×Nat×Ty)}{J:List Nat}{x x2:(TM ts).T}{z:(RT rs).T}{args:List V}{cvs:Array Value}{a:Act}{w:World}{next:Act->World->Prop}{Q:Exit->Act->World->Prop}
  (hrun:(execOp a.eval o).run P w=.ok (.enter f cvs) w) (hc:∀D ρ F,CR C s.den.σ ((range h.n).map s.den.t) a.tmps w D ρ F->Adu (Calls P f cvs w) args ((AK ts x).map Aa.v) (Hj rs z) ((AK ts x2).map Aa.v) w D (λk=>ρ (J.getD k 0)) (λk b=>k<J.length/\F (J.getD k 0) b) cvs)
  (hb:ndB J=true/\HH rs=true) (hx:Is s ts J=some x) (hcs:cvs.size=args.length) (hd:∀d,o.dst=some d->d<h.n/\h.fz.contains d=false)
  (W:∀D ρ F,CR C s.den.σ ((range h.n).map s.den.t) a.tmps w D ρ F->(∀k,k<J.length->Sub (s.den.σ.getD (J.getD k 0) .dead) (((AK ts x).map Aa.v).getD k .dead))->∀i,i<args.length->Rel D w (Ae ((AK ts x).map Aa.v) (λk=>ρ (J.getD k 0)) w) (args.getD i .dead) (cvs.getD i undef) noF)
  (hp:(⟨λi=>(s.t i).killP (Uw J),D8 J (AK ts x2) s.r⟩:St).put h o.dst (Lo true rs z)=some s') (hs:AA C h.n s.den a w) (hn:∀a' w',Kp (λi=>decide (o.dst≠some i)) s s'->AA C h.n s'.den a' w'->next a' w'):o.wp P a w next Q:=by
 obtain⟨r1,r2⟩:=MJ hx;have hmem:∀j∈J,∃k,k<J.length/\J.getD k 0=j:=λj hj=>by
  obtain⟨k,B,rfl⟩:=List.getElem_of_mem hj;exact⟨k,B,by simp[B]⟩
 have H:∀j∈J,∃l,s.r.getD j .dead=.obj false l:=λj hj=>by
  obtain⟨k,B,rfl⟩:=hmem j hj;obtain⟨t,l,k1,_⟩:=r2 k B;exact⟨l,k1⟩
 have hlt:∀j∈J,j<s.r.length:=λj hj=>by
  obtain⟨l,Z⟩:=H j hj;rcases lt_or_ge j s.r.length with h|h
  .exact h
  .rw[gDE,getElem?_eq_none h]at Z;cases Z
 have hg:∀(ts:List (Nat×Ty)) (x:(TM ts).T) (k:Nat),((AK ts x).map Aa.v).getD k .dead=((AK ts x).getD k .dead).v:=λts x k=>Ai _ _
 have hs0:∀k,k<J.length->Sub (s.den.σ.getD (J.getD k 0) .dead) (((AK ts x).map Aa.v).getD k .dead):=λk B=>by
  obtain⟨t,l,_,_,k3,_⟩:=r2 k B;rw[hg];show Sub ((s.r.map Aa.v).getD (J.getD k 0) .dead) _;rw[Ai];exact k3
 have hl0:((AK ts x).map Aa.v).length=J.length:=by rw[length_map,Cx,r1]
 have hσl:s.den.σ.length=s.r.length:=length_map ..;refine Aar hs hrun hc hl0 hs0 (DR hb.1) (λj hj=>by rw[hσl];exact hlt j hj) (by rw[length_map,Cx,r1]) (λk B=>?_) hcs (λD ρ F hcr=>W D ρ F hcr hs0) hd λa' w' h2=>?_
 .obtain⟨t,l,k1,k2,_,k4⟩:=r2 k B
  obtain⟨l',k5,k6⟩:=k4 x2;refine⟨false,t.w,1,λi k=>([l.map Cl.v0].getD i []).getD k .dead,λi k=>([l'.map Cl.v0].getD i []).getD k .dead,?_,?_⟩
  .show(s.r.map Aa.v).getD (J.getD k 0) .dead=_
   rw[Ai,k1];show A3 true (l.map Cl.v0)=_;unfold A3;rw[length_map,k2]
  .rw[hg,k5]
   show A3 true (l'.map Cl.v0)=_;unfold A3;rw[length_map,k6]
 .have U:∀id q,Uw J id q=false->(Ac (D8 J (AK ts x2) s.r) id q).len=(Ac s.r id q).len:=by
   intro id q hh;by_cases hid:id∈J
   .have hq:q=[]:=Classical.byContradiction λhq=>Uv hh ⟨hid,hq⟩
    subst hq;refine Ov J _ _ id (λv hv=>?_) λj hj=>?_
    .obtain⟨k,B,rfl⟩:=List.getElem_of_mem hv
     have hk':k<ts.length:=by rw[Cx]at B;exact B
     obtain⟨t,l,_,_,_,k4⟩:=r2 k (by omega)
     obtain⟨l',k5,_⟩:=k4 x2;have:(AK ts x2).getD k .dead=(AK ts x2)[k]:=by simp[B]
     rw[<-this,k5];rfl
    .obtain⟨l,Z⟩:=H j hj
     rw[Z];rfl
   .unfold Ac
    rw[PQ _ _ _ _ hid]
  have hy:=Xe (r:=D8 J (AK ts x2) s.r) true rs z hb.2;rw[Ir]at hy
  obtain⟨m1,m2,m3⟩:=Zx (S:=s.den.turn J ((AK ts x2).map Aa.v)) (S':=St.den ⟨λi=>(s.t i).killP (Uw J),D8 J (AK ts x2) s.r⟩) (by
    show((D8 J (AK ts x2) s.r).map Aa.v).length=(DB J _ (s.r.map Aa.v)).length;rw[Q7]) (λi _=>by
    show Sub ((DB J _ (s.r.map Aa.v)).getD i .dead) (((D8 J (AK ts x2) s.r).map Aa.v).getD i .dead);rw[Q7];exact Sub.refl _) (λi=>Sl.killP_v (LJ λid q hh=>Uv hh) U (s.t i)) h o.dst (Hj rs z)
  have h3:=h2.sub m1 m2 m3;rw[<-hy]at h3;refine hn a' w' ?_ (AA.put hp h3)
  have k1:Kp (λ_=>true) s ⟨λi=>(s.t i).killP (Uw J),D8 J (AK ts x2) s.r⟩:=by
   refine⟨λi _ hi=>Sl.killP_stay hi _,λid _ hro=>?_,?_⟩
   .refine PQ _ _ _ _ λhm=>?_
    obtain⟨l,Z⟩:=H id hm;rw[Z]at hro;cases hro
   .show s.r.length<=(D8 J (AK ts x2) s.r).length
    rw[Jk];exact le_refl _
  exact k1.trans (Ou hp) (λ_ _=>rfl) λi hi=>hi
theorem ZL{C:Ctx}{M:List EnM}{A:Pj}{u:A.α}{a:Act}{w:World}{next:Act->World->Prop}{Q:Exit->Act->World->Prop}(hM:∀e∈M,e.OK P)(hm:Acp M h s o=some A)(hu:A.o=some u)(hp:(A.st u).put h o.dst (A.y u)=some s')
  (hs:AA C h.n s.den a w) (hn:∀a' w',Kp (λi=>decide (o.dst≠some i)) s s'->AA C h.n s'.den a' w'->next a' w'):o.wp P a w next Q:=by
 unfold Acp at hm;split at hm
 case h_1=>cases hm
 obtain⟨hd,hm⟩:=A1 hm;split at hm
 case h_2=>cases hm
 rename_i f ys hf;obtain⟨e,he,rfl,H⟩:=NY hm;obtain⟨B,hft⟩:=hM e he;unfold My at H;obtain⟨hb,H⟩:=A1 H;rw[bAE]at hb;split at H
 case h_2=>cases H
 rename_i z x Z hx;cases H;have hu:e.g z x=some u:=hu;have hfc:=hft z x u hu;obtain⟨cvs,U,hcs,W⟩:=Aas hf B hs;refine OF U (λD ρ F _=>hfc.calls _ _ _ _ _) hb hx (by rw[hcs,length_map,DJ _ _ _ Z]) (λd hdd=>?_) (λD ρ F hcr hs0 i hi=>?_) hp hs hn
 .rw[hdd]at hd
  simp only[bAE,not_eq_true']at hd;exact⟨blE hd.1,hd.2⟩
 .have hi:i<ys.length:=by
   rw[length_map,DJ _ _ _ Z]at hi;exact hi
  obtain⟨y,hy,h3⟩:=MK (σ0:=(AK e.S.ts x).map Aa.v) (ρ:=ρ) (ρ0:=λk=>ρ ((AcE e ys).getD k 0)) (w:=w) (D:=D) (λi p j k cv hi hr=>by
   obtain⟨hid,s1,sz,n,f,b,o,cap,ha,r⟩:=hr;obtain⟨f',ha'⟩:=At.sub' (hs0 i hi) ha;have hl0:((AK e.S.ts x).map Aa.v).length=(AcE e ys).length:=by rw[length_map,Cx,(MJ hx).1]
   exact⟨by omega,s1,sz,n,f',b,o,cap,ha',r⟩) _ _ _ Z i hi
  have:=h3 _ (W D ρ F hcr i y hy);rw[Aw (f:=Sl.v []) (a:=.one .dead) rfl];exact this
end Go.Ve

