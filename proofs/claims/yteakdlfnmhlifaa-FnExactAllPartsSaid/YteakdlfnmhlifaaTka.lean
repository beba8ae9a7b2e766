/- The typed machine. -/
import Derived.Test.YteakdlfnmhlifaaTj
import Derived.Test.YteakdlfnmhlifaaTu
import Derived.Test.YteakdlfnmhlifaaVwa
import Derived.Test.YteakdlfnmhlifaaTd
open List(length_map range map_congr_left getElem?_set_ne getElem?_eq_none mem_cons_self mem_cons map_cons nodup_cons mem_map singleton_inj any_map map_map getElem?_map map_set length_set length_append)
open Nat(beq ble beq_refl le_refl blt lt_or_ge not_lt one_pos)
open Bool(not_eq_true')
set_option linter.all false
namespace Go.Ve
variable{p:AG}{r r':Ab}{h:Cd}{c:Cl}{d i id j k:Nat}{g:Nat->Bool}{v x:Option Sl}{ti:Option TI}{P:Program}{y:Sl}{s s' s1:St}{Θ:Tab}
theorem W8{C:Ctx}{N:Nat}(hΘ:Θ.OK P){s s':St}{o:Oper}{t:TypeId}{x v:Operand}{a:Act}{w:World}{next:Act->World->Prop}{Q:Exit->Act->World->Prop}
  (ho:o.op=.store t x v) (hdst:o.dst=none) (h:I2 s (Θ.look t) (s.ev x) (s.ev v)=some s') (hs:AN C N s.den a w) (hn:∀a' w',AN C N s'.den a' w'->next a' w'):o.wp P a w next Q:=by
 obtain⟨hd,Z,D,ρ,F,u⟩:=hs;unfold I2 at h;split at h
 case h_2=>cases h
 rename_i ti id p i k y hti hx hv;split at h
 case h_2=>cases h
 rename_i l hl;obtain⟨hb,h⟩:=A1 h;simp only[bAE]at hb;obtain⟨⟨h1,h2⟩,h3⟩:=hb;have h1:=bqE h1;have h2:=blE h2;have hnsz:=Cg h3;obtain⟨hpl,hcv,_⟩:=CW (r:=s.r) hl;obtain⟨d,tii,z,hdt,hit,hz,his,_⟩:=CZ (hΘ.ty hti);simp only at his;have H:=Bq u Z x;rw[Bd hx]at H;have H:Rel D w (Ai s.den.σ ρ w) (.rp id p i k) (a.eval x) noF:=H;obtain⟨s0,sz,n,f,b,o',cap,hid,ha,hi,hk,had,_,hns,_,_⟩:=JZ u.wr H.1;have hrv:=Bq u Z v;rw[Bd hv]at hrv;obtain⟨⟨O,B⟩,_⟩:=Cc (λv cv h=>Ai.one h) hpl hrv
 rw[hcv]at O B;have hlen:(l.map (Cl.v s.r)).length=l.length:=length_map ..
 have hcr2:CR C s.den.σ ((range N).map s.den.t++ .rp id p i k::l.map (Cl.v s.r)) (a.tmps.toList++ .pointer (some ⟨b,(o'+i*sz)+k,none⟩)::(a.eval v).cells.toList).toArray w D ρ F:=by
  have U:a.tmps.size=N:=by simpa using u.sz
  refine⟨u.wr,by simp[U,O],λj hj=>?_,u.fr,u.Fn,u.D1,u.D2,u.rt,u.ml⟩
  by_cases W:j<N
  .rw[AB (by simpa using W)]
   have h1:=u.tm j (by simpa using W)
   have e:(a.tmps.toList++ .pointer (some ⟨b,(o'+i*sz)+k,none⟩)::(a.eval v).cells.toList).toArray.getD j undef=a.tmps.getD j undef:=by
    simp[gAL,U,W]
   rw[e];exact h1
  .obtain⟨m,rfl⟩:∃m,j=N+m:=⟨j-N,by omega⟩
   have e1:((range N).map s.den.t++ .rp id p i k::l.map (Cl.v s.r)).getD (N+m) .dead=(.rp id p i k::l.map (Cl.v s.r)).getD m .dead:=by
    simp[gAR]
   have e2:(a.tmps.toList++ .pointer (some ⟨b,(o'+i*sz)+k,none⟩)::(a.eval v).cells.toList).toArray.getD (N+m) undef=(.pointer (some ⟨b,(o'+i*sz)+k,none⟩)::(a.eval v).cells.toList).getD m undef:=by
    simp only[Array.getD_eq_getD_getElem?,List.getElem?_toArray,gDE];rw[gAR (by simp;omega)]
    simp[U]
   rw[e1,e2];cases m with
   |zero=>rw[had]at H;exact H
   |succ m=>
    simp at hj;have:=B m (by simpa using hj)
    simpa using this
 obtain⟨w',hrun,hdd',hcr3⟩:=Vt (P:=P) l.length l (a.eval v).cells.toList 0 s s' w ρ F hcr2 (by simpa using u.sz) Z (by simpa using O) (by show k+0+l.length<=AY (s.r.map Ab.v) id p;rw[hnsz];omega) h
 have hsv:(storeVar t ⟨b,(o'+i*sz)+k,none⟩ (a.eval v)).run P w=.ok () w':=by
  simp only[storeVar,Sem.run_bind,sizeOf,typeInfo];have e:(a.eval v).cells.size=ti.ty.w:=by rw[O,hlen,h1]
  simp[hit,his,hrun,e]
 have hex:(execOp a.eval o).run P w=.ok .skip w':=by
  unfold execOp;rw[ho];simp[Instr.storeAt,had,Instr.sureAddr,hsv]
 unfold Oper.wp;rw[hex,Oper.upon_skip,hdst];exact hn a w' ⟨hd,hdd',hcr3⟩
structure PD where
 p:Prop
 dec:Decidable p
def X8:AG->AG->Option PD
 |[],[]=>some ⟨True,inferInstance⟩
 |(i,k)::p,(j,l)::q=>bif beq k l then(match X8 p q with
  |some c=>some ⟨(i<=j/\j<=i)/\c.p,@instDecidableAnd _ _ inferInstance c.dec⟩
  |none=>none)else none
 |_,_=>none
def Jy:∀(p q:AG) (c:PD),X8 p q=some c->c.p->p=q
 |[],[],_,_,_=>rfl
 |(i,k)::p,(j,l)::q,c,h,hc=>by
  unfold X8 at h;cases e:beq k l with
  |false=>grind
  |true=>
   rw[e]at h;split at h
   case h_2=>grind
   rename_i c' u;cases h;rw[bqE e,Jy p q c' u hc.2,Nat.le_antisymm hc.1.1 hc.1.2]
 |[],_::_,_,h,_=>by cases h
 |_::_,[],_,h,_=>by cases h
structure PtR where
 p:Prop
 dec:Decidable p
 s:St
variable{A:PtR}
def Xf(s:St):Option TI->Option Sl->Option Sl->Option PtR
 |some ti,some (.one (.rp id p i k)),some (.one (.rs id' q off len))=>bif beq id' id&&beq ti.ty.w 1&&ble (k+1) (Ac s.r id p).w&&(Ac s.r id p).live then(match X8 q (p++[(i,k)])with
  |some c=>match Ac s.r id q with
   |.arr false t d xs=>match(s.r.getD id .dead).setAt p i k (.c (.sl t) (d+1) (VG off len xs t.dflt))with
    |some r0=>some ⟨c.p,c.dec,⟨λx=>(s.t x).kill id ((p++[(i,k)]).map (·.2)) [],s.r.set id r0⟩⟩
    |none=>none
   |_=>none
  |none=>none)else none
 |_,_,_=>none
theorem ZR{C:Ctx}{N:Nat}(hΘ:Θ.OK P){s:St}{o:Oper}{t:TypeId}{x v:Operand}{a:Act}{w:World}{next:Act->World->Prop}{Q:Exit->Act->World->Prop}{A:PtR}
  (ho:o.op=.store t x v) (hdst:o.dst=none) (h:Xf s (Θ.look t) (s.ev x) (s.ev v)=some A) (hp:A.p) (hs:AN C N s.den a w) (hn:∀a' w',AN C N A.s.den a' w'->next a' w'):o.wp P a w next Q:=by
 obtain⟨hd,hdd,D,ρ,F,B⟩:=hs;unfold Xf at h;split at h
 case h_2=>cases h
 rename_i ti id p i k id' q off len hti hx hv;obtain⟨hb,h⟩:=A1 h;simp only[bAE]at hb;obtain⟨⟨⟨h0,h1⟩,h2⟩,h3⟩:=hb;have h0:=bqE h0;subst h0;have h1:=bqE h1;have h2:=blE h2;split at h
 case h_2=>cases h
 rename_i c hc;split at h
 case h_2=>cases h
 rename_i u d xs hnode;split at h
 case h_2=>cases h
 rename_i r0 hset;cases h;obtain rfl:=Jy _ _ _ hc hp;have hnsz:=Cg h3;obtain⟨d1,tii,z,hdt,hity,hz,his,_⟩:=CZ (hΘ.ty hti);simp only at his;have O:=Bq B hdd x;rw[Bd hx]at O;have O:Rel D w (Ai s.den.σ ρ w) (.rp id' p i k) (a.eval x) noF:=O;obtain⟨s0,sz,n,f,b,o',cap,hid,ha,hi,hk,had,_,hns,_,_⟩:=JZ B.wr O.1;have U:=Bq B hdd v;rw[Bd hv]at U;have U:Rel D w (Ai s.den.σ ρ w) (.rs id' (p++[(i,k)]) off len) (a.eval v) noF:=U;have hone:(a.eval v).oneCell'=true:=Ai.one U.1;have Z:a.tmps.size=N:=by simpa using B.sz
 have hcr2:CR C s.den.σ ((range N).map s.den.t++V.rp id' p i k::[V.rs id' (p++[(i,k)]) off len]) (a.tmps.toList++Value.pointer (some ⟨b,(o'+i*sz)+k,none⟩)::[a.eval v]).toArray w D ρ F:=by
  refine⟨B.wr,by simp[Z],λj hj=>?_,B.fr,B.Fn,B.D1,B.D2,B.rt,B.ml⟩
  by_cases hjt:j<N
  .rw[AB (by simpa using hjt)]
   have h1:=B.tm j (by simpa using hjt)
   have e:(a.tmps.toList++Value.pointer (some ⟨b,(o'+i*sz)+k,none⟩)::[a.eval v]).toArray.getD j undef=a.tmps.getD j undef:=by
    simp[gAL,Z,hjt]
   rw[e];exact h1
  .obtain⟨m,rfl⟩:∃m,j=N+m:=⟨j-N,by omega⟩
   have e1:((range N).map s.den.t++V.rp id' p i k::[V.rs id' (p++[(i,k)]) off len]).getD (N+m) .dead=([V.rp id' p i k,V.rs id' (p++[(i,k)]) off len]:List V).getD m .dead:=by
    simp[gAR]
   have e2:(a.tmps.toList++Value.pointer (some ⟨b,(o'+i*sz)+k,none⟩)::[a.eval v]).toArray.getD (N+m) undef=([Value.pointer (some ⟨b,(o'+i*sz)+k,none⟩),a.eval v]:List Value).getD m undef:=by
    simp only[Array.getD_eq_getD_getElem?,List.getElem?_toArray,gDE];rw[gAR (by simp;omega)]
    simp[Z]
   rw[e1,e2];simp at hj
   match m with
   |0=>rw[had]at O;exact O
   |1=>exact U
   |m+2=>omega
 have hnode2:sub (p++[(i,k)]) (s.den.σ.getD id' .dead)=arr true u.w (tyV u d) u.dflt xs:=by
  have:=AS (r:=s.r) (id:=id') (p:=p++[(i,k)]) (by rw[hnode];simp)
  rw[hnode]at this;exact this
 obtain⟨X,hX⟩:∃X:V,X=.nd true true u.w len λa b=>(tyV u d (xs.getD (a+off) u.dflt)).getD b .dead:=⟨_,rfl⟩
 have hput:MX id' p i k (.rs id' (p++[(i,k)]) off len) [] s.den.σ (λcs' σ2 G2=>σ2=s.den.σ.set id' (upd (p++[(i,k)]) (s.den.σ.getD id' .dead) X)/\G2=AI id' (p++[(i,k)])):=by
  unfold MX;simp only[hnode2,arr];rw[if_pos ⟨trivial,trivial⟩];refine⟨?_,trivial⟩;rw[hX]
 obtain⟨G2,σ2,b1,o1,ρ1,F1,⟨y,hy⟩,hfz,h1c,⟨ofs,had1,hoff⟩,hGm,⟨hσ2,hGG⟩,hns1,hcr1⟩:=IB hcr2 (by simpa using Z) (by show k<AY (s.r.map Ab.v) id' p;rw[hnsz];omega) hput
 subst hσ2;subst hGG;simp only[Value.pointer.injEq,Option.some.injEq,Addr.mk.injEq,and_true]at had1;obtain⟨rfl,had1⟩:=had1;obtain rfl:ofs=o'+i*sz:=by omega
 have hidr:id'<s.r.length:=by simpa [St.den]using hid
 have hG:GOK (AI id' (p++[(i,k)])) id' ((p++[(i,k)]).map (·.2)) []:=GOK.kill
 have hlen:∀W q2,hit id' ((p++[(i,k)]).map (·.2)) [] W q2=false->(Ac (s.r.set id' r0) W q2).len=(Ac s.r W q2).len:=by
  intro W q2 hh;by_cases he:W=id'
  .subst he
   rw[Bz hidr];refine Jb p _ _ hset q2 ?_;cases hp2:pre ((p++[(i,k)]).map (·.2)) q2 with
   |false=>rfl
   |true=>
    unfold hit at hh;rw[beq_refl,hp2]at hh;cases hh
  .rw[A9 he]
 have hsub:∀j,Sub ((s.den.σ.set id' (upd (p++[(i,k)]) (s.den.σ.getD id' .dead) X)).getD j .dead) (((s.r.set id' r0).map Ab.v).getD j .dead):=λj=>by
  refine CD ?_ j;show Sub (upd (p++[(i,k)]) ((s.r.map Ab.v).getD id' .dead) X) r0.v;rw[Ak];refine HS ?_ p _ _ hset;rw[hX];show Sub _ (arr true u.w (tyV u d) u.dflt (VG off len xs u.dflt));unfold arr;have hl:(VG off len xs u.dflt).length=len:=by simp[VG]
  rw[hl];refine⟨_,rfl,λa2 b2 ha2 hb2=>?_⟩
  have e:(VG off len xs u.dflt).getD a2 u.dflt=xs.getD (a2+off) u.dflt:=by
   simp[VG,ha2,Nat.add_comm]
  rw[e];exact Sub.refl _
 have hs':AN C N (St.den ⟨λx=>(s.t x).kill id' ((p++[(i,k)]).map (·.2)) [],s.r.set id' r0⟩) a (w.setCell ⟨b,o1,none⟩ (a.eval v)):=by
  have kv:=λj=>Sl.kill_v hG hlen (s.t j)
  refine⟨hd,λj hj=>?_,D,ρ1,F1,?_⟩
  .have h2:(s.t j).v s.r=.dead:=hdd j hj
   have h1:=kv j;rw[h2,hG.m.dead]at h1;exact An.of_dead h1
  .have hcr3:=hcr1.left (by simpa using Z)
   have e3:(a.tmps.toList).toArray=a.tmps:=by simp
   rw[e3]at hcr3;refine hcr3.sub (by simp[St.den]) (λj _=>hsub j) (by simp) λj hj=>?_
   have hj:j<N:=by simpa using hj
   have:=kv j;simpa [hj,St.den]using this
 have hsv:(storeVar t ⟨b,(o'+i*sz)+k,none⟩ (a.eval v)).run P w=.ok () (w.setCell ⟨b,o1,none⟩ (a.eval v)):=by
  have H:(a.eval v).cells.toList=[a.eval v]:=by
   have:=(Rel.cells1 U (λ_ _ h=>Ai.one h) rfl).1
   rw[this]
  simp only[storeVar,Sem.run_bind,sizeOf,typeInfo];have e:(a.eval v).cells.size=ti.ty.w:=by rw[h1,<-Array.length_toList,H];rfl
  have ea:(⟨b,(o'+i*sz)+k,none⟩:Addr).add 0=⟨b,o1,none⟩:=by rw[A3 rfl,hoff];rfl
  have hrun:(storeCells ⟨b,(o'+i*sz)+k,none⟩ (a.eval v).cells.toList 0).run P w=.ok () (w.setCell ⟨b,o1,none⟩ (a.eval v)):=by
   rw[H];simp only[storeCells,Sem.run_bind,ea];rw[run_store P w _ _ .plain hone,hy];simp only[hfz,Bool.false_eq_true,if_false];rfl
  simp[hity,his,hrun,e]
 have hex:(execOp a.eval o).run P w=.ok .skip (w.setCell ⟨b,o1,none⟩ (a.eval v)):=by
  unfold execOp;rw[ho];simp[Instr.storeAt,had,Instr.sureAddr,hsv]
 unfold Oper.wp;rw[hex,Oper.upon_skip,hdst];exact hn a _ hs'
def Cl.stay:Cl->Bool
 |.rf _ _=>false
 |.rs _ _ _ _=>false
 |.rp _ _ _ _=>false
 |.rm _ _=>false
 |_=>true
def Sl.stay:Sl->Bool
 |.one y=>y.stay
 |.new _=>true
 |.agg l=>l.all Cl.stay
 |.pk _ l=>l.all Cl.stay
 |.tup l=>l.all λp=>p.2.all Cl.stay
theorem AH{α:Type}{f:α->α}{l:List α}(h:∀y∈l,f y=y):l.map f=l:=by
 have:=map_congr_left h
 simp_all
theorem Sl.chk_stay(h:y.stay=true)(m:Nat):y.chk m=y:=by
 have c1:∀y:Cl,y.stay=true->y.chk m=y:=by intro y h;cases y<;>first|rfl|cases h
 cases y with
 |one y=>exact congrArg Sl.one (c1 y h)
 |new l=>rfl
 |agg l=>exact congrArg Sl.agg (AH λy e=>c1 y (aET.1 h y e))
 |pk t l=>exact congrArg (Sl.pk t) (AH λy e=>c1 y (aET.1 h y e))
 |tup l=>
  refine congrArg Sl.tup (AH λp u=>?_)
  obtain⟨b,m⟩:=p;exact congrArg (Prod.mk b) (AH λy e=>c1 y (aET.1 (aET.1 h _ u) y e))
theorem Sl.kill_stay(h:y.stay=true)(id:Nat)(ks:List Nat)(j:Mv):y.kill id ks j=y:=by
 have c1:∀y:Cl,y.stay=true->y.kill id ks j=y:=by intro y h;cases y<;>first|rfl|cases h
 cases y with
 |one y=>exact congrArg Sl.one (c1 y h)
 |new l=>rfl
 |agg l=>exact congrArg Sl.agg (AH λy e=>c1 y (aET.1 h y e))
 |pk t l=>exact congrArg (Sl.pk t) (AH λy e=>c1 y (aET.1 h y e))
 |tup l=>
  refine congrArg Sl.tup (AH λp u=>?_)
  obtain⟨b,m⟩:=p;exact congrArg (Prod.mk b) (AH λy e=>c1 y (aET.1 (aET.1 h _ u) y e))
def Ab.isRo:Ab->Bool
 |.obj ro _=>ro
 |.arr ro _ _ _=>ro
 |.opt ro _ _ _=>ro
 |.mp ro _ _ _=>ro
 |.dead=>true
theorem Ny{e:Ab}{q:AG}(h:Nz r q=some e):r.isRo=false:=by
 unfold Nz at h;split at h
 case h_2=>grind
 split at h
 case h_3=>grind
 .rfl
 rfl
structure Kp(g:Nat->Bool)(s s':St):Prop where
 t:∀i,g i=true->(s.t i).stay=true->s'.t i=s.t i
 r:∀id,id<s.r.length->(s.r.getD id .dead).isRo=true->s'.r.getD id .dead=s.r.getD id .dead
 l:s.r.length<=s'.r.length
def Kp.refl(g:Nat->Bool)(s:St):Kp g s s:=⟨λ_ _ _=>rfl,λ_ _ _=>rfl,le_refl _⟩
theorem Kp.trans{g1 g2:Nat->Bool}{W:St}(u:Kp g1 s s1)(U:Kp g2 s1 W)(O:∀i,g i=true->g1 i=true)(H:∀i,g i=true->g2 i=true):Kp g s W:=by
 refine⟨λi hi hs=>?_,λid Z B=>?_,Nat.le_trans u.l U.l⟩
 .have e:=u.t i (O i hi) hs
  rw[U.t i (H i hi) (by grind),e]
 .have e:=u.r id Z B
  rw[U.r id (Nat.lt_of_lt_of_le Z u.l) (by grind),e]
def Kp.weak{e:Nat->Bool}(h:Kp e s s')(u:∀i,g i=true->e i=true):Kp g s s':=⟨λi hi=>h.t i (u i hi),h.r,h.l⟩
def A5{t:Nat->Sl}(h:i≠d):AJ t d y i=t i:=by
 unfold AJ;rw[BK h];rfl
theorem Uw{d:Option Nat}(u:s.put h d y=some s'):(∃new,s'.r=s.r++new)/\(∀i,d≠some i->(s.t i).stay=true->s'.t i=s.t i)/\(s'.r=s.r->∀i,d≠some i->s'.t i=s.t i):=by
 unfold St.put at u;cases d with
 |none=>simp_all
 |some d=>
  simp only at u;cases O:blt d h.n with
  |false=>grind
  |true=>
   rw[O]at u;simp only[cond_true]at u;cases H:h.fz.contains d with
   |true=>
    rw[H]at u;split at u
    .cases u
     exact⟨⟨[],by simp⟩,λi hi _=>A5 λe=>hi (by rw[e]),λ_ i hi=>A5 λe=>hi (by rw[e])⟩
    .cases u
   |false=>
    rw[H]at u;simp only[cond_false,Option.some.injEq]at u;subst u;unfold St.add;split
    .exact⟨⟨[],by simp⟩,λi hi _=>A5 λe=>hi (by rw[e]),λ_ i hi=>A5 λe=>hi (by rw[e])⟩
    .rename_i q new _
     refine⟨⟨q::new,rfl⟩,λi hi B=>?_,λU=>?_⟩
     .show AJ (λi=>(s.t i).chk s.r.length) d (y.prom s.r.length).1 i=s.t i
      rw[A5 (λe=>hi (by rw[e]))]
      exact Sl.chk_stay B _
     grind
theorem OH{d:Option Nat}(u:s.put h d y=some s'):Kp (λi=>decide (d≠some i)) s s':=by
 obtain⟨⟨new,H⟩,ht,_⟩:=Uw u;refine⟨λi hi e=>ht i (of_decide_eq_true hi) e,λid O B=>?_,by grind⟩
 grind
theorem Lu(h:r.setCell i k c=some r'):r.isRo=false:=by
 cases r with
 |dead=>cases h
 |opt=>cases h
 |mp=>cases h
 |obj ro l=>cases ro with
  |true=>cases h
  |false=>rfl
 |arr ro t d xs=>cases ro with
  |true=>cases h
  |false=>rfl
theorem Hk(h:r.setAt p i k c=some r'):r.isRo=false:=by
 cases p with
 |nil=>exact Lu h
 |cons a p=>
  unfold Ab.setAt at h;split at h
  .split at h
   .exact Lu h
   grind
  grind
theorem ZP{r r':List Ab}{j:Mv}(h:PQ id p i k c r=some (r',j)):∀id',(r.getD id' .dead).isRo=true->r'.getD id' .dead=r.getD id' .dead:=by
 intro id' u
 have key:∀x r0 y,(r.getD id .dead).setAt p i k y=some r0->(r.set id x).getD id' .dead=r.getD id' .dead:=by
  intro x r0 y B;have:id'≠id:=by
   rintro rfl
   rw[Hk B]at u;cases u
  simp only[gDE,getElem?_set_ne (Ne.symm this)]
 unfold PQ at h;split at h
 .rename_i j'
  cases H:beq j' id with
  |true=>rw[H]at h;cases h
  |false=>
   rw[H]at h;simp only[cond_false]at h;split at h
   case h_2=>cases h
   rename_i t d xs hj;split at h
   case h_2=>cases h
   rename_i r0 B;cases h;have:id'≠j':=by rintro rfl;rw[hj]at u;cases u
   have e:((r.set id r0).set j' .dead).getD id' .dead=(r.set id r0).getD id' .dead:=by
    simp only[gDE,getElem?_set_ne (Ne.symm this)]
   rw[e];exact key _ _ _ B
 .rename_i j' a q
  cases H:beq j' id with
  |true=>rw[H]at h;cases h
  |false=>
   rw[H]at h;simp only[cond_false]at h;split at h
   case h_2=>cases h
   rename_i t d xs hj;split at h
   case h_2=>cases h
   rename_i r1 r0 O B;cases h;have Z:id'≠j':=by
    rintro rfl
    rw[Ny O]at u;cases u
   have W:id'≠id:=by
    rintro rfl
    rw[Hk B]at u;cases u
   simp only[gDE,getElem?_set_ne (Ne.symm W)];rcases lt_or_ge id' r.length with h3|h3
   .rw[gAL (by simpa using h3),getElem?_set_ne (Ne.symm Z)]
   .rw[getElem?_eq_none (l:=r) h3]
    by_cases U:id'=r.length
    .subst U
     rw[gAR (by simp)]
     simp
    .rw[getElem?_eq_none (by simp;omega)]
 .rename_i j'
  cases H:beq j' id with
  |true=>rw[H]at h;cases h
  |false=>
   rw[H]at h;simp only[cond_false]at h;split at h
   case h_2=>cases h
   rename_i kt vt xs hj;split at h
   case h_2=>cases h
   rename_i r0 B;cases h;have:id'≠j':=by rintro rfl;rw[hj]at u;cases u
   have e:((r.set id r0).set j' .dead).getD id' .dead=(r.set id r0).getD id' .dead:=by
    simp only[gDE,getElem?_set_ne (Ne.symm this)]
   rw[e];exact key _ _ _ B
 .obtain⟨H,h⟩:=A1 h
  split at h
  case h_2=>cases h
  rename_i r0 B;cases h;exact key _ _ _ B
theorem Acf:∀(m k:Nat) (cs:List Cl) (s s':St),ZQ id p i m k cs s=some s'->Kp (λ_=>true) s s':=by
 intro m
 induction m with
 |zero=>intro k cs s s' h;cases cs<;>cases h;exact Kp.refl _ _
 |succ m u=>
  intro k cs s s' h;cases cs with
  |nil=>cases h;exact Kp.refl _ _
  |cons c cs=>
   unfold ZQ at h;split at h
   case h_2=>grind
   rename_i r' H e;refine Kp.trans ⟨λx _ B=>Sl.kill_stay B _ _ _,λid' _=>ZP e id',by obtain⟨_,_,_,_,_,O,_⟩:=Xe e [];grind⟩ (u _ _ _ _ h) (λ_ _=>rfl) λ_ _=>rfl
theorem W9(h:I2 s ti x v=some s'):Kp (λ_=>true) s s':=by
 unfold I2 at h;split at h
 case h_2=>grind
 split at h
 case h_2=>grind
 rename_i ti id p i k y _ l u;cases e:(beq l.length ti.ty.w&&ble (k+ti.ty.w) (Ac s.r id p).w&&(Ac s.r id p).live)with
 |false=>grind
 |true=>rw[e]at h;exact Acf _ _ _ _ _ h
theorem ZS(h:Xf s ti x v=some A):Kp (λ_=>true) s A.s:=by
 unfold Xf at h;split at h
 case h_2=>cases h
 rename_i ti id p i k id' q off len;cases O:(beq id' id&&beq ti.ty.w 1&&ble (k+1) (Ac s.r id p).w&&(Ac s.r id p).live)with
 |false=>grind
 |true=>
 rw[O]at h;split at h
 case h_2=>cases h
 split at h
 case h_2=>cases h
 split at h
 case h_2=>cases h
 rename_i r0 e;cases h;refine⟨λj _ hj=>Sl.kill_stay hj _ _ _,λu H B=>?_,by simp⟩
 have:u≠id:=by
  rintro rfl
  rw[Hk e]at B;grind
 grind
theorem Sl.kH_stay(h:y.stay=true)(r:List Ab)(j:Nat):y.kH r j=y:=by
 cases y with
 |one c=>
  cases c with
  |rf=>cases h
  |rs=>cases h
  |rp=>cases h
  |rm=>cases h
  |_=>rfl
 |new=>rfl
 |agg=>exact Sl.kill_stay h j [] []
 |tup=>exact Sl.kill_stay h j [] []
 |pk=>exact Sl.kill_stay h j [] []
theorem L7:∀(js:List Nat) (s:St),(∀j∈js,(s.r.getD j .dead).isRo=false\/s.r.getD j .dead=.dead)->Kp (λ_=>true) s (Am js s)
 |[],s,_=>Kp.refl _ _
 |j::js,s,h=>by
  have O:Kp (λ_=>true) s (Jo j s):=by
   refine⟨λi _ hi=>Sl.kH_stay hi _ _,λid u H=>?_,by rw[KE];simp⟩
   by_cases e:j=id
   .subst e
    rcases h j (mem_cons_self ..)with h2|h2
    .grind
    .show(s.r.set j .dead).getD j .dead=_
     rw[h2];simp[u]
   .exact DR e
  refine O.trans (L7 js (Jo j s) λi hi=>?_) (λ_ _=>rfl) λ_ _=>rfl
  by_cases B:i=j
  .subst B
   right;show(s.r.set i .dead).getD i .dead=.dead
   grind
  .have:(Jo j s).r.getD i .dead=s.r.getD i .dead:=DR (Ne.symm B)
   grind
def KD(js:List Nat)(s:St)(h:∀j∈js,(s.r.getD j .dead).isRo=false):Kp (λ_=>true) s (Am js s):=L7 js s λj hj=>.inl (h j hj)
def Sl.gv_stay(h:y.stay=true)(r:List Ab)(j:Nat)(z:Cl):y.gv r j z=y:=by
 unfold Sl.gv;split
 .cases h
 .exact Sl.kH_stay h r j
theorem AaF(h:YM j s=some s'):Kp (λ_=>true) s s':=by
 obtain⟨l,t,x,hj,B,O,rfl⟩:=LY h;refine⟨λi _ hi=>Sl.gv_stay hi _ _ _,λid H u=>DR λe=>?_,by simp⟩
 rw[<-e,B]at u
 trivial
theorem YL(h:Pb j s=some s'):Kp (λ_=>true) s s':=by
 unfold Pb at h;split at h
 case h_2=>cases h
 rename_i t d0 xs U;cases h;have B:∀y:Sl,y.stay=true->y.gvS s.r j (.c (.sl t) 0 xs)=y:=by
  intro y H;have O:=Sl.gv_stay H s.r j (.c (.sl t) 0 xs);cases y with
  |one c=>cases c<;>first|exact O|cases H
  |_=>exact O
 refine⟨λi _ hi=>B _ hi,λid W u=>DR λe=>?_,by simp⟩
 rw[<-e,U]at u;cases u
def JC:∀(xs:List Operand) {s s':St},Pa xs s=some s'->Kp (λ_=>true) s s'
 |[],s,s',h=>by cases h;exact Kp.refl _ _
 |x::xs,s,s',h=>by
  unfold Pa at h;split at h
  .split at h
   case h_2=>grind
   rename_i e;exact(AaF e).trans (JC xs h) (λ_ _=>rfl) λ_ _=>rfl
  .exact JC xs h
theorem Sl.mapC_stay(h:y.stay=true)(id:Nat)(q:AG)(m:Nat):y.mapC (Cl.rr id q m)=y:=by
 have c1:∀y:Cl,y.stay=true->y.rr id q m=y:=by intro y h;cases y<;>first|rfl|cases h
 cases y with
 |one y=>exact congrArg Sl.one (c1 y h)
 |new l=>rfl
 |agg l=>exact congrArg Sl.agg (AH λy e=>c1 y (aET.1 h y e))
 |pk t l=>exact congrArg (Sl.pk t) (AH λy e=>c1 y (aET.1 h y e))
 |tup l=>
  refine congrArg Sl.tup (AH λp u=>?_)
  obtain⟨b,m⟩:=p;exact congrArg (Prod.mk b) (AH λy e=>c1 y (aET.1 (aET.1 h _ u) y e))
theorem Nx(h:AbK s x=some s'):Kp (λ_=>true) s s':=by
 unfold AbK at h;split at h
 case h_2=>cases h;exact Kp.refl _ _
 rename_i id b H
 have key:∀(u R:Ab),Nz (s.r.getD id .dead) (b::H)=some u->Kp (λ_=>true) s ⟨λi=>(s.t i).mapC (Cl.rr id (b::H) s.r.length),s.r.set id u++[R]⟩:=by
  intro u R e;refine⟨λi _ hi=>Sl.mapC_stay hi _ _ _,λid' U B=>?_,by simp⟩
  have O:id'≠id:=by
   rintro rfl
   rw[Ny e]at B;grind
  grind
 split at h
 case h_2=>cases h;exact Kp.refl _ _
 grind
theorem Sl.mapK_stay(h:y.stay=true)(id:Nat)(q:AG)(m:Nat):y.mapC (Cl.rk id q m)=y:=by
 have c1:∀y:Cl,y.stay=true->y.rk id q m=y:=by intro y h;cases y<;>first|rfl|cases h
 cases y with
 |one y=>exact congrArg Sl.one (c1 y h)
 |new l=>rfl
 |agg l=>exact congrArg Sl.agg (AH λy e=>c1 y (aET.1 h y e))
 |pk t l=>exact congrArg (Sl.pk t) (AH λy e=>c1 y (aET.1 h y e))
 |tup l=>
  refine congrArg Sl.tup (AH λp u=>?_)
  obtain⟨b,m⟩:=p;exact congrArg (Prod.mk b) (AH λy e=>c1 y (aET.1 (aET.1 h _ u) y e))
theorem Ady{x:Operand}(h:cutO s x=some s'):Kp (λ_=>true) s s':=by
 unfold cutO at h;split at h
 case h_2=>exact Nx h
 rename_i y;split at h
 case h_2=>exact Nx h
 rename_i id b q1 H;split at h
 case h_2=>exact Nx h
 rename_i Z t d v u hn;cases h;refine⟨λi _ hi=>?_,λid' U B=>?_,by simp⟩
 .show(bif beq i y then Sl.one (.rf s.r.length [])else(s.t i).mapC _)=s.t i
  cases W:beq i y with
  |false=>exact Sl.mapK_stay hi _ _ _
  |true=>
   have e:=bqE W;subst e;rw[H]at hi;trivial
 .have O:id'≠id:=by
   rintro rfl
   rw[Ny u]at B;grind
  grind
theorem QP{t:Ty}{y:Option Sl}{ys:List t.T}{js:List Nat}(h:Wz s t id y=some (d,ys,js)):∀j∈js,(s.r.getD j .dead).isRo=false:=by
 replace h:=(Y8 h).1
 unfold Wy at h;split at h
 case h_4=>cases h
 .grind
 .rename_i j q
  split at h
  case h_2=>cases h
  rename_i ro H O e u;split at h
  case isFalse=>cases h
  cases B:beq j id with
  |true=>rw[B]at h;cases h
  |false=>
   rw[B]at h;simp only[cond_false]at h;cases hd:beq t.dep 0 with
   |true=>rw[hd]at h;cases h;intro j hj;cases hj
   |false=>
    rw[hd]at h;simp only[cond_false]at h;split at h
    case h_2=>cases h
    cases ro with
    |true=>cases h
    |false=>
     cases h;intro i hi;simp at hi;subst hi;have u:s.r.getD i .dead=.arr false H d e:=u;rw[u];rfl
 grind
theorem VF{i:Option TI}{y:Option Sl}{A:LR}(h:JR s i x y=some A):∀j∈A.js,(s.r.getD j .dead).isRo=false:=by
 unfold JR at h;split at h
 .cases h
 rename_i ti;obtain⟨U,h⟩:=A1 h;split at h
 case h_3=>cases h
 .split at h
  case h_2=>cases h
  rename_i e;cases h;exact QP e
 .split at h
  case h_2=>cases h
  rename_i O d xs B;split at h
  case isFalse=>cases h
  rename_i u;subst u;split at h
  case h_2=>cases h
  rename_i W ys js e;obtain⟨H,h⟩:=A1 h;cases h;intro j hj;rcases mem_cons.1 hj with rfl|hj
  .rw[B];rfl
  .exact QP e j hj
theorem Acn(wr:∀{l m:List Cl}{js:List (Option Nat)},K4 s.r l=some (m,js)->∀j∈Wh js,(s.r.getD j .dead).isRo=false){n:Nat}{ps:List (Nat×Option Sl)}{i:Option TI}{A:LR}(h:tBSM s n ps i=some A):∀j∈A.js,(s.r.getD j .dead).isRo=false:=by
 unfold tBSM at h;split at h
 case h_2=>grind
 grind
def Jt{r:List Ab}:∀{l m:List Cl}{js:List (Option Nat)},K4 r l=some (m,js)->∀j∈Wh js,(r.getD j .dead).isRo=false
 |[],m,js,h=>by cases h;intro j hj;cases hj
 |y::l,m,js,h=>by
  unfold K4 at h;split at h
  .rename_i u;cases u
  .rename_i id U u
   cases u;split at h
   case h_2=>cases h
   rename_i t d xs e;split at h
   case h_2=>cases h
   rename_i O B H;cases h;intro j hj;rcases mem_cons.1 hj with rfl|hj
   .rw[e];rfl
   .exact Jt H j hj
  .rename_i id k U u
   cases u;split at h
   case h_2=>cases h
   rename_i cl e;split at h
   case h_2=>cases h
   split at h
   case h_2=>cases h
   rename_i O B H;cases h;intro j hj;rcases mem_cons.1 hj with rfl|hj
   .rw[e];rfl
   .exact Jt H j hj
  .rename_i Z U W u
   cases u;cases hi:y.imm with
   |false=>grind
   |true=>
    rw[hi]at h;split at h
    case h_2=>cases h
    rename_i O B H;cases h;exact λj hj=>Jt (l:=l) H j hj
theorem Od{u:Ty}{xs:List u.T}(h:r.setPath p u d xs=some r'):r.isRo=false:=by
 unfold Ab.setPath at h;split at h
 .split at h
  .rfl
  grind
 .exact Hk h
theorem Ls{id:Nat}:∀(LD:List (Dh×Nat)) (ys:List (Σ t:Ty,t.T)) (r r':List Ab),Db LD ys r=some r'->(r.getD id .dead).isRo=true->r'.getD id .dead=r.getD id .dead
 |[],[],r,r',h,_=>by cases h;rfl
 |(a,d)::LD,⟨.sl u,xs⟩::ys,r,r',h,hro=>by
  unfold Db at h;split at h
  case h_2=>grind
  rename_i x H;have B:a.1≠id:=λe=>by rw[<-e,Od H]at hro;grind
  rw[Ls LD ys _ _ h (by grind),DR B]
 |[],_::_,_,_,h,_=>by cases h
 |_::_,[],_,_,h,_=>by cases h
 |_::_,⟨.int _,_⟩::_,_,_,h,_=>by cases h
 |_::_,⟨.bool,_⟩::_,_,_,h,_=>by cases h
 |_::_,⟨.str,_⟩::_,_,_,h,_=>by cases h
 |_::_,⟨.unit,_⟩::_,_,_,h,_=>by cases h
 |_::_,⟨.ptr _,_⟩::_,_,_,h,_=>by cases h
 |_::_,⟨.clo _ _,_⟩::_,_,_,h,_=>by cases h
 |_::_,⟨.osl _,_⟩::_,_,_,h,_=>by cases h
 |_::_,⟨.mp _ _,_⟩::_,_,_,h,_=>by cases h
 |_::_,⟨.pair _ _,_⟩::_,_,_,h,_=>by cases h
theorem Sl.killP_stay(h:y.stay=true)(f:Nat->AG->Bool):y.killP f=y:=by
 have c1:∀y:Cl,y.stay=true->y.killP f=y:=by intro y h;cases y<;>first|rfl|cases h
 cases y with
 |one y=>exact congrArg Sl.one (c1 y h)
 |new l=>rfl
 |agg l=>exact congrArg Sl.agg (AH λy e=>c1 y (aET.1 h y e))
 |pk t l=>exact congrArg (Sl.pk t) (AH λy e=>c1 y (aET.1 h y e))
 |tup l=>
  refine congrArg Sl.tup (AH λp u=>?_)
  obtain⟨b,m⟩:=p;exact congrArg (Prod.mk b) (AH λy e=>c1 y (aET.1 (aET.1 h _ u) y e))
theorem Xl{Γ:List EnW}{f:FuncId}{xs:List (Option Sl)}{A:Zn}{u:A.α}(O:N6 Γ s f xs=some A)(B:A.st u=some s1):Kp (λ_=>true) s s1:=by
 unfold N6 at O;split at O
 case h_2=>grind
 rename_i e he;split at O
 case h_2=>grind
 rename_i z LD Z;cases W:Mq (LD.map (·.1))with
 |false=>grind
 |true=>
 rw[W]at O;cases O
 have B:(match Db LD (wOf (Dp e.S.ps) u.2) s.r with
  |some r'=>some ⟨λi=>(s.t i).killP (AaA (LD.map (·.1)) s.r.length),r'⟩
  |none=>none)=some s1:=B
 split at B
 case h_2=>grind
 rename_i r' H;cases B;exact⟨λi _ hi=>Sl.killP_stay hi _,λid _ U=>Ls LD _ _ _ H U,by
  rw[(JW _ _ _ _ H).1];simp⟩
def AdU:List Operand->St->Option St
 |[],s=>some s
 |x::xs,s=>match cutO s x with
  |some s'=>AdU xs s'
  |none=>none
def YZ{C:Ctx}{N:Nat}{a:Act}{w:World}:∀(xs:List Operand) {s s':St},AdU xs s=some s'->AN C N s.den a w->AN C N s'.den a w
 |[],s,s',h,hs=>by cases h;grind
 |x::xs,s,s',h,hs=>by
  unfold AdU at h;split at h
  case h_2=>grind
  rename_i e;exact YZ xs h (Adx e hs)
def Y0:∀(xs:List Operand) {s s':St},AdU xs s=some s'->Kp (λ_=>true) s s'
 |[],s,s',h=>by cases h;exact Kp.refl _ _
 |x::xs,s,s',h=>by
  unfold AdU at h;split at h
  case h_2=>grind
  rename_i e;exact(Ady e).trans (Y0 xs h) (λ_ _=>rfl) λ_ _=>rfl
end Go.Ve


namespace Go.Ve
variable{r:List Ab}{Y:List Nat}{m:Nat}{p:Nat×Nat}{y:Sl}{s s1:St}
def backs:List (Nat×Nat)->Ms->Ms
 |[],S=>S
 |p::B,S=>backs B ⟨AD S.t p.1 (MQ p.2 (S.t p.1)),S.σ.set p.2 (S.t p.1)⟩
def Ld(v:V):Prop:=∃s sz n f,v=.nd s true sz n f/\(s=false->0<sz/\n=1)
def PR.backs{C:Ctx}{N:Nat}{a:Act}{w:World}{D:Nat->Prop}{ρ:Nat->Value}:∀(B:List (Nat×Nat)) (t:Nat->V) (σ:List V) (F:Nat->Nat->Prop) (T:Nat->Nat->Prop),PR C N σ ρ F t a w D T->
  (B.map (·.1)).Nodup->(B.map (·.2)).Nodup->(∀p∈B,p.1<N/\p.2<σ.length/\σ.getD p.2 .dead=.dead/\a.tmps.getD p.1 undef=ρ p.2/\Ld (t p.1))->
  ∃F' T',PR C N (Go.Ve.backs B ⟨t,σ⟩).σ ρ F' (Go.Ve.backs B ⟨t,σ⟩).t a w D T'/\∀x b,T' x b->T x b/\x∉B.map (·.1)
 |[],t,σ,F,T,h,_,_,_=>⟨F,T,h,λx b u=>⟨u,by simp⟩⟩
 |p::B,t,σ,F,T,h,hn1,hn2,hB=>by
  obtain⟨h1,h2,h3,h4,s,sz,n,f,Z,W⟩:=hB p (mem_cons_self ..);have u:=h.back2 h1 h2 h3 Z W h4;rw[map_cons,nodup_cons]at hn1 hn2;obtain⟨F',T',O,U⟩:=PR.backs B _ _ _ _ u hn1.2 hn2.2 λq H=>by
   obtain⟨g1,g2,g3,g4,g5⟩:=hB q (mCM _ H);have e1:q.1≠p.1:=λe=>hn1.1 (e▸mem_map.2 ⟨q,H,rfl⟩)
   have e2:q.2≠p.2:=λe=>hn2.1 (e▸mem_map.2 ⟨q,H,rfl⟩)
   refine⟨g1,by simpa using g2,?_,g4,?_⟩
   .refine Eq.trans ?_ g3
    simp only[gDE];rw[getElem?_set_ne (Ne.symm e2)]
   .simp[AD,e1,if_false]
    exact g5
  refine⟨F',T',O,λx b u=>?_⟩
  obtain⟨k1,k2⟩:=U x b u;refine⟨k1.2,?_⟩;rw[map_cons,mem_cons];exact λh=>h.elim k1.1 k2
def Abv:List Cl->Nat
 |[]=>0
 |.c t d _::l=>bif ble (PC d t.dep) (Abv l)then Abv l else PC d t.dep
 |_::l=>Abv l
def sameD(D:Nat):Cl->Bool
 |.c t d _=>beq (PC d t.dep) (PC D t.dep)
 |_=>false
theorem Adp(D:Nat):∀(l:List Cl) (y:Dy),DH l=some y->l.all (sameD D)=true->tyV y.t D y.x=l.map Cl.v0:=by
 intro l
 induction l with
 |nil=>intro y h _;cases h;rfl
 |cons a l U=>
  intro y h e;rw[List.all_cons,bAE]at e;unfold DH at h;split at h
  case h_2=>cases h
  rename_i t d x;have u:=bqE e.1;rw[IJ,IJ]at u;obtain⟨W,h⟩:=A1 h;have B:[cV t d x]=tyV t D x:=by rw[Bh W,Mk u]
  split at h
  .cases h
   exact B.symm
  .rename_i b l'
   split at h
   case h_2=>cases h
   rename_i O H Z;cases h;show tyV t D x++tyV O D H=cV t d x::_;rw[U _ Z e.2,<-B];rfl
def Cm(s:St)(y:Nat):Option Nat:=match s.t y with
 |.one (.rf id [])=>match s.r.getD id .dead with
  |.arr false _ _ _=>some id
  |_=>none
 |.one (.rp id [] 0 0)=>match s.r.getD id .dead with
  |.obj false l=>match DH l with
   |some _=>bif l.all (sameD (Abv l))&& !beq l.length 0 then some id else none
   |none=>none
  |_=>none
 |_=>none
def Abo(s:St)(y:Nat):Sl:=match s.t y with
 |.one (.rf id [])=>match s.r.getD id .dead with
  |.arr false t d xs=>.one (.c (.sl t) (d+1) xs)
  |_=>.one .dead
 |.one (.rp id [] 0 0)=>match s.r.getD id .dead with
  |.obj false l=>match DH l with
   |some ⟨t,x⟩=>.one (.c (.ptr t) (Abv l+1) x)
   |none=>.one .dead
  |_=>.one .dead
 |_=>.one .dead
def Wj(s:St):List Nat->Option (List Nat)
 |[]=>some []
 |y::l=>match Cm s y with
  |some id=>match Wj s l with
   |some m=>some (id::m)
   |none=>none
  |none=>none
def ndB:List Nat->Bool
 |[]=>true
 |a::l=>!l.contains a&&ndB l
def KF(Y:List Nat)(s:St):Option St:=match Y with
 |[]=>some s
 |Y=>match Wj s Y with
  |some e=>bif ndB e then some ⟨λi=>bif Y.contains i then Abo s i else(Am e s).t i,(Am e s).r⟩else none
  |none=>none
theorem AaG{c:Cl}(h:c.own=false):frz c.v0=c.v0:=by
 cases c with
 |c t d x=>
  cases t with
  |int k=>rfl
  |bool=>rfl
  |str=>rfl
  |unit=>rfl
  |pair a b=>rfl
  |sl t=>cases d with
   |zero=>exact singleton_inj.1 (Be (.sl t) 0 x)
   |succ d=>cases h
  |ptr t=>cases d with
   |zero=>exact singleton_inj.1 (Be (.ptr t) 0 x)
   |succ d=>cases h
  |clo g t=>exact singleton_inj.1 (Be (.clo g t) 0 x)
  |mp a b=>cases d with
   |zero=>exact singleton_inj.1 (Be (.mp a b) 0 x)
   |succ d=>cases h
  |osl t=>cases d with
   |zero=>exact singleton_inj.1 (Be (.osl t) 0 x)
   |succ d=>cases x with
    |none=>rfl
    |some y=>cases h
 |_=>rfl
theorem Cf{y id:Nat}(h:Cm s y=some id):(s.r.getD id .dead).isRo=false/\(s.t y).stay=false/\Ld (s.r.getD id .dead).v/\(∀r,(Abo s y).v r=(s.r.getD id .dead).v)/\(s.t y).v s.r=MQ id (s.r.getD id .dead).v:=by
 unfold Cm at h;split at h
 case h_3=>cases h
 .rename_i id' u
  split at h
  case h_2=>cases h
  rename_i t d xs B;cases h;rw[B];refine⟨rfl,by rw[u];rfl,⟨true,_,_,_,rfl,λh=>by cases h⟩,λr=>?_,?_⟩
  .unfold Abo
   rw[u];simp only[B];show arr (decide (0<d+1)) t.w (tyV t (d+1-1)) t.dflt xs=arr true t.w (tyV t d) t.dflt xs;simp
  .rw[u]
   show V.rs id [] 0 (Ac s.r id []).len=_
   have:(Ac s.r id []).len=xs.length:=by
    show(s.r.getD id .dead).len=_;rw[B];rfl
   rw[this];rfl
 .rename_i id' u
  split at h
  case h_2=>cases h
  rename_i l B;split at h
  case h_2=>cases h
  rename_i D O;obtain⟨H,h⟩:=A1 h;cases h;rw[bAE,not_eq_true']at H;have U:0<l.length:=by
   rcases Nat.eq_zero_or_pos l.length with e|e
   .rw[e]at H;cases H.2
   .exact e
  rw[B];refine⟨rfl,by rw[u];rfl,⟨false,_,_,_,rfl,λ_=>⟨by simpa using U,rfl⟩⟩,λr=>?_,?_⟩
  .obtain⟨t,x⟩:=D
   unfold Abo;rw[u];simp only[B,O];show A8 (decide (0<Abv l+1)) (tyV t (Abv l+1-1) x)=A8 true (l.map Cl.v0);have W:tyV t (Abv l) x=l.map Cl.v0:=Adp _ _ _ O H.1;rw[Nat.add_sub_cancel,W,dT (Nat.succ_pos _)]
  .rw[u];rfl
theorem Kv{s:St}:∀{Y e:List Nat},Wj s Y=some e->(∀y∈Y,∃id∈e,Cm s y=some id)/\(∀id∈e,∃y∈Y,Cm s y=some id)
 |[],e,h=>by cases h;simp
 |y::Y,e,h=>by
  unfold Wj at h;split at h
  case h_2=>grind
  split at h
  case h_2=>grind
  rename_i m u;obtain⟨H,B⟩:=Kv u
  grind
theorem Yh{s:St}:∀{Y e:List Nat},Wj s Y=some e->ndB e=true->∀x∈Y,∀y∈Y,∀id,Cm s x=some id->Cm s y=some id->x=y
 |[],_,_,_,x,hx,_,_,_,_,_=>by cases hx
 |z::Y,e,h,H,x,hx,y,hy,id,h1,h2=>by
  unfold Wj at h;split at h
  case h_2=>cases h
  rename_i B Z;split at h
  case h_2=>cases h
  rename_i m U;cases h;have H:(!m.contains B&&ndB m)=true:=H;rw[bAE,not_eq_true']at H;have out:∀u∈Y,Cm s u≠some B:=by
   intro u W he;obtain⟨i,hi,hi2⟩:=(Kv U).1 u W
   grind
  by_cases ex:x=z
  .grind
  .have O:x∈Y:=(mem_cons.1 hx).resolve_left ex
   by_cases ey:y=z
   .grind
   .exact Yh U H.2 x O y ((mem_cons.1 hy).resolve_left ey) id h1 h2
theorem Pm{C:Ctx}{N:Nat}{a:Act}{w:World}(h:KF Y s=some s1)(hs:AN C N s.den a w){w':World}(hB:Below w.heap.size w w'):
  ∃D ρ F T,PR C N s1.den.σ ρ F s1.den.t a w' D T/\(∀x b,T x b->x∈Y)/\∀x id,x<N->Cm s x=some id->a.tmps.getD x undef=ρ id:=by
 obtain⟨hdf,hdd,D0,ρ0,F0,hcr0⟩:=hs;obtain⟨D,ρ,F,B⟩:=hcr0.below hB;have hsz:a.tmps.size=N:=by simpa using B.sz
 have base:∀{s1:St}{F1:Nat->Nat->Prop},CR C s1.den.σ ((range N).map s1.den.t) a.tmps w' D ρ F1->(∀x,N<=x->s1.den.t x=.dead)->PR C N s1.den.σ ρ F1 s1.den.t a w' D (λ_=>noF):=by
  intro s1 F1 hc hd;refine⟨hdf,hsz,hd,hc.wr,λx W=>?_,λ_ _ h=>h.elim,λ_ _ _ _ h=>h,λ_ _ _ _ h=>h.elim,λ_ _ h=>h.elim,hc.fr,hc.Fn,hc.D1,hc.D2,hc.rt,hc.ml,λ_ _ _ h=>h⟩
  have h1:=hc.tm x (by simpa using W)
  rw[AP W]at h1;exact h1
 have hval:∀x id,x<N->Cm s x=some id->a.tmps.getD x undef=ρ id:=by
  intro x id W Z;obtain⟨g1,g2,⟨s0,sz0,n0,f0,g3,g4⟩,g5,g6⟩:=Cf Z;have hr:=B.tm x (by simpa using W)
  rw[AP W]at hr;have e0:s.den.t x=MQ id (s.r.getD id .dead).v:=g6;rw[e0]at hr;have e3:s.den.σ.getD id .dead=(s.r.getD id .dead).v:=Ak _ _;have hlt:id<s.r.length:=by
   rcases lt_or_ge id s.r.length with h|h
   .exact h
   .rw[gDE,getElem?_eq_none h]at g1;cases g1
  have H:=B.wr.rel id (by simpa [St.den]using hlt)
  rw[e3]at H;exact XN g3 g4 (by rw[e3]) H hr
 unfold KF at h;split at h
 .cases h
  exact⟨D,ρ,F,λ_=>noF,base B hdd,λ_ _ h=>h.elim,hval⟩
 split at h
 case h_2=>cases h
 rename_i O hids;obtain⟨hn,h⟩:=A1 h;cases h;obtain⟨v1,v2⟩:=Kv hids;have hlt:∀j∈O,j<s.r.length:=by
  intro j hj;obtain⟨y,_,hy⟩:=v2 j hj;have hr:=(Cf hy).1;rcases lt_or_ge j s.r.length with h|h
  .exact h
  .rw[gDE,getElem?_eq_none h]at hr;cases hr
 obtain⟨F1,hcr1,hF1⟩:=Cr O B hlt;have hp:=base (s1:=Am O s) hcr1 (BY O hdd);have hYN:∀y∈Y,y<N:=by
  intro y hy;obtain⟨id,_,hi⟩:=v1 y hy;obtain⟨_,_,⟨s0,_,_,_,h1,_⟩,_,h2⟩:=Cf hi;rcases lt_or_ge y N with h|h
  .exact h
  .have:=hdd y h
   have e:(s.t y).v s.r=.dead:=this;rw[h2,h1]at e;cases s0<;>cases e
 have hnot:∀{x:Nat},x∉Y->Y.contains x=false:=by
  intro x W;cases hc:Y.contains x with
  |false=>rfl
  |true=>exact absurd (by simpa using hc) W
 refine⟨D,ρ,F1,λx b=>x∈Y/\∃id,Cm s x=some id/\F id b,⟨hdf,hsz,λx W=>?_,hp.wr,λx W=>?_,λx b U=>?_,λi x b U hT=>?_,λx y b hxy h1 h2=>?_,λx b U=>?_,hp.fr,hp.Fn,hp.D1,hp.D2,hp.rt,hp.ml,λx b W U=>?_⟩,λx b U=>U.1,hval⟩
 .have u:x∉Y:=λh=>absurd (hYN x h) (not_lt.2 W)
  show(bif Y.contains x then Abo s x else(Am O s).t x).v _=.dead;rw[hnot u];exact BY O hdd x W
 .by_cases u:x∈Y
  .obtain⟨id,hi,Z⟩:=v1 x u
   obtain⟨g1,g2,⟨s0,sz0,n0,f0,g3,g4⟩,g5,g6⟩:=Cf Z;have hc:Y.contains x=true:=by simpa using u
   show Rel D _ _ ((bif Y.contains x then Abo s x else(Am O s).t x).v _) (a.tmps.getD x undef) _;rw[hc,cond_true,g5];have hr:=B.tm x (by simpa using W)
   rw[AP W]at hr;have e0:s.den.t x=MQ id (s.r.getD id .dead).v:=g6;rw[e0]at hr;have e3:s.den.σ.getD id .dead=(s.r.getD id .dead).v:=Ak _ _;have H:=B.wr.rel id (by simpa [St.den]using hlt id hi)
   rw[e3]at H;have ecv:a.tmps.getD x undef=ρ id:=XN g3 g4 (by rw[e3]) H hr
   rw[ecv];refine Rel.fp_congr (λb=>⟨λU=>⟨u,id,Z,U⟩,fun⟨_,i,hi,U⟩=>?_⟩) (Rel.noR_mono H)
   rw[Z]at hi;cases hi;exact U
  .show Rel D _ _ ((bif Y.contains x then Abo s x else(Am O s).t x).v _) (a.tmps.getD x undef) _
   rw[hnot u,cond_false];exact Rel.fp_congr (λb=>⟨λh=>h.elim,λh=>absurd h.1 u⟩) (hp.tm x W)
 .obtain⟨_,id,_,U⟩:=U
  exact B.wr.dD id b U
 .obtain⟨u,id,Z,hb2⟩:=hT
  obtain⟨g1,g2⟩:=hF1 i b U;obtain⟨id',hi',he⟩:=v1 x u;rw[Z]at he;cases he;exact B.wr.disj i id b (λe=>g2 (e▸hi')) g1 hb2
 .obtain⟨u,id1,hid1,hb1⟩:=h1
  obtain⟨hyY,id2,hid2,hb2⟩:=h2;by_cases e:id1=id2
  .subst e
   exact hxy (Yh hids hn x u y hyY id1 hid1 hid2)
  .exact B.wr.disj id1 id2 b e hb1 hb2
 .obtain⟨_,id,_,U⟩:=U
  exact B.Fn id b U
 .exact absurd (hYN x U.1) (not_lt.2 W)
theorem Pn(h:KF Y s=some s1):Kp (λ_=>true) s s1:=by
 unfold KF at h;split at h
 .cases h;exact Kp.refl _ _
 split at h
 case h_2=>grind
 rename_i e u;cases hn:ndB e with
 |false=>grind
 |true=>
 rw[hn]at h;cases h;obtain⟨W,U⟩:=Kv u;have B:=KD e s λj hj=>by
  obtain⟨y,_,Z⟩:=U j hj;exact(Cf Z).1
 refine⟨λi hi O=>?_,B.r,B.l⟩
 have hiY:i∉Y:=by
  intro h;obtain⟨id,_,H⟩:=W i h;rw[(Cf H).2.1]at O;grind
 show(bif Y.contains i then Abo s i else(Am e s).t i)=s.t i;have hc:Y.contains i=false:=by
  grind
 rw[hc];exact B.t i hi O
def St.promA:List (Option Nat)->St->St
 |[],s=>s
 |none::ds,s=>St.promA ds s
 |some d::ds,s=>bif(s.t d).own then St.promA ds (s.add d ((s.t d).prom s.r.length))else St.promA ds s
theorem An.trans:∀{v v' e:V},An v v'->An v' e->An v e:=by
 have dd:∀e,An .dead e->e=.dead:=by
  intro e h;rcases h with h|h
  .exact h
  trivial
 intro v
 induction v with
 |many t n f H=>
  intro v' e h u;rcases h with rfl|⟨g,rfl,h⟩
  .rw[dd _ u];exact An.dead _
  .rcases u with rfl|⟨U,rfl,u⟩
   .exact An.dead _
   .exact .inr ⟨U,rfl,λk B=>H k (h k B) (u k B)⟩
 |c v=>
  intro v' e h u;rcases h with rfl|h
  .rw[dd _ u];exact An.dead _
  .rcases h with rfl|⟨rfl,own,sz,f,rfl⟩
   .grind
   .rcases u with rfl|u
    .exact An.dead _
    .exact .inr (Sub.trans (.inr ⟨rfl,own,sz,f,rfl⟩) u)
 |dead=>grind
 |nd s own sz n f _=>
  intro v' e h u;rcases h with rfl|h
  .rw[dd _ u];exact An.dead _
  .have O:=h
   obtain⟨g,rfl,_⟩:=h;rcases u with rfl|u
   .exact An.dead _
   .exact .inr (Sub.trans O u)
 |rs id p off len=>
  intro v' e h u;rcases h with rfl|h
  .rw[dd _ u];exact An.dead _
  .subst h
   grind
 |rm id p=>
  intro v' e h u;rcases h with rfl|h
  .rw[dd _ u];exact An.dead _
  .subst h
   grind
 |mp own l=>
  intro v' e h u;rcases h with rfl|h
  .rw[dd _ u];exact An.dead _
  .cases h
   exact u
 |rp id p i k=>
  intro v' e h u;rcases h with rfl|h
  .rw[dd _ u];exact An.dead _
  .subst h
   exact u
structure Aa5(ds:List (Option Nat))(S:Ms)(s:St):Prop where
 σ:S.σ=s.den.σ
 t:∀i,An (S.t i) (s.den.t i)
 o:∀i,some i∈ds->((s.t i).own=true->(s.t i).stay=true)/\(S.t i=s.den.t i\/((s.t i).own=false/\AK (S.t i)=false))
theorem Xr(h:y.stay=true)(r r':List Ab):y.v r=y.v r':=by
 have c1:∀y:Cl,y.stay=true->y.v r=y.v r':=by intro y h;cases y<;>first|rfl|cases h
 have cl:∀l:List Cl,l.all Cl.stay=true->l.map (Cl.v r)=l.map (Cl.v r'):=λl h=>map_congr_left λy e=>c1 y (aET.1 h y e)
 cases y with
 |one y=>exact c1 y h
 |new l=>rfl
 |agg l=>exact congrArg Ag (cl l h)
 |pk t l=>exact congrArg (pkL t) (cl l h)
 |tup l=>
  refine congrArg Dq (map_congr_left λp u=>?_)
  rw[cl p.2 (aET.1 h p u)]
theorem AcM(y:Sl)(m:Nat):(y.chk m).own=y.own:=by
 have c1:∀y:Cl,(y.chk m).own=y.own:=by
  intro y;cases y with
  |rf id p=>show(bif blt id m then Cl.rf id p else .dead).own=_;cases blt id m<;>rfl
  |rs id p a b=>show(bif blt id m then Cl.rs id p a b else .dead).own=_;cases blt id m<;>rfl
  |rp id p a b=>show(bif blt id m then Cl.rp id p a b else .dead).own=_;cases blt id m<;>rfl
  |_=>rfl
 have cl:∀l:List Cl,(l.map (Cl.chk m)).any Cl.own=l.any Cl.own:=by
  grind
 cases y with
 |one y=>exact c1 y
 |new l=>rfl
 |agg l=>exact cl l
 |pk t l=>exact cl l
 |tup l=>
  show(l.map _).any _=l.any _;rw[any_map]
  congr 1
  funext p
  obtain⟨b,l⟩:=p;cases b with
  |true=>grind
  |false=>
   cases l with
   |nil=>rfl
   |cons y l=>exact c1 y
theorem Qh:AK ((y.prom m).1.v r)=false:=by
 have B:∀(e m:Nat) (y:Cl),((y.prom e m).1).own=false:=by
  intro e m y;cases y with
  |c t d x=>cases t<;>cases d<;>first|rfl|(cases x<;>rfl)|(show(bif blt 0 _ then(Cl.rp m [] 0 0,_)else(Cl.dead,_)).1.own=false;cases blt 0 _<;>rfl)
  |rf id p=>show(bif blt id e then Cl.rf id p else .dead).own=_;cases blt id e<;>rfl
  |rs id p a b=>show(bif blt id e then Cl.rs id p a b else .dead).own=_;cases blt id e<;>rfl
  |rp id p a b=>show(bif blt id e then Cl.rp id p a b else .dead).own=_;cases blt id e<;>rfl
  |_=>rfl
 have u:∀(e:Nat) (l:List Cl) (m:Nat),((B4 e m l).1).any Cl.own=false:=by
  intro e l
  induction l with
  |nil=>intro m;rfl
  |cons y l H=>intro m;show(((y.prom e m).1).own||((B4 e _ l).1).any Cl.own)=false;rw[B,H];rfl
 have O:∀(e:Nat) (l:List (Bool×List Cl)) (m:Nat),((DD e m l).1).any (λp=>if p.1 then p.2.any Cl.own else(p.2.getD 0 .dead).own)=false:=by
  intro e l
  induction l with
  |nil=>intro m;rfl
  |cons p l H=>
   intro m;show((if(ID e m p).1.1 then(ID e m p).1.2.any Cl.own else((ID e m p).1.2.getD 0 .dead).own)||((DD e _ l).1).any _)=false
   rw[H,Bool.or_false];obtain⟨b,l⟩:=p;cases b with
   |true=>exact u e l m
   |false=>exact B e m _
 rw[Sl.own_v];cases y with
 |one y=>exact B m m y
 |new l=>show(bif blt 0 l.length then(Sl.one (.rp m [] 0 0),[Ab.obj false l])else(.one .dead,[])).1.own=false;cases blt 0 l.length<;>rfl
 |agg l=>exact u m l m
 |pk t l=>exact u m l m
 |tup l=>exact O m l m
theorem pn:∀(v:V) (m:Nat),AK (Go.Ve.prom v m).1=false:=by
 have B:∀(g:Nat->Nat->V×List V),(∀k m,AK (g k m).1=false)->∀n m,∀x∈(BO g n m).1,AK x=false:=by
  intro g H n m
  induction n with
  |zero=>intro x e;cases e
  |succ n u=>
   intro x e;unfold BO at e
   grind
 intro v
 induction v with
 |many t n f u=>
  intro m;show((range n).any λk=>AK ((BO (λk=>Go.Ve.prom (f k)) n m).1.getD k .dead))=false
  rw[List.any_eq_false];intro k _;have h:=B (λk=>Go.Ve.prom (f k)) (λk m=>u k m) n m
  rw[gDE];cases e:(BO (λk=>Go.Ve.prom (f k)) n m).1[k]? with
  |none=>trivial
  |some x=>grind
 |nd s own sz n f _=>
  intro m;cases own with
  |false=>cases s<;>rfl
  |true=>cases s with
   |true=>rfl
   |false=>
    show AK (if 0<sz then(V.rp m [] 0 0,[V.nd false true sz n f])else(.dead,[])).1=false
    split<;>rfl
 |mp own l=>intro m;cases own<;>rfl
 |_=>intro m;rfl
theorem J8:∀(ds:List (Option Nat)) (S:Ms) (s:St),Aa5 ds S s->(∀i,An ((Go.Ve.promA ds S).t i) ((s.promA ds).den.t i))/\(Go.Ve.promA ds S).σ=(s.promA ds).den.σ:=by
 intro ds
 induction ds with
 |nil=>intro S s h;exact⟨h.t,h.σ⟩
 |cons d ds ih=>
  intro S s h;have B:∀i,some i∈ds->some i∈d::ds:=λi hi=>mCM _ hi
  cases d with
  |none=>exact ih S s ⟨h.σ,h.t,λi hi=>h.o i (B i hi)⟩
  |some d=>
   show(∀i,An ((if AK (S.t d)then Go.Ve.promA ds ⟨AD S.t d (Go.Ve.prom (S.t d) S.σ.length).1,S.σ++(Go.Ve.prom (S.t d) S.σ.length).2⟩else Go.Ve.promA ds S).t i) ((bif(s.t d).own then St.promA ds (s.add d ((s.t d).prom s.r.length))else St.promA ds s).den.t i))/\
    (if AK (S.t d)then Go.Ve.promA ds ⟨AD S.t d (Go.Ve.prom (S.t d) S.σ.length).1,S.σ++(Go.Ve.prom (S.t d) S.σ.length).2⟩else Go.Ve.promA ds S).σ=(bif(s.t d).own then St.promA ds (s.add d ((s.t d).prom s.r.length))else St.promA ds s).den.σ
   obtain⟨_,hd⟩:=h.o d (mem_cons_self ..);cases ho:(s.t d).own with
   |false=>
    have:AK (S.t d)=false:=by
     rcases hd with e|e
     .rw[e];show AK ((s.t d).v s.r)=false;rw[Sl.own_v,ho]
     .exact e.2
    rw[this];exact ih S s ⟨h.σ,h.t,λi hi=>h.o i (B i hi)⟩
   |true=>
    have e:S.t d=(s.t d).v s.r:=by
     rcases hd with e|e
     .exact e
     .rw[ho]at e;cases e.1
    have:AK (S.t d)=true:=by rw[e,Sl.own_v,ho]
    rw[this];have hl:S.σ.length=s.r.length:=by rw[h.σ];show(s.r.map Ab.v).length=_;exact length_map ..
    obtain⟨a1,a2⟩:=Zg (s:=s) (d:=d) (y:=s.t d)
    have Z:(s.add d ((s.t d).prom s.r.length)).t d=((s.t d).prom s.r.length).1:=by
     have hu:∀(t:Nat->Sl) (y:Sl),AJ t d y d=y:=λt y=>by unfold AJ;rw[beq_refl];rfl
     unfold St.add;split
     .exact hu _ _
     .exact hu (λi=>(s.t i).chk s.r.length) _
    have O:∀i,i≠d->(s.add d ((s.t d).prom s.r.length)).t i=s.t i\/(s.add d ((s.t d).prom s.r.length)).t i=(s.t i).chk s.r.length:=by
     intro i hi;unfold St.add;split
     .exact .inl (A5 hi)
     .exact .inr (A5 (t:=λi=>(s.t i).chk s.r.length) hi)
    refine ih _ _ ⟨?_,λi=>?_,λi hi=>?_⟩
    .show S.σ++(Go.Ve.prom (S.t d) S.σ.length).2=_
     rw[e,hl,h.σ];exact a2
    .have h1:=a1 i
     show An (AD S.t d (Go.Ve.prom (S.t d) S.σ.length).1 i) _;rw[e,hl];unfold AD at h1⊢;by_cases H:i=d
     .rw[if_pos H]at h1⊢;exact h1
     .rw[if_neg H]at h1⊢;exact(h.t i).trans h1
    .obtain⟨k1,k2⟩:=h.o i (B i hi)
     by_cases H:i=d
     .subst H
      rw[Z]
      have hno:(((s.t i).prom s.r.length).1).own=false:=by
       have:=Qh (y:=s.t i) (m:=s.r.length) (r:=s.r);rw[Sl.own_v]at this;exact this
      refine⟨(λh=>by rw[hno]at h;cases h),.inr ⟨hno,?_⟩⟩
      show AK (AD S.t i (Go.Ve.prom (S.t i) S.σ.length).1 i)=false;unfold AD;rw[if_pos rfl];exact pn _ _
     .have hV:AD S.t d (Go.Ve.prom (S.t d) S.σ.length).1 i=S.t i:=by unfold AD;rw[if_neg H]
      have U:(s.t i).own=true->(s.add d ((s.t d).prom s.r.length)).t i=s.t i:=λu=>by
       rcases O i H with h'|h'
       .exact h'
       .rw[h',Sl.chk_stay (k1 u)]
      have W:((s.add d ((s.t d).prom s.r.length)).t i).own=(s.t i).own:=by
       rcases O i H with h'|h'
       .rw[h']
       .rw[h',AcM]
      refine⟨λu=>?_,?_⟩
      .rw[W]at u
       rw[U u];exact k1 u
      .cases u:(s.t i).own with
       |false=>
        refine .inr ⟨by rw[W,u],?_⟩
        show AK (AD S.t d (Go.Ve.prom (S.t d) S.σ.length).1 i)=false;rw[hV];rcases k2 with k2|k2
        .rw[k2];show AK ((s.t i).v s.r)=false;rw[Sl.own_v,u]
        .exact k2.2
       |true=>
        left;show AD S.t d (Go.Ve.prom (S.t d) S.σ.length).1 i=_;rw[hV];rcases k2 with k2|k2
        .rw[k2]
         show(s.t i).v s.r=((s.add d ((s.t d).prom s.r.length)).t i).v _;rw[U u];exact Xr (k1 u) _ _
        .rw[u]at k2;cases k2.1
theorem add_kp{d:Nat}{p:Sl×List Ab}:Kp (λi=>decide (i≠d)) s (s.add d p):=by
 unfold St.add;split
 .exact⟨λi hi _=>A5 (of_decide_eq_true hi),λ_ _ _=>rfl,le_refl _⟩
 .refine⟨λi hi e=>?_,λid B u=>?_,by simp⟩
  .show AJ (λi=>(s.t i).chk s.r.length) d p.1 i=s.t i
   rw[A5 (of_decide_eq_true hi)];exact Sl.chk_stay e _
  grind
theorem H0:∀(l:List Oper) (s:St),Kp (Au l) s (s.promA (l.map (·.dst)))
 |[],s=>Kp.refl _ _
 |o::l,s=>by
  have u:∀i,Au (o::l) i=true->o.dst≠some i/\Au l i=true:=by
   intro i h
   have u:Au (o::l) i=((match o.dst with
    |some e=>!beq e i
    |none=>true)&&Au l i):=rfl
   rw[u,bAE]at h;refine⟨λhd=>?_,h.2⟩
   simp_all
  rw[map_cons];cases hd:o.dst with
  |none=>exact(H0 l s).weak λi hi=>(u i hi).2
  |some d=>
   show Kp _ s (bif(s.t d).own then St.promA (l.map (·.dst)) (s.add d ((s.t d).prom s.r.length))else St.promA (l.map (·.dst)) s)
   cases (s.t d).own with
   |false=>exact(H0 l s).weak λi hi=>(u i hi).2
   |true=>
    exact Kp.trans add_kp (H0 l _) (λi hi=>dT λe=>(u i hi).1 (by grind)) λi hi=>(u i hi).2
def Cl.clr(id:Nat):Cl->Cl
 |.rf j p=>bif beq j id then .dead else .rf j p
 |.rs j p off len=>bif beq j id then .dead else .rs j p off len
 |.rp j p i k=>bif beq j id then .dead else .rp j p i k
 |y=>y
def Sl.clr(id:Nat):Sl->Sl
 |.one y=>.one (y.clr id)
 |.new l=>.new l
 |.agg l=>.agg (l.map (Cl.clr id))
 |.pk t l=>.pk t (l.map (Cl.clr id))
 |.tup l=>.tup (l.map λp=>(p.1,p.2.map (Cl.clr id)))
theorem Cl.clr_v{r':List Ab}(u:∀id,id≠m->r'.getD id .dead=r.getD id .dead)(y:Cl):An (y.v r) ((y.clr m).v r'):=by
 cases y with
 |rf id p=>
  show An _ ((bif beq id m then Cl.dead else .rf id p).v r');cases B:beq id m with
  |true=>exact An.dead _
  |false=>
   show An (V.rs id p 0 (Ac r id p).len) (V.rs id p 0 (Ac r' id p).len);unfold Ac;rw[u id (λe=>by simp_all)]
   exact An.refl _
 |rs id p off len=>
  show An _ ((bif beq id m then Cl.dead else .rs id p off len).v r');cases beq id m with
  |true=>exact An.dead _
  |false=>exact An.refl _
 |rp id p off len=>
  show An _ ((bif beq id m then Cl.dead else .rp id p off len).v r');cases beq id m with
  |true=>exact An.dead _
  |false=>exact An.refl _
 |_=>exact An.refl _
theorem Sl.clr_v{r r':List Ab}{m:Nat}(e:∀id,id≠m->r'.getD id .dead=r.getD id .dead)(y:Sl):An (y.v r) ((y.clr m).v r'):=by
 have agg:∀l:List Cl,An (Ag (l.map (Cl.v r))) (Ag ((l.map (Cl.clr m)).map (Cl.v r'))):=by
  intro l;refine An.mk (by simp) λk _=>?_
  rw[map_map];exact BJ rfl rfl (λy=>Cl.clr_v e y) k
 cases y with
 |one c=>exact Cl.clr_v e c
 |new l=>exact An.refl _
 |agg l=>exact agg l
 |pk t l=>
  refine An.pk (by simp) λk _=>?_
  rw[map_map];exact BJ rfl rfl (λy=>Cl.clr_v e y) k
 |tup l=>
  refine An.tup (by simp) λk u=>?_
  have u:k<l.length:=by simpa using u
  simp only[gDE,getElem?_map,gEE u,Option.map_some,Option.getD_some];generalize l[k]=p;obtain⟨b,q⟩:=p;cases b with
  |true=>exact agg q
  |false=>
   have:=BJ (l:=q) (f:=Cl.v r) (g:=λy=>(y.clr m).v r') rfl rfl (λy=>Cl.clr_v e y) 0
   grind
theorem Sl.clr_stay(h:y.stay=true)(m:Nat):y.clr m=y:=by
 have c1:∀y:Cl,y.stay=true->y.clr m=y:=by intro y h;cases y<;>first|rfl|cases h
 cases y with
 |one y=>exact congrArg Sl.one (c1 y h)
 |new l=>rfl
 |agg l=>exact congrArg Sl.agg (AH λy e=>c1 y (aET.1 h y e))
 |pk t l=>exact congrArg (Sl.pk t) (AH λy e=>c1 y (aET.1 h y e))
 |tup l=>
  refine congrArg Sl.tup (AH λp u=>?_)
  obtain⟨b,q⟩:=p;exact congrArg (Prod.mk b) (AH λy e=>c1 y (aET.1 (aET.1 h _ u) y e))
theorem AcL(y:Sl)(m:Nat):(y.clr m).own=y.own:=by
 have c1:∀y:Cl,(y.clr m).own=y.own:=by
  intro y;cases y with
  |rf id p=>show(bif beq id m then Cl.dead else .rf id p).own=_;cases beq id m<;>rfl
  |rs id p a b=>show(bif beq id m then Cl.dead else .rs id p a b).own=_;cases beq id m<;>rfl
  |rp id p a b=>show(bif beq id m then Cl.dead else .rp id p a b).own=_;cases beq id m<;>rfl
  |_=>rfl
 have cl:∀l:List Cl,(l.map (Cl.clr m)).any Cl.own=l.any Cl.own:=by
  grind
 cases y with
 |one y=>exact c1 y
 |new l=>rfl
 |agg l=>exact cl l
 |pk t l=>exact cl l
 |tup l=>
  show(l.map _).any _=l.any _;rw[any_map]
  congr 1
  funext p
  obtain⟨b,l⟩:=p;cases b with
  |true=>exact cl l
  |false=>
   cases l with
   |nil=>rfl
   |cons y l=>exact c1 y
def Cn:Sl->Ab
 |.one (.c (.ptr t) (d+1) x)=>.obj false (Aq t d x)
 |.one (.c (.sl t) (d+1) xs)=>.arr false t d xs
 |.new l=>.obj false l
 |_=>.dead
def H9:Sl->Bool
 |.one (.c (.ptr t) (_+1) _)=>blt 0 t.w
 |.one (.c (.sl _) (_+1) _)=>true
 |.new l=>blt 0 l.length
 |_=>false
def P8(id:Nat):Ab->Cl
 |.obj _ _=>.rp id [] 0 0
 |_=>.rf id []
def St.back1(p:Nat×Nat)(s:St):St:=⟨AJ (λi=>(s.t i).clr p.2) p.1 (.one (P8 p.2 (Cn (s.t p.1)))),s.r.set p.2 (Cn (s.t p.1))⟩
def Y6(i:Nat):(s.back1 p).t i=AJ (λi=>(s.t i).clr p.2) p.1 (.one (P8 p.2 (Cn (s.t p.1)))) i:=rfl
def NF{i:Nat}(h:i≠p.1):(s.back1 p).t i=(s.t i).clr p.2:=(Y6 i).trans (A5 h)
def St.backs:List (Nat×Nat)->St->St
 |[],s=>s
 |p::B,s=>St.backs B (s.back1 p)
theorem Me(t:Ty)(d:Nat)(x:t.T):(Aq t d x).length=t.w:=by
 have:=congrArg List.length (Bs t d x);rw[length_map,Av]at this
 grind
theorem CA(h:H9 y=true):y.stay=true/\(∀r,y.v r=(Cn y).v)/\Ld (Cn y).v/\∀(r:List Ab) (id:Nat),id<r.length->(Sl.one (P8 id (Cn y))).v (r.set id (Cn y))=MQ id (Cn y).v:=by
 unfold H9 at h;split at h
 case h_4=>grind
 .rename_i t d x
  have u:0<t.w:=blE h;refine⟨rfl,λr=>?_,⟨false,_,_,_,rfl,λ_=>⟨by simpa [Me]using u,rfl⟩⟩,λr id e=>rfl⟩
  show A8 (decide (0<d+1)) (tyV t (d+1-1) x)=A8 true ((Aq t d x).map Cl.v0);rw[Bs];rfl
 .rename_i t d xs
  refine⟨rfl,λr=>?_,⟨true,_,_,_,rfl,λh=>by grind⟩,λr id e=>?_⟩
  .rfl
  .show V.rs id [] 0 (Ac (r.set id (.arr false t d xs)) id []).len=_
   have:(Ac (r.set id (.arr false t d xs)) id []).len=xs.length:=by
    show((r.set id (.arr false t d xs)).getD id .dead).len=_;simp[e];rfl
   rw[this];rfl
 .rename_i l
  have u:0<l.length:=blE h;exact⟨rfl,λr=>rfl,⟨false,_,_,_,rfl,λ_=>⟨by simpa using u,rfl⟩⟩,λr id e=>rfl⟩
theorem Y7{ds:List (Option Nat)}{S:Ms}(h:Aa5 ds S s)(hd:some p.1∉ds)(Z:p.2<s.r.length)(he:S.t p.1=s.den.t p.1)(W:H9 (s.t p.1)=true):
  Aa5 ds ⟨AD S.t p.1 (MQ p.2 (S.t p.1)),S.σ.set p.2 (S.t p.1)⟩ (s.back1 p):=by
 obtain⟨h1,h2,h3,h4⟩:=CA W;have e:S.t p.1=(Cn (s.t p.1)).v:=he.trans (h2 _)
 have hg:∀id,id≠p.2->(s.r.set p.2 (Cn (s.t p.1))).getD id .dead=s.r.getD id .dead:=λid U=>by
  simp only[gDE];rw[getElem?_set_ne (Ne.symm U)]
 have u:∀i,i≠p.1->(s.back1 p).t i=(s.t i).clr p.2:=λi hi=>NF hi
 refine⟨?_,λi=>?_,λi hi=>?_⟩
 .show S.σ.set p.2 (S.t p.1)=(s.r.set p.2 (Cn (s.t p.1))).map Ab.v
  rw[h.σ,map_set,e];rfl
 .show An (AD S.t p.1 (MQ p.2 (S.t p.1)) i) _
  unfold AD;by_cases hi:i=p.1
  .subst hi
   rw[if_pos rfl,e]
   have e2:(s.back1 p).t p.1=.one (P8 p.2 (Cn (s.t p.1))):=by
    rw[Y6];unfold AJ;rw[beq_refl];rfl
   show An _ (((s.back1 p).t p.1).v _);rw[e2];rw[show(s.back1 p).r=s.r.set p.2 (Cn (s.t p.1))from rfl,h4 s.r p.2 Z]
   exact An.refl _
  .rw[if_neg hi]
   show An _ (((s.back1 p).t i).v _);rw[u i hi];exact(h.t i).trans (Sl.clr_v hg (s.t i))
 .have H:i≠p.1:=λe=>hd (e▸hi)
  obtain⟨k1,k2⟩:=h.o i hi;have hV:AD S.t p.1 (MQ p.2 (S.t p.1)) i=S.t i:=by unfold AD;rw[if_neg H]
  have O:((s.back1 p).t i).own=(s.t i).own:=by rw[u i H,AcL]
  refine⟨λB=>?_,?_⟩
  .rw[O]at B
   rw[u i H,Sl.clr_stay (k1 B)];exact k1 B
  .show AD S.t p.1 (MQ p.2 (S.t p.1)) i=_\/(_/\AK (AD S.t p.1 (MQ p.2 (S.t p.1)) i)=false)
   rw[hV];cases B:(s.t i).own with
   |false=>
    right;refine⟨by rw[O,B],?_⟩
    rcases k2 with k2|k2
    .rw[k2];show AK ((s.t i).v s.r)=false;rw[Sl.own_v,B]
    .exact k2.2
   |true=>
    left;rcases k2 with k2|k2
    .rw[k2]
     show(s.t i).v s.r=((s.back1 p).t i).v _;rw[u i H,Sl.clr_stay (k1 B)];exact Xr (k1 B) _ _
    .rw[B]at k2;cases k2.1
theorem KT{ds:List (Option Nat)}:∀(B:List (Nat×Nat)) (S:Ms) (s:St),Aa5 ds S s->(B.map (·.1)).Nodup->(∀p∈B,some p.1∉ds/\p.2<s.r.length/\S.t p.1=s.den.t p.1/\H9 (s.t p.1)=true)->Aa5 ds (Go.Ve.backs B S) (St.backs B s)
 |[],S,s,h,_,_=>h
 |p::B,S,s,h,hn,hB=>by
  obtain⟨h1,Z,W,U⟩:=hB p (mem_cons_self ..);rw[map_cons,nodup_cons]at hn;refine KT B _ _ (Y7 h h1 Z W U) hn.2 λq O=>?_
  obtain⟨g1,g2,g3,g4⟩:=hB q (mCM _ O);have H:q.1≠p.1:=λe=>hn.1 (e▸mem_map.2 ⟨q,O,rfl⟩)
  have u:=(CA g4).1
  have e1:(s.back1 p).t q.1=s.t q.1:=by
   rw[NF H,Sl.clr_stay u]
  refine⟨g1,by show q.2<(s.r.set _ _).length;grind,?_,by grind⟩
  show AD S.t p.1 _ q.1=((s.back1 p).t q.1).v _;unfold AD;rw[if_neg H,g3,e1];exact Xr u _ _
theorem NE:∀(B:List (Nat×Nat)) (s:St),(∀i,(∀p∈B,p.1≠i)->(s.t i).stay=true->(St.backs B s).t i=s.t i)/\(∀id,(∀p∈B,p.2≠id)->(St.backs B s).r.getD id .dead=s.r.getD id .dead)/\(St.backs B s).r.length=s.r.length
 |[],s=>⟨λ_ _ _=>rfl,λ_ _=>rfl,rfl⟩
 |p::B,s=>by
  obtain⟨Z,W,U⟩:=NE B (s.back1 p);refine⟨λi hi O=>?_,λid H=>?_,U.trans (by show(s.r.set _ _).length=_;simp)⟩
  .have e:(s.back1 p).t i=s.t i:=by
    rw[NF λe=>hi p (mem_cons_self ..) e.symm,Sl.clr_stay O]
   refine(Z i (λq u=>hi q (mCM _ u)) (by grind)).trans e
  .refine(W id λq u=>H q (mCM _ u)).trans ?_
   show(s.r.set _ _).getD id .dead=_
   grind
def rerefs(id:Nat)(v:V):List Nat->(Nat->V)->(Nat->V)
 |[],t=>t
 |y::Y,t=>rerefs id v Y (AD t y (MQ id v))
theorem PR.reref{C:Ctx}{N:Nat}{σ:List V}{ρ:Nat->Value}{F:Nat->Nat->Prop}{a:Act}{w:World}{D:Nat->Prop}{T:Nat->Nat->Prop}{id:Nat}{v:V}(u:id<σ.length)(B:σ.getD id .dead=v)(O:Ld v):∀(Y:List Nat) (t:Nat->V),PR C N σ ρ F t a w D T->
  (∀y∈Y,y<N/\a.tmps.getD y undef=ρ id/\∀b,¬T y b)->PR C N σ ρ F (rerefs id v Y t) a w D T
 |[],t,h,_=>h
 |y::Y,t,h,hY=>by
  obtain⟨h1,h2,h3⟩:=hY y (mem_cons_self ..);refine PR.reref u B O Y _ ⟨h.df,h.sz,λx H=>?_,h.wr,λx H=>?_,h.tD,h.tF,h.tT,h.tn,h.fr,h.Fn,h.D1,h.D2,h.rt,h.ml,h.tx⟩ λz Z=>hY z (mCM _ Z)
  .have:¬x=y:=by omega
   simp[AD,this,if_false];exact h.dd x H
  .by_cases U:x=y
   .subst U
    simp only[AD,if_true];rw[h2];obtain⟨s0,sz,n,f,W,e2⟩:=O;have e:=h.wr.rel id u;rw[B,W]at e;rw[W]at B⊢;exact Rel.fp_congr (λb=>⟨λh=>h.elim,λh=>absurd h (h3 b)⟩) (Uq u B e2 e)
   .simp only[AD,U,if_false]
    exact h.tm x H
def St.rerefs(id:Nat)(R:Ab):List Nat->St->St
 |[],s=>s
 |y::Y,s=>St.rerefs id R Y ⟨AJ s.t y (.one (P8 id R)),s.r⟩
theorem Lx{ds:List (Option Nat)}{id:Nat}{R:Ab}(H:Ld R.v):∀(Y:List Nat) (S:Ms) (s:St),Aa5 ds S s->(s.r.getD id .dead)=R->(∀y∈Y,some y∉ds)->Aa5 ds ⟨Go.Ve.rerefs id R.v Y S.t,S.σ⟩ (St.rerefs id R Y s)
 |[],S,s,h,_,_=>h
 |y::Y,S,s,h,hr,hY=>by
  have O:∀i,some i∈ds->i≠y:=λi hi e=>hY y (mem_cons_self ..) (e▸hi)
  have u:(Sl.one (P8 id R)).v s.r=MQ id R.v:=by
   cases R with
   |obj ro l=>rfl
   |arr ro t d xs=>
    show V.rs id [] 0 (Ac s.r id []).len=_
    have:(Ac s.r id []).len=xs.length:=by
     show(s.r.getD id .dead).len=_;rw[hr];rfl
    rw[this];rfl
   |dead=>obtain⟨_,_,_,_,e,_⟩:=H;cases e
   |mp=>obtain⟨_,_,_,_,e,_⟩:=H;cases e
   |opt ro t d x=>
    obtain⟨_,_,_,_,e,_⟩:=H;cases x with
    |none=>cases e
    |some xs=>
     show V.rs id [] 0 (Ac s.r id []).len=_
     have:(Ac s.r id []).len=xs.length:=by
      show(s.r.getD id .dead).len=_;rw[hr];rfl
     rw[this];rfl
  refine Lx H Y ⟨AD S.t y (MQ id R.v),S.σ⟩ ⟨AJ s.t y (.one (P8 id R)),s.r⟩ ⟨h.σ,λi=>?_,λi hi=>?_⟩ hr λz U=>hY z (mCM _ U)
  .show An (AD S.t y (MQ id R.v) i) ((AJ s.t y (.one (P8 id R)) i).v s.r)
   unfold AD;by_cases B:i=y
   .subst B
    rw[if_pos rfl];have:AJ s.t i (.one (P8 id R)) i=.one (P8 id R):=by unfold AJ;simp
    rw[this,u];exact An.refl _
   .rw[if_neg B,A5 B];exact h.t i
  .have B:=O i hi
   obtain⟨k1,k2⟩:=h.o i hi;show((AJ s.t y (.one (P8 id R)) i).own=true->(AJ s.t y (.one (P8 id R)) i).stay=true)/\(AD S.t y (MQ id R.v) i=(AJ s.t y (.one (P8 id R)) i).v s.r\/((AJ s.t y (.one (P8 id R)) i).own=false/\AK (AD S.t y (MQ id R.v) i)=false));unfold AD;rw[if_neg B,A5 B];exact⟨k1,k2⟩
theorem Oj{id:Nat}{R:Ab}:∀(Y:List Nat) (s:St),(St.rerefs id R Y s).r=s.r/\∀i,i∉Y->(St.rerefs id R Y s).t i=s.t i
 |[],s=>⟨rfl,λ_ _=>rfl⟩
 |y::Y,s=>by
  obtain⟨B,u⟩:=Oj Y ⟨AJ s.t y (.one (P8 id R)),s.r⟩;refine⟨B,λi hi=>(u i λh=>hi (mCM _ h)).trans ?_⟩
  exact A5 λe=>hi (e▸mem_cons_self ..)
end Go.Ve


namespace Go.Ve
open Go Go.Ve
variable{a:Act}{ops:Array Oper}{C:Ctx}{E:Env}{fs:List Nat}{late:List Oper}{σ σ':List V}{N d id k m n sz:Nat}{F:Nat->Nat->Prop}{f:Nat->Nat->V}{D:Nat->Prop}{ρ:Nat->Value}{o o1 o2 o3:Oper}{x y:Operand}{A:PtR}{s s':St}{t:TypeId}{cv:Value}{w:World}
theorem XM{q:List (Nat×Nat)}(u:sub q (σ.getD id .dead)=.nd true true sz n f)(h:Ai σ ρ w (.rs id q 0 n) cv):
  id<σ.length/\At w q (σ.getD id .dead) (ρ id) (.nd true true sz n f) cv:=by
 obtain⟨B,U,n',f',Z,O,W,H⟩:=h;have e:=(At.sub O).trans u;cases e;refine⟨B,?_⟩;have:cv=Z:=by
  rcases H with⟨b,o,cap,rfl,rfl⟩|⟨h0,_,_,h1,_⟩
  .simp[Ay]
  grind
 grind
def elI0(E:Env)(t:TypeId):Option TI:=((E.Θ.look t).bind (·.elem)).bind E.Θ.look
section
variable {P:Program}{Θ:Tab}
theorem Vh(hΘ:Θ.OK P){C:Ctx}{N:Nat}{s:St}{o:Oper}{t:TypeId}{x y:Operand}{a:Act}{w:World}{d:Nat}
  (ho:o.op=.call ⟨.builtin .append,#[x,y],#[t,t]⟩) (hdst:o.dst=some d) (hdn:d<N) {ti:TI} (hti:((Θ.look t).bind (·.elem)).bind Θ.look=some ti) (hby:0<ti.bytes) (hw:0<ti.ty.w)
  {id:Nat}{q:AG} (hx:s.ev x=some (.one (.rf id q))) {ro:Bool}{dx:Nat}{xs:List ti.ty.T} (U:Ac s.r id q=.arr ro ti.ty dx xs)
  {ys:List ti.ty.T}{dy:Nat}{js:List Nat} (hy:Wz s ti.ty id (s.ev y)=some (dy,ys,js)) (hdk:dOK ti.ty dy dx=true) (hlim:xs.length+ys.length<=O0 ti.bytes) (hs:AN C N s.den a w):
  ∃v' w',(execOp a.eval o).run P w=.ok (.value v') w'/\AN C N ⟨AD (λi=>AI s.r.length [] (rrV id q s.r.length ((Am js s).den.t i))) d (.rs (s.r.length+1) [] 0 (xs.length+ys.length)),
   ((Am js s).den.σ.set id (upd q ((Am js s).den.σ.getD id .dead) .dead)++[.dead])++[arr true ti.ty.w (tyV ti.ty dx) ti.ty.dflt (xs++ys)]⟩ (a.put (some d) v') w'/\
   ∃D ρ F,CR C ((Am js s).den.σ.set id (upd q ((Am js s).den.σ.getD id .dead) .dead)++[sub q ((Am js s).den.σ.getD id .dead)]) (((range N).map (Am js s).den.t).map (rrV id q s.r.length)) a.tmps w D ρ F/\∀c,c<w.heap.size->¬F s.r.length c->w'.heap[c]? =w.heap[c]?:=by
 obtain⟨hdf,hdd,D,ρ,F,B⟩:=hs;obtain⟨e,hsl,_⟩:=Hd hΘ hti;have hY:=IX B hdd hy;obtain⟨⟨Fy,hrd,hFy,hFd⟩,hjs2⟩:=hY;rw[show tyV ti.ty dy=tyV ti.ty dx from funext λz=>Da _ _ _ z (KH hdk)]at hrd
 have hidj:id∉js:=λh=>(hjs2 id h).2 rfl
 have hlσ:s.den.σ.length=s.r.length:=by simp[St.den]
 -- the drop
 obtain⟨F1,hcr1,hF1⟩:=Cr js B (λj hj=>(hjs2 j hj).1)
 have hdd1:=BY js (N:=N) hdd
 -- the row
 have hrx:=Bq B hdd x;rw[Bd hx]at hrx;have hrx:Rel D w (Ai s.den.σ ρ w) (.rs id q 0 (Ac s.r id q).len) (a.eval x) noF:=hrx
 have hsub:sub q (s.den.σ.getD id .dead)=arr true ti.ty.w (tyV ti.ty dx) ti.ty.dflt xs:=by
  have:=AS (r:=s.r) (id:=id) (p:=q) (by rw[U];simp)
  rw[U]at this;exact this
 rw[U]at hrx;obtain⟨hid,hat⟩:=XM (show sub q (s.den.σ.getD id .dead)=V.nd true true ti.ty.w xs.length (λi k=>(tyV ti.ty dx (xs.getD i ti.ty.dflt)).getD k .dead)from hsub) hrx.1
 have hid1:id<s.r.length:=by rw[<-hlσ];exact hid
 have W:∀(js:List Nat) (s:St),id∉js->(Am js s).den.σ.getD id .dead=s.den.σ.getD id .dead:=by
  intro js
  induction js with
  |nil=>exact λ_ _=>rfl
  |cons j js ih=>
   intro s hj;simp only[mem_cons,not_or]at hj;show(Am js (Jo j s)).den.σ.getD id .dead=_;rw[ih _ hj.2];show((s.r.set j .dead).map Ab.v).getD id .dead=_;rw[Ak];show _=(s.r.map Ab.v).getD id .dead;rw[Ak,gDE,getElem?_set_ne (Ne.symm hj.1),<-gDE]
 have W:=W js s hidj;have hl1:(Am js s).den.σ.length=s.r.length:=by simp[St.den,IR]
 rw[<-W]at hat
 -- it is cut out
 obtain⟨ρ2,F2,u,hρ2,hρ2',hF2⟩:=CR.reroot hcr1 (by rw[hl1];exact hid1) hat
 rw[hl1]at u hρ2 hρ2';obtain⟨m,hm⟩:∃m,m=s.r.length:=⟨_,rfl⟩;rw[<-hm]at u hρ2 hρ2' hl1 hid1;have Z:((Am js s).den.σ.set id (upd q ((Am js s).den.σ.getD id .dead) .dead)).length=m:=by rw[length_set];exact hl1
 have hlast:∀v:V,((Am js s).den.σ.set id (upd q ((Am js s).den.σ.getD id .dead) .dead)++[v]).getD m .dead=v:=λv=>by
  rw[gDE,gAR (by rw[Z];exact le_refl _),Z];simp
 have hrow:Rel D w noR (arr true ti.ty.w (tyV ti.ty dx) ti.ty.dflt xs) (a.eval x) (F2 m):=by
  have:=u.wr.rel m (by rw[length_append,Z];exact Nat.lt_succ_self m)
  rw[hlast,W,hsub,hρ2]at this;exact this
 have hF2D:∀b,D b->¬F2 m b:=λb O h=>u.wr.dD m b h O
 have hF2o:∀i b,F2 i b->∃j,F j b/\j∉js:=λi b h=>by
  obtain⟨j,h1⟩:=hF2 i b h;obtain⟨h2,h3⟩:=hF1 j b h1;exact⟨j,h2,h3⟩
 have O:(xs.length+ys.length)*ti.bytes<=140737488355328:=by
  rw[Nat.mul_comm];exact(Nat.mul_comm _ _▸(Nat.le_div_iff_mul_le hby).1 hlim)
 have h63:xs.length+ys.length<=maxLen:=by
  have:xs.length+ys.length<=(xs.length+ys.length)*ti.bytes:=Nat.le_mul_of_pos_right _ hby;simp only[maxLen];omega
 obtain⟨v',w',fp,hrun,hos,htp,hout,hdr,hsz,hbl,hr',hfp⟩:=Rel.append (P:=P) (ty:=o.type) (f:=λi k=>(tyV ti.ty dx (xs.getD i ti.ty.dflt)).getD k .dead) hsl hw hrow hF2D B.wr.Dlt hrd
  (λi k c hi hk hF=>by
   obtain⟨j,hj,H⟩:=hFy i k c hi hk hF;refine⟨B.wr.dD j c H,λhx=>?_⟩
   obtain⟨j2,h2,h3⟩:=hF2o m c hx;exact B.wr.disj j j2 c (λe=>h3 (e▸hj)) H h2) hFd h63 O
 have hdrop:=CR.drop u (j:=m) (by rw[length_append,Z];exact Nat.lt_succ_self m)
 have hfpG:∀b,fp b->(F2 m b\/∃j∈js,F j b)\/w.heap.size<=b:=by
  intro b O;rcases hfp b O with h1|⟨i,k,hi,hk,h1⟩|h1
  .exact .inl (.inl h1)
  .obtain⟨j,hj,H⟩:=hFy i k b hi hk h1
   exact .inl (.inr ⟨j,hj,H⟩)
  .exact .inr h1
 have hr2:Rel D w' noR (arr true ti.ty.w (tyV ti.ty dx) ti.ty.dflt (xs++ys)) v' fp:=
  Rel.sub (NC rfl rfl (λ_ _ _=>rfl) (λ_ _ _=>rfl)) hr'
 have hc:=CR.own hdrop (G:=λb=>F2 m b\/∃j∈js,F j b) (D':=D) (λi b O hG=>by
   split at O
   .exact O.elim
   .rename_i hne
    rcases hG with h1|⟨j,hj,H⟩
    .exact u.wr.disj i m b hne O h1
    .obtain⟨j2,h2,h3⟩:=hF2o i b O
     exact B.wr.disj j j2 b (λe=>h3 (e▸hj)) H h2)
  (λb O hG=>hG.elim (hF2D b O) fun⟨j,_,H⟩=>B.wr.dD j b H O)
  (λb hG=>hG.elim (λh=>u.Fn m b h) fun⟨j,_,H⟩=>B.Fn j b H) hos htp hout hdr hsz
  (λc hc hG=>hbl c hc λh=>hG (.inl h)) hr2 hfpG (λ_ h=>h) (λ_ h=>.inl h)
  (λb O=>⟨Nat.lt_of_lt_of_le (B.wr.Dlt b O) hsz,λh=>by
   rcases hfpG b h with(h1|⟨j,_,H⟩)|h2
   .exact hF2D b O h1
   .exact B.wr.dD j b H O
   .have:=B.wr.Dlt b O;omega⟩) d
 have hl3:(((Am js s).den.σ.set id (upd q ((Am js s).den.σ.getD id .dead) .dead)++[sub q ((Am js s).den.σ.getD id .dead)]).set m .dead)=(Am js s).den.σ.set id (upd q ((Am js s).den.σ.getD id .dead) .dead)++[.dead]:=by
  rw[List.set_append_right _ _ (by rw[Z];exact le_refl _),Z];simp
 rw[hl3]at hc
 have hl4:((Am js s).den.σ.set id (upd q ((Am js s).den.σ.getD id .dead) .dead)++[V.dead]).length=m+1:=by
  rw[length_append,length_set,hl1];rfl
 rw[hl4,show prom (arr true ti.ty.w (tyV ti.ty dx) ti.ty.dflt (xs++ys)) (m+1)=(.rs (m+1) [] 0 (xs++ys).length,[arr true ti.ty.w (tyV ti.ty dx) ti.ty.dflt (xs++ys)])from rfl,length_append]at hc
 have hex:(execOp a.eval o).run P w=.ok (.value v') w':=by
  unfold execOp;simp only[ho,resolve,invoke,builtin,Sem.run_bind,Sem.run_pure,Result.andThen_ok,List.map_toArray,map_cons,List.map_nil,hrun]
 rw[<-hm];refine⟨v',w',hex,⟨hdf,λz hz=>?_,?_⟩,D,ρ2,F2,u,λc hc hF=>hbl c hc hF⟩
 .show AD (λi=>AI m [] (rrV id q m ((Am js s).den.t i))) d (V.rs (m+1) [] 0 (xs.length+ys.length)) z=.dead
  unfold AD;rw[if_neg (by omega)]
  show AI m [] (rrV id q m ((Am js s).den.t z))=.dead;rw[hdd1 z hz];rfl
 .rw[map_map,map_map,Co hdn]at hc
  exact hc
theorem app_in(O:Θ.OK P){C:Ctx}{N:Nat}{s:St}{o:Oper}{t:TypeId}{x y:Operand}{a:Act}{w:World}{d:Nat}{next:Act->World->Prop}{Q:Exit->Act->World->Prop}
  (ho:o.op=.call ⟨.builtin .append,#[x,y],#[t,t]⟩) (e:o.dst=some d) (W:d<N) {ti:TI} (U:((Θ.look t).bind (·.elem)).bind Θ.look=some ti) (hby:0<ti.bytes) (hw:0<ti.ty.w)
  {id:Nat}{q:AG} (hx:s.ev x=some (.one (.rf id q))) {ro:Bool}{dx:Nat}{xs:List ti.ty.T} (u:Ac s.r id q=.arr ro ti.ty dx xs)
  {ys:List ti.ty.T}{dy:Nat}{js:List Nat} (hy:Wz s ti.ty id (s.ev y)=some (dy,ys,js)) (Z:dOK ti.ty dy dx=true) (H:xs.length+ys.length<=O0 ti.bytes) (hs:AN C N s.den a w)
  (hn:∀v' w',AN C N ⟨AD (λi=>AI s.r.length [] (rrV id q s.r.length ((Am js s).den.t i))) d (.rs (s.r.length+1) [] 0 (xs.length+ys.length)),
   ((Am js s).den.σ.set id (upd q ((Am js s).den.σ.getD id .dead) .dead)++[.dead])++[arr true ti.ty.w (tyV ti.ty dx) ti.ty.dflt (xs++ys)]⟩ (a.put (some d) v') w'->next (a.put (some d) v') w'):o.wp P a w next Q:=by
 obtain⟨v',w',B,hs',_⟩:=Vh O ho e W U hby hw hx u hy Z H hs;unfold Oper.wp;rw[B,Oper.upon_value,e]
 grind
def AcQ(d:Nat):Operand->Bool
 |.tmp z=>!beq z d
 |.const _=>true
 |_=>false
theorem Adt{t:Nat->V}{v:V}(h:AcQ d x=true):Ms.ev ⟨AD t d v,σ⟩ x=Ms.ev ⟨t,σ'⟩ x:=by
 cases x with
 |tmp z=>
  show AD t d v z=t z;unfold AD;rw[if_neg]
  rintro rfl
  simp[AcQ]at h
 |const c=>rfl
 |_=>rfl
def rowF(o1 o2 o3:Oper):Option ((Nat×TypeId×Operand×Operand)×(Nat×TypeId×Operand×Operand)×TypeId):=match o1.op,o1.dst,o2.op,o2.dst,o3.op,o3.dst with
 |.call c,some d,.indexAddr t2 u v,some e,.store t3 (.tmp e') (.tmp d'),none=>(match c.callee,c.args.toList,c.argTypes.toList with
  |.builtin .append,[x,y],[t,t']=>bif beq t t'&&beq e e'&&beq d d'&& !beq d e&&AcQ d u&&AcQ d v then some ((d,t,x,y),(e,t2,u,v),t3)else none
  |_,_,_=>none)
 |_,_,_,_,_,_=>none
theorem J0{e:Nat}{t2 t3:TypeId}{u v:Operand}(h:rowF o1 o2 o3=some ((d,t,x,y),(e,t2,u,v),t3)):
  o1.op=.call ⟨.builtin .append,#[x,y],#[t,t]⟩/\o1.dst=some d/\o2.op=.indexAddr t2 u v/\o2.dst=some e/\o3.op=.store t3 (.tmp e) (.tmp d)/\o3.dst=none/\d≠e/\AcQ d u=true/\AcQ d v=true:=by
 unfold rowF at h;split at h
 case h_2=>cases h
 rename_i c d0 t20 u0 v0 e0 t30 e' d' h1 h2 h3 h4 h5 Z;split at h
 case h_2=>cases h
 rename_i x0 y0 t0 t' hc ha W;obtain⟨U,h⟩:=A1 h;cases h;simp only[bAE,not_eq_true']at U;obtain⟨⟨⟨⟨⟨O,H⟩,B⟩,b4⟩,b5⟩,b6⟩:=U;have O:=bqE O;have H:=bqE H;have B:=bqE B;subst O H B;refine⟨?_,h2,h3,h4,h5,Z,(λe=>by rw[e,beq_refl]at b4;cases b4),b5,b6⟩
 rw[h1];obtain⟨ce,ar,at'⟩:=c;obtain⟨ar⟩:=ar;obtain⟨at'⟩:=at'
 grind
def UT(E:Env)(s:St)(m id:Nat)(q:AG)(o:Oper):Bool:=match o.op with
 |.fieldAddr t _ k=>match(E.Θ.look t).bind (·.flds[k]?)with
  |some _=>true
  |none=>false
 |.move _=>true
 |.indexAddr _ _ _=>true
 |.load t (.tmp z)=>match E.Θ.look t,s.t z with
  |some ti,.one (.rp id' p _ k)=>!hit id (q.map λx=>x.2) [(m,[])] id' p&&(Ac s.r id' p).live&&ble (k+ti.ty.w) (Ac s.r id' p).w&&blt 0 ti.ty.w
  |some ti,.one (.c (.ptr u) 0 _)=>ble ti.ty.w u.w&&blt 0 ti.ty.w
  |_,_=>false
 |_=>false
def Xd(E:Env)(s:St)(late:List Oper)(o1 o2 o3:Oper):Option PtR:=match rowF o1 o2 o3 with
 |some ((d,t,x,y),(e,t2,u,v),t3)=>(match elI0 E t,elI0 E t2,E.Θ.look t3,s.ev x with
  |some ti,some ti2,some ti3,some (.one (.rf id q))=>(match Ac s.r id q,Wz s ti.ty id (s.ev y)with
   |.arr _ t' dx xs,some (dy,ys,js)=>if ht:t'=ti.ty then(match(Am js s).ev u,(Am js s).ev v with
     |some (.one (.rf id' p)),some (.one (.c (.int _) _ i))=>bif beq id' id&&blt 0 ti.bytes&&blt 0 ti.ty.w&&dOK ti.ty dy dx&&beq ti3.ty.w 1&&beq (Ac (Am js s).r id p).w ti2.ty.w&&beq ti2.ty.w 1&&(Ac (Am js s).r id p).live&&blt d E.h.n&&blt e E.h.n&& !E.h.fz.contains e&&late.all (UT E (Am js s) s.r.length id q)then
       (match X8 q (p++[(i.toNat,0)]),((Am js s).r.getD id .dead).setAt p i.toNat 0 (.c (.sl ti.ty) (dx+1) (Adz (ht▸xs) ys))with
       |some c,some r0=>some ⟨(((0:Int)<=i/\i<(((Ac (Am js s).r id p).len:Nat):Int))/\c.p)/\H7 (ht▸xs)+H7 ys<=O0 ti.bytes,@instDecidableAnd _ _ (@instDecidableAnd _ _ inferInstance c.dec) inferInstance,
         ⟨λz=>bif beq z d||beq z e then .one .dead else((Am js s).t z).kill id ((p++[(i.toNat,0)]:AG).map λz=>z.2) [(s.r.length,[]),(s.r.length+1,[])],(Am js s).r.set id r0++[.dead,.dead]⟩⟩
       |_,_=>none)else none
     |_,_=>none)else none
   |_,_=>none)
  |_,_,_,_=>none)
 |none=>none
theorem ev_G{t:Nat->V}{v0 y:V}{G:V->V}(e:AcQ d x=true)(u:Ms.ev ⟨t,σ⟩ x=y)(B:G y=y):Ms.ev ⟨AD (λi=>G (t i)) d v0,σ'⟩ x=y:=by
 rw[Adt (σ':=σ') e];cases x with
 |tmp z=>
  show G (t z)=y;rw[show t z=y from u,B]
 |const c=>trivial
 |_=>trivial
theorem Aa0{a b:Nat}(h:blt a b=true):a<b:=by simp_all
theorem GOK.row{Q:AG}:GOK (λv=>A2 id Q (m+1) (AI m [] (rrV id Q m v))) id (Q.map (·.2)) [(m,[]),(m+1,[])]:=by
 have hj:∀id' q,hit id (Q.map (·.2)) [(m,[]),(m+1,[])] id' q=false->id'≠m/\id'≠m+1/\¬ (id'=id/\AR Q q=true):=λid' q h=>
  ⟨λe=>(CP h).2 m [] (by simp) ⟨e,rfl⟩,λe=>(CP h).2 (m+1) [] (by simp) ⟨e,rfl⟩,(CP h).1⟩
 have O:∀id' (q:AG),id'≠m->¬ (id'=m/\AR [] q=true):=λ_ _ h U=>h U.1
 refine⟨Bc.comp (CL _ _ _) (Bc.comp (Ba _ _) (Dc _ _ _)),λid' q off len h=>?_,λid' q i k h=>?_,λid' q h=>?_⟩
 .obtain⟨H,B,u⟩:=hj _ _ h
  simp[rrV,if_neg u,AI,if_neg (O id' q H),A2,if_neg B]
 .obtain⟨H,B,u⟩:=hj _ _ h
  simp[rrV,if_neg u,AI,if_neg (O id' q H),A2,if_neg B]
 .obtain⟨H,B,u⟩:=hj _ _ h
  simp[rrV,if_neg u,AI,if_neg (O id' q H),A2,if_neg B]
def Qq{p:AG}{x:Nat×Nat}{y:V}(e:K2 p (σ.getD id .dead))(u:σ'.getD id .dead=upd (p++[x]) (σ.getD id .dead) y):AY σ' id p=AY σ id p:=by
 unfold AY;rw[u,Hv _ _ _ _ e,JS _ _ _ e];cases sub p (σ.getD id .dead)<;>rfl
theorem Xb(hΘ:E.Θ.OK P){next:Act->World->Prop}{Q:Exit->Act->World->Prop}(h:Xd E s late o1 o2 o3=some A)(hp:A.p)(hs:AN C E.h.n s.den a w)
  (hn:∀a' w',AN C E.h.n A.s.den a' w'->next a' w'):o1.wp P a w (λa1 w1=>o2.wp P a1 w1 (λa2 w2=>o3.wp P a2 w2 next Q) Q) Q:=by
 unfold Xd at h;split at h
 case h_2=>cases h
 rename_i d t x y e t2 u v t3 hrow;obtain⟨ho1,hd1,ho2,hd2,ho3,hd3,hde,hnu,hnv⟩:=J0 hrow;split at h
 case h_2=>cases h
 rename_i ti ti2 ti3 id q hti hti2 hti3 hx;split at h
 case h_2=>cases h
 rename_i ro t' dx xs dy ys js hnode hy;split at h
 case isFalse=>cases h
 rename_i ht;subst ht;split at h
 case h_2=>cases h
 rename_i id' p kk di i hu hv;obtain⟨hb,h⟩:=A1 h;simp only[bAE,not_eq_true']at hb;obtain⟨⟨⟨⟨⟨⟨⟨⟨⟨⟨⟨b1,b2⟩,b3⟩,b4⟩,b5⟩,b6⟩,b7⟩,b8⟩,b9⟩,b10⟩,b11⟩,_⟩:=hb;have b1:=bqE b1;subst b1;have b5:=bqE b5;have b6:=bqE b6;have b7:=bqE b7;have b9:=Aa0 b9;have b10:=Aa0 b10;split at h
 case h_2=>cases h
 rename_i c r0 hc hset;cases h;obtain⟨⟨⟨hi0,hil⟩,hcp⟩,hlim⟩:=hp;obtain rfl:=Jy _ _ _ hc hcp;have hY:∀j∈js,j<s.r.length/\j≠id':=by
  obtain⟨_,_,D,ρ,F,hcr⟩:=hs;exact(IX hcr ‹_› hy).js
 refine app_in hΘ ho1 hd1 b9 hti (Ml b2) (Ml b3) hx hnode hy b4 (by simpa [H7]using hlim) hs λv' w' hs1=>?_
 have hsd:∃D ρ F,CR C (Am js s).den.σ ((range E.h.n).map (Am js s).den.t) a.tmps w D ρ F/\∀x,E.h.n<=x->(Am js s).den.t x=.dead:=by
  obtain⟨_,hdd,D,ρ,F,hcr⟩:=hs;obtain⟨F1,hcr1,_⟩:=Cr js hcr (λj hj=>(hY j hj).1)
  exact⟨D,ρ,F1,hcr1,BY js hdd⟩
 obtain⟨D1,ρ1,F1,hcr1,hdd1⟩:=hsd;have hru:=Bq hcr1 hdd1 u;rw[Bd hu]at hru;have hru:Rel D1 w (Ai (Am js s).den.σ ρ1 w) (.rs id' p 0 (Ac (Am js s).r id' p).len) (a.eval u) noF:=hru;obtain⟨⟨hid,_,_,_,_,hat,_,_⟩,_⟩:=hru;have hok:=At.ok hat;have hidr:id'<(Am js s).r.length:=by simpa [St.den]using hid
 have hl:(Am js s).r.length=s.r.length:=IR js s;obtain⟨m,hm⟩:∃m,m=s.r.length:=⟨_,rfl⟩;rw[<-hm]at hs1 hl;simp only[<-hm]at hn;generalize hS1:((Am js s).den.σ.set id' (upd (p++[(i.toNat,0)]) ((Am js s).den.σ.getD id' .dead) .dead)++[.dead])++[arr true ti.ty.w (tyV ti.ty dx) ti.ty.dflt (xs++ys)]=B at hs1;generalize hT1:AD (λi_1=>AI m [] (rrV id' (p++[(i.toNat,0)]) m ((Am js s).den.t i_1))) d (.rs (m+1) [] 0 (xs.length+ys.length))=T1 at hs1
 have Z:(Am js s).den.σ.length=m:=by rw[<-hl];simp[St.den]
 have W:B.getD id' .dead=upd (p++[(i.toNat,0)]) ((Am js s).den.σ.getD id' .dead) .dead:=by
  rw[<-hS1,AB (by simp;omega),AB (by simp;omega),Ae (by omega)]
 have U:B.getD (m+1) .dead=arr true ti.ty.w (tyV ti.ty dx) ti.ty.dflt (xs++ys):=by
  rw[<-hS1,gDE,gAR (by simp;omega)]
  simp[Z]
 have hsz1:AY B id' p=ti2.ty.w:=by
  rw[Qq hok W,<-b6];exact Cg b8
 have hidm:id'≠m:=by omega
 obtain⟨e2,hsl,_⟩:=Hd hΘ hti2;refine HK (h:=E.h) (K:=λS'=>S'=⟨AD T1 e (.rp id' p i.toNat 0),B⟩) ?_ hs1 λS' a2 w2 hS' hs2=>?_
 .unfold vop
  rw[ho2]
  have hu1:Ms.ev ⟨T1,B⟩ u=.rs id' p 0 (Ac (Am js s).r id' p).len:=by
   rw[<-hT1];exact ev_G (G:=λv=>AI m [] (rrV id' (p++[(i.toNat,0)]) m v)) (t:=(Am js s).den.t) (σ:=(Am js s).den.σ) hnu (Bd hu) (by simp[rrV,IL,AI,hidm])
  have hv1:Ms.ev ⟨T1,B⟩ v=.c (.int kk i):=by
   rw[<-hT1];exact ev_G (G:=λv=>AI m [] (rrV id' (p++[(i.toNat,0)]) m v)) (t:=(Am js s).den.t) (σ:=(Am js s).den.σ) hnv (Bd hv) rfl
  show Oq P B (Ms.ev ⟨T1,B⟩) (.indexAddr t2 u v) _;unfold Oq
  dsimp only
  rw[hu1,hv1,hsl];refine⟨hsz1,by omega,⟨hi0,hil⟩,.rp id' p i.toNat 0,by rw[Nat.zero_add];exact Sub.refl _,?_⟩
  show Ms.res _ E.h o2.dst _=_;rw[hd2];unfold Ms.res;simp only[b10,if_true,b11];simp[prom]
 .subst hS'
  refine HK (h:=E.h) (K:=λS'=>S'=⟨λz=>A2 id' (p++[(i.toNat,0)]) (m+1) (AD T1 e (.rp id' p i.toNat 0) z),
   (B.set id' (upd (p++[(i.toNat,0)]) (B.getD id' .dead) (B.getD (m+1) .dead))).set (m+1) .dead⟩) ?_ hs2 λS' a3 w3 hS' hs3=>hn a3 w3 ?_
  .unfold vop
   rw[ho3];refine⟨hd3,?_⟩;have he1:Ms.ev ⟨AD T1 e (.rp id' p i.toNat 0),B⟩ (.tmp e)=.rp id' p i.toNat 0:=by
    show AD T1 e _ e=_;unfold AD;rw[if_pos rfl]
   have he2:Ms.ev ⟨AD T1 e (.rp id' p i.toNat 0),B⟩ (.tmp d)=.rs (m+1) [] 0 (xs.length+ys.length):=by
    show AD T1 e _ d=_;rw[<-hT1];unfold AD;rw[if_neg hde,if_pos rfl]
   rw[he1,he2,hΘ.ty hti3];unfold WU;refine⟨rfl,⟨b5.symm,by rw[hsz1,b7,b5];exact le_refl _⟩,?_⟩
   rw[b5];show MX id' p i.toNat 0 (.rs (m+1) [] 0 (xs.length+ys.length)) [] B _;unfold MX;have hsub:sub [] (B.getD (m+1) .dead)=.nd true true ti.ty.w (xs++ys).length λi k=>(tyV ti.ty dx ((xs++ys).getD i ti.ty.dflt)).getD k .dead:=U
   simp only[hsub];have hne:m+1≠id':=by omega
   rw[if_neg (λh=>hne h.1)]
   refine⟨⟨trivial,by simp,hne⟩,?_⟩
   rfl
  .subst hS'
   have hG:GOK (λv=>A2 id' (p++[(i.toNat,0)]) (m+1) (AI m [] (rrV id' (p++[(i.toNat,0)]) m v))) id' ((p++[(i.toNat,0)]:AG).map λz=>z.2) [(m,[]),(m+1,[])]:=GOK.row
   have hlen:∀H q2,hit id' ((p++[(i.toNat,0)]:AG).map λz=>z.2) [(m,[]),(m+1,[])] H q2=false->(Ac ((Am js s).r.set id' r0++[Ab.dead,Ab.dead]) H q2).len=(Ac (Am js s).r H q2).len:=by
    intro H q2 hh;have h1:H≠m/\H≠m+1:=⟨λe=>(CP hh).2 m [] (by simp) ⟨e,rfl⟩,λe=>(CP hh).2 (m+1) [] (by simp) ⟨e,rfl⟩⟩
    rcases lt_or_ge H m with h2|h2
    .have e1:Ac ((Am js s).r.set id' r0++[Ab.dead,Ab.dead]) H q2=Ac ((Am js s).r.set id' r0) H q2:=by
      unfold Ac;rw[gDE,gAL (by simp;omega),<-gDE]
     rw[e1];by_cases he:H=id'
     .subst he
      rw[Bz hidr];refine Jb p _ _ hset q2 ?_;cases hp2:pre ((p++[(i.toNat,0)]:AG).map λz=>z.2) q2 with
      |false=>rfl
      |true=>
       unfold hit at hh;rw[beq_refl,hp2]at hh;cases hh
     .rw[A9 he]
    .have e1:Ac ((Am js s).r.set id' r0++[Ab.dead,Ab.dead]) H q2=Ac (Am js s).r H q2:=by
      unfold Ac;rw[gDE,gDE,getElem?_eq_none (by simp;omega),getElem?_eq_none (by omega)]
     rw[e1]
   refine hs3.sub ?_ (λj hj=>?_) λz=>?_
   .rw[<-hS1]
    simp[St.den]
   .have hσd:∀j,(Am js s).den.σ.getD j .dead=((Am js s).r.getD j .dead).v:=λj=>Ak _ _
    have hσo:∀j,m<=j->(Am js s).den.σ.getD j .dead=.dead:=λj hj=>by rw[gDE,getElem?_eq_none (by omega)];rfl
    have hR:∀j,(((Am js s).r.set id' r0++[Ab.dead,Ab.dead]).map Ab.v).getD j .dead=if j=id' then r0.v else(Am js s).den.σ.getD j .dead:=by
     intro j;rw[Ak];by_cases O:j=id'
     .subst O
      rw[if_pos rfl,gDE,gAL (by simp;omega),List.getElem?_set_self hidr];rfl
     .rw[if_neg O,hσd]
      rcases lt_or_ge j m with h2|h2
      .rw[gDE,gAL (by simp;omega),getElem?_set_ne (Ne.symm O),<-gDE]
      .rw[gDE,gDE,gAR (by simp;omega),getElem?_eq_none (l:=(Am js s).r) (by omega)]
       simp only[length_set,hl]
       match hk:j-m with
       |0=>rfl
       |1=>rfl
       |k+2=>rfl
    show Sub _ ((((Am js s).r.set id' r0++[Ab.dead,Ab.dead]).map Ab.v).getD j .dead);rw[hR,W,U,It];by_cases hj1:j=m+1
    .subst hj1
     rw[if_neg (by omega),hσo (m+1) (by omega),Ae (by simpa using hj)]
     exact Sub.refl _
    .rw[Ad (Ne.symm hj1)]
     by_cases O:j=id'
     .subst O
      rw[if_pos rfl,Ae (by simp at hj;omega),hσd]
      exact HS (Sub.refl _) p _ _ hset
     .rw[if_neg O,Ad (Ne.symm O),<-hS1]
      rcases lt_or_ge j m with h2|h2
      .rw[AB (by simp;omega),AB (by simp;omega),Ad (Ne.symm O)]
       exact Sub.refl _
      .have hj2:j=m:=by
        simp[<-hS1,Z]at hj;omega
       rw[hσo j (by omega),AB (by simp;omega),gDE,gAR (by simp;omega)]
       simp only[length_set,Z,hj2,Nat.sub_self];exact Sub.refl _
   .show An (A2 id' (p++[(i.toNat,0)]) (m+1) (AD T1 e (.rp id' p i.toNat 0) z)) (Sl.v _ (bif beq z d||beq z e then .one .dead else _))
    cases hz:(beq z d||beq z e)with
    |true=>exact An.dead _
    |false=>
     rw[Bool.or_eq_false_iff]at hz;have hzd:z≠d:=λe=>by rw[e,beq_refl]at hz;cases hz.1
     have hze:z≠e:=λe=>by rw[e,beq_refl]at hz;cases hz.2
     rw[<-hT1];unfold AD;rw[if_neg hze,if_neg hzd];exact Sl.kill_v hG hlen ((Am js s).t z)
theorem Z2(wr:Bg σ w D ρ F){p:List (Nat×Nat)}{i:Nat}(h:Ai σ ρ w (.rp id p i k) cv):∃b off,cv=.pointer (some ⟨b,off,none⟩)/\F id b:=by
 obtain⟨u,s,sz,n,f,b,o,cap,B,hi,hk,rfl⟩:=h;obtain⟨fp1,O,e,_⟩:=Dg (w':=w) p _ _ _ _ _ (wr.rel id u) (λb W h'=>wr.dD id b h' W) B
 refine⟨b,_,rfl,e b ?_⟩;rcases O with⟨h0,_⟩|⟨b',o',H,G,U,_,_,_,_,_,Z⟩
 .omega
 .obtain⟨rfl,_,_⟩:=As U
  exact((Z rfl).2.2.2 b).2 (.inl rfl)
theorem Aaw(hΘ:E.Θ.OK P){C:Ctx}{m id:Nat}{q:AG}{ops:Array Oper}{fs:List Nat}{a:Act}{w w':World}{σ2:List V}(hdd:∀x,N<=x->s.den.t x=.dead)
  (h1:∃D ρ F,CR C s.den.σ ((range N).map s.den.t) a.tmps w D ρ F) (h2:∃D ρ F,CR C σ2 (((range N).map s.den.t).map (rrV id q m)) a.tmps w D ρ F/\∀c,c<w.heap.size->¬F m c->w'.heap[c]? =w.heap[c]?)
  (hl:∀f∈fs,∀o,ops[f]? =some o->UT E s m id q o=true):FlL P ops fs a w w':=by
 intro f hf o ho t x hop ad had;have h:=hl f hf o ho;unfold UT at h;rw[hop]at h;cases x with
 |tmp z=>
  dsimp only at h
  obtain⟨D1,ρ1,F1,W⟩:=h1;obtain⟨D2,ρ2,F2,H,hsame⟩:=h2;have had:a.tmps.getD z undef=.pointer (some ad):=had
  have hsz:∀(ti:TI),E.Θ.look t=some ti->∀s,(sizeOf t).run P w=.ok s w->s=ti.ty.w:=λti hti s hs=>by
   obtain⟨d,i,z,hu,hi,_,his,_⟩:=CZ (hΘ.ty hti);unfold Go.sizeOf typeInfo at hs;rw[Sem.run_bind,Sem.run_bind]at hs;have e:(Go.program.run P w:Result Program)=.ok P w:=rfl;rw[e]at hs;simp only[Result.andThen_ok,hi]at hs;have his:i.size=ti.ty.w:=his;have hs:Result.ok i.size w=.ok s w:=hs;cases hs;exact his
  have hz:s.den.t z≠.dead->z<N:=λhne=>by
   rcases lt_or_ge z N with h|h
   .exact h
   .exact absurd (hdd z h) hne
  split at h
  case h_3=>cases h
  .rename_i ti id' p i k hti hsz1
   simp only[bAE,not_eq_true']at h;obtain⟨⟨⟨g1,g2⟩,g3⟩,g4⟩:=h;have g3:=blE g3;have g4:=Ml g4;have hv:s.den.t z=.rp id' p i k:=by show(s.t z).v s.r=_;rw[hsz1];rfl
   have O:=hz (by rw[hv];simp)
   have r1:=W.tm z (by simpa using O)
   have r2:=H.tm z (by simpa using O)
   have e1:((range N).map s.den.t).getD z .dead=.rp id' p i k:=by rw[AP O,hv]
   have e2:(((range N).map s.den.t).map (rrV id q m)).getD z .dead=.rp id' p i k:=by
    have:(((range N).map s.den.t).map (rrV id q m)).getD z .dead=rrV id q m (s.den.t z):=by simp[O]
    rw[this,hv];exact if_neg (CP g1).1
   rw[e1,had]at r1;rw[e2,had]at r2;obtain⟨s0,sz,n,f0,b,o0,cap,hid,hat,hi,hk,he,_,hns,_,_⟩:=JZ W.wr r1.1;obtain⟨b2,off2,he2,hF⟩:=Z2 H.wr r2.1;have hbb:b2=b:=by rw[he]at he2;cases he2;rfl
   subst hbb;have hnsz:sz=(Ac s.r id' p).w:=by rw[<-hns];exact Cg g2
   have hne:id'≠m:=λe=>(CP g1).2 m [] (by simp) ⟨e,rfl⟩
   have hblk:w'.heap[b2]? =w.heap[b2]?:=hsame b2 (H.wr.lt _ _ hF) λhm=>H.wr.disj id' m b2 hne hF hm
   have B:∀k',k+k'<sz->∃y,w.cell? ⟨b2,o0+i*sz+(k+k'),none⟩=some y:=λk' U=>by
    obtain⟨fp1,hr,_,_⟩:=Dg (w':=w) p _ _ _ _ _ (W.wr.rel id' hid) (λb hb h'=>W.wr.dD id' b h' hb) hat
    rcases hr with⟨h0,_⟩|⟨b',o',cap',G,he',_,_,_,h5,_⟩
    .omega
    .obtain⟨rfl,rfl,_⟩:=As he'
     obtain⟨y,Z,_⟩:=h5 i (k+k') hi U;exact⟨y,Z⟩
   cases he;refine⟨hblk,?_,λs1 hs1 k' U=>?_⟩
   .obtain⟨y,Z⟩:=B 0 (by omega)
    exact⟨y,by simpa [Nat.add_assoc]using Z⟩
   .rw[hsz ti hti s1 hs1]at U
    obtain⟨y,Z⟩:=B k' (by omega)
    refine⟨y,?_⟩;rw[A3 rfl];simpa [Nat.add_assoc]using Z
  .rename_i ti u xv hti hsz1
   simp only[bAE]at h;obtain⟨g3,g4⟩:=h;have g3:=blE g3;have g4:=Ml g4;have hv:s.den.t z=A8 false (tyV u 0 xv):=by show(s.t z).v s.r=_;rw[hsz1];rfl
   have O:=hz (by rw[hv];simp[A8])
   have r2:=H.tm z (by simpa using O)
   have e2:(((range N).map s.den.t).map (rrV id q m)).getD z .dead=A8 false (tyV u 0 xv):=by
    have:(((range N).map s.den.t).map (rrV id q m)).getD z .dead=rrV id q m (s.den.t z):=by simp[O]
    rw[this,hv];rfl
   rw[e2,had]at r2;have hul:(tyV u 0 xv).length=u.w:=Av u 0 xv;rcases r2 with⟨_,h0,_⟩|⟨b,o0,cap,G,he,_,_,_,h5,h6,_⟩
   .cases h0
   .have hb:=(h6 rfl).1 (by rw[hul];omega)
    have hblk:w'.heap[b]? =w.heap[b]?:=hsame b (H.wr.Dlt b hb) λhm=>H.wr.dD m b hm hb
    have B:∀k',k'<u.w->∃y,w.cell? ⟨b,o0+k',none⟩=some y:=λk' U=>by
     obtain⟨y,Z,_⟩:=h5 0 k' (by omega) (by rw[hul];exact U)
     exact⟨y,by simpa using Z⟩
    cases he;refine⟨hblk,?_,λs1 hs1 k' U=>?_⟩
    .obtain⟨y,Z⟩:=B 0 (by omega)
     exact⟨y,by simpa using Z⟩
    .rw[hsz ti hti s1 hs1]at U
     obtain⟨y,Z⟩:=B k' (by omega)
     refine⟨y,?_⟩;rw[A3 rfl];exact Z
 |_=>cases h
def flT(E:Env)(ops:Array Oper)(fs:List Nat):Bool:=fs.all λf=>match ops[f]? with
 |some o=>AdS o.op&&(match o.op with
  |.fieldAddr t _ k=>match(E.Θ.look t).bind (·.flds[k]?)with
   |some _=>true
   |none=>false
  |_=>true)
 |none=>true
theorem AbG(u:E.Θ.OK P)(h:flT E ops fs=true):FlT P ops fs:=by
 intro f Z o W;have e:=aET.1 h f Z;rw[W]at e;simp at e;refine⟨e.1,λt x k B=>?_⟩
 have H:=e.2;rw[B]at H
 dsimp only at H
 split at H
 case h_2=>grind
 rename_i p O;obtain⟨off,sz⟩:=p;cases U:E.Θ.look t with
 |none=>grind
 |some i=>
  rw[U]at O;exact⟨off,sz,u.fld U O⟩
theorem Acy(W:E.Θ.OK P){ops:Array Oper}{n:Nat}{fs:List Nat}(h:Xd E s late o1 o2 o3=some A)(hp:A.p)(hs:AN C E.h.n s.den a w)
  (hon:ops[n]? =some o1) (O:∀f∈fs,∀o,ops[f]? =some o->o∈late) (hft:FlT P ops fs):FlH P ops n fs a w:=by
 unfold Xd at h;split at h
 case h_2=>cases h
 rename_i d t x y e t2 u v t3 hrow;obtain⟨ho1,hd1,ho2,hd2,ho3,hd3,hde,hnu,hnv⟩:=J0 hrow;split at h
 case h_2=>cases h
 rename_i ti ti2 ti3 id q hti hti2 hti3 hx;split at h
 case h_2=>cases h
 rename_i ro t' dx xs dy ys js H hy;split at h
 case isFalse=>cases h
 rename_i ht;subst ht;split at h
 case h_2=>cases h
 rename_i id' p kk di i hu hv;obtain⟨hb,h⟩:=A1 h;simp only[bAE,not_eq_true']at hb;obtain⟨⟨⟨⟨⟨⟨⟨⟨⟨⟨⟨b1,b2⟩,b3⟩,b4⟩,b5⟩,b6⟩,b7⟩,b8⟩,b9⟩,b10⟩,b11⟩,b12⟩:=hb;have b1:=bqE b1;subst b1;have b5:=bqE b5;have b6:=bqE b6;have b7:=bqE b7;have b9:=Aa0 b9;have b10:=Aa0 b10;split at h
 case h_2=>cases h
 rename_i c r0 hc hset;cases h;obtain⟨⟨⟨hi0,hil⟩,hcp⟩,hlim⟩:=hp;obtain rfl:=Jy _ _ _ hc hcp;have hY:∀j∈js,j<s.r.length/\j≠id':=by
  obtain⟨_,_,D,ρ,F,U⟩:=hs;exact(IX U ‹_› hy).js
 obtain⟨v',w',hrun,_,D,ρ,F,hcr2,B⟩:=Vh W ho1 hd1 b9 hti (Ml b2) (Ml b3) hx H hy b4 (by simpa [H7]using hlim) hs
 have Z:(∃D ρ F,CR C (Am js s).den.σ ((range E.h.n).map (Am js s).den.t) a.tmps w D ρ F)/\∀x,E.h.n<=x->(Am js s).den.t x=.dead:=by
  obtain⟨_,hdd,D,ρ,F,U⟩:=hs;obtain⟨F1,hcr1,_⟩:=Cr js U (λj hj=>(hY j hj).1)
  exact⟨⟨D,ρ,F1,hcr1⟩,BY js hdd⟩
 intro on hon';obtain rfl:on=o1:=Option.some.inj (hon'.symm.trans hon);refine⟨v',w',hrun,FlT.same hft (Aaw W Z.2 Z.1 ⟨D,ρ,F,hcr2,B⟩ λf hf o ho=>aET.1 b12 o (O f hf o ho))⟩
theorem Xc(h:Xd E s late o1 o2 o3=some A):Kp (Au [o1,o2,o3]) s A.s:=by
 unfold Xd at h;split at h
 case h_2=>cases h
 rename_i d t x y e t2 u v t3 U;obtain⟨_,hd1,_,hd2,_,_,_,_,_⟩:=J0 U;split at h
 case h_2=>cases h
 rename_i ti B ti3 id q hti hti2 hti3 hx;split at h
 case h_2=>cases h
 rename_i ro t' dx xs dy ys js hnode hy;split at h
 case isFalse=>cases h
 rename_i ht;split at h
 case h_2=>cases h
 rename_i id' p kk di i hu hv;generalize hcond:(beq id' id&&blt 0 ti.bytes&&blt 0 ti.ty.w&&dOK ti.ty dy dx&&beq ti3.ty.w 1&&beq (Ac (Am js s).r id p).w B.ty.w&&beq B.ty.w 1&&(Ac (Am js s).r id p).live&&blt d E.h.n&&blt e E.h.n&& !E.h.fz.contains e&&late.all (UT E (Am js s) s.r.length id q))=cond at h;cases cond with
 |false=>cases h
 |true=>
 simp only[cond_true]at h;split at h
 case h_2=>cases h
 rename_i c r0 hc O;cases h;have k0:Kp (Au [o1,o2,o3]) s (Am js s):=(KD js s (QP hy)).weak λ_ _=>rfl
 refine k0.trans ⟨λj hj hst=>?_,λH hid W=>?_,by simp⟩ (λ_ h=>h) λ_ h=>h
 .have Z:beq j d=false/\beq j e=false:=by
   refine⟨?_,?_⟩
   .cases hb:beq j d with
    |false=>rfl
    |true=>
     have:=bqE hb;subst this;simp[Au,hd1]at hj
   .cases hb:beq j e with
    |false=>rfl
    |true=>
     have:=bqE hb;subst this;simp[Au,hd2]at hj
  show(bif beq j d||beq j e then Sl.one .dead else _)=_;rw[Z.1,Z.2];exact Sl.kill_stay hst _ _ _
 .have hne:H≠id:=by
   rintro rfl
   rw[Hk O]at W;cases W
  show((Am js s).r.set id r0++[Ab.dead,Ab.dead]).getD H .dead=_;rw[gDE,gAL (by simpa using hid),getElem?_set_ne (Ne.symm hne),<-gDE]
end
theorem CR.frz1{ts:List V}{cts:Array Value}(h:CR C σ ts cts w D ρ F){j:Nat}(hj:j<σ.length)(ho:σ.getD j .dead=.nd false true sz 1 f)(hk:k<sz):
  WK C (σ.set j (upd [(0,k)] (σ.getD j .dead) (Go.Ve.frz (f 0 k)))) (ts.map (AI j [(0,k)])) cts w:=by
 have hr0:=h.wr.rel j hj;rw[ho]at hr0;rcases hr0 with⟨h0,_⟩|⟨b,o,cap,G,hcv,hcap,hmax,hs,hr,_,hown⟩
 .cases h0
 obtain⟨hb,hnb,hdis,hfp⟩:=hown rfl;have hGF:∀k' x,k'<sz->G 0 k' x->F j x:=λk' x B u=>(hfp x).2 (.inr ⟨0,k',one_pos,B,u⟩)
 have hF:∀i x,(if i=j then λx=>F j x/\¬G 0 k x else F i) x->F i x/\¬G 0 k x:=by
  intro i x u;split at u
  .rename_i e;subst e;exact u
  .rename_i e
   exact⟨u,λZ=>h.wr.disj i j x e u (hGF k x hk Z)⟩
 refine⟨λx=>D x\/G 0 k x,ρ,λi=>if i=j then λx=>F j x/\¬G 0 k x else F i,⟨λi hi=>?_,λi l x hil h1 h2=>h.wr.disj i l x hil (hF _ _ h1).1 (hF _ _ h2).1,λi x u hd=>?_,λx u=>?_,λi x hi u=>h.wr.out i x (by simpa using hi) (hF _ _ u).1⟩,by simpa using h.sz,λt ht=>?_,h.fr,λi x u=>h.Fn i x (hF _ _ u).1,λx u=>.inl (h.D1 x u),λx u hlt=>?_,h.rt,by simpa using h.ml⟩
 .have hi:i<σ.length:=by simpa using hi
  by_cases he:i=j
  .subst he
   rw[Ae hj,ho];simp only[if_true];obtain⟨G',hG'⟩:∃G':Nat->Nat->Nat->Prop,G'=λi' k'=>if i'=0/\k'=k then noF else G i' k':=⟨_,rfl⟩
   have g0:G' 0 k=noF:=by rw[hG'];exact if_pos ⟨rfl,rfl⟩
   have gi:∀i' k',¬ (i'=0/\k'=k)->G' i' k'=G i' k':=λi' k' e=>by rw[hG'];exact if_neg e
   have gg:∀i' k' x,G' i' k' x->¬ (i'=0/\k'=k)/\G i' k' x:=λi' k' x u=>by
    by_cases e:i'=0/\k'=k
    .rw[e.1,e.2,g0]at u;exact u.elim
    .rw[gi _ _ e]at u;exact⟨e,u⟩
   refine .inr ⟨b,o,cap,G',hcv,hcap,hmax,hs,λi' k' H B=>?_,λe=>(by cases e),λ_=>⟨hb,λi' k' H B u=>hnb i' k' H B (gg _ _ _ u).2,λi1 k1 i2 k2 x a1 a2 a3 a4 a5 g1 g2=>hdis i1 k1 i2 k2 x a1 a2 a3 a4 a5 (gg _ _ _ g1).2 (gg _ _ _ g2).2,λx=>?_⟩⟩
   .obtain⟨x,u,hrx⟩:=hr i' k' H B
    refine⟨x,u,?_⟩;obtain rfl:i'=0:=by omega
    by_cases e:k'=k
    .subst e
     simp only[and_self,if_true];rw[g0];exact Rel.frz _ _ _ hrx
    .simp only[e,and_false,if_false]
     rw[gi 0 k' λh=>e h.2]
     exact Rel.mono (λ_ h=>.inl h) (λ_ _ h=>h) _ _ _ (λ_ _=>rfl) hrx
   .constructor
    .rintro ⟨h1,h2⟩
     rcases(hfp x).1 h1 with e|⟨i',k',H,B,Z⟩
     .exact .inl e
     .refine .inr ⟨i',k',H,B,?_⟩
      rw[gi _ _ λe=>h2 (by rw[<-e.1,<-e.2];exact Z)]
      exact Z
    .rintro (e|⟨i',k',H,B,Z⟩)
     .subst e
      exact⟨(hfp _).2 (.inl rfl),hnb 0 k one_pos hk⟩
     .obtain⟨e,Z⟩:=gg _ _ _ Z
      obtain rfl:i'=0:=by omega
      refine⟨hGF k' x B Z,λhg2=>hdis 0 k' 0 k x H B H hk (.inr λe2=>e ⟨rfl,e2⟩) Z hg2⟩
  .rw[Ad (Ne.symm he)]
   simp only[he,if_false];exact Rel.mono (λ_ h=>.inl h) (λ_ _ h=>h) _ _ _ (λ_ _=>rfl) (h.wr.rel i hi)
 .obtain⟨h1,h2⟩:=hF i x u
  exact hd.elim (h.wr.dD i x h1) h2
 .exact u.elim (h.wr.Dlt x) λZ=>h.wr.lt j x (hGF k x hk Z)
 .simp at ht
  have e1:(ts.map (AI j [(0,k)])).getD t .dead=AI j [(0,k)] (ts.getD t .dead):=by simp[ht]
  rw[e1];refine Rel.mono (λ_ h=>.inl h) (λ_ _ h=>h) _ _ _ (λ_ _=>rfl) ((Ba _ _).rel (R':=Ai (σ.set j (upd [(0,k)] (σ.getD j .dead) (Go.Ve.frz (f 0 k)))) ρ w) (λ_ _=>rfl) ?_ ?_ ?_ _ _ noF (λ_ h=>h) (h.tm t ht))
  .rintro id q off len cv ⟨W,O,n',f',cn,ha,r⟩
   simp only[AI];split
   .exact λ_ h=>h
   .rename_i U
    refine⟨⟨by simpa using W,?_⟩,λ_ h=>h⟩
    by_cases e:id=j
    .subst e
     rw[Ae hj];obtain⟨f2,h2⟩:=At.keep (x:=Go.Ve.frz (f 0 k)) [(0,k)] q _ _ (by rw[ho];exact⟨rfl,one_pos,hk,trivial⟩) (by simpa using U) ha
     exact⟨O,n',f2,cn,h2,r⟩
    .rw[Ad (Ne.symm e)]
     exact⟨O,n',f',cn,ha,r⟩
  .rintro id q i' k' cv ⟨W,s',O,n',f',b',o',cap',ha,r⟩
   simp only[AI];split
   .exact λ_ h=>h
   .rename_i U
    refine⟨⟨by simpa using W,?_⟩,λ_ h=>h⟩
    by_cases e:id=j
    .subst e
     rw[Ae hj];obtain⟨f2,h2⟩:=At.keep (x:=Go.Ve.frz (f 0 k)) [(0,k)] q _ _ (by rw[ho];exact⟨rfl,one_pos,hk,trivial⟩) (by simpa using U) ha
     exact⟨s',O,n',f2,b',o',cap',h2,r⟩
    .rw[Ad (Ne.symm e)]
     exact⟨s',O,n',f',b',o',cap',ha,r⟩
  .rintro id q cv ⟨W,l',b',ha,r⟩
   simp only[AI];split
   .exact λ_ h=>h
   .rename_i U
    refine⟨⟨by simpa using W,l',b',?_,r⟩,λ_ h=>h⟩
    by_cases e:id=j
    .subst e
     rw[Ae hj];exact At.keepM (x:=Go.Ve.frz (f 0 k)) [(0,k)] q _ _ (by rw[ho];exact⟨rfl,one_pos,hk,trivial⟩) (by simpa using U) ha
    .rw[Ad (Ne.symm e)]
     exact ha
 .rcases u with u|u
  .exact h.D2 x u hlt
  .exact(h.Fn j x (hGF k x hk u)).elim .inr λhge=>absurd hlt (not_lt.2 hge)
def Ado(id k:Nat)(s:St):Option St:=match s.r.getD id .dead with
 |.obj false l=>match l.getD k .dead with
  |.c (.sl t) (_+1) xs=>match(s.r.getD id .dead).setAt [] 0 k (.c (.sl t) 0 xs)with
   |some r0=>some ⟨λi=>(s.t i).kill id [k] [],s.r.set id r0⟩
   |none=>none
  |_=>some s
 |_=>some s
theorem AaJ(h:Ado id k s=some s')(hs:AN C N s.den a w):AN C N s'.den a w/\Kp (λ_=>true) s s':=by
 unfold Ado at h;split at h
 case h_2=>cases h;exact⟨hs,Kp.refl _ _⟩
 rename_i l hr;split at h
 case h_2=>cases h;exact⟨hs,Kp.refl _ _⟩
 rename_i t d xs hl;split at h
 case h_2=>cases h
 rename_i r0 B;cases h;have u:id<s.r.length:=by
  rcases lt_or_ge id s.r.length with h|h
  .exact h
  .rw[gDE,getElem?_eq_none h]at hr;cases hr
 have W:k<l.length:=by
  rcases lt_or_ge k l.length with h|h
  .exact h
  .rw[gDE,getElem?_eq_none h]at hl;cases hl
 have hσ:s.den.σ.getD id .dead=A8 true (l.map Cl.v0):=by
  show(s.r.map Ab.v).getD id .dead=_;rw[Ak,hr];rfl
 obtain⟨hd,hdd,D,ρ,F,hcr⟩:=hs;have hf:=hcr.frz1 (by simpa [St.den]using u) hσ (by simpa using W)
 have H:Go.Ve.frz ((l.map Cl.v0).getD k .dead)=(Cl.c (.sl t) 0 xs).v0:=by
  have:(l.map Cl.v0).getD k .dead=(l.getD k .dead).v0:=by
   simp[gDE,getElem?_map,gEE W]
  rw[this,hl];exact UY (t:=.sl t) rfl _ _
 have U:∀id' q,hit id [k] [] id' q=false->(Ac (s.r.set id r0) id' q).len=(Ac s.r id' q).len:=by
  intro id' q hq;by_cases e:id'=id
  .subst e
   have hp:pre [k] q=false:=by
    unfold hit at hq;simpa using hq
   have h1:=Jb [] _ _ B q hp;unfold Ac;have Z:(s.r.set id' r0).getD id' .dead=r0:=by simp[gDE,u]
   rw[Z];exact h1
  .rw[A9 e]
 have hk:=λy=>Sl.kill_v (r:=s.r) (r':=s.r.set id r0) (GOK.kill (id:=id) (P:=[(0,k)])) U y
 refine⟨⟨hd,λi hi=>?_,?_⟩,⟨λi _ hst=>Sl.kill_stay hst _ _ _,λid' _ O=>?_,by simp⟩⟩
 .have h0:(s.t i).v s.r=.dead:=hdd i hi
  have h1:=hk (s.t i);rw[h0]at h1;rcases h1 with h|h
  .exact h
  .exact h
 .obtain⟨D',ρ',F',hc'⟩:=hf
  refine⟨D',ρ',F',hc'.sub (by simp[St.den]) (λi _=>?_) (by simp) λi hi=>?_⟩
  .by_cases e:i=id
   .subst e
    rw[Ae (by simpa [St.den]using u)]
    show Sub (upd [(0,k)] _ (Go.Ve.frz ((l.map Cl.v0).getD k .dead))) (((s.r.set i r0).map Ab.v).getD i .dead);rw[H];rw[Ak];have Z:(s.r.set i r0).getD i .dead=r0:=by simp[gDE,u]
    rw[Z];have e3:s.den.σ.getD i .dead=(s.r.getD i .dead).v:=Ak _ _;rw[e3];exact Hx [] _ _ B
   .rw[Ad (Ne.symm e)]
    show Sub ((s.r.map Ab.v).getD i .dead) (((s.r.set id r0).map Ab.v).getD i .dead);rw[Ak,Ak];have Z:(s.r.set id r0).getD i .dead=s.r.getD i .dead:=by simp only[gDE,getElem?_set_ne (Ne.symm e)]
    rw[Z];exact Sub.refl _
  .have hi:i<N:=by simpa using hi
   have e1:(((range N).map s.den.t).map (AI id [(0,k)])).getD i .dead=AI id [(0,k)] ((s.t i).v s.r):=by simp[hi,St.den]
   rw[e1,AP hi];exact hk (s.t i)
 .have hne:id'≠id:=by
   rintro rfl
   rw[hr]at O;cases O
  simp only[gDE,getElem?_set_ne (Ne.symm hne)]
def Pc(id:Nat):List Nat->St->Option St
 |[],s=>some s
 |k::l,s=>match Ado id k s with
  |some s'=>Pc id l s'
  |none=>none
def Kw{C:Ctx}{N:Nat}{id:Nat}{a:Act}{w:World}:∀(l:List Nat) {s s':St},Pc id l s=some s'->AN C N s.den a w->AN C N s'.den a w/\Kp (λ_=>true) s s'
 |[],s,s',h,e=>by cases h;exact⟨e,Kp.refl _ _⟩
 |k::l,s,s',h,e=>by
  unfold Pc at h;split at h
  case h_2=>cases h
  rename_i s1 u;obtain⟨g1,g2⟩:=AaJ u e;obtain⟨H,B⟩:=Kw l h g1;exact⟨H,g2.trans B (λ_ _=>rfl) λ_ _=>rfl⟩
def frzO(E:Env)(s:St)(o:Oper):Option St:=match o.op,o.dst with
 |.load t (.tmp z),some d=>bif E.h.fz.contains (4000000+d)then(match s.t z,E.Θ.look t with
  |.one (.rp id [] 0 k),some i=>Pc id ((range i.ty.w).map λj=>k+j) s
  |_,_=>some s)else some s
 |.move (.tmp z),some d=>bif E.h.fz.contains (6000000+d)then(match s.t z with
  |.one (.rf id [])=>Pb id s
  |_=>some s)else some s
 |_,_=>some s
theorem Adn(h:frzO E s o=some s')(H:AN C N s.den a w):AN C N s'.den a w/\Kp (λ_=>true) s s':=by
 have u:some s=some s'->AN C N s'.den a w/\Kp (λ_=>true) s s':=λe=>by cases e;exact⟨H,Kp.refl _ _⟩
 unfold frzO at h;split at h
 case h_3=>exact u h
 case h_2=>
  rename_i z d _ _;cases B:E.h.fz.contains (6000000+d)with
  |false=>rw[B]at h;exact u h
  |true=>
   rw[B]at h;simp only[cond_true]at h;split at h
   .exact⟨YK h H,YL h⟩
   .exact u h
 rename_i t z d _ _;cases B:E.h.fz.contains (4000000+d)with
 |false=>rw[B]at h;exact u h
 |true=>
  rw[B]at h;simp only[cond_true]at h;split at h
  .exact Kw _ h H
  .exact u h
def frzP(E:Env)(s:St)(o:Oper):Option St:=match o.op with
 |.store t (.tmp z) _=>bif E.h.fz.contains (5000000+z)then(match s.t z,E.Θ.look t with
  |.one (.rp id [] 0 k),some i=>Pc id ((range i.ty.w).map λj=>k+j) s
  |_,_=>some s)else some s
 |_=>some s
theorem Adm(h:frzP E s o=some s')(B:AN C N s.den a w):AN C N s'.den a w/\Kp (λ_=>true) s s':=by
 have u:some s=some s'->AN C N s'.den a w/\Kp (λ_=>true) s s':=λe=>by cases e;exact⟨B,Kp.refl _ _⟩
 unfold frzP at h;split at h
 case h_2=>exact u h
 rename_i t z _ _;cases H:E.h.fz.contains (5000000+z)with
 |false=>rw[H]at h;exact u h
 |true=>
  rw[H]at h;simp only[cond_true]at h;split at h
  .exact Kw _ h B
  .exact u h
end Go.Ve


namespace Go.Ve
variable{p p':AG}{a:Act}{C:Ctx}{J:List Nat}{i id j j' k k':Nat}{o:Oper}{P:Program}{s:St}{w:World}
def MZ(t:Ty)(d:Nat)(l:List Cl):Option t.T:=IG t d (l.map (fit d))
theorem Kb{t:Ty}{d:Nat}{l:List Cl}{x:t.T}(h:MZ t d l=some x)(r:List Ab):CY (l.map (Cl.v r)) (tyV t d x)/\l.map (Cl.v r)=l.map Cl.v0:=by
 have:=Dj h r
 have u:(l.map (fit d)).map (Cl.v r)=l.map (Cl.v r):=by
  rw[map_map];exact map_congr_left λc _=>(Adr d r c).1
 have e:(l.map (fit d)).map Cl.v0=l.map Cl.v0:=by
  rw[map_map];exact map_congr_left λc _=>(Adr d r c).2
 grind
def Ads:List CM->List Cl->List (Nat×Nat)
 |.r i _ _ _::l,.rp id _ _ _::ys=>(i,id)::Ads l ys
 |_::l,_::ys=>Ads l ys
 |_,_=>[]
def AaM:List AM->List (Option Sl)->List (Nat×Nat)
 |.r i _ _ _::l,some (.one (.rp id _ _ _))::ys=>(i,id)::AaM l ys
 |.k _ c::l,some (.pk _ cs)::ys=>Ads c cs++AaM l ys
 |_::l,_::ys=>AaM l ys
 |_,_=>[]
def idOf(i:Nat):List (Nat×Nat)->Nat
 |[]=>0
 |a::l=>bif beq a.1 i then a.2 else idOf i l
def AdL(J:List Nat)(i:Nat)(p:AG)(j k id:Nat)(p':AG)(j' k':Nat):Bool:=blt i J.length&&beq (J.getD i 0) id&&eqP p p'&&beq j j'&&beq k k'
def VM(J:List Nat):(l:List CM)->List Cl->Option (CsM l).T
 |[],[]=>some ()
 |.p t::l,y::ys=>match DV t 0 y with
  |some x=>match VM J l ys with
   |some z=>some (x,z)
   |none=>none
  |none=>none
 |.r i p j k::l,.rp id p' j' k'::ys=>bif AdL J i p j k id p' j' k' then VM J l ys else none
 |_,_=>none
def Jk(s:St)(J:List Nat):(l:List AM)->List (Option Sl)->Option (PM l).T
 |[],[]=>some ()
 |.p b t::l,y::ys=>bif uok y then(match Jj s b t y with
  |some x=>match Jk s J l ys with
   |some z=>some (x,z)
   |none=>none
  |none=>none)else none
 |.r i p j k::l,some (.one (.rp id p' j' k'))::ys=>bif AdL J i p j k id p' j' k' then Jk s J l ys else none
 |.k g c::l,some (.pk (.cl g') cs)::ys=>bif beq g g' then(match VM J c cs with
  |some x=>match Jk s J l ys with
   |some z=>some (x,z)
   |none=>none
  |none=>none)else none
 |_,_=>none
def Aaa(s:St):(ts:List (Nat×Ty))->List Nat->Option (TM ts).T
 |[],[]=>some ()
 |p::l,id::J=>match s.r.getD id .dead with
  |.obj false c=>match MZ p.2 p.1 c with
   |some x=>match Aaa s l J with
    |some z=>some (x,z)
    |none=>none
   |none=>none
  |_=>none
 |_,_=>none
def AdQ(J:List Nat)(id:Nat)(q:AG):Bool:=J.contains id&&match q with
 |[]=>false
 |_=>true
def OJ:List Nat->List Ab->List Ab->List Ab
 |j::J,v::vs,r=>OJ J vs (r.set j v)
 |_,_,r=>r
structure PB where
 α:Type
 o:Option α
 y:α->Sl
 st:α->St
def AdP(e:EnM)(ys:List (Option Sl)):List Nat:=(range e.S.ts.length).map λi=>idOf i (AaM e.S.ps ys)
def MF(e:EnM)(s:St)(ys:List (Option Sl)):Option PB:=bif ndB (AdP e ys)&&DF e.S.rs then(match Jk s (AdP e ys) e.S.ps ys,Aaa s e.S.ts (AdP e ys)with
  |some z,some x=>some ⟨(RT e.S.rs).T×(TM e.S.ts).T,e.g z x,λu=>MP true e.S.rs u.1,λu=>⟨λi=>(s.t i).killP (AdQ (AdP e ys)),OJ (AdP e ys) (A7 e.S.ts u.2) s.r⟩⟩
  |_,_=>none)else none
def Lm:List EnM->St->FuncId->List (Option Sl)->Option PB
 |[],_,_,_=>none
 |e::M,s,f,ys=>bif beq e.f f then(match MF e s ys with
  |some A=>some A
  |none=>Lm M s f ys)else Lm M s f ys
def AdA(s:St):Op->Option (FuncId×List (Option Sl))
 |.call c=>match c.callee with
  |.value (.func f)=>some (f,c.args.toList.map s.ev)
  |.value (.tmp y)=>match s.t y with
   |.pk (.cl g) cs=>bif blt g 1000000 then some (g,c.args.toList.map s.ev++cs.map λc=>some (.one c))else none
   |_=>none
  |_=>none
 |_=>none
def AcV(M:List EnM)(h:Cd)(s:St)(o:Oper):Option PB:=match M with
 |[]=>none
 |M=>bif(match o.dst with
  |some d=>blt d h.n&& !h.fz.contains d
  |none=>true)then(match AdA s o.op with
  |some (f,ys)=>Lm M s f ys
  |none=>none)else none
def N8{s:St}{f:FuncId}{ys:List (Option Sl)}{A:PB}:∀{M:List EnM},Lm M s f ys=some A->∃e∈M,e.f=f/\MF e s ys=some A
 |[],h=>by cases h
 |e::M,h=>by
  have back:Lm M s f ys=some A->∃u∈e::M,u.f=f/\MF u s ys=some A:=λh=>by
   obtain⟨u,U,O⟩:=N8 h;exact⟨u,mCM _ U,O⟩
  unfold Lm at h;cases B:beq e.f f with
  |false=>rw[B]at h;exact back h
  |true=>
   rw[B]at h;simp only[cond_true]at h;split at h
   .rename_i A' H
    cases h;exact⟨e,mem_cons_self ..,bqE B,H⟩
   .exact back h
def refB_v(h:AdL J i p j k id p' j' k'=true):i<J.length/\J.getD i 0=id/\p=p'/\j=j'/\k=k':=by
 unfold AdL at h;simp only[bAE]at h;exact⟨blE h.1.1.1.1,bqE h.1.1.1.2,Pj _ _ h.1.1.2,bqE h.1.2,bqE h.2⟩
def XR{s:St}:∀{ts:List (Nat×Ty)}{J:List Nat}{x:(TM ts).T},Aaa s ts J=some x->J.length=ts.length/\∀k,k<J.length->∃(t:Ty) (l:List Cl),s.r.getD (J.getD k 0) .dead=.obj false l/\l.length=t.w/\Sub (s.r.getD (J.getD k 0) .dead).v ((A7 ts x).getD k .dead).v/\∀e:(TM ts).T,∃B:List Cl,(A7 ts e).getD k .dead=.obj false B/\B.length=t.w
 |[],[],x,_=>⟨rfl,λk u=>by simp at u⟩
 |p::ts,id::J,x,h=>by
  unfold Aaa at h;split at h
  case h_2=>cases h
  rename_i c H;split at h
  case h_2=>cases h
  rename_i y U;split at h
  case h_2=>cases h
  rename_i z O;cases h;obtain⟨h1,Z⟩:=XR O;obtain⟨g1,g2⟩:=Kb U [];rw[g2]at g1;have W:c.length=p.2.w:=by
   have:=g1.len;rw[length_map,Av]at this;exact this
  refine⟨by simp[h1],λk u=>?_⟩
  cases k with
  |zero=>
   refine⟨p.2,c,H,W,?_,λe=>⟨Aq p.2 p.1 e.1,rfl,Me _ _ _⟩⟩
   show Sub (s.r.getD id .dead).v (A8 true ((Aq p.2 p.1 y).map Cl.v0));rw[H,Bs];exact CY.obj g1
  |succ k=>
   obtain⟨t,l,k1,k2,k3,k4⟩:=Z k (by simpa using u)
   exact⟨t,l,k1,k2,k3,λe=>k4 e.2⟩
 |[],_::_,_,h=>by cases h
 |_::_,[],_,h=>by cases h
def X1:∀(J:List Nat) (e r:List Ab),(OJ J e r).map Ab.v=Ho J (e.map Ab.v) (r.map Ab.v)
 |j::J,v::e,r=>by
  show(OJ J e (r.set j v)).map Ab.v=Ho J (e.map Ab.v) ((r.map Ab.v).set j v.v);rw[X1 J e,map_set]
 |[],_,_=>rfl
 |_::_,[],_=>rfl
def Ux:∀(J:List Nat) (e r:List Ab),(OJ J e r).length=r.length
 |j::J,v::e,r=>by
  show(OJ J e (r.set j v)).length=_;rw[Ux J e];simp
 |[],_,_=>rfl
 |_::_,[],_=>rfl
def Qg:∀(J:List Nat) (e r:List Ab) (i:Nat),i∉J->(OJ J e r).getD i .dead=r.getD i .dead
 |j::J,v::e,r,i,h=>by
  simp only[mem_cons,not_or]at h;show(OJ J e (r.set j v)).getD i .dead=_;rw[Qg J e _ i h.2,DR (Ne.symm h.1)]
 |[],_,_,_,_=>rfl
 |_::_,[],_,_,_=>rfl
def OI:∀(J:List Nat) (u r:List Ab) (i:Nat),(∀v∈u,v.len=1)->(∀j∈J,(r.getD j .dead).len=1)->((OJ J u r).getD i .dead).len=(r.getD i .dead).len
 |j::J,v::u,r,i,h,hj=>by
  show((OJ J u (r.set j v)).getD i .dead).len=_
  have e:∀k,((r.set j v).getD k .dead).len=(r.getD k .dead).len:=by
   intro k;by_cases H:k=j
   .subst H
    rw[hj k (mem_cons_self ..)];rcases lt_or_ge k r.length with B|B
    .have:(r.set k v).getD k .dead=v:=by simp[B]
     rw[this];exact h v (mem_cons_self ..)
    .have:=hj k (mem_cons_self ..)
     rw[gDE,getElem?_eq_none B]at this;cases this
   .rw[DR (Ne.symm H)]
  rw[OI J u _ i (λv O=>h v (mCM _ O)) (λk B=>by rw[e];exact hj k (mCM _ B)),e]
 |[],_,_,_,_,_=>rfl
 |_::_,[],_,_,_,_=>rfl
section
variable {s:St}{σ0:List V}{ρ ρ0:Nat->Value}{w:World}{D:Nat->Prop}{J:List Nat}
def slM_v(b:Bool)(t:Ty)(x:t.T):(slM b t x).v []=vOf b t 0 x:=by
 cases b with
 |true=>show Ag ((Aq t 0 x).map (Cl.v []))=_;rw[Cl.v_c];rfl
 |false=>rfl
def XL(H:∀i p j k cv,i<J.length->Ai (s.r.map Ab.v) ρ w (.rp (J.getD i 0) p j k) cv->Ai σ0 ρ0 w (.rp i p j k) cv)(h:AdL J i p j k id p' j' k'=true){cv:Value}(e:Rel D w (Ai (s.r.map Ab.v) ρ w) (.rp id p' j' k') cv noF):Rel D w (Ai σ0 ρ0 w) (.rp i p j k) cv noF:=by
 obtain⟨u,rfl,rfl,rfl,rfl⟩:=refB_v h;exact⟨H _ _ _ _ _ u e.1,λ_ h=>h⟩
theorem Qa(H:∀i p j k cv,i<J.length->Ai (s.r.map Ab.v) ρ w (.rp (J.getD i 0) p j k) cv->Ai σ0 ρ0 w (.rp i p j k) cv):∀(l:List CM) (ys:List Cl) (x:(CsM l).T),VM J l ys=some x->
  (ND l x).length=ys.length/\∀i cv,i<ys.length->Rel D w (Ai (s.r.map Ab.v) ρ w) ((ys.getD i .dead).v s.r) cv noF->Rel D w (Ai σ0 ρ0 w) (((ND l x).getD i .dead).v []) cv noF
 |[],[],x,_=>⟨rfl,λi cv hi _=>by simp at hi⟩
 |.p t::l,y::ys,x,h=>by
  unfold VM at h;split at h
  case h_2=>cases h
  rename_i u Z;split at h
  case h_2=>cases h
  rename_i z W;cases h;obtain⟨g1,g2⟩:=Qa H l ys z W;refine⟨congrArg (· +1) g1,λi cv hi e=>?_⟩
  cases i with
  |zero=>
   have B:clean ((Cl.c t 0 u).v s.r):=Cl.clean_v (by cases t<;>rfl)
   have U:=Rel.sub (Kc Z s.r).1 e;exact Rel.clean _ _ _ _ _ B U
  |succ i=>exact g2 i cv (by simpa using hi) e
 |.r i0 p j k::l,y::ys,x,h=>by
  cases y with
  |rp id p' j' k'=>
   have h:(bif AdL J i0 p j k id p' j' k' then VM J l ys else none)=some x:=h;obtain⟨O,h⟩:=A1 h;obtain⟨g1,g2⟩:=Qa H l ys _ h;refine⟨congrArg (· +1) g1,λi cv hi e=>?_⟩
   cases i with
   |zero=>exact XL H O e
   |succ i=>exact g2 i cv (by simpa using hi) e
  |_=>cases h
 |[],_::_,_,h=>by cases h
 |.p _::_,[],_,h=>by cases h
 |.r _ _ _ _::_,[],_,h=>by cases h
theorem DS:∀(l:List AM) (ys:List (Option Sl)) (z:(PM l).T),Jk s J l ys=some z->(Jq l z).length=ys.length
 |[],[],_,_=>rfl
 |.p b t::l,y::ys,z,h=>by
  unfold Jk at h;obtain⟨_,h⟩:=A1 h;split at h
  case h_2=>cases h
  split at h
  case h_2=>cases h
  rename_i e u;cases h;exact congrArg (· +1) (DS l ys e u)
 |.r i p j k::l,some (.one (.rp id p' j' k'))::ys,z,h=>by
  unfold Jk at h;obtain⟨_,h⟩:=A1 h;exact congrArg (· +1) (DS l ys z h)
 |.k g c::l,some (.pk (.cl g') cs)::ys,z,h=>by
  unfold Jk at h;obtain⟨_,h⟩:=A1 h;split at h
  case h_2=>cases h
  split at h
  case h_2=>cases h
  rename_i e u;cases h;exact congrArg (· +1) (DS l ys e u)
theorem MR(H:∀i p j k cv,i<J.length->Ai (s.r.map Ab.v) ρ w (.rp (J.getD i 0) p j k) cv->Ai σ0 ρ0 w (.rp i p j k) cv):∀(l:List AM) (ys:List (Option Sl)) (z:(PM l).T),Jk s J l ys=some z->
  ∀i,i<ys.length->∃y,ys[i]? =some (some y)/\∀cv,Rel D w (Ai (s.r.map Ab.v) ρ w) (y.v s.r) cv noF->Rel D w (Ai σ0 ρ0 w) (((Jq l z).getD i (.one .dead)).v []) cv noF
 |[],[],_,_,i,hi=>by simp at hi
 |.p b t::l,y::ys,z,h,i,hi=>by
  unfold Jk at h;obtain⟨B,h⟩:=A1 h;split at h
  case h_2=>cases h
  rename_i O h1;split at h
  case h_2=>cases h
  rename_i Z h2;cases h;cases i with
  |zero=>
   cases y with
   |none=>cases B
   |some y=>
    have B:(!y.lent&&y.notB)=true:=B;rw[bAE,not_eq_true']at B;obtain⟨g1,_,g3⟩:=Abe B.1 B.2 h1;refine⟨y,rfl,λcv W=>?_⟩
    show Rel D w (Ai σ0 ρ0 w) ((slM b t O).v []) cv noF;rw[slM_v];exact Rel.sub g1 (Rel.clean _ _ _ _ _ g3 W)
  |succ i=>exact MR H l ys Z h2 i (by simpa using hi)
 |.r i0 p j k::l,some (.one (.rp id p' j' k'))::ys,z,h,i,hi=>by
  unfold Jk at h;obtain⟨hb,h⟩:=A1 h;cases i with
  |zero=>exact⟨_,rfl,λcv W=>XL H hb W⟩
  |succ i=>exact MR H l ys z h i (by simpa using hi)
 |.k g c::l,some (.pk (.cl g') cs)::ys,z,h,i,hi=>by
  unfold Jk at h;obtain⟨hb,h⟩:=A1 h;split at h
  case h_2=>cases h
  rename_i O h1;split at h
  case h_2=>cases h
  rename_i Z h2;cases h;have hg:=bqE hb;subst hg;cases i with
  |zero=>
   refine⟨_,rfl,λcv W=>?_⟩
   obtain⟨g1,g2⟩:=Qa (D:=D) H c cs O h1;obtain⟨u,G,hcv,hn,U,_,hfp⟩:=W;refine⟨u,λ_=>noF,hcv,?_,λk e=>?_,λ_ _ _ _ _ _ h=>h.elim,λb=>⟨λh=>h.elim,fun⟨_,_,h⟩=>h⟩⟩
   .rw[hn,length_map,length_map]
    exact g1.symm
   .have e:k<cs.length:=by
     have e:k<((ND c O).map (Cl.v [])).length:=e;rw[length_map,g1]at e;exact e
    have h3:=U k (by rw[length_map];exact e)
    show Rel D w (Ai σ0 ρ0 w) (((ND c O).map (Cl.v [])).getD k .dead) (u.getD k undef) noF;rw[Az (f:=Cl.v []) (a:=.dead) rfl];refine g2 k _ e ?_;have h4:Rel D w (Ai (s.r.map Ab.v) ρ w) ((cs.map (Cl.v s.r)).getD k .dead) (u.getD k undef) (G k):=h3;rw[Az (f:=Cl.v s.r) (a:=.dead) rfl]at h4;exact Rel.fp_congr (λb=>⟨λh=>(hfp b).2 ⟨k,by rw[length_map];exact e,h⟩,λh=>h.elim⟩) h4
  |succ i=>exact MR H l ys Z h2 i (by simpa using hi)
end
theorem AaX{N:Nat}{f:FuncId}{ys:List (Option Sl)}(h:AdA s o.op=some (f,ys))(hc:AA P f=true)(hs:AN C N s.den a w):
  ∃cvs,(execOp a.eval o).run P w=.ok (.enter f cvs) w/\cvs.size=ys.length/\∀D ρ F,CR C s.den.σ ((range N).map s.den.t) a.tmps w D ρ F->∀i y,ys[i]? =some (some y)->Rel D w (Ai s.den.σ ρ w) (y.v s.r) (cvs.getD i undef) noF:=by
 obtain⟨_,hdd,D0,ρ0,F0,hcr0⟩:=hs
 have args:∀(xs:Array Operand) (cs:Array Value) D ρ F,CR C s.den.σ ((range N).map s.den.t) a.tmps w D ρ F->∀i y,(xs.toList.map s.ev)[i]? =some (some y)->Rel D w (Ai s.den.σ ρ w) (y.v s.r) ((xs.map a.eval++cs).getD i undef) noF:=by
  intro xs cs D ρ F H i y B;rw[getElem?_map]at B;cases O:xs.toList[i]? with
  |none=>rw[O]at B;cases B
  |some x=>
   rw[O]at B;have B:s.ev x=some y:=by simpa using B
   have hi:i<xs.size:=by
    have:=(List.getElem?_eq_some_iff.1 O).1;simpa using this
   have h1:=Bq H hdd x;rw[Bd B]at h1;have hxe:xs[i]=x:=by
    have:=(List.getElem?_eq_some_iff.1 O).2;simpa using this
   have e:(xs.map a.eval++cs).getD i undef=a.eval x:=by
    have hi':i<(xs.map a.eval).size:=by simpa using hi
    simp[Array.getElem?_append_left hi',hi,hxe]
   rw[e];exact h1
 unfold AdA at h;split at h
 case h_2=>cases h
 rename_i c hop;obtain⟨callee,xs,ats⟩:=c;split at h
 case h_3=>cases h
 .rename_i f' W
  cases h;have W:callee=.value (.func f):=W;subst W;refine⟨xs.map a.eval++ #[],Ie hop rfl hc,by simp,λD ρ F H i y B=>args xs #[] D ρ F H i y B⟩
 .rename_i Z W
  have W:callee=.value (.tmp Z):=W;subst W;split at h
  case h_2=>cases h
  rename_i g cs hy0;obtain⟨hlt,h⟩:=A1 h;cases h
  have fv:∀D ρ F,CR C s.den.σ ((range N).map s.den.t) a.tmps w D ρ F->∃u:Array Value,a.eval (.tmp Z)=.func (.func f) #[] u/\u.size=cs.length/\∀k,k<cs.length->Rel D w (Ai s.den.σ ρ w) ((cs.getD k .dead).v s.r) (u.getD k undef) noF:=by
   intro D ρ F H;have h1:=Bq H hdd (.tmp Z)
   have e:s.den.ev (.tmp Z)=(Sl.pk (.cl f) cs).v s.r:=by
    show(s.t Z).v s.r=_;rw[hy0]
   rw[e]at h1;obtain⟨u,G,U,hn,hrel,_,hfp⟩:=h1;have U:a.eval (.tmp Z)=WJ f u:=U;rw[Pq hlt]at U;rw[length_map]at hn;refine⟨u,U,hn,λk hk=>?_⟩
   have h4:Rel D w (Ai s.den.σ ρ w) ((cs.map (Cl.v s.r)).getD k .dead) (u.getD k undef) (G k):=hrel k (by rw[length_map];exact hk)
   rw[Az (f:=Cl.v s.r) (a:=.dead) rfl]at h4;exact Rel.fp_congr (λb=>⟨λh=>(hfp b).2 ⟨k,by rw[length_map];exact hk,h⟩,λh=>h.elim⟩) h4
  obtain⟨u,e1,e2,_⟩:=fv D0 ρ0 F0 hcr0;refine⟨xs.map a.eval++u,Ie hop e1 hc,by simp[e2],λD ρ F H i y B=>?_⟩
  by_cases hi:i<xs.toList.length
  .rw[gAL (by simpa using hi)]at B
   exact args xs u D ρ F H i y B
  .have hi:xs.toList.length<=i:=Nat.le_of_not_lt hi
   rw[gAR (by simpa using hi)]at B
   obtain⟨cs1,e3,e4,e5⟩:=fv D ρ F H;rw[e1]at e3;cases e3;rw[getElem?_map]at B;cases O:cs[i-(xs.toList.map s.ev).length]? with
   |none=>rw[O]at B;cases B
   |some c=>
    rw[O]at B;have B:Sl.one c=y:=by simpa using B
    subst B;have hl:(xs.toList.map s.ev).length=xs.size:=by simp
    rw[hl]at O;have hk:=(List.getElem?_eq_some_iff.1 O).1;have h6:=e5 _ hk;have e7:cs.getD (i-xs.size) .dead=c:=by rw[gDE,O];rfl
    rw[e7]at h6
    have e8:(xs.map a.eval++u).getD i undef=u.getD (i-xs.size) undef:=by
     have h2:(xs.map a.eval).size<=i:=by simpa using hi
     rw[Array.getD_eq_getD_getElem?,Array.getD_eq_getD_getElem?,Array.getElem?_append_right h2];simp
    rw[e8];exact h6
theorem Z5{S S':Ms}(e:S'.σ.length=S.σ.length)(u:∀i,i<S.σ.length->Sub (S.σ.getD i .dead) (S'.σ.getD i .dead))(B:∀i,An (S.t i) (S'.t i))(h:Cd)(d:Option Nat)(r:V):
  (S'.res h d r).σ.length=(S.res h d r).σ.length/\(∀i,i<(S.res h d r).σ.length->Sub ((S.res h d r).σ.getD i .dead) ((S'.res h d r).σ.getD i .dead))/\∀i,An ((S.res h d r).t i) ((S'.res h d r).t i):=by
 have H:∀(d:Nat) (v:V) (i:Nat),An (AD S.t d v i) (AD S'.t d v i):=by
  intro d v i;unfold AD;split
  .exact An.refl _
  .exact B i
 unfold Ms.res;cases d with
 |none=>exact⟨e,u,B⟩
 |some d=>
  simp only;split
  .split
   .exact⟨e,u,H d _⟩
   .rw[e]
    refine⟨by simp[e],λi hi=>?_,H d _⟩
    by_cases O:i<S.σ.length
    .rw[AB O,AB (by omega)]
     exact u i O
    .simp only[gDE]
     rw[gAR (by omega),gAR (by omega),e]
     exact Sub.refl _
  .exact⟨e,u,B⟩
theorem Cl.killP_v{r r':List Ab}{M:V->V}{h:Nat->AG->Bool}(B:Cx M (λid q=>h id q=false))(O:∀id q,h id q=false->(Ac r' id q).len=(Ac r id q).len)(y:Cl):An (M (y.v r)) ((y.killP h).v r'):=by
 cases y with
 |dead=>exact An.dead _
 |nil=>show An (M (.c _)) _;rw[B.m.c];exact An.refl _
 |nilp=>show An (M (.c _)) _;rw[B.m.c];exact An.refl _
 |nilf=>show An (M (.c _)) _;rw[B.m.c];exact An.refl _
 |nilm=>show An (M (.c _)) _;rw[B.m.c];exact An.refl _
 |c t d x=>
  have e:M (cV t d x)=cV t d x:=by
   cases t with
   |int k=>exact B.m.c _
   |bool=>exact B.m.c _
   |str=>exact B.m.c _
   |sl t=>exact B.m.nd _ _ _ _ _
   |ptr t=>exact B.m.nd _ _ _ _ _
   |unit=>exact B.m.dead
   |clo g u=>exact B.m.clo
   |osl u=>exact B.m.osl
   |mp a b=>exact B.m.mp _ _
   |pair a b=>exact B.m.dead
  show An (M (cV t d x)) (cV t d x);rw[e];exact An.refl _
 |rf id q=>
  show An (M (.rs id q 0 _)) ((bif h id q then Cl.dead else .rf id q).v r');cases H:h id q with
  |true=>exact An.dead _
  |false=>
   rw[B.rs id q _ _ H];show An _ (V.rs id q 0 (Ac r' id q).len);rw[O id q H];exact An.refl _
 |rs id q off len=>
  show An (M (.rs id q off len)) ((bif h id q then Cl.dead else .rs id q off len).v r');cases H:h id q with
  |true=>exact An.dead _
  |false=>rw[B.rs id q _ _ H];exact An.refl _
 |rm id q=>
  show An (M (.rm id q)) ((bif h id q then Cl.dead else .rm id q).v r');cases H:h id q with
  |true=>exact An.dead _
  |false=>rw[B.rm id q H];exact An.refl _
 |rp id q i k=>
  show An (M (.rp id q i k)) ((bif h id q then Cl.dead else .rp id q i k).v r');cases H:h id q with
  |true=>exact An.dead _
  |false=>rw[B.rp id q _ _ H];exact An.refl _
theorem Sl.killP_v{r r':List Ab}{M:V->V}{h:Nat->AG->Bool}(e:Cx M (λid q=>h id q=false))(B:∀id q,h id q=false->(Ac r' id q).len=(Ac r id q).len)(y:Sl):An (M (y.v r)) ((y.killP h).v r'):=by
 have key:∀(l:List Cl) (k:Nat),An (((l.map (Cl.v r)).map M).getD k .dead) (((l.map (Cl.killP h)).map (Cl.v r')).getD k .dead):=by
  intro l k;rw[map_map,map_map];exact BJ (f:=λy=>M (y.v r)) (g:=λy=>(y.killP h).v r') e.m.dead rfl (λy=>Cl.killP_v e B y) k
 cases y with
 |one c=>exact Cl.killP_v e B c
 |new l=>
  show An (M (A8 true (l.map Cl.v0))) (A8 true (l.map Cl.v0));rw[show M (A8 true (l.map Cl.v0))=A8 true (l.map Cl.v0)from e.m.nd _ _ _ _ _]
  exact An.refl _
 |agg l=>
  show An (M (Ag _)) (Ag _);rw[AdX e.m];exact An.mk (by simp) λk _=>key l k
 |pk t l=>
  show An (M (pkL t _)) (pkL t _);rw[G_pk e.m];exact An.pk (by simp) λk _=>key l k
 |tup l=>
  show An (M (Dq _)) (Dq _);rw[Aa9 e.m];refine An.tup (by simp) λk u=>?_
  have u:k<l.length:=by simpa using u
  simp only[gDE,getElem?_map,gEE u,Option.map_some,Option.getD_some];generalize l[k]=p;obtain⟨b,m⟩:=p;cases b with
  |true=>
   show An (M (Ag (m.map (Cl.v r)))) (Ag ((m.map (Cl.killP h)).map (Cl.v r')));rw[AdX e.m];exact An.mk (by simp) λk _=>key m k
  |false=>
   have:=key m 0;cases m with
   |nil=>show An (M .dead) .dead;exact An.dead _
   |cons y m=>simpa using this
theorem UX{q:AG}(h:AdQ J id q=false):¬ (id∈J/\q≠[]):=by
 rintro ⟨u,e⟩
 unfold AdQ at h;rw[show J.contains id=true by simpa using u]at h
 cases q with
 |nil=>exact e rfl
 |cons a q=>cases h
def D4:∀{l:List Nat},ndB l=true->l.Nodup
 |[],_=>List.nodup_nil
 |a::l,h=>by
  have h:(!l.contains a&&ndB l)=true:=h;rw[bAE,not_eq_true']at h;refine nodup_cons.2 ⟨λe=>?_,D4 h.2⟩
  rw[show l.contains a=true by simpa using e]at h
  cases h.1
theorem Aak{C:Ctx}{h:Cd}{s':St}{M:List EnM}{A:PB}{u:A.α}{a:Act}{w:World}{next:Act->World->Prop}{Q:Exit->Act->World->Prop}(hM:∀e∈M,e.OK P)(O:AcV M h s o=some A)(hu:A.o=some u)(hp:(A.st u).put h o.dst (A.y u)=some s')
  (hs:AN C h.n s.den a w) (hn:∀a' w',Kp (λi=>decide (o.dst≠some i)) s s'->AN C h.n s'.den a' w'->next a' w'):o.wp P a w next Q:=by
 unfold AcV at O;split at O
 case h_1=>cases O
 obtain⟨hd,O⟩:=A1 O;split at O
 case h_2=>cases O
 rename_i f ys hf;obtain⟨e,he,rfl,h1⟩:=N8 O;obtain⟨Z,hft⟩:=hM e he;unfold MF at h1;obtain⟨hb,h1⟩:=A1 h1;rw[bAE]at hb;split at h1
 case h_2=>cases h1
 rename_i z x hz hx;cases h1;have hu:e.g z x=some u:=hu;have hfc:=hft z x u hu;obtain⟨cvs,hrun,hcs,hrel⟩:=AaX hf Z hs;obtain⟨r1,r2⟩:=XR hx;generalize AdP e ys=J at*;have hmem:∀j∈J,∃k,k<J.length/\J.getD k 0=j:=λj hj=>by
  obtain⟨k,B,rfl⟩:=List.getElem_of_mem hj;exact⟨k,B,by simp[B]⟩
 have H:∀j∈J,∃l,s.r.getD j .dead=.obj false l:=λj hj=>by
  obtain⟨k,B,rfl⟩:=hmem j hj;obtain⟨t,l,k1,_⟩:=r2 k B;exact⟨l,k1⟩
 have hlt:∀j∈J,j<s.r.length:=λj hj=>by
  obtain⟨l,hl⟩:=H j hj;rcases lt_or_ge j s.r.length with h|h
  .exact h
  .rw[gDE,getElem?_eq_none h]at hl;cases hl
 have hg:∀(ts:List (Nat×Ty)) (x:(TM ts).T) (k:Nat),((A7 ts x).map Ab.v).getD k .dead=((A7 ts x).getD k .dead).v:=λts x k=>Ak _ _
 have hs0:∀k,k<J.length->Sub (s.den.σ.getD (J.getD k 0) .dead) (((A7 e.S.ts x).map Ab.v).getD k .dead):=λk B=>by
  obtain⟨t,l,_,_,k3,_⟩:=r2 k B;rw[hg];show Sub ((s.r.map Ab.v).getD (J.getD k 0) .dead) _;rw[Ak];exact k3
 have hl0:((A7 e.S.ts x).map Ab.v).length=J.length:=by rw[length_map,CE,r1]
 have hσl:s.den.σ.length=s.r.length:=length_map ..;refine AaW hs hrun hfc hl0 hs0 (D4 hb.1) (λj hj=>by rw[hσl];exact hlt j hj) (by rw[length_map,CE,r1]) (λk B=>?_) (by rw[hcs,length_map,DS _ _ _ hz]) (λD ρ F hcr i hi=>?_) (λd hdd=>?_) λa' w' h2=>?_
 .obtain⟨t,l,k1,k2,_,k4⟩:=r2 k B
  obtain⟨l',k5,k6⟩:=k4 u.2;refine⟨false,t.w,1,λi k=>([l.map Cl.v0].getD i []).getD k .dead,λi k=>([l'.map Cl.v0].getD i []).getD k .dead,?_,?_⟩
  .show(s.r.map Ab.v).getD (J.getD k 0) .dead=_
   rw[Ak,k1];show A8 true (l.map Cl.v0)=_;unfold A8;rw[length_map,k2]
  .rw[hg,k5]
   show A8 true (l'.map Cl.v0)=_;unfold A8;rw[length_map,k6]
 .have hi:i<ys.length:=by
   rw[length_map,DS _ _ _ hz]at hi;exact hi
  obtain⟨y,hy,h3⟩:=MR (σ0:=(A7 e.S.ts x).map Ab.v) (ρ:=ρ) (ρ0:=λk=>ρ (J.getD k 0)) (w:=w) (D:=D) (λi p j k cv hi hr=>by
   obtain⟨W,s1,sz,n,f,b,o,cap,ha,r⟩:=hr;obtain⟨f',ha'⟩:=At.sub' (hs0 i hi) ha;exact⟨by omega,s1,sz,n,f',b,o,cap,ha',r⟩) _ _ _ hz i hi
  have:=h3 _ (hrel D ρ F hcr i y hy);rw[Az (f:=Sl.v []) (a:=.one .dead) rfl];exact this
 .rw[hdd]at hd
  simp only[bAE,not_eq_true']at hd;exact⟨blE hd.1,hd.2⟩
 .have U:∀id q,AdQ J id q=false->(Ac (OJ J (A7 e.S.ts u.2) s.r) id q).len=(Ac s.r id q).len:=by
   intro id q hh;by_cases W:id∈J
   .have hq:q=[]:=Classical.byContradiction λhq=>UX hh ⟨W,hq⟩
    subst hq;refine OI J _ _ id (λv hv=>?_) λj hj=>?_
    .obtain⟨k,B,rfl⟩:=List.getElem_of_mem hv
     have hk':k<e.S.ts.length:=by rw[CE]at B;exact B
     obtain⟨t,l,_,_,_,k4⟩:=r2 k (by omega)
     obtain⟨l',k5,_⟩:=k4 u.2;have:(A7 e.S.ts u.2).getD k .dead=(A7 e.S.ts u.2)[k]:=by simp[B]
     rw[<-this,k5];rfl
    .obtain⟨l,hl⟩:=H j hj
     rw[hl];rfl
   .unfold Ac
    rw[Qg _ _ _ _ W]
  have hy:=Oi (r:=OJ J (A7 e.S.ts u.2) s.r) true e.S.rs u.1 hb.2;rw[Hz]at hy
  obtain⟨m1,m2,m3⟩:=Z5 (S:=s.den.turn J ((A7 e.S.ts u.2).map Ab.v)) (S':=St.den ⟨λi=>(s.t i).killP (AdQ J),OJ J (A7 e.S.ts u.2) s.r⟩) (by
    show((OJ J (A7 e.S.ts u.2) s.r).map Ab.v).length=(Ho J _ (s.r.map Ab.v)).length;rw[X1]) (λi _=>by
    show Sub ((Ho J _ (s.r.map Ab.v)).getD i .dead) (((OJ J (A7 e.S.ts u.2) s.r).map Ab.v).getD i .dead);rw[X1];exact Sub.refl _) (λi=>Sl.killP_v (LV λid q hh=>UX hh) U (s.t i)) h o.dst (P7 e.S.rs u.1)
  have h3:=h2.sub m1 m2 m3;rw[<-hy]at h3;refine hn a' w' ?_ (AN.put hp h3)
  have k1:Kp (λ_=>true) s ⟨λi=>(s.t i).killP (AdQ J),OJ J (A7 e.S.ts u.2) s.r⟩:=by
   refine⟨λi _ hi=>Sl.killP_stay hi _,λid _ hro=>?_,?_⟩
   .refine Qg _ _ _ _ λO=>?_
    obtain⟨l,hl⟩:=H id O;rw[hl]at hro;cases hro
   .show s.r.length<=(OJ J (A7 e.S.ts u.2) s.r).length
    rw[Ux];exact le_refl _
  exact k1.trans (OH hp) (λ_ _=>rfl) λi hi=>hi
end Go.Ve

