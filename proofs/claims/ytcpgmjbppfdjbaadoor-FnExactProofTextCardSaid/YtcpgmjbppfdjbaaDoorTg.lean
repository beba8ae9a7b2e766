/- The typed machine: new trees get their numbers; one quiet operation. -/
import Derived.Test.YtcpgmjbppfdjbaaDoorTd
import Derived.Test.YtcpgmjbppfdjbaaDoorVwa
import Derived.Test.YtcpgmjbppfdjbaaDoorVy
namespace Go.Ve
variable{h:Cg}{a b r r':List Aa}{d m:Nat}{y:Sl}{s s':St}
def Cl.prom(m0 m:Nat):Cl->Cl×List Aa
 | .c (.sl t) (d+1) xs=>(.rf m [],[.arr false t d xs])
 | .c (.ptr t) (d+1) x=>bif Nat.blt 0 t.w then(.rp m [] 0 0,[.obj false (Am t d x)])else(.dead,[])
 | .c (.osl t) (d+1) x=>match x with
  |some xs=>(.rf m [],[.arr false t d xs])
  |none=>(.dead,[])
 |y=>(y.chk m0,[])
def BQ(m0:Nat):Nat->List Cl->List Cl×List Aa
 |_,[]=>([],[])
 |m,y::l=>((y.prom m0 m).1::(BQ m0 (m+(y.prom m0 m).2.length) l).1,(y.prom m0 m).2++(BQ m0 (m+(y.prom m0 m).2.length) l).2)
def HV(m0 m:Nat)(p:Bool×List Cl):(Bool×List Cl)×List Aa:=
 bif p.1 then((true,(BQ m0 m p.2).1),(BQ m0 m p.2).2)else((false,[((p.2.getD 0 .dead).prom m0 m).1]),((p.2.getD 0 .dead).prom m0 m).2)
def Da(m0:Nat):Nat->List (Bool×List Cl)->List (Bool×List Cl)×List Aa
 |_,[]=>([],[])
 |m,p::l=>((HV m0 m p).1::(Da m0 (m+(HV m0 m p).2.length) l).1,(HV m0 m p).2++(Da m0 (m+(HV m0 m p).2.length) l).2)
def Sl.prom(m:Nat):Sl->Sl×List Aa
 | .one y=>(.one (y.prom m m).1,(y.prom m m).2)
 | .new l=>bif Nat.blt 0 l.length then(.one (.rp m [] 0 0),[.obj false l])else(.one .dead,[])
 | .agg l=>(.agg (BQ m m l).1,(BQ m m l).2)
 | .pk t l=>(.pk t (BQ m m l).1,(BQ m m l).2)
 | .tup l=>(.tup (Da m m l).1,(Da m m l).2)
def Has(r':List Aa)(m:Nat)(new:List Aa):Prop:=∀j,j<new.length->r'.getD (m+j) .dead=new.getD j .dead
theorem Has.left(h:Has r' m (a++b)):Has r' m a:=λj hj=>by
 rw [h j (by simp;omega),gDE,gAL hj,<-gDE]
theorem Has.right(h:Has r' m (a++b)):Has r' (m+a.length) b:=λj hj=>by
 have:=h (a.length+j) (by simp;omega)
 rw [<-Nat.add_assoc]at this;rw [this,gDE,gAR (by omega),<-gDE,Nat.add_sub_cancel_left]
theorem Q8{v:V}(h:AE v=false)(hm: ∀t n f,v≠.many t n f):Go.Ve.prom v m=(v,[]):=by
 cases v with
 |nd s own sz n f=>cases own with
  |true=>cases h
  |false=>cases s<;>rfl
 |many t n f=>exact absurd rfl (hm t n f)
 |_=>rfl
theorem XO{f:Nat->V}{n:Nat}(h: ∀k m,Go.Ve.prom (f k) m=(f k,[])):Bx (λk=>Go.Ve.prom (f k)) n m=((List.range n).map f,[]):=by
 induction n with
 |zero=>rfl
 |succ n ih=>
  show((Bx _ n m).1++ [(Go.Ve.prom (f n) _).1],(Bx _ n m).2++(Go.Ve.prom (f n) _).2)=_;rw [ih,h,List.range_succ,List.map_append];rfl
theorem He: ∀ (t:Ty) (x:t.T),∀v∈tyV t 0 x,∀m,Go.Ve.prom v m=(v,[])
 | .int _,_,v,h,m=>by simp [tyV]at h;subst h;rfl
 | .bool,_,v,h,m=>by simp [tyV]at h;subst h;rfl
 | .str,_,v,h,m=>by simp [tyV]at h;subst h;rfl
 | .sl _,_,v,h,m=>by simp only [tyV,List.mem_singleton]at h;subst h;rfl
 | .ptr _,_,v,h,m=>by simp only [tyV,List.mem_singleton]at h;subst h;rfl
 | .unit,_,v,h,m=>by simp [tyV]at h
 | .pair a b,x,v,h,m=>by
  simp only [tyV,List.mem_append]at h;exact h.elim (λh=>He a x.1 v h m) λh=>He b x.2 v h m
 | .osl _,x,v,h,m=>by
  simp only [tyV,List.mem_singleton]at h;subst h;cases x<;>rfl
 | .clo g t,x,v,h,m=>by
  simp only [tyV,List.mem_singleton]at h;subst h
  have hk: ∀k m,Go.Ve.prom ((tyV t 0 x).getD k .dead) m=((tyV t 0 x).getD k .dead,[]):=by
   intro k m;by_cases hk:k<(tyV t 0 x).length
   ·rw [gDE,gEE hk]
    exact He t x _ (List.getElem_mem hk) m
   ·rw [gDE,List.getElem?_eq_none (by omega)];rfl
  show(V.many (.cl g) t.w λk=>(Bx (λk=>Go.Ve.prom ((tyV t 0 x).getD k .dead)) t.w m).1.getD k .dead,(Bx (λk=>Go.Ve.prom ((tyV t 0 x).getD k .dead)) t.w m).2)=_
  rw [XO hk]
  congr 2
  funext k
  by_cases hk:k<t.w
  ·simp [hk]
  ·have:(tyV t 0 x).length<=k:=by rw [Aq];omega
   simp only [gDE];rw [List.getElem?_eq_none (by simpa using Nat.le_of_not_lt hk),List.getElem?_eq_none this]
theorem Nl{l:List V}:Go.Ve.prom (A7 true l) m=if 0<l.length then(.rp m [] 0 0,[A7 true l])else(.dead,[]):=rfl
theorem Cl.prom_v(hr: ∀id,id<r.length->r'.getD id .dead=r.getD id .dead)(y:Cl)(m:Nat)(hn:Has r' m (y.prom r.length m).2):
  Ao (Go.Ve.prom (y.v r) m).1 ((y.prom r.length m).1.v r')/\(Go.Ve.prom (y.v r) m).2=(y.prom r.length m).2.map Aa.v:=by
 have plain: ∀y:Cl,y.own=false->(∀g u d x,y≠.c (.clo g u) d x)->(y.prom r.length m)=(y.chk r.length,[])->Ao (Go.Ve.prom (y.v r) m).1 ((y.prom r.length m).1.v r')/\(Go.Ve.prom (y.v r) m).2=(y.prom r.length m).2.map Aa.v:=by
  intro y ho hne he
  rw [he,Q8 (by rw [Cl.own_v,ho]) (by
   cases y with
   |c t d x=>cases t<;>first|exact absurd rfl (hne _ _ _ _)|(intro _ _ _ h;cases h;done)|(intro _ _ _ h;cases x<;>cases h)
   |_=>intro _ _ _ h;cases h)]
  exact⟨Cl.chk_v hr y,rfl⟩
 cases y with
 |c t d x=>
  cases t with
  |clo g u=>
   have e:Go.Ve.prom (cV (.clo g u) d x) m=(cV (.clo g u) d x,[]):=He (.clo g u) x _ (List.mem_singleton.2 rfl) m;show Ao (Go.Ve.prom (cV (.clo g u) d x) m).1 _/\(Go.Ve.prom (cV (.clo g u) d x) m).2=_;rw [e];exact⟨Ao.refl _,rfl⟩
  |sl t=>cases d with
   |zero=>exact plain _ rfl (by intro _ _ _ _ h;cases h) rfl
   |succ d=>
    have h0:r'.getD m .dead= .arr false t d x:=hn 0 Nat.one_pos;refine⟨?_,rfl⟩;show Ao (V.rs m [] 0 x.length) (V.rs m [] 0 (Ab r' m []).len);unfold Ab;rw [h0];exact Ao.refl _
  |osl t=>cases d with
   |zero=>exact plain _ rfl (by intro _ _ _ _ h;cases h) rfl
   |succ d=>
    cases x with
    |none=>exact⟨Ao.refl _,rfl⟩
    |some xs=>
     have h0:r'.getD m .dead= .arr false t d xs:=hn 0 Nat.one_pos;refine⟨?_,rfl⟩;show Ao (V.rs m [] 0 xs.length) (V.rs m [] 0 (Ab r' m []).len);unfold Ab;rw [h0];exact Ao.refl _
  |ptr t=>cases d with
   |zero=>exact plain _ rfl (by intro _ _ _ _ h;cases h) rfl
   |succ d=>
    show Ao (Go.Ve.prom (A7 true (tyV t d x)) m).1 _/\(Go.Ve.prom (A7 true (tyV t d x)) m).2=_;rw [Nl];show Ao _ ((bif Nat.blt 0 t.w then(Cl.rp m [] 0 0,[Aa.obj false (Am t d x)])else(.dead,[])).1.v r')/\_=((bif Nat.blt 0 t.w then(Cl.rp m [] 0 0,[Aa.obj false (Am t d x)])else(.dead,[])).2).map Aa.v;cases hb:Nat.blt 0 t.w with
    |true=>
     rw [if_pos (by rw [Aq];exact Kf hb)]
     refine⟨Ao.refl _,?_⟩;show _= [A7 true ((Am t d x).map Cl.v0)];rw [Bu]
    |false=>
     rw [if_neg (λh=>by rw [Aq]at h;rw [show Nat.blt 0 t.w=true from Nat.ble_eq_true_of_le h]at hb;cases hb)]
     exact⟨Ao.refl _,rfl⟩
  |_=>exact plain _ rfl (by intro _ _ _ _ h;cases h) rfl
 |_=>exact plain _ rfl (by intro _ _ _ _ h;cases h) rfl
theorem IJ{r r':List Aa}(hr: ∀id,id<r.length->r'.getD id .dead=r.getD id .dead): ∀ (l:List Cl) (m:Nat),Has r' m (BQ r.length m l).2->
  (BU (l.map (Cl.v r)) m).1.length=((BQ r.length m l).1.map (Cl.v r')).length/\(∀k,Ao ((BU (l.map (Cl.v r)) m).1.getD k .dead) (((BQ r.length m l).1.map (Cl.v r')).getD k .dead))/\(BU (l.map (Cl.v r)) m).2=(BQ r.length m l).2.map Aa.v
 | [],m,_=>⟨rfl,λk=>Ao.refl _,rfl⟩
 |y::l,m,hn=>by
  obtain⟨h1,h2⟩:=Cl.prom_v hr y m hn.left;have e:(Go.Ve.prom (y.v r) m).2.length=(y.prom r.length m).2.length:=by rw [h2,List.length_map]
  obtain⟨g1,g2,g3⟩:=IJ hr l (m+(y.prom r.length m).2.length) hn.right;rw [List.map_cons,KA,e];refine⟨by simp only [BQ,List.map_cons,List.length_cons];exact congrArg (· +1) g1,λk=>?_,?_⟩
  ·cases k with
   |zero=>exact h1
   |succ k=>exact g2 k
  ·show _++_=(_++_:List Aa).map Aa.v
   rw [List.map_append,h2,g3]
theorem ZQ(hr: ∀id,id<r.length->r'.getD id .dead=r.getD id .dead)(p:Bool×List Cl)(m:Nat)(hn:Has r' m (HV r.length m p).2):
  Ao (Go.Ve.prom (if p.1 then Ac (p.2.map (Cl.v r))else(p.2.map (Cl.v r)).getD 0 .dead) m).1 (if(HV r.length m p).1.1 then Ac ((HV r.length m p).1.2.map (Cl.v r'))else((HV r.length m p).1.2.map (Cl.v r')).getD 0 .dead)/\
  (Go.Ve.prom (if p.1 then Ac (p.2.map (Cl.v r))else(p.2.map (Cl.v r)).getD 0 .dead) m).2=(HV r.length m p).2.map Aa.v:=by
 obtain⟨b,l⟩:=p;cases b with
 |true=>
  obtain⟨h1,h2,h3⟩:=IJ hr l m hn;show Ao (Go.Ve.prom (Ac _) m).1 (Ac ((BQ r.length m l).1.map (Cl.v r')))/\(Go.Ve.prom (Ac _) m).2=_;rw [VS];exact⟨Ao.mk h1 λk _=>h2 k,h3⟩
 |false=>
  show Ao (Go.Ve.prom ((l.map (Cl.v r)).getD 0 .dead) m).1 (((l.getD 0 .dead).prom r.length m).1.v r')/\(Go.Ve.prom ((l.map (Cl.v r)).getD 0 .dead) m).2=_;rw [Ay (f:=Cl.v r) (a:=.dead) rfl];exact Cl.prom_v hr _ m hn
theorem PG{r r':List Aa}(hr: ∀id,id<r.length->r'.getD id .dead=r.getD id .dead): ∀ (l:List (Bool×List Cl)) (m:Nat),Has r' m (Da r.length m l).2->
  (BU (l.map λp=>if p.1 then Ac (p.2.map (Cl.v r))else(p.2.map (Cl.v r)).getD 0 .dead) m).1.length=(Da r.length m l).1.length/\
  (∀k,Ao ((BU (l.map λp=>if p.1 then Ac (p.2.map (Cl.v r))else(p.2.map (Cl.v r)).getD 0 .dead) m).1.getD k .dead) (((Da r.length m l).1.map λp=>if p.1 then Ac (p.2.map (Cl.v r'))else(p.2.map (Cl.v r')).getD 0 .dead).getD k .dead))/\
  (BU (l.map λp=>if p.1 then Ac (p.2.map (Cl.v r))else(p.2.map (Cl.v r)).getD 0 .dead) m).2=(Da r.length m l).2.map Aa.v
 | [],m,_=>⟨rfl,λk=>Ao.refl _,rfl⟩
 |p::l,m,hn=>by
  obtain⟨h1,h2⟩:=ZQ hr p m hn.left;have e:=congrArg List.length h2;rw [List.length_map]at e;obtain⟨g1,g2,g3⟩:=PG hr l (m+(HV r.length m p).2.length) hn.right;rw [List.map_cons,KA,e];refine⟨by simp only [Da,List.length_cons];exact congrArg (· +1) g1,λk=>?_,?_⟩
  ·cases k with
   |zero=>exact h1
   |succ k=>exact g2 k
  ·show _++_=(_++_:List Aa).map Aa.v
   rw [List.map_append,h2,g3]
theorem Sl.prom_v{r:List Aa}(y:Sl):Ao (Go.Ve.prom (y.v r) r.length).1 ((y.prom r.length).1.v (r++(y.prom r.length).2))/\(Go.Ve.prom (y.v r) r.length).2=(y.prom r.length).2.map Aa.v:=by
 have hr: ∀new:List Aa,∀id,id<r.length->(r++new).getD id .dead=r.getD id .dead:=λnew id h=>by
  simp [gDE,gAL h]
 have hn: ∀new:List Aa,Has (r++new) r.length new:=λnew j _=>by
  simp only [gDE];rw [gAR (by omega),Nat.add_sub_cancel_left]
 cases y with
 |one c=>exact Cl.prom_v (hr _) c r.length (hn _)
 |new l=>
  show Ao (Go.Ve.prom (A7 true (l.map Cl.v0)) r.length).1 _/\(Go.Ve.prom (A7 true (l.map Cl.v0)) r.length).2=_;rw [Nl,List.length_map];show Ao _ ((bif Nat.blt 0 l.length then(Sl.one (.rp r.length [] 0 0),[Aa.obj false l])else(.one .dead,[])).1.v (r++((bif Nat.blt 0 l.length then(Sl.one (.rp r.length [] 0 0),[Aa.obj false l])else(.one .dead,[])).2)))/\_=((bif Nat.blt 0 l.length then(Sl.one (.rp r.length [] 0 0),[Aa.obj false l])else(.one .dead,[])).2).map Aa.v;cases hb:Nat.blt 0 l.length with
  |true=>
   rw [if_pos (Kf hb)];exact⟨Ao.refl _,rfl⟩
  |false=>
   rw [if_neg (λh=>by rw [show Nat.blt 0 l.length=true from Nat.ble_eq_true_of_le h]at hb;cases hb)]
   exact⟨Ao.refl _,rfl⟩
 |agg l=>
  obtain⟨h1,h2,h3⟩:=IJ (hr (BQ r.length r.length l).2) l r.length (hn _);show Ao (Go.Ve.prom (Ac _) r.length).1 (Ac _)/\(Go.Ve.prom (Ac _) r.length).2=_;rw [VS];exact⟨Ao.mk h1 λk _=>h2 k,h3⟩
 |pk t l=>
  obtain⟨h1,h2,h3⟩:=IJ (hr (BQ r.length r.length l).2) l r.length (hn _);show Ao (Go.Ve.prom (pkL t _) r.length).1 (pkL t _)/\(Go.Ve.prom (pkL t _) r.length).2=_;rw [ZP];exact⟨Ao.pk h1 λk _=>h2 k,h3⟩
 |tup l=>
  obtain⟨h1,h2,h3⟩:=PG (hr (Da r.length r.length l).2) l r.length (hn _);show Ao (Go.Ve.prom (C8 _) r.length).1 (C8 _)/\(Go.Ve.prom (C8 _) r.length).2=_;rw [XN];exact⟨Ao.tup (by rw [h1];simp) λk _=>h2 k,h3⟩
def AD(t:Nat->Sl)(d:Nat)(y:Sl):Nat->Sl:=λi=>bif Nat.beq i d then y else t i
theorem BO{t:Nat->Sl}:(λi=>(AD t d y i).v r)=Az (λi=>(t i).v r) d (y.v r):=by
 funext i
 unfold AD Az;cases hb:Nat.beq i d with
 |true=>rw [if_pos (bqE hb)];rfl
 |false=>rw [if_neg (λh=>by rw [h,Nat.beq_refl]at hb;cases hb)];rfl
def St.add(s:St)(d:Nat)(p:Sl×List Aa):St:=match p.2 with
 | []=>⟨AD s.t d p.1,s.r⟩
 |q::new=>⟨AD (λi=>(s.t i).chk s.r.length) d p.1,s.r++q::new⟩
def St.put(h:Cg)(s:St)(d:Option Nat)(y:Sl):Option St:=match d with
 |none=>some s
 |some d=>bif Nat.blt d h.n then(bif h.fz.contains d then(match y.frz with
   |some y'=>some ⟨AD s.t d y',s.r⟩
   |none=>none)else some (s.add d (y.prom s.r.length)))else none
theorem W0:(∀i,Ao (Az s.den.t d (Go.Ve.prom (y.v s.r) s.r.length).1 i) ((s.add d (y.prom s.r.length)).den.t i))/\s.den.σ++(Go.Ve.prom (y.v s.r) s.r.length).2=(s.add d (y.prom s.r.length)).den.σ:=by
 obtain⟨h1,h2⟩:=Sl.prom_v (r:=s.r) y;rw [h2];unfold St.add;cases hq:(y.prom s.r.length).2 with
 |nil=>
  rw [hq]at h1;rw [List.append_nil]at h1;refine⟨λi=>?_,by simp [St.den]⟩
  show Ao _ ((AD s.t d (y.prom s.r.length).1 i).v s.r);rw [congrFun (BO (r:=s.r) (t:=s.t) (d:=d) (y:=(y.prom s.r.length).1)) i];unfold Az;split
  ·exact h1
  ·exact Ao.refl _
 |cons q new=>
  rw [hq]at h1;refine⟨λi=>?_,by simp [St.den]⟩
  show Ao _ ((AD (λi=>(s.t i).chk s.r.length) d (y.prom s.r.length).1 i).v (s.r++q::new))
  rw [congrFun (BO (r:=s.r++q::new) (t:=λi=>(s.t i).chk s.r.length) (d:=d) (y:=(y.prom s.r.length).1)) i]
  unfold Az;split
  ·exact h1
  ·exact Sl.chk_v (λid h=>by simp [gDE,gAL h]) _
theorem ZO{d:Option Nat}(hp:s.put h d y=some s'):(∀i,Ao ((s.den.res h d (y.v s.r)).t i) (s'.den.t i))/\(s.den.res h d (y.v s.r)).σ=s'.den.σ:=by
 unfold St.put at hp;cases d with
 |none=>cases hp;exact⟨λi=>Ao.refl _,rfl⟩
 |some d=>
  simp only at hp;obtain⟨hb,hp⟩:=A1 hp;have hb:d<h.n:=blE hb;unfold Ms.res;simp only [hb,if_true];cases hf:h.fz.contains d with
  |true=>
   rw [hf]at hp;simp only [cond_true]at hp;split at hp
   ·rename_i y' hy
    cases hp;refine⟨λi=>?_,rfl⟩
    show Ao (Az s.den.t d (Go.Ve.frz (y.v s.r)) i) ((AD s.t d y' i).v s.r);rw [congrFun (BO (r:=s.r) (t:=s.t) (d:=d) (y:=y')) i,Sl.frz_v hy];exact Ao.refl _
   ·cases hp
  |false=>
   rw [hf]at hp;simp only [cond_false,Option.some.injEq]at hp;subst hp;have hl:s.den.σ.length=s.r.length:=by simp [St.den]
   simp only [Bool.false_eq_true,if_false,hl];exact W0
theorem AI.put{C:Ctx}{h:Cg}{s s':St}{d:Option Nat}{y:Sl}{a:Act}{w:World}(hp:s.put h d y=some s')(hs:AI C h.n (s.den.res h d (y.v s.r)) a w):AI C h.n s'.den a w:=by
 obtain⟨h1,h2⟩:=ZO hp;exact hs.sub (by rw [h2]) (λi _=>by rw [h2];exact Sub.refl _) h1
theorem Qt{P:Program}{C:Ctx}{o:Oper}{a:Act}{w:World}{next:Act->World->Prop}{Q:Exit->Act->World->Prop}(hq:QS P s o.op y)(hp:s.put h o.dst y=some s')
  (hs:AI C h.n s.den a w) (hn: ∀a' w',AI C h.n s'.den a' w'->next a' w'):o.wp P a w next Q:=by
 refine IZ (P:=P) (h:=h) (K:=λS=>S=s.den.res h o.dst (y.v s.r)) (S:=s.den) ?_ hs λS' a' w' hS hs'=>hn a' w' (AI.put hp (hS▸hs'))
 have hq':qop P s.den.σ s.den.ev o.op (ResK h o.dst s.den λS=>S=s.den.res h o.dst (y.v s.r)):=by
  refine M0 hq ?_;intro r0 hr0;exact⟨y.v s.r,hr0,rfl⟩
 unfold vop;split
 ·rename_i t x v ho
  rw [ho]at hq;exact hq.elim
 ·exact hq'
end Go.Ve


namespace Go.Ve
variable{y:Cl}{r:List Aa}{σ:List V}{N:Nat}{t:Nat->V}
theorem PR.subst{C:Ctx}{ρ:Nat->Value}{F:Nat->Nat->Prop}{t':Nat->V}{a:Act}{w:World}{D:Nat->Prop}{T:Nat->Nat->Prop}(h:PR C N σ ρ F t a w D T)(hs: ∀x,Sub (t x) (t' x)):PR C N σ ρ F t' a w D T:=
 ⟨h.df,h.sz,λx hx=>by have:=hs x;rw [h.dd x hx]at this;trivial,h.wr,λx hx=>Rel.sub (hs x) (h.tm x hx),h.tD,h.tF,h.tT,h.tn,h.fr,h.Fn,h.D1,h.D2,h.rt,h.ml,h.tx⟩
theorem LQ.sub{P:Program}{Al:Nat->Nat->Prop}{o:Oper}{ys ys':List (Nat×Tk)}{r r':V}(h:LQ P N σ Al o t ys r)(hl: ∀x,A9 ys x≠none->A9 ys' x≠none)(hy: ∀x v,Sub (HE (A9 ys x) v) (HE (A9 ys' x) v))(hr:Sub r r'):LQ P N σ Al o t ys' r':=by
 intro C ρ F a w D T t' hag hal hp next Q hn
 refine h C ρ F a w D T t' (λx hx=>hag x (hx.imp id (hl x))) hal hp next Q λa' w' D' T' hp' hT' htm=>hn a' w' D' T' (hp'.subst λx=>?_) hT' htm
 have hk:Sub (AH ys t' x) (AH ys' t' x):=hy x _;cases hd:o.dst with
 |none=>trivial
 |some d=>
  show Sub (if x=d then r else AH ys t' x) (if x=d then r' else AH ys' t' x)
  grind
def Cl.solid:Cl->Bool
 | .dead=>false
 | .c .unit _ _=>false
 | .c (.pair _ _) _ _=>false
 | .c (.clo _ _) _ _=>false
 | .c (.osl _) _ _=>false
 |_=>true
theorem Vn(h:y.solid=true):Xa (y.v r)=true/\Iq (y.v r)=true/\Go.Ve.cellsV (y.v r)= [y.v r]:=by
 cases y with
 |c t d x=>cases t<;>first|trivial|rfl
 |dead=>cases h
 |_=>trivial
def Sl.cellsO:Sl->Option (List Cl)
 | .one y=>bif y.solid then some [y]else none
 | .agg l=>bif l.all Cl.solid then some l else none
 |_=>none
theorem Qg{y:Sl}{l:List Cl}(h:y.cellsO=some l):Iq (y.v r)=true/\Go.Ve.cellsV (y.v r)=l.map (Cl.v r)/\∀c∈l,Xa (c.v r)=true:=by
 unfold Sl.cellsO at h;split at h
 ·rename_i c
  cases hb:c.solid with
  |false=>grind
  |true=>
   rw [hb]at h;cases h;obtain⟨h0,h1,h2⟩:=Vn hb;exact⟨h1,h2,λc' hc=>by grind⟩
 ·rename_i l'
  cases hb:l'.all Cl.solid with
  |false=>grind
  |true=>
   rw [hb]at h;cases h;exact⟨rfl,NW,λc hc=>(Vn (aET.1 hb c hc)).1⟩
 grind
def Cl.keep(y:Cl):Bool:=y.imm||y.own
theorem Wj(h:y.keep=true):(BW (y.v r)=true\/∃s sz n f,y.v r= .nd s true sz n f)/\y.v r=y.v0:=by
 unfold Cl.keep at h;cases hi:y.imm with
 |true=>exact⟨.inl (OW hi).1,(OW hi).2⟩
 |false=>
  rw [hi,Bool.false_or]at h;cases y with
  |c t d x=>cases t<;>cases d<;>first|trivial|exact⟨.inr ⟨_,_,_,_,rfl⟩,rfl⟩|(cases x<;>first|trivial|exact⟨.inr ⟨_,_,_,_,rfl⟩,rfl⟩)
  |_=>cases h
def MJ(place:Nat->Option (Nat×Nat))(cells:List Cl):List (Nat×Option Sl)->Option (List Cl)
 | []=>some cells
 |(i,y)::rest=>match place i,y with
  |some (off,size),some y=>match y.cellsO with
   |some l=>bif Nat.beq l.length size&&Nat.ble (off+size) cells.length then MJ place (setC cells off l) rest else none
   |none=>none
  |_,_=>none
theorem Ls{s:St}{place:Nat->Option (Nat×Nat)}{ev:Operand->V}: ∀ (ps:List (Nat×Operand)) (cells l:List Cl),(∀p∈ps,s.den.ev p.2≠.dead->ev p.2=s.den.ev p.2)->MJ place cells (ps.map λp=>(p.1,s.ev p.2))=some l->
  (∀p∈ps,Iq (ev p.2)=true)/\BX place (cells.map (Cl.v s.r)) (ps.map λp=>(p.1,ev p.2))=some (l.map (Cl.v s.r))
 | [],cells,l,_,h=>by cases h;exact⟨λp hp=>(by cases hp),rfl⟩
 |(i,x)::ps,cells,l,hev,h=>by
  rw [List.map_cons]at h;unfold MJ at h;split at h
  case h_2=>cases h
  rename_i off size y hpl hy;split at h
  case h_2=>cases h
  rename_i m hm;obtain⟨hb,h⟩:=A1 h;simp only [bAE]at hb;have h1:=bqE hb.1;have h2:=blE hb.2;obtain⟨g1,g2,_⟩:=Qg (r:=s.r) hm;obtain⟨k1,k2⟩:=Ls ps _ _ (λp hp=>hev p (mCM _ hp)) h
  have hy:s.ev x=some y:=hy;have hx:ev x=y.v s.r:=by
   rw [<-AZ hy];refine hev (i,x) (List.mem_cons_self ..) ?_;rw [AZ hy];intro e;rw [e]at g1;cases g1
  refine⟨λp hp=>?_,?_⟩
  ·grind
  ·rw [List.map_cons]
   unfold BX;simp only [hpl,hx,g2];rw [if_neg (by simp only [List.length_map];omega),<-Vt]
   exact k2
def KG(s:St):Operand->Option Nat
 | .tmp y=>bif(s.t y).own then some y else none
 |_=>none
theorem PL{s:St}(h: ∀y,AE (t y)=(s.t y).own)(xs:List Operand):xs.map (H0 t)=xs.map (KG s):=by
 refine List.map_congr_left λx _=>?_
 cases x with
 |tmp y=>
  show(if AE (t y)=true then some y else none)=bif(s.t y).own then some y else none
  grind
 |_=>rfl
def jsO:List (Option Nat)->List Nat
 | []=>[]
 |none::l=>jsO l
 |some a::l=>a::jsO l
theorem fitO_v(d:Nat)(r:List Aa)(c:Cl):(fit d c).v r=c.v r/\(fit d c).v0=c.v0:=by
 cases c with
 |c t d' x=>
  have e:fit d (.c t d' x)=bif Nat.beq (Oa d' t.dep) (Oa d t.dep)then .c t d x else .c t d' x:=rfl;rw [e];cases h:Nat.beq (Oa d' t.dep) (Oa d t.dep)with
  |false=>simp
  |true=>
   have:=bqE h;rw [H4,H4]at this;exact⟨(Ix this).symm,(Ix this).symm⟩
 |_=>trivial
theorem Cm{xs:List Operand}{l:List (Option Nat)}(h:xs.map (H0 t)=l):A4 t xs=jsO l:=by
 rw [BG,h];clear h
 induction l with
 |nil=>rfl
 |cons a l ih=>cases a with
  |none=>trivial
  |some a=>show a::l.filterMap id=a::jsO l;grind
def Cv(js:List Nat)(t:Nat->Sl):Nat->Sl:=λi=>bif js.contains i then .one .dead else t i
def nrm1:Cl->Cl->Cl
 | .c (.sl t) _ _,.nil=>.c (.sl t) (t.dep+1) []
 |_,y=>y
def Ub:List Cl->List Cl->List Cl
 |a::lp,y::l=>nrm1 a y::Ub lp l
 |_,l=>l
theorem nrm1_v(a y:Cl):Sub y.v0 (nrm1 a y).v0:=by
 unfold nrm1;split
 ·exact .inr ⟨rfl,_,_,_,rfl⟩
 ·exact Sub.refl _
theorem ZW(r:List Aa)(a y:Cl):Sub (y.v r) ((nrm1 a y).v r):=by
 unfold nrm1;split
 ·exact .inr ⟨rfl,_,_,_,rfl⟩
 ·exact Sub.refl _
theorem V4(r:List Aa): ∀ (lp l:List Cl) (k:Nat),Sub ((l.map (Cl.v r)).getD k .dead) (((Ub lp l).map (Cl.v r)).getD k .dead)
 | [],[],_=>Sub.refl _
 | [],_::_,_=>Sub.refl _
 |_::_,[],_=>Sub.refl _
 |a::lp,y::l,0=>ZW r a y
 |a::lp,y::l,k+1=>V4 r lp l k
theorem LU: ∀ (lp l:List Cl),(Ub lp l).length=l.length
 | [],[]=>rfl
 | [],_::_=>rfl
 |_::_,[]=>rfl
 |a::lp,y::l=>by show(Ub lp l).length+1=_;rw [LU lp l];rfl
theorem YR: ∀ (lp l:List Cl) (k:Nat),Sub ((l.map Cl.v0).getD k .dead) (((Ub lp l).map Cl.v0).getD k .dead)
 | [],[],_=>Sub.refl _
 | [],_::_,_=>Sub.refl _
 |_::_,[],_=>Sub.refl _
 |a::lp,y::l,0=>nrm1_v a y
 |a::lp,y::l,k+1=>YR lp l k
end Go.Ve


namespace Go.Ve
variable{N d id m n sz:Nat}{f g:Nat->Nat->V}{D fp:Nat->Prop}{y:Operand}{s:St}{t:Ty}{w:World}
def UC(s:St)(t:Ty)(id:Nat):Option Sl->Option (Nat×List t.T×List Nat)
 |some (.one (.c (.sl t') 0 ys))=>if h:t'=t then some (0,h▸ys,[])else none
 |some (.one (.rf j q))=>match Ab s.r j q with
  | .arr ro t' d ys=>if h:t'=t then(bif Nat.beq j id then none else bif Nat.beq t.dep 0 then some (d,h▸ys,[])else match q with
   | []=>bif ro then none else some (d,h▸ys,[j])
   |_::_=>none)else none
  |_=>none
 |some (.one (.rs j q off len))=>match Ab s.r j q with
  | .arr _ t' d ys=>if h:t'=t then(bif Nat.beq j id|| !Nat.beq t.dep 0 then none else some (d,Og len (O2 off (h▸ys)),[]))else none
  |_=>none
 |_=>none
def UD(s:St)(t:Ty)(id:Nat)(y:Option Sl):Option (Nat×List t.T×List Nat):=bif t.noO then UC s t id y else none
theorem WT{y:Option Sl}{z:Nat×List t.T×List Nat}(h:UD s t id y=some z):UC s t id y=some z/\t.noO=true:=by
 unfold UD at h
 grind
def NA(b:Nat):Nat:=140737488355328/b
theorem C5: ∀ (t:Ty) (d:Nat) (x:t.T) (k:Nat),t.noO=true->k<t.w->Xa ((tyV t d x).getD k .dead)=true
 | .int _,_,_,0,_,_=>rfl
 | .int _,_,_,_+1,_,h=>by trivial
 | .bool,_,_,0,_,_=>rfl
 | .bool,_,_,_+1,_,h=>by trivial
 | .str,_,_,0,_,_=>rfl
 | .str,_,_,_+1,_,h=>by trivial
 | .sl _,_,_,0,_,_=>rfl
 | .sl _,_,_,_+1,_,h=>by trivial
 | .ptr _,_,_,0,_,_=>rfl
 | .ptr _,_,_,_+1,_,h=>by trivial
 | .osl _,_,_,_,h,_=>by cases h
 | .unit,_,_,_,_,h=>by trivial
 | .clo _ _,_,_,0,_,_=>rfl
 | .clo _ _,_,_,_+1,_,h=>by trivial
 | .pair a b,d,x,k,ho,h=>by
  simp only [Ty.noO,bAE]at ho;simp only [tyV];rw [Ty.w]at h;by_cases hk:k<a.w
  ·have e:(tyV a d x.1++tyV b d x.2).getD k .dead=(tyV a d x.1).getD k .dead:=Aw (by rw [Aq];exact hk)
   rw [e];exact C5 a d x.1 k ho.1 hk
  ·have e:(tyV a d x.1++tyV b d x.2).getD k .dead=(tyV b d x.2).getD (k-a.w) .dead:=by
    simp [gDE];rw [gAR (by rw [Aq];omega),Aq]
   rw [e];exact C5 b d x.2 (k-a.w) ho.2 (by omega)
theorem Pj: ∀ (t:Ty) (d:Nat) (x:t.T),t.dep=0->∀v∈tyV t d x,∃c,v= .c c
 | .int _,_,_,_,v,h=>by simp [tyV]at h;grind
 | .bool,_,_,_,v,h=>by simp [tyV]at h;grind
 | .str,_,_,_,v,h=>by simp [tyV]at h;grind
 | .sl _,_,_,h,_,_=>by trivial
 | .ptr _,_,_,h,_,_=>by trivial
 | .clo _ _,_,_,h,_,_=>by trivial
 | .osl _,_,_,h,_,_=>by trivial
 | .unit,_,_,_,v,h=>by trivial
 | .pair a b,d,x,h,v,hv=>by
  simp [Ty.dep]at h;simp [tyV,List.mem_append]at hv;rcases hv with hv|hv
  ·exact Pj a d x.1 (by omega) v hv
  ·exact Pj b d x.2 (by omega) v hv
theorem Hw{v:V}{x:Value}(h:Rel D w noR v x fp)(hv:Xa v=true):x.oneCell'=true:=(Rel.cells1 h (λ_ _ h=>h.elim) hv).2
structure YOK(s:St)(t:Ty)(id:Nat)(y:Operand)(a:Act)(w:World)(D:Nat->Prop)(F:Nat->Nat->Prop)(d:Nat)(ys:List t.T)(js:List Nat):Prop where
 rd: ∃Fy,UF D w t.w ys.length (λi k=>(tyV t d (ys.getD i t.dflt)).getD k .dead) (a.eval y) Fy/\(∀i k c,i<ys.length->k<t.w->Fy i k c->∃j∈js,F j c)/\
  ∀i k i' k' c,i<ys.length->k<t.w->i'<ys.length->k'<t.w->(i≠i'\/k≠k')->Fy i k c->¬Fy i' k' c
 js: ∀j∈js,j<s.r.length/\j≠id
theorem Ic{t:Ty}{id:Nat}{y:Operand}{a:Act}{C:Ctx}{ρ:Nat->Value}{F:Nat->Nat->Prop}(hcr:CR C s.den.σ ((List.range N).map s.den.t) a.tmps w D ρ F)(hdd: ∀x,N<=x->s.den.t x= .dead)
  {d:Nat} {ys:List t.T} {js:List Nat} (h:UD s t id (s.ev y)=some (d,ys,js)):YOK s t id y a w D F d ys js:=by
 unfold UD at h;obtain⟨hno,h⟩:=A1 h;unfold UC at h;split at h
 case h_4=>cases h
 ·rename_i t' ys' hy
  split at h
  case isFalse=>cases h
  rename_i ht;subst ht;cases h;have hr:=BB hcr hdd y;rw [AZ hy]at hr;show YOK s t' id y a w D F 0 ys' [];refine⟨⟨λ_ _=>noF,?_,λ_ _ _ _ _ h=>h.elim,λ_ _ _ _ _ _ _ _ _ _ h=>h.elim⟩,λj hj=>by cases hj⟩
  have hr:Rel D w _ (arr false t'.w (tyV t' 0) t'.dflt ys') (a.eval y) noF:=hr;rcases hr with⟨h0,_,hn,_⟩|⟨b,o,cap,Fx,hcv,_,_,_,hc,himm,_⟩
  ·obtain⟨ad,had⟩:=Ch hn
   refine⟨ad,0,by rw [had,h0],λh=>by omega⟩
  ·refine⟨_,cap,hcv,λ_=>⟨b,o,rfl,λi k hi hk=>?_⟩⟩
   obtain⟨x,hx,hrx⟩:=hc i k hi hk;have e:Fx i k=noF:=AY λc hc=>(himm rfl).2.1 i k c hi hk hc
   rw [e]at hrx;exact⟨x,hx,Hw hrx (C5 t' 0 _ k hno hk),hrx⟩
 ·rename_i j q hy
  have hr:=BB hcr hdd y;rw [AZ hy]at hr;split at h
  case h_2=>cases h
  rename_i ro t' d' ys' hn;split at h
  case isFalse=>cases h
  rename_i ht;subst ht;cases hb:Nat.beq j id with
  |true=>rw [hb]at h;cases h
  |false=>
   rw [hb]at h;simp only [cond_false]at h;have hr:Rel D w (Ag s.den.σ ρ w) (.rs j q 0 (Ab s.r j q).len) (a.eval y) noF:=hr;rw [hn]at hr;have hr:Rel D w (Ag s.den.σ ρ w) (.rs j q 0 ys'.length) (a.eval y) noF:=hr;obtain⟨⟨hid,sz,n,f,cn,hat,hle,hcv⟩,_⟩:=hr;have hsub:=At.sub hat;have hne:Ab s.r j q≠.dead:=by rw [hn];intro h;cases h
   have hnode:sub q (s.den.σ.getD j .dead)=arr true t'.w (tyV t' d') t'.dflt ys':=(AP hne).trans (by rw [hn];rfl)
   rw [hnode]at hsub;have hsub:V.nd true true sz n f= .nd true true t'.w ys'.length (λi k=>(tyV t' d' (ys'.getD i t'.dflt)).getD k .dead):=hsub
   cases hsub;obtain⟨fp1,hr1,hfp1,_⟩:=Dt (w':=w) q _ _ _ _ _ (hcr.wr.rel j hid) (λb hb h=>hcr.wr.dD j b h hb) hat
   have hjr:j<s.r.length:=by simpa [St.den]using hid
   have rd: ∀Fy,(∀ (b o cap:Nat) (Fx:Nat->Nat->Nat->Prop),cn=As true b o ys'.length cap->(∀i k,i<ys'.length->k<t'.w->∃x,w.cell? ⟨b,o+i*t'.w+k,none⟩=some x/\Rel D w noR ((tyV t' d' (ys'.getD i t'.dflt)).getD k .dead) x (Fx i k))->(∀i k c,i<ys'.length->k<t'.w->Fx i k c->fp1 c)->
     (∀i k,i<ys'.length->k<t'.w->Fx i k=Fy i k))->UF D w t'.w ys'.length (λi k=>(tyV t' d' (ys'.getD i t'.dflt)).getD k .dead) (a.eval y) Fy:=by
    intro Fy hFy;rcases hr1 with⟨h0,_,hn0,_⟩|⟨b,o,cap,Fx,hcn,_,_,_,hc,_,ho⟩
    ·rcases hcv with⟨b,o,cap,h3,h4⟩|⟨_,ad,h4,_⟩
     ·rw [h3]at hn0;exact absurd hn0 By
     ·exact⟨ad.map λp=>⟨p.1,p.2,none⟩,0,by rw [h4,h0],λh=>by omega⟩
    ·rcases hcv with⟨b',o',cap',h3,h4⟩|⟨h0,ad,h4,_⟩
     ·obtain⟨rfl,rfl,_⟩:=Ap (h3.symm.trans hcn)
      refine⟨_,cap'-0,by simpa using h4,λ_=>⟨b',o',by simp,λi k hi hk=>?_⟩⟩
      obtain⟨x,hx,hrx⟩:=hc i k hi hk;have e:=hFy b' o' cap Fx hcn hc (λi k c hi hk h=>((ho rfl).2.2.2 c).2 (.inr ⟨i,k,hi,hk,h⟩)) i k hi hk
      exact⟨x,hx,Hw hrx (C5 t' d' _ k hno hk),e▸hrx⟩
     ·exact⟨ad.map λp=>⟨p.1,p.2,none⟩,0,by rw [h4,h0],λh=>by omega⟩
   cases hd:Nat.beq t'.dep 0 with
   |true=>
    rw [hd]at h;cases h;have hd:=bqE hd;show YOK s t' id y a w D F d ys' [];refine⟨⟨λ_ _=>noF,rd _ λb o cap Fx _ hc _ i k hi hk=>?_,λ_ _ _ _ _ h=>h.elim,λ_ _ _ _ _ _ _ _ _ _ h=>h.elim⟩,λj hj=>by cases hj⟩
    obtain⟨x,_,hrx⟩:=hc i k hi hk;obtain⟨cc,hcc⟩:=Pj t' d (ys'.getD i t'.dflt) hd _ (IT (k:=k) (by rw [Aq];exact hk))
    rw [hcc]at hrx;exact AY hrx.2.2
   |false=>
    rw [hd]at h;simp only [cond_false]at h;split at h
    case h_2=>cases h
    cases ro with
    |true=>cases h
    |false=>
     cases h;show YOK s t' id y a w D F d ys' [j];obtain⟨h1,h2⟩:=hat;subst h2;have hrj:=hcr.wr.rel j hid;rw [<-h1]at hrj;rcases hrj with⟨h0,_,hn0,_⟩|⟨b,o,cap,Fx,hcn,_,_,_,hc,_,ho⟩
     ·refine⟨⟨λ_ _=>noF,rd _ λ_ _ _ _ _ _ _ i k hi=>by omega,λ_ _ _ _ _ h=>h.elim,λ_ _ _ _ _ _ _ _ _ _ h=>h.elim⟩,λi hi=>?_⟩
      simp at hi;subst hi;exact⟨hjr,λe=>by rw [e,Nat.beq_refl]at hb;cases hb⟩
     ·refine⟨⟨Fx,?_,λi k c hi hk hF=>⟨j,by simp,((ho rfl).2.2.2 c).2 (.inr ⟨i,k,hi,hk,hF⟩)⟩,λi k i' k' c h1 h2 h3 h4 hne hF=>(ho rfl).2.2.1 i k i' k' c h1 h2 h3 h4 hne hF⟩,λi hi=>?_⟩
      ·rcases hcv with⟨b',o',cap',h3,h4⟩|⟨h0,ad,h4,_⟩
       ·obtain⟨rfl,rfl,_⟩:=Ap (h3.symm.trans hcn)
        refine⟨_,cap'-0,by simpa using h4,λ_=>⟨b',o',by simp,λi k hi hk=>?_⟩⟩
        obtain⟨x,hx,hrx⟩:=hc i k hi hk;exact⟨x,hx,Hw hrx (C5 t' d _ k hno hk),hrx⟩
       ·exact⟨ad.map λp=>⟨p.1,p.2,none⟩,0,by rw [h4,h0],λh=>by omega⟩
      ·simp at hi;subst hi
       exact⟨hjr,λe=>by rw [e,Nat.beq_refl]at hb;cases hb⟩
 ·rename_i j q off len hy
  have hr:=BB hcr hdd y;rw [AZ hy]at hr;split at h
  case h_2=>cases h
  rename_i ro t' d' ys' hn;split at h
  case isFalse=>cases h
  rename_i ht;subst ht;cases hb:(Nat.beq j id|| !Nat.beq t'.dep 0)with
  |true=>rw [hb]at h;cases h
  |false=>
   rw [hb]at h;cases h;show YOK s t' id y a w D F d (Og len (O2 off ys')) [];simp only [Bool.or_eq_false_iff,Bool.not_eq_false']at hb;have hd:=bqE hb.2;have hr:Rel D w (Ag s.den.σ ρ w) (.rs j q off len) (a.eval y) noF:=hr;obtain⟨⟨hid,sz,n,f,cn,hat,hle,hcv⟩,_⟩:=hr;have hsub:=At.sub hat;have hne:Ab s.r j q≠.dead:=by rw [hn];intro h;cases h
   have hnode:sub q (s.den.σ.getD j .dead)=arr true t'.w (tyV t' d) t'.dflt ys':=(AP hne).trans (by rw [hn];rfl)
   rw [hnode]at hsub;have hsub:V.nd true true sz n f= .nd true true t'.w ys'.length (λi k=>(tyV t' d (ys'.getD i t'.dflt)).getD k .dead):=hsub
   cases hsub;obtain⟨fp1,hr1,hfp1,_⟩:=Dt (w':=w) q _ _ _ _ _ (hcr.wr.rel j hid) (λb hb h=>hcr.wr.dD j b h hb) hat
   have hl:(Og len (O2 off ys')).length=len:=by
    show(List.take len (List.drop off ys')).length=len;simp;omega
   have hget: ∀i,i<len->(Og len (O2 off ys')).getD i t'.dflt=ys'.getD (off+i) t'.dflt:=by
    intro i hi;show(List.take len (List.drop off ys')).getD i t'.dflt=_;simp [List.getElem?_take,hi]
   refine⟨⟨λ_ _=>noF,?_,λ_ _ _ _ _ h=>h.elim,λ_ _ _ _ _ _ _ _ _ _ h=>h.elim⟩,λj hj=>by cases hj⟩
   rw [hl];rcases hcv with⟨b',o',cap',h3,h4⟩|⟨h0,ad,h4,_⟩
   ·refine⟨_,cap'-off,h4,λhpos=>⟨b',o'+off*t'.w,rfl,λi k hi hk=>?_⟩⟩
    rcases hr1 with⟨h0,_,hn0,_⟩|⟨b,o,cap,Fx,hcn,_,_,_,hc,_,ho⟩
    ·omega
    ·obtain⟨rfl,rfl,_⟩:=Ap (h3.symm.trans hcn)
     obtain⟨x,hx,hrx⟩:=hc (off+i) k (by omega) hk
     obtain⟨cc,hcc⟩:=Pj t' d (ys'.getD (off+i) t'.dflt) hd _ (IT (k:=k) (by rw [Aq];exact hk))
     have hrx:Rel D w noR ((tyV t' d (ys'.getD (off+i) t'.dflt)).getD k .dead) x (Fx (off+i) k):=hrx
     have e:Fx (off+i) k=noF:=by
      rw [hcc]at hrx;exact AY hrx.2.2
     rw [e]at hrx;refine⟨x,?_,Hw hrx (C5 t' d _ k hno hk),?_⟩
     ·rw [Nat.add_mul,<-Nat.add_assoc]at hx;exact hx
     ·show Rel D w noR ((tyV t' d ((Og len (O2 off ys')).getD i t'.dflt)).getD k .dead) x noF
      rw [hget i hi];exact hrx
   ·exact⟨ad.map λp=>⟨p.1,p.2,none⟩,0,by rw [h4,h0],λh=>by omega⟩
theorem Mg{xs ys:List t.T}(hn:n=xs.length)(hm:m=ys.length)(hf: ∀i k,i<n->f i k=(tyV t d (xs.getD i t.dflt)).getD k .dead)(hg: ∀i k,i<m->g i k=(tyV t d (ys.getD i t.dflt)).getD k .dead):
  Sub (.nd true true t.w (n+m) (UE n f g)) (cV (.sl t) (d+1) (xs++ys)):=by
 show Sub _ (V.nd true true t.w (xs++ys).length λi k=>(tyV t d ((xs++ys).getD i t.dflt)).getD k .dead)
 rw [List.length_append,<-hn,<-hm];refine⟨_,rfl,λi k hi hk=>Sub.of_eq ?_⟩
 unfold UE
 grind
section
variable {C:Ctx} {N:Nat} {σ:List V} {ρ:Nat->Value} {F:Nat->Nat->Prop} {t:Nat->V} {a:Act} {w:World} {D:Nat->Prop} {T:Nat->Nat->Prop}
theorem PR.own(h:PR C N σ ρ F t a w D T){xs:List Operand}{r:V}{v':Value}{fp:Nat->Prop}{d:Nat}{w':World}(hos:w'.os=w.os)(htp:w'.tape=w.tape)(hout:w'.output=w.output)(hdr:dz w<=dz w')(hsz:w.heap.size<=w'.heap.size)
  (hbl: ∀c,c<w.heap.size->(∀j,¬opF t T xs j c)->w'.heap[c]? =w.heap[c]?) (hr:Rel D w' noR r v' fp) (hf: ∀b,fp b->(∃j,opF t T xs j b)\/w.heap.size<=b) (hdn:d<N):
  ∃T',PR C N σ ρ F (Az (AH ((A4 t xs).map λy=>(y,.all)) t) d r) (a.put (some d) v') w' D T'/\∀x b,T' x b->some d=some x\/∃b',T x b':=by
 have hFlt: ∀i b,F i b->b<w.heap.size:=h.wr.lt;have hTlt: ∀x b,T x b->b<w.heap.size:=by
  intro x b hb;by_cases hx:x<N
  ·exact Rel.lt _ _ _ (h.tm x hx) b hb
  ·exact absurd hb (h.tx x b (Nat.le_of_not_lt hx))
 have hD: ∀b,D b->w'.heap[b]? =w.heap[b]?:=λb hb=>hbl b (h.wr.Dlt b hb) λj ho=>by obtain⟨y,_,_,hT⟩:=ho;exact h.tD y b hT hb
 have hFs: ∀i b,F i b->w'.heap[b]? =w.heap[b]?:=λi b hb=>hbl b (hFlt i b hb) λj ho=>by obtain⟨y,_,_,hT⟩:=ho;exact h.tF i y b hb hT
 have hTs: ∀x b,x∉A4 t xs->T x b->w'.heap[b]? =w.heap[b]?:=λx b hx hb=>hbl b (hTlt x b hb) λj ho=>by
  obtain⟨y,_,_,hm,hT⟩:=Dk ho;exact h.tT x y b (λe=>hx (e▸hm)) hb hT
 have wr':Bj σ w' D ρ F:=⟨λi hi=>Rel.mono (λ_ h=>h) (λ_ _ h=>h) _ _ _ (λb hb=>hb.elim (hD b) (hFs i b)) (h.wr.rel i hi),h.wr.disj,h.wr.dD,λb hb=>Nat.lt_of_lt_of_le (h.wr.Dlt b hb) hsz,h.wr.out⟩
 have hfo: ∀b,fp b->(∃y,y∈A4 t xs/\T y b)\/w.heap.size<=b:=λb hb=>(hf b hb).imp (fun⟨j,ho⟩=>by obtain⟨y,_,_,hm,hT⟩:=Dk ho;exact⟨y,hm,hT⟩) id
 refine⟨λx b=>if x=d then fp b else x∉A4 t xs/\T x b,⟨h.df,by rw [BK];simpa using h.sz,λx hx=>?_,wr',λx hx=>?_,λx b hb=>?_,λi x b hb hT=>?_,λx y b hxy h1 h2=>?_,λx b hb=>?_,⟨hos.trans h.fr.os,htp.trans h.fr.tape,hout.trans h.fr.output,Nat.le_trans h.fr.size hsz,λb hb hW=>?_,Nat.le_trans h.fr.drawn hdr⟩,h.Fn,h.D1,h.D2,h.rt,h.ml,λx b hx hb=>?_⟩,λx b hb=>?_⟩
 ·have: ¬x=d:=by omega
  simp only [Az,this,if_false];rw [CU];split
  ·rfl
  ·exact h.dd x hx
 ·have hlt:x<a.tmps.size:=by rw [h.sz];exact hx
  rw [BK];by_cases he:x=d
  ·subst he
   simp only [Az,if_true];have:Rel D w' (Ag σ ρ w') r v' (λb=>if x=x then fp b else x∉A4 t xs/\T x b):=Rel.fp_congr (λb=>by rw [if_pos rfl]) (Rel.noR_mono hr)
   simpa [hlt]using this
  ·simp only [Az,he,if_false]
   rw [Array.getD_eq_getD_getElem?,Array.getElem?_setIfInBounds_ne (Ne.symm he),<-Array.getD_eq_getD_getElem?,CU];by_cases hm:x∈A4 t xs
   ·rw [if_pos hm]
    exact λb hb=>hb.1 hm
   ·rw [if_neg hm]
    refine Rel.fp_congr (fp:=T x) (λb=>⟨λh=>⟨hm,h⟩,λh=>h.2⟩) ?_
    exact Rel.mono (λ_ h=>h) (λv cv hv=>Ag.same h.wr hFs v cv hv) _ _ _ (λb hb=>hb.elim (hD b) (hTs x b hm)) (h.tm x hx)
 ·split at hb
  ·intro hDb
   rcases hfo b hb with⟨y,_,hT⟩|h2
   ·exact h.tD y b hT hDb
   ·have:=h.wr.Dlt b hDb;omega
  ·exact h.tD x b hb.2
 ·split at hT
  ·rcases hfo b hT with⟨y,_,hT⟩|h2
   ·exact h.tF i y b hb hT
   ·have:=hFlt i b hb;omega
  ·exact h.tF i x b hb hT.2
 ·have one: ∀x,fp b->x∉A4 t xs->T x b->False:=by
   intro x h3 hx h4;rcases hfo b h3 with⟨z,hm,h5⟩|h5
   ·exact h.tT x z b (λe=>hx (e▸hm)) h4 h5
   ·have:=hTlt x b h4;omega
  split at h1<;>split at h2
  ·rename_i e1 e2;exact absurd (e1.trans e2.symm) hxy
  ·exact one y h1 h2.1 h2.2
  ·exact one x h2 h1.1 h1.2
  ·exact h.tT x y b hxy h1.2 h2.2
 ·split at hb
  ·rcases hfo b hb with⟨y,_,hT⟩|h2
   ·exact h.tn y b hT
   ·exact .inr (Nat.le_trans h.fr.size h2)
  ·exact h.tn x b hb.2
 ·rw [hbl b (Nat.lt_of_lt_of_le hb h.fr.size) λj ho=>by
   obtain⟨y,_,_,hT⟩:=ho;rcases h.tn y b hT with h|h
   ·exact hW h
   ·omega]
  exact h.fr.block b hb hW
 ·have hb:(if x=d then fp b else x∉A4 t xs/\T x b):=hb
  rw [if_neg (by omega)]at hb
  exact h.tx x b hx hb.2
 ·have hb:(if x=d then fp b else x∉A4 t xs/\T x b):=hb
  split at hb
  ·rename_i e;exact .inl (by rw [e])
  ·exact .inr ⟨b,hb.2⟩
theorem PR.cr(h:PR C N σ ρ F t a w D T){t2:Nat->V}(h2: ∀x,t2 x= .dead\/(t2 x=t x/\AE (t x)=false)):CR C σ ((List.range N).map t2) a.tmps w D ρ F:=by
 refine⟨h.wr,by simp [h.sz],λj hj=>?_,h.fr,h.Fn,h.D1,h.D2,h.rt,h.ml⟩
 have hj:j<N:=by grind
 rw [AV hj];rcases h2 j with e|⟨e,ho⟩
 ·rw [e];exact λ_ h=>h
 ·rw [e]
  have h1:=h.tm j hj;rw [AY (Au _ _ _ ho h1)]at h1;omega
end
theorem VL{R:V->Value->Prop}{cv:Value}(h:Rel D w R (.nd true true sz m g) cv fp)(h1: ∀i k,i<m->k<sz->Xa (g i k)=true):
  ∃Fy,UF D w sz m g cv Fy/\(∀i k c,i<m->k<sz->Fy i k c->fp c)/\∀i k i' k' c,i<m->k<sz->i'<m->k'<sz->(i≠i'\/k≠k')->Fy i k c->¬Fy i' k' c:=by
 rcases h with⟨h0,_,hn,_⟩|⟨b,o,cap,F0,hcv,_,_,_,hc,_,ho⟩
 ·obtain⟨a,rfl⟩:=Ch hn
  subst h0;exact⟨λ_ _=>noF,⟨a,0,rfl,λh=>by omega⟩,λi k c hi=>by omega,λi k i' k' c hi=>by simp⟩
 ·obtain⟨_,_,hd,hf⟩:=ho rfl
  refine⟨F0,⟨some ⟨b,o,none⟩,cap,hcv,λ_=>⟨b,o,rfl,λi k hi hk=>?_⟩⟩,λi k c hi hk hF=>(hf c).2 (.inr ⟨i,k,hi,hk,hF⟩),hd⟩
  obtain⟨x,hx,hrx⟩:=hc i k hi hk;exact⟨x,hx,Hw hrx (h1 i k hi hk),hrx⟩
theorem W3{Al:Nat->Nat->Prop}{P:Program}{σ:List V}{o:Oper}{t:Nat->V}{ty e:TypeId}{x:Operand}{bytes n m:Nat}{zero:List Value}{f g:Nat->Nat->V}(ho:o.op= .call ⟨.builtin .append,#[x,y],#[ty,ty]⟩)(hd:o.dst=some d)(hdn:d<N)(hsl:slI P ty=some ⟨e,sz,bytes,zero⟩)(hsz0:0<sz)
  (hx:Sub (Ms.ev ⟨t,σ⟩ x) (.nd true true sz n f)) (hap:CH ([x,y].map (H0 t))=true)
  (hy: ∀ (C:Ctx) (ρ:Nat->Value) (F:Nat->Nat->Prop) (a:Act) (w:World) (D:Nat->Prop) (T:Nat->Nat->Prop) (t':Nat->V),(∀z∈DP o.op,t' z=t z)->PR C N σ ρ F t' a w D T->
   ∃Fy,UF D w sz m g (a.eval y) Fy/\(∀i k c,i<m->k<sz->Fy i k c->opF t' T [x,y] 1 c)/\∀i k i' k' c,i<m->k<sz->i'<m->k'<sz->(i≠i'\/k≠k')->Fy i k c->¬Fy i' k' c)
  (h63:n+m<=maxLen) (hb:(n+m)*bytes<=140737488355328):
  LQ P N σ Al o t ((A4 t [x,y]).map λy=>(y,.all)) (.nd true true sz (n+m) (UE n f g)):=by
 intro C ρ F a w D T t' hag hal hp next Q hn
 have hopx: ∀z,Operand.tmp z∈ [x,y]->t' z=t z:=λz hz=>hag z (.inl<|C6 (by rw [ho];simp [Op.operands,Call.operands]at hz⊢;simpa using hz))
 have hevx:Ms.ev ⟨t',σ⟩ x=Ms.ev ⟨t,σ⟩ x:=by
  cases x with
  |tmp z=>exact hopx z (by simp)
  |const v=>rfl
  |global g=>rfl
  |func f=>rfl
 have hmap: [x,y].map (H0 t')= [x,y].map (H0 t):=CY λu hu z e=>hopx z (e▸hu)
 have hap':CH ([x,y].map (H0 t'))=true:=by rw [hmap];exact hap
 have htk:A4 t' [x,y]=A4 t [x,y]:=by rw [BG,BG,hmap]
 have hrx:=hp.opF_rel (xs:=[x,y]) (j:=0) (x:=x) rfl;rw [hevx]at hrx;have hrx1:=Rel.sub hx hrx;have hrx:Rel D w noR (.nd true true sz n f) (a.eval x) (opF t' T [x,y] 0):=hrx1;obtain⟨Fy,hrd,hFy,hFd⟩:=hy C ρ F a w D T t' (λz hz=>hag z (.inl hz)) hp
 have oD: ∀j b,opF t' T [x,y] j b->¬D b:=λj b hj=>by obtain⟨z,_,_,hT⟩:=hj;exact hp.tD z b hT
 obtain⟨v',w',fp,hrun,hos,htp,hout,hdr,hsz,hbl,hr',hfp⟩:=Rel.append (P:=P) (ty:=o.type) hsl hsz0 hrx (λb hb h=>oD 0 b h hb) hp.wr.Dlt hrd (λi k c hi hk hF=>⟨oD 1 c (hFy i k c hi hk hF),λh=>hp.opF_dis hap' 0 1 c (by decide) h (hFy i k c hi hk hF)⟩) hFd h63 hb
 unfold Oper.wp execOp;simp only [ho,resolve,invoke,builtin,Sem.run_bind,Sem.run_pure,Result.andThen_ok,List.map_toArray,List.map_cons,List.map_nil,hrun];show next (a.put o.dst v') w'
 rw [hd]at hn⊢
 obtain⟨T',hp',hT'⟩:=hp.own (xs:=[x,y]) (d:=d) hos htp hout hdr hsz (λc hc hG=>hbl c hc (hG 0)) hr' (λb hb=>by
  rcases hfp b hb with h1|⟨i,k,hi,hk,h1⟩|h1
  ·exact .inl ⟨0,h1⟩
  ·exact .inl ⟨1,hFy i k b hi hk h1⟩
  ·exact .inr h1) hdn
 rw [htk]at hp';exact hn _ _ _ _ hp' hT' λ_ hx=>Bt hx
end Go.Ve

