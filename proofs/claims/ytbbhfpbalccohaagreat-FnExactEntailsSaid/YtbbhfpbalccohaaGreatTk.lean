/- The typed machine: lists of operations in memory; regions that draw their order. -/
import Derived.Test.YtbbhfpbalccohaaGreatTj
import Derived.Test.YtbbhfpbalccohaaGreatTub
namespace Go.Ve
theorem UK{P:Program}{C:Ctx}{N:Nat}{Θ:Tab}(hΘ:Θ.OK P){s s':St}{o:Oper}{t:TypeId}{x v:Operand}{a:Act}{w:World}{next:Act->World->Prop}{Q:Exit->Act->World->Prop}
  (ho:o.op= .store t x v) (hdst:o.dst=none) (h:H8 s (Θ.look t) (s.ev x) (s.ev v)=some s') (hs:AT C N s.den a w) (hn: ∀a' w',AT C N s'.den a' w'->next a' w'):o.wp P a w next Q:=by
 obtain⟨hd,hdd,D,ρ,F,hcr⟩:=hs;unfold H8 at h;split at h
 case h_2=>cases h
 rename_i ti id p i k y hti hx hv;split at h
 case h_2=>cases h
 rename_i l hl;cases hb:(Nat.beq l.length ti.ty.w&&Nat.ble (k+ti.ty.w) (Af s.r id p).w&&(Af s.r id p).live)with
 |false=>rw [hb]at h;cases h
 |true=>
  rw [hb]at h;simp only [cond_true]at h;simp only [bAE]at hb;obtain⟨⟨h1,h2⟩,h3⟩:=hb;have h1:=bqE h1;have h2:=blE h2;have hnsz:=C1 h3;obtain⟨hpl,hcv,_⟩:=Cr (r:=s.r) hl;obtain⟨d,tii,z,hdt,hit,hz,his,_⟩:=DA (hΘ.ty hti);simp only at his;have hrx:=B9 hcr hdd x;rw [A3 hx]at hrx;have hrx:Rel D w (An s.den.σ ρ w) (.rp id p i k) (a.eval x) noF:=hrx;obtain⟨s0,sz,n,f,b,o',cap,hid,ha,hi,hk,had,_,hns,_,_⟩:=N3 hcr.wr hrx.1;have hrv:=B9 hcr hdd v;rw [A3 hv]at hrv;obtain⟨⟨hcl,hcells⟩,_⟩:=Ch (fun v cv h=>An.one h) hpl hrv
  rw [hcv]at hcl hcells;have hlen:(l.map (Cl.v s.r)).length=l.length:=List.length_map ..
  have hcr2:CR C s.den.σ ((List.range N).map s.den.t++ .rp id p i k::l.map (Cl.v s.r)) (a.tmps.toList++ .pointer (some ⟨b,(o'+i*sz)+k,none⟩)::(a.eval v).cells.toList).toArray w D ρ F:=by
   have hsz:a.tmps.size=N:=by simpa using hcr.sz
   refine⟨hcr.wr,by simp [hsz,hcl],fun j hj=>?_,hcr.fr,hcr.Fn,hcr.D1,hcr.D2,hcr.rt,hcr.ml⟩
   by_cases hjt:j<N
   ·rw [AF (by simpa using hjt)]
    have h1:=hcr.tm j (by simpa using hjt)
    have e:(a.tmps.toList++ .pointer (some ⟨b,(o'+i*sz)+k,none⟩)::(a.eval v).cells.toList).toArray.getD j undef=a.tmps.getD j undef:=by
     simp [gAL,hsz,hjt]
    rw [e];exact h1
   ·obtain⟨m,rfl⟩: ∃m,j=N+m:=⟨j-N,by omega⟩
    have e1:((List.range N).map s.den.t++ .rp id p i k::l.map (Cl.v s.r)).getD (N+m) .dead=(.rp id p i k::l.map (Cl.v s.r)).getD m .dead:=by
     simp [gAR]
    have e2:(a.tmps.toList++ .pointer (some ⟨b,(o'+i*sz)+k,none⟩)::(a.eval v).cells.toList).toArray.getD (N+m) undef=(.pointer (some ⟨b,(o'+i*sz)+k,none⟩)::(a.eval v).cells.toList).getD m undef:=by
     simp only [Array.getD_eq_getD_getElem?,List.getElem?_toArray,gDE];rw [gAR (by simp;omega)]
     simp [hsz]
    rw [e1,e2];cases m with
    |zero=>rw [had]at hrx;exact hrx
    |succ m=>
     simp at hj;have:=hcells m (by simpa using hj)
     simpa using this
  obtain⟨w',hrun,hdd',hcr3⟩:=Qj (P:=P) l.length l (a.eval v).cells.toList 0 s s' w ρ F hcr2 (by simpa using hcr.sz) hdd (by simpa using hcl) (by show k+0+l.length<=AR (s.r.map Ae.v) id p;rw [hnsz];omega) h
  have hsv:(storeVar t ⟨b,(o'+i*sz)+k,none⟩ (a.eval v)).run P w= .ok () w':=by
   simp only [storeVar,Sem.run_bind,sizeOf,typeInfo];have e:(a.eval v).cells.size=ti.ty.w:=by rw [hcl,hlen,h1]
   simp [hit,his,hrun,e]
  have hex:(execOp a.eval o).run P w= .ok .skip w':=by
   unfold execOp;rw [ho];simp [Instr.storeAt,had,Instr.sureAddr,hsv]
  unfold Oper.wp;rw [hex,Oper.upon_skip,hdst];exact hn a w' ⟨hd,hdd',hcr3⟩
def Cl.stay:Cl->Bool
 | .rf _ _=>false
 | .rs _ _ _ _=>false
 | .rp _ _ _ _=>false
 |_=>true
def Sl.stay:Sl->Bool
 | .one y=>y.stay
 | .new _=>true
 | .agg l=>l.all Cl.stay
 | .pk _ l=>l.all Cl.stay
 | .tup l=>l.all fun p=>p.2.all Cl.stay
theorem AJ{α:Type}{f:α->α}{l:List α}(h: ∀y∈l,f y=y):l.map f=l:=by
 have:=List.map_congr_left h;rw [this,List.map_id']
theorem Sl.chk_stay{y:Sl}(h:y.stay=true)(m:Nat):y.chk m=y:=by
 have c1: ∀y:Cl,y.stay=true->y.chk m=y:=by intro y h;cases y<;>first|rfl|cases h
 cases y with
 |one y=>exact congrArg Sl.one (c1 y h)
 |new l=>rfl
 |agg l=>exact congrArg Sl.agg (AJ fun y hy=>c1 y (aET.1 h y hy))
 |pk t l=>exact congrArg (Sl.pk t) (AJ fun y hy=>c1 y (aET.1 h y hy))
 |tup l=>
  refine congrArg Sl.tup (AJ fun p hp=>?_)
  obtain⟨b,m⟩:=p;exact congrArg (Prod.mk b) (AJ fun y hy=>c1 y (aET.1 (aET.1 h _ hp) y hy))
theorem Sl.kill_stay{y:Sl}(h:y.stay=true)(id:Nat)(ks:List Nat)(j:Mv):y.kill id ks j=y:=by
 have c1: ∀y:Cl,y.stay=true->y.kill id ks j=y:=by intro y h;cases y<;>first|rfl|cases h
 cases y with
 |one y=>exact congrArg Sl.one (c1 y h)
 |new l=>rfl
 |agg l=>exact congrArg Sl.agg (AJ fun y hy=>c1 y (aET.1 h y hy))
 |pk t l=>exact congrArg (Sl.pk t) (AJ fun y hy=>c1 y (aET.1 h y hy))
 |tup l=>
  refine congrArg Sl.tup (AJ fun p hp=>?_)
  obtain⟨b,m⟩:=p;exact congrArg (Prod.mk b) (AJ fun y hy=>c1 y (aET.1 (aET.1 h _ hp) y hy))
def Ae.isRo:Ae->Bool
 | .obj ro _=>ro
 | .arr ro _ _ _=>ro
 | .opt ro _ _ _=>ro
 | .dead=>true
theorem Mc{r r1:Ae}{q:AP}(h:Md r q=some r1):r.isRo=false:=by
 unfold Md at h;split at h
 case h_2=>cases h
 split at h
 case h_3=>cases h
 ·rfl
 ·rfl
structure Kp(g:Nat->Bool)(s s':St):Prop where
 t: ∀i,g i=true->(s.t i).stay=true->s'.t i=s.t i
 r: ∀id,id<s.r.length->(s.r.getD id .dead).isRo=true->s'.r.getD id .dead=s.r.getD id .dead
 l:s.r.length<=s'.r.length
theorem Kp.refl(g:Nat->Bool)(s:St):Kp g s s:=⟨fun _ _ _=>rfl,fun _ _ _=>rfl,Nat.le_refl _⟩
theorem Kp.trans{g g1 g2:Nat->Bool}{s s1 s2:St}(h1:Kp g1 s s1)(h2:Kp g2 s1 s2)(hg1: ∀i,g i=true->g1 i=true)(hg2: ∀i,g i=true->g2 i=true):Kp g s s2:=by
 refine⟨fun i hi hs=>?_,fun id hl hid=>?_,Nat.le_trans h1.l h2.l⟩
 ·have e:=h1.t i (hg1 i hi) hs
  rw [h2.t i (hg2 i hi) (by rw [e];exact hs),e]
 ·have e:=h1.r id hl hid
  rw [h2.r id (Nat.lt_of_lt_of_le hl h1.l) (by rw [e];exact hid),e]
theorem Kp.weak{g g':Nat->Bool}{s s':St}(h:Kp g' s s')(hg: ∀i,g i=true->g' i=true):Kp g s s':=⟨fun i hi=>h.t i (hg i hi),h.r,h.l⟩
theorem Br{t:Nat->Sl}{d i:Nat}{y:Sl}(h:i≠d):A5 t d y i=t i:=by
 unfold A5;rw [B6 h];rfl
theorem Pq{h:D5}{s s':St}{d:Option Nat}{y:Sl}(hp:s.put h d y=some s'):(∃new,s'.r=s.r++new)/\(∀i,d≠some i->(s.t i).stay=true->s'.t i=s.t i)/\(s'.r=s.r->∀i,d≠some i->s'.t i=s.t i):=by
 unfold St.put at hp;cases d with
 |none=>cases hp;exact⟨⟨[],by simp⟩,fun _ _ _=>rfl,fun _ _ _=>rfl⟩
 |some d=>
  simp only at hp;cases hb:Nat.blt d h.n with
  |false=>rw [hb]at hp;cases hp
  |true=>
   rw [hb]at hp;simp only [cond_true]at hp;cases hf:h.fz.contains d with
   |true=>
    rw [hf]at hp;simp only [cond_true]at hp;split at hp
    ·cases hp
     exact⟨⟨[],by simp⟩,fun i hi _=>Br fun e=>hi (by rw [e]),fun _ i hi=>Br fun e=>hi (by rw [e])⟩
    ·cases hp
   |false=>
    rw [hf]at hp;simp only [cond_false,Option.some.injEq]at hp;subst hp;unfold St.add;split
    ·exact⟨⟨[],by simp⟩,fun i hi _=>Br fun e=>hi (by rw [e]),fun _ i hi=>Br fun e=>hi (by rw [e])⟩
    ·rename_i q new _
     refine⟨⟨q::new,rfl⟩,fun i hi hst=>?_,fun hr=>?_⟩
     ·show A5 (fun i=>(s.t i).chk s.r.length) d (y.prom s.r.length).1 i=s.t i
      rw [Br (fun e=>hi (by rw [e]))]
      exact Sl.chk_stay hst _
     ·have:=congrArg List.length hr
      simp at this
theorem Pp{h:D5}{s s':St}{d:Option Nat}{y:Sl}(hp:s.put h d y=some s'):Kp (fun i=>decide (d≠some i)) s s':=by
 obtain⟨⟨new,hr⟩,ht,_⟩:=Pq hp;refine⟨fun i hi hs=>ht i (of_decide_eq_true hi) hs,fun id hl hid=>?_,by rw [hr];simp⟩
 rw [hr];simp only [gDE,gAL hl]
theorem J8{r r':Ae}{i k:Nat}{c:Cl}(h:r.setCell i k c=some r'):r.isRo=false:=by
 cases r with
 |dead=>cases h
 |opt=>cases h
 |obj ro l=>cases ro with
  |true=>cases h
  |false=>rfl
 |arr ro t d xs=>cases ro with
  |true=>cases h
  |false=>rfl
theorem Lp{r r':Ae}{p:AP}{i k:Nat}{c:Cl}(h:r.setAt p i k c=some r'):r.isRo=false:=by
 cases p with
 |nil=>exact J8 h
 |cons a p=>
  unfold Ae.setAt at h;split at h
  ·split at h
   ·exact J8 h
   ·cases h
  ·cases h
theorem Xl{id:Nat}{p:AP}{i k:Nat}{c:Cl}{r r':List Ae}{j:Mv}(h:NS id p i k c r=some (r',j)): ∀id',(r.getD id' .dead).isRo=true->r'.getD id' .dead=r.getD id' .dead:=by
 intro id' hro
 have key: ∀x r0 y,(r.getD id .dead).setAt p i k y=some r0->(r.set id x).getD id' .dead=r.getD id' .dead:=by
  intro x r0 y hs;have:id'≠id:=by
   rintro rfl
   rw [Lp hs]at hro;cases hro
  simp only [gDE,List.getElem?_set_ne (Ne.symm this)]
 unfold NS at h;split at h
 ·rename_i j'
  cases hb:Nat.beq j' id with
  |true=>rw [hb]at h;cases h
  |false=>
   rw [hb]at h;simp only [cond_false]at h;split at h
   case h_2=>cases h
   rename_i t d xs hj;split at h
   case h_2=>cases h
   rename_i r0 hs;cases h;have:id'≠j':=by rintro rfl;rw [hj]at hro;cases hro
   have e:((r.set id r0).set j' .dead).getD id' .dead=(r.set id r0).getD id' .dead:=by
    simp only [gDE,List.getElem?_set_ne (Ne.symm this)]
   rw [e];exact key _ _ _ hs
 ·rename_i j' a q
  cases hb:Nat.beq j' id with
  |true=>rw [hb]at h;cases h
  |false=>
   rw [hb]at h;simp only [cond_false]at h;split at h
   case h_2=>cases h
   rename_i t d xs hj;split at h
   case h_2=>cases h
   rename_i r1 r0 hcut hs;cases h;have h1:id'≠j':=by
    rintro rfl
    rw [Mc hcut]at hro;cases hro
   have h2:id'≠id:=by
    rintro rfl
    rw [Lp hs]at hro;cases hro
   simp only [gDE,List.getElem?_set_ne (Ne.symm h2)];rcases Nat.lt_or_ge id' r.length with h3|h3
   ·rw [gAL (by simpa using h3),List.getElem?_set_ne (Ne.symm h1)]
   ·rw [List.getElem?_eq_none (l:=r) h3]
    by_cases h4:id'=r.length
    ·subst h4
     rw [gAR (by simp)]
     simp
    ·rw [List.getElem?_eq_none (by simp;omega)]
 ·cases hb:c.imm with
  |false=>rw [hb]at h;cases h
  |true=>
   rw [hb]at h;simp only [cond_true]at h;split at h
   case h_2=>cases h
   rename_i r0 hs;cases h;exact key _ _ _ hs
theorem Zr{id:Nat}{p:AP}{i:Nat}: ∀ (m k:Nat) (cs:List Cl) (s s':St),Xm id p i m k cs s=some s'->Kp (fun _=>true) s s':=by
 intro m
 induction m with
 |zero=>intro k cs s s' h;cases cs<;>cases h;exact Kp.refl _ _
 |succ m ih=>
  intro k cs s s' h;cases cs with
  |nil=>cases h;exact Kp.refl _ _
  |cons c cs=>
   unfold Xm at h;split at h
   case h_2=>cases h
   rename_i r' mv h1;refine Kp.trans (s1:=⟨fun x=>(s.t x).kill id ((p++ [(i,k)]).map (·.2)) mv,r'⟩) (g1:=fun _=>true) ⟨fun x _ hx=>Sl.kill_stay hx _ _ _,fun id' _=>Xl h1 id',by obtain⟨_,_,_,_,_,hl,_⟩:=UN h1 [];show s.r.length<=r'.length;omega⟩ (ih _ _ _ _ h) (fun _ _=>rfl) fun _ _=>rfl
theorem UL{s s':St}{ti:Option TI}{x v:Option Sl}(h:H8 s ti x v=some s'):Kp (fun _=>true) s s':=by
 unfold H8 at h;split at h
 case h_2=>cases h
 split at h
 case h_2=>cases h
 rename_i ti id p i k y _ l hl;cases hb:(Nat.beq l.length ti.ty.w&&Nat.ble (k+ti.ty.w) (Af s.r id p).w&&(Af s.r id p).live)with
 |false=>rw [hb]at h;cases h
 |true=>rw [hb]at h;exact Zr _ _ _ _ _ h
theorem Sl.kH_stay{y:Sl}(h:y.stay=true)(r:List Ae)(j:Nat):y.kH r j=y:=by
 cases y with
 |one c=>
  cases c with
  |rf=>cases h
  |rs=>cases h
  |rp=>cases h
  |_=>rfl
 |new=>exact Sl.kill_stay h j [] []
 |agg=>exact Sl.kill_stay h j [] []
 |tup=>exact Sl.kill_stay h j [] []
 |pk=>exact Sl.kill_stay h j [] []
theorem KG: ∀ (js:List Nat) (s:St),(∀j∈js,(s.r.getD j .dead).isRo=false\/s.r.getD j .dead= .dead)->Kp (fun _=>true) s (Bq js s)
 | [],s,_=>Kp.refl _ _
 |j::js,s,h=>by
  have h1:Kp (fun _=>true) s (JX j s):=by
   refine⟨fun i _ hi=>Sl.kH_stay hi _ _,fun id hid hro=>?_,by rw [Nz];exact Nat.le_refl _⟩
   by_cases hne:j=id
   ·subst hne
    rcases h j (List.mem_cons_self ..)with h2|h2
    ·rw [h2]at hro;cases hro
    ·show(s.r.set j .dead).getD j .dead=_
     rw [h2];simp [hid]
   ·exact HN hne
  refine h1.trans (KG js (JX j s) fun i hi=>?_) (fun _ _=>rfl) fun _ _=>rfl
  by_cases he:i=j
  ·subst he
   right;show(s.r.set i .dead).getD i .dead= .dead;by_cases hlt:i<s.r.length
   ·simp [hlt]
   ·rw [gDE,List.getElem?_eq_none (by simp;omega)];rfl
  ·have:(JX j s).r.getD i .dead=s.r.getD i .dead:=HN (Ne.symm he)
   rw [this];exact h i (mCM _ hi)
theorem Ny(js:List Nat)(s:St)(h: ∀j∈js,(s.r.getD j .dead).isRo=false):Kp (fun _=>true) s (Bq js s):=KG js s fun j hj=>.inl (h j hj)
theorem Sl.gv_stay{y:Sl}(h:y.stay=true)(r:List Ae)(j:Nat)(z:Cl):y.gv r j z=y:=by
 unfold Sl.gv;split
 ·cases h
 ·exact Sl.kH_stay h r j
theorem X7{j:Nat}{s s':St}(h:We j s=some s'):Kp (fun _=>true) s s':=by
 obtain⟨l,t,x,hj,hr,hf,rfl⟩:=Kx h;refine⟨fun i _ hi=>Sl.gv_stay hi _ _ _,fun id hid hro=>HN fun e=>?_,by simp⟩
 rw [<-e,hr]at hro;cases hro
theorem IJ: ∀ (xs:List Operand) {s s':St},Nt xs s=some s'->Kp (fun _=>true) s s'
 | [],s,s',h=>by cases h;exact Kp.refl _ _
 |x::xs,s,s',h=>by
  unfold Nt at h;split at h
  ·split at h
   case h_2=>cases h
   rename_i h1;exact(X7 h1).trans (IJ xs h) (fun _ _=>rfl) fun _ _=>rfl
  ·exact IJ xs h
theorem Sl.mapC_stay{y:Sl}(h:y.stay=true)(id:Nat)(q:AP)(m:Nat):y.mapC (Cl.rr id q m)=y:=by
 have c1: ∀y:Cl,y.stay=true->y.rr id q m=y:=by intro y h;cases y<;>first|rfl|cases h
 cases y with
 |one y=>exact congrArg Sl.one (c1 y h)
 |new l=>rfl
 |agg l=>exact congrArg Sl.agg (AJ fun y hy=>c1 y (aET.1 h y hy))
 |pk t l=>exact congrArg (Sl.pk t) (AJ fun y hy=>c1 y (aET.1 h y hy))
 |tup l=>
  refine congrArg Sl.tup (AJ fun p hp=>?_)
  obtain⟨b,m⟩:=p;exact congrArg (Prod.mk b) (AJ fun y hy=>c1 y (aET.1 (aET.1 h _ hp) y hy))
theorem Mb{s s':St}{x:Option Sl}(h:Y5 s x=some s'):Kp (fun _=>true) s s':=by
 unfold Y5 at h;split at h
 case h_2=>cases h;exact Kp.refl _ _
 rename_i id b q1
 have key: ∀ (r1 R:Ae),Md (s.r.getD id .dead) (b::q1)=some r1->Kp (fun _=>true) s ⟨fun i=>(s.t i).mapC (Cl.rr id (b::q1) s.r.length),s.r.set id r1++ [R]⟩:=by
  intro r1 R hcut;refine⟨fun i _ hi=>Sl.mapC_stay hi _ _ _,fun id' hlt hro=>?_,by simp⟩
  have hne:id'≠id:=by
   rintro rfl
   rw [Mc hcut]at hro;cases hro
  simp only [gDE];rw [gAL (by simpa using hlt),List.getElem?_set_ne (Ne.symm hne)]
 split at h
 case h_2=>cases h;exact Kp.refl _ _
 rename_i r1 t d xs hcut hn;cases h;exact key _ _ hcut
theorem Sl.mapK_stay{y:Sl}(h:y.stay=true)(id:Nat)(q:AP)(m:Nat):y.mapC (Cl.rk id q m)=y:=by
 have c1: ∀y:Cl,y.stay=true->y.rk id q m=y:=by intro y h;cases y<;>first|rfl|cases h
 cases y with
 |one y=>exact congrArg Sl.one (c1 y h)
 |new l=>rfl
 |agg l=>exact congrArg Sl.agg (AJ fun y hy=>c1 y (aET.1 h y hy))
 |pk t l=>exact congrArg (Sl.pk t) (AJ fun y hy=>c1 y (aET.1 h y hy))
 |tup l=>
  refine congrArg Sl.tup (AJ fun p hp=>?_)
  obtain⟨b,m⟩:=p;exact congrArg (Prod.mk b) (AJ fun y hy=>c1 y (aET.1 (aET.1 h _ hp) y hy))
theorem AaL{s s':St}{x:Operand}(h:cutO s x=some s'):Kp (fun _=>true) s s':=by
 unfold cutO at h;split at h
 case h_2=>exact Mb h
 rename_i y;split at h
 case h_2=>exact Mb h
 rename_i id b q1 hy;split at h
 case h_2=>exact Mb h
 rename_i r1 t d v hcut hn;cases h;refine⟨fun i _ hi=>?_,fun id' hlt hro=>?_,by simp⟩
 ·show(bif Nat.beq i y then Sl.one (.rf s.r.length [])else(s.t i).mapC _)=s.t i
  cases he:Nat.beq i y with
  |false=>exact Sl.mapK_stay hi _ _ _
  |true=>
   have e:=bqE he;subst e;rw [hy]at hi;cases hi
 ·have hne:id'≠id:=by
   rintro rfl
   rw [Mc hcut]at hro;cases hro
  simp only [gDE];rw [gAL (by simpa using hlt),List.getElem?_set_ne (Ne.symm hne)]
theorem WG{s:St}{t:Ty}{id:Nat}{y:Option Sl}{d:Nat}{ys:List t.T}{js:List Nat}(h:W8 s t id y=some (d,ys,js)): ∀j∈js,(s.r.getD j .dead).isRo=false:=by
 replace h:=(WH h).1
 unfold Uj at h;split at h
 case h_4=>cases h
 ·split at h<;>cases h
  intro j hj;cases hj
 ·rename_i j q
  split at h
  case h_2=>cases h
  rename_i ro t' d' ys' hn;split at h
  case isFalse=>cases h
  cases hb:Nat.beq j id with
  |true=>rw [hb]at h;cases h
  |false=>
   rw [hb]at h;simp only [cond_false]at h;cases hd:Nat.beq t.dep 0 with
   |true=>rw [hd]at h;cases h;intro j hj;cases hj
   |false=>
    rw [hd]at h;simp only [cond_false]at h;split at h
    case h_2=>cases h
    cases ro with
    |true=>cases h
    |false=>
     cases h;intro i hi;simp at hi;subst hi;have hn:s.r.getD i .dead= .arr false t' d ys':=hn;rw [hn];rfl
 ·split at h
  case h_2=>cases h
  rename_i j q off len _ ro t' d' ys' hn;split at h
  case isFalse=>cases h
  cases hb:(Nat.beq j id|| !Nat.beq t.dep 0)with
  |true=>rw [hb]at h;cases h
  |false=>rw [hb]at h;cases h;intro j hj;cases hj
theorem Qu{s:St}{i:Option TI}{x y:Option Sl}{A:LR}(h:IS s i x y=some A): ∀j∈A.js,(s.r.getD j .dead).isRo=false:=by
 unfold IS at h;split at h
 ·cases h
 rename_i ti;cases hb:(Nat.blt 0 ti.bytes&&Nat.blt 0 ti.ty.w)with
 |false=>rw [hb]at h;cases h
 |true=>
  rw [hb]at h;simp only [cond_true]at h;split at h
  case h_3=>cases h
  ·split at h
   case h_2=>cases h
   rename_i hy;cases h;exact WG hy
  ·rename_i id
   split at h
   case h_2=>cases h
   rename_i t' d xs hr;split at h
   case isFalse=>cases h
   rename_i ht;subst ht;split at h
   case h_2=>cases h
   rename_i d' ys js hy;cases hdk:dOK ti.ty d' d with
   |false=>rw [hdk]at h;cases h
   |true=>
    rw [hdk]at h;cases h;intro j hj;rcases List.mem_cons.1 hj with rfl|hj
    ·rw [hr];rfl
    ·exact WG hy j hj
theorem Zy{s:St}(wr: ∀ {l m:List Cl} {js:List (Option Nat)},La s.r l=some (m,js)->∀j∈Q6 js,(s.r.getD j .dead).isRo=false){n:Nat}{ps:List (Nat×Option Sl)}{i:Option TI}{A:LR}(h:tBSM s n ps i=some A): ∀j∈A.js,(s.r.getD j .dead).isRo=false:=by
 unfold tBSM at h;split at h
 case h_2=>cases h
 rename_i j;cases hb:(Nat.blt 0 j.ty.w&&Nat.ble (n*j.ty.w) 16777216)with
 |false=>rw [hb]at h;cases h
 |true=>
  rw [hb]at h;simp only [cond_true]at h;split at h
  case h_2=>cases h
  split at h
  case h_2=>cases h
  rename_i m js hm;cases hap:apO js with
  |false=>rw [hap]at h;cases h
  |true=>
   rw [hap]at h;simp only [cond_true]at h;split at h
   ·cases h
   split at h
   case h_2=>cases h
   cases h;exact wr hm
theorem K8{r:List Ae}: ∀ {l m:List Cl} {js:List (Option Nat)},La r l=some (m,js)->∀j∈Q6 js,(r.getD j .dead).isRo=false
 | [],m,js,h=>by cases h;intro j hj;cases hj
 |y::l,m,js,h=>by
  unfold La at h;split at h
  ·rename_i he;cases he
  ·rename_i id l' he
   cases he;split at h
   case h_2=>cases h
   rename_i t d xs hroot;split at h
   case h_2=>cases h
   rename_i m' js' h1;cases h;intro j hj;rcases List.mem_cons.1 hj with rfl|hj
   ·rw [hroot];rfl
   ·exact K8 h1 j hj
  ·rename_i y' l' hne he
   cases he;cases hi:y.imm with
   |false=>rw [hi]at h;cases h
   |true=>
    rw [hi]at h;simp only [cond_true]at h;split at h
    case h_2=>cases h
    rename_i m' js' h1;cases h;exact fun j hj=>K8 (l:=l) h1 j hj
theorem MJ{r r':Ae}{p:AP}{u:Ty}{d:Nat}{xs:List u.T}(h:r.setPath p u d xs=some r'):r.isRo=false:=by
 unfold Ae.setPath at h;split at h
 ·split at h
  ·rfl
  ·cases h
 ·exact Lp h
theorem J6{id:Nat}: ∀ (LD:List (CE×Nat)) (ys:List (Σ t:Ty,t.T)) (r r':List Ae),CA LD ys r=some r'->(r.getD id .dead).isRo=true->r'.getD id .dead=r.getD id .dead
 | [],[],r,r',h,_=>by cases h;rfl
 |(a,d)::LD,⟨.sl u,xs⟩::ys,r,r',h,hro=>by
  unfold CA at h;split at h
  case h_2=>cases h
  rename_i x hx;have hne:a.1≠id:=fun e=>by rw [<-e,MJ hx]at hro;cases hro
  rw [J6 LD ys _ _ h (by rw [HN hne];exact hro),HN hne]
 | [],_::_,_,_,h,_=>by cases h
 |_::_,[],_,_,h,_=>by cases h
 |_::_,⟨.int _,_⟩::_,_,_,h,_=>by cases h
 |_::_,⟨.bool,_⟩::_,_,_,h,_=>by cases h
 |_::_,⟨.str,_⟩::_,_,_,h,_=>by cases h
 |_::_,⟨.unit,_⟩::_,_,_,h,_=>by cases h
 |_::_,⟨.ptr _,_⟩::_,_,_,h,_=>by cases h
 |_::_,⟨.clo _ _,_⟩::_,_,_,h,_=>by cases h
 |_::_,⟨.osl _,_⟩::_,_,_,h,_=>by cases h
 |_::_,⟨.pair _ _,_⟩::_,_,_,h,_=>by cases h
theorem Sl.killP_stay{y:Sl}(h:y.stay=true)(f:Nat->AP->Bool):y.killP f=y:=by
 have c1: ∀y:Cl,y.stay=true->y.killP f=y:=by intro y h;cases y<;>first|rfl|cases h
 cases y with
 |one y=>exact congrArg Sl.one (c1 y h)
 |new l=>rfl
 |agg l=>exact congrArg Sl.agg (AJ fun y hy=>c1 y (aET.1 h y hy))
 |pk t l=>exact congrArg (Sl.pk t) (AJ fun y hy=>c1 y (aET.1 h y hy))
 |tup l=>
  refine congrArg Sl.tup (AJ fun p hp=>?_)
  obtain⟨b,m⟩:=p;exact congrArg (Prod.mk b) (AJ fun y hy=>c1 y (aET.1 (aET.1 h _ hp) y hy))
theorem UT{Γ:List EnW}{s s1:St}{f:FuncId}{xs:List (Option Sl)}{A:WU}{u:A.α}(ha:MD Γ s f xs=some A)(hst:A.st u=some s1):Kp (fun _=>true) s s1:=by
 unfold MD at ha;split at ha
 case h_2=>cases ha
 rename_i e he;split at ha
 case h_2=>cases ha
 rename_i z LD hz;cases hap:K0 (LD.map (·.1))with
 |false=>rw [hap]at ha;cases ha
 |true=>
 rw [hap]at ha;cases ha
 have hst:(match CA LD (wOf (H7 e.S.ps) u.2) s.r with
  |some r'=>some (⟨fun i=>(s.t i).killP (X2 (LD.map (·.1)) s.r.length),r'⟩:St)
  |none=>none)=some s1:=hst
 split at hst
 case h_2=>cases hst
 rename_i r' hr';cases hst;exact⟨fun i _ hi=>Sl.killP_stay hi _,fun id _ hro=>J6 LD _ _ _ hr' hro,by
  show s.r.length<=r'.length;rw [(IX _ _ _ _ hr').1];exact Nat.le_refl _⟩
def Aa2:List Operand->St->Option St
 | [],s=>some s
 |x::xs,s=>match cutO s x with
  |some s'=>Aa2 xs s'
  |none=>none
theorem Ws{C:Ctx}{N:Nat}{a:Act}{w:World}: ∀ (xs:List Operand) {s s':St},Aa2 xs s=some s'->AT C N s.den a w->AT C N s'.den a w
 | [],s,s',h,hs=>by cases h;exact hs
 |x::xs,s,s',h,hs=>by
  unfold Aa2 at h;split at h
  case h_2=>cases h
  rename_i h1;exact Ws xs h (AaK h1 hs)
theorem Wt: ∀ (xs:List Operand) {s s':St},Aa2 xs s=some s'->Kp (fun _=>true) s s'
 | [],s,s',h=>by cases h;exact Kp.refl _ _
 |x::xs,s,s',h=>by
  unfold Aa2 at h;split at h
  case h_2=>cases h
  rename_i h1;exact(AaL h1).trans (Wt xs h) (fun _ _=>rfl) fun _ _=>rfl
def YA(o:Oper):Option (TypeId×Operand×Operand):=match o.op,o.dst with
 | .store t x v,none=>some (t,x,v)
 |_,_=>none
inductive LoudK where
 |app (d:Nat) (t:TypeId) (x y:Operand)
 |bs (d:Nat) (t:TypeId) (n:Nat) (ps:Array (Nat×Operand))
 |cw (d:Nat) (f:FuncId) (xs:Array Operand)
def VT(E:Env)(o:Oper):Option LoudK:=match o.dst,o.op with
 |some d,.buildSlice t n ps=>some (.bs d t n ps)
 |some d,.call c=>match c.callee with
  | .builtin .append=>match c.args.toList,c.argTypes.toList with
   | [x,y],[t,t']=>bif Nat.beq t t' then some (.app d t x y)else none
   |_,_=>none
  | .value (.func f)=>match VU E.W f with
   |some _=>some (.cw d f c.args)
   |none=>none
  |_=>none
 |_,_=>none
def elI(E:Env)(t:TypeId):Option TI:=((E.Θ.look t).bind (·.elem)).bind E.Θ.look
def lrK{R:Type}(E:Env)(s:St)(d:Nat)(A:LR)(K:St->Option R):Option R:=bif E.h.fz.contains d then none else oif A.p A.dec (match(Bq A.js s).put E.h (some d) (.one A.y)with
 |some s'=>K s'
 |none=>none)
def O2{R:Type}(E:Env)(s:St)(o:Oper)(K:St->Option R):Option R:=Zl E s o.type o.op fun y=>match s.put E.h o.dst y with
 |some s'=>K s'
 |none=>none
def capsF(fz:List Nat)(o:Oper):List Operand:=match o.op,o.dst with
 | .makeFunc _ _ caps,some d=>bif fz.contains d then caps.toList else []
 |_,_=>[]
def tone{R:Type}(E:Env)(s:St)(o:Oper)(K:St->Option R):Option R:=match YA o with
 |some (t,x,v)=>NR s (E.Θ.look t) (s.ev x) (s.ev v) K
 |none=>match VT E o with
  |some (.app d t x y)=>match Y5 s (s.ev x)with
   |some s0=>match IS s0 (elI E t) (s0.ev x) (s0.ev y)with
    |some A=>lrK E s0 d A K
    |none=>none
   |none=>none
  |some (.bs d t n ps)=>match Aa2 (ps.toList.map (·.2)) s with
   |some s0=>match tBSM s0 n (ps.toList.map fun p=>(p.1,s0.ev p.2)) (elI E t)with
    |some A=>lrK E s0 d A K
    |none=>O2 E s o K
   |none=>none
  |some (.cw d f xs)=>match MD E.W s f (xs.toList.map s.ev)with
   |some A=>I7 A.o fun u=>match A.st u with
    |some s1=>match s1.put E.h (some d) (.one (A.y u))with
     |some s'=>Pn (xs.toList.flatMap fun x=>argIds (s.ev x)) s' K
     |none=>none
    |none=>none
   |none=>none
  |none=>match capsF E.h.fz o with
   | []=>O2 E s o K
   |x::xs=>match Nt (x::xs) s with
    |some s0=>O2 E s0 o K
    |none=>none
def W0{R:Type}(E:Env)(ops:Array Oper):List Seg->St->(St->Option R)->Option R
 | [],s,K=>K s
 | .one o::l,s,K=>match o.guard with
  |none=>tone E s o fun s'=>W0 E ops l s' K
  |some _=>none
 | .grp g pk::l,s,K=>match XF E.h pk with
  |some d=>I7 (grpB E false ops s g pk) fun v=>W0 E ops l ⟨A5 (DV g s.t) d (.one (.c .bool 0 v)),s.r⟩ K
  |none=>none
theorem XG{E:Env}{C:Ctx}{s s':St}{o:Oper}{a:Act}{w:World}(h:Hm E.h s o.dst=some s')(hs:AT C E.h.n s.den a w):AT C E.h.n s'.den (a.put o.dst undef) w/\s'.r=s.r/\∀i,o.dst≠some i->s'.t i=s.t i:=by
 unfold Hm at h;split at h
 ·rename_i d hd
  cases hb:Nat.blt d E.h.n with
  |false=>rw [hb]at h;cases h
  |true=>
   rw [hb]at h;cases h;have hk:=hs.skipU (blE hb);refine⟨?_,rfl,fun i hi=>Br fun e=>hi (by rw [hd,e])⟩
   rw [hd]
   have e:(St.den ⟨A5 s.t d (.tup []),s.r⟩)=⟨AZ s.den.t d udV,s.den.σ⟩:=by
    have:=Ci (r:=s.r) (t:=s.t) (d:=d) (y:=.tup []);show Ms.mk (fun i=>(A5 s.t d (.tup []) i).v s.r) _=_
    rw [this];rfl
   rw [e];exact hk
 ·rename_i hd
  cases h;refine⟨?_,rfl,fun _ _=>rfl⟩
  rw [hd];exact hs
section wp
variable {P:Program} {E:Env} {C:Ctx} (hE:EOK P E)
include hE
theorem UA{R:Type}{s:St}{o:Oper}{K:St->Option R}{z:R}{a:Act}{w:World}{next:Act->World->Prop}{Q:Exit->Act->World->Prop}(hs:AT C E.h.n s.den a w)(h:(Zl E s o.type o.op fun y=>match s.put E.h o.dst y with
   |some s'=>K s'
   |none=>none)=some z) (hn: ∀s' a' w',(∃y,s.put E.h o.dst y=some s')->AT C E.h.n s'.den a' w'->K s'=some z->next a' w'):o.wp P a w next Q:=by
 obtain⟨_,y,hq,hy⟩:=HI hE h;split at hy
 case h_2=>cases hy
 rename_i s' hs';exact Xg hq hs' hs fun a' w' h'=>hn s' a' w' ⟨y,hs'⟩ h' hy
theorem Zm{R:Type}{s:St}{o:Oper}{K:St->Option R}{z:R}{a:Act}{w:World}{next:Act->World->Prop}{Q:Exit->Act->World->Prop}(hs:AT C E.h.n s.den a w)(h:tone E s o K=some z)
  (hn: ∀s' a' w',Kp (fun i=>decide (o.dst≠some i)) s s'->AT C E.h.n s'.den a' w'->K s'=some z->next a' w'):o.wp P a w next Q:=by
 unfold tone at h;split at h
 ·rename_i t x v hst
  rw [Qi]at h;split at h
  case h_2=>cases h
  rename_i s' hs';unfold YA at hst;split at hst
  case h_2=>cases hst
  rename_i t' x' v' ho hd;cases hst;exact UK hE.Θ ho hd hs' hs fun a' w' h'=>hn s' a' w' ((UL hs').weak fun _ _=>rfl) h' h
 ·have quiet:O2 E s o K=some z->o.wp P a w next Q:=fun h=>UA hE hs h fun s' a' w' ⟨y,hp⟩ h' hK=>hn s' a' w' (Pp hp) h' hK
  have lr: ∀ {s0:St} {d:Nat} {A:LR},Kp (fun _=>true) s s0->o.dst=some d->(∀j∈A.js,(s0.r.getD j .dead).isRo=false)->lrK E s0 d A K=some z->
    (∀s',(Bq A.js s0).put E.h (some d) (.one A.y)=some s'->E.h.fz.contains d=false->A.p->(∀a' w',AT C E.h.n s'.den a' w'->next a' w')->o.wp P a w next Q)->o.wp P a w next Q:=by
   intro s0 d A k0 hdst hro h hw;unfold lrK at h;cases hfz:E.h.fz.contains d with
   |true=>rw [hfz]at h;cases h
   |false=>
    rw [hfz]at h;simp only [cond_false]at h;by_cases hp:A.p
    ·have h:(match(Bq A.js s0).put E.h (some d) (.one A.y)with
      |some s'=>K s'
      |none=>none)=some z:=by
      have e:oif A.p A.dec (match(Bq A.js s0).put E.h (some d) (.one A.y)with
       |some s'=>K s'
       |none=>none)=(match(Bq A.js s0).put E.h (some d) (.one A.y)with
       |some s'=>K s'
       |none=>none):=@if_pos _ A.dec hp _ _ _
      rw [<-e];exact h
     split at h
     case h_2=>cases h
     rename_i s' hput;refine hw s' hput hfz hp fun a' w' h'=>hn s' a' w' ?_ h' h
     have k2:=Pp hput;rw [hdst];exact(k0.trans (Ny A.js s0 hro) (fun _ _=>rfl) fun _ _=>rfl).trans k2 (fun _ _=>rfl) fun i hi=>hi
    ·have e:oif A.p A.dec (match(Bq A.js s0).put E.h (some d) (.one A.y)with
      |some s'=>K s'
      |none=>none)=none:=@if_neg _ A.dec hp _ _ _
     rw [e]at h;cases h
  split at h
  case h_4=>
   split at h
   ·exact quiet h
   ·split at h
    case h_2=>cases h
    rename_i s0 hg;exact UA hE (II _ hg hs) h fun s' a' w' ⟨y,hp⟩ h' hK=>hn s' a' w' ((IJ _ hg).trans (Pp hp) (fun _ _=>rfl) fun i hi=>hi) h' hK
  ·rename_i d t x y hl
   split at h
   case h_2=>cases h
   rename_i s0 hcut;split at h
   case h_2=>cases h
   rename_i A ha;unfold VT at hl;split at hl
   case h_3=>cases hl
   ·cases hl
   ·rename_i d' c hdst hop
    split at hl
    case h_3=>cases hl
    ·rename_i hcal
     split at hl
     case h_2=>cases hl
     rename_i x' y' t1 t2 hargs hats;cases hbt:Nat.beq t1 t2 with
     |false=>rw [hbt]at hl;cases hl
     |true=>
      rw [hbt]at hl;cases hl;have ho:o.op= .call ⟨.builtin .append,#[x,y],#[t,t]⟩:=by
       rw [hop];obtain⟨cal,args,ats⟩:=c;simp only at hcal hargs hats;have e1:args= #[x,y]:=by cases args;simp at hargs;simp [hargs]
       have e2:ats= #[t,t]:=by cases ats;simp at hats;simp [hats,bqE hbt]
       rw [hcal,e1,e2]
      exact lr (Mb hcut) hdst (Qu ha) h fun s' hput hfz hp hk=>Qt hE.Θ ho hdst hfz ha hp hput (Ma hcut hs) hk
    ·split at hl<;>cases hl
  ·rename_i d t n ps hl
   have hops:o.dst=some d/\o.op= .buildSlice t n ps:=by
    unfold VT at hl;split at hl
    ·rename_i h1 h2;cases hl;exact⟨h1,h2⟩
    ·split at hl
     ·split at hl
      ·rename_i t1 t2 _ _
       cases hbb:Nat.beq t1 t2<;>rw [hbb]at hl<;>cases hl
      ·cases hl
     ·split at hl<;>cases hl
     ·cases hl
    ·cases hl
   split at h
   case h_2=>cases h
   rename_i s0 hcut;split at h
   ·rename_i A ha
    exact lr (Wt _ hcut) hops.1 (Zy K8 ha) h fun s' hput hfz _ hk=>Zx hE.Θ hops.2 hops.1 hfz ha hput (Ws _ hcut hs) hk
   ·exact quiet h
  ·rename_i d f xs hl
   split at h
   case h_2=>cases h
   rename_i A ha;have hops:o.dst=some d/\∃ats,o.op= .call ⟨.value (.func f),xs,ats⟩:=by
    unfold VT at hl;split at hl
    ·cases hl
    ·rename_i d' c hdst hop
     split at hl
     ·split at hl
      ·rename_i t1 t2 _ _
       cases hbb:Nat.beq t1 t2<;>rw [hbb]at hl<;>cases hl
      ·cases hl
     ·rename_i f' hcal
      split at hl
      ·cases hl
       refine⟨hdst,c.argTypes,?_⟩;rw [hop];obtain⟨cal,args,ats⟩:=c;simp only at hcal;rw [hcal]
      ·cases hl
     ·cases hl
    ·cases hl
   obtain⟨hdst,ats,ho⟩:=hops;cases hu:A.o with
   |none=>rw [hu]at h;cases h
   |some u=>
    rw [hu]at h;simp only [MP]at h
    have h:(match A.st u with
     |some s1=>match s1.put E.h (some d) (.one (A.y u))with
      |some s'=>K s'
      |none=>none
     |none=>none)=some z:=h
    split at h
    case h_2=>cases h
    rename_i s1 hst;split at h
    case h_2=>cases h
    rename_i s' hput;refine US hE.W ho hdst ha hu hst hput hs fun a' w' h'=>hn s' a' w' ?_ h' h
    have k2:=Pp hput;rw [hdst];exact(UT ha hst).trans k2 (fun _ _=>rfl) fun i hi=>hi
theorem pathgW{ops:Array Oper}{z:Bool}{Q:Exit->Act->World->Prop}{rest:List Oper}: ∀ (g:List Oper) (ρ:Asm) (s:St) (a:Act) (w:World) (K:Asm->St->Option Bool),D4 ops ρ s.den.t->(∀x∈ρ,Aq g x.2.1=true/\(s.t x.2.1).stay=true)->AT C E.h.n s.den a w->Cj E false ops g ρ s K=some z->
  (∀ρ' s' a' w',s.r.length<=s'.r.length->(s'.r.length=s.r.length->s'.r=s.r/\∀i,Aq g i=true->s'.t i=s.t i)->AT C E.h.n s'.den a' w'->D4 ops ρ' s'.den.t->K ρ' s'=some z->wpList P ops Q rest a' w')->wpList P ops Q (g++rest) a w:=by
 intro g
 induction g with
 |nil=>intro ρ s a w K hρ _ hs h hK;exact hK ρ s a w (Nat.le_refl _) (fun _=>⟨rfl,fun _ _=>rfl⟩) hs hρ h
 |cons o g ih=>
  intro ρ s a w K hρ hnd hs h hK;unfold Cj at h;split at h
  case h_1=>cases h
  rename_i j want hgo;split at h
  case h_1=>cases h
  rename_i dj hdj;rw [List.cons_append]
  have bstay: ∀ (y:Sl) (r r':List Ae) (v:Bool),y.v r= .c (.bool v)->y.stay=true->y.v r'= .c (.bool v):=by
   intro y r r' v hv hst;cases y with
   |one c=>cases c<;>first|exact hv|cases hst
   |new l=>exact hv
   |agg l=>cases hv
   |tup l=>cases hv
   |pk t l=>cases hv
  -- what is behind this operation
  have cont: ∀ (ρ1:Asm) (s1:St) (a1:Act) (w1:World),D4 ops ρ1 s.den.t->(∀x∈ρ1,Aq (o::g) x.2.1=true/\(s.t x.2.1).stay=true)->s.r.length<=s1.r.length->(s1.r.length=s.r.length->s1.r=s.r/\∀i,o.dst≠some i->s1.t i=s.t i)->(∀i,o.dst≠some i->(s.t i).stay=true->s1.t i=s.t i)->AT C E.h.n s1.den a1 w1->Cj E false ops g ρ1 s1 K=some z->wpList P ops Q (g++rest) a1 w1:=by
   intro ρ1 s1 a1 w1 hρ1 hnd1 hle hsm hst hs1 h1;refine ih ρ1 s1 a1 w1 K (fun x hx=>⟨(hρ1 x hx).1,?_⟩) (fun x hx=>?_) hs1 h1 fun ρ2 s2 a2 w2 g1 g2 g3 g4 g5=>?_
   ·obtain⟨n1,n2⟩:=hnd1 x hx
    show(s1.t x.2.1).v s1.r=_;rw [hst _ (AU n1).1 n2];exact bstay _ s.r s1.r _ (hρ1 x hx).2 n2
   ·obtain⟨n1,n2⟩:=hnd1 x hx
    rw [hst _ (AU n1).1 n2];exact⟨(AU n1).2,n2⟩
   ·refine hK ρ2 s2 a2 w2 (Nat.le_trans hle g1) (fun he=>?_) g3 g4 g5
    obtain⟨k1,k2⟩:=g2 (by omega)
    obtain⟨k3,k4⟩:=hsm (by omega)
    refine⟨k1.trans k3,fun i hi=>?_⟩
    obtain⟨n1,n2⟩:=AU hi;rw [k2 i n2,k4 i n1]
  have pass: ∀ρ1:Asm,D4 ops ρ1 s.den.t->(∀x∈ρ1,Aq (o::g) x.2.1=true/\(s.t x.2.1).stay=true)->onS (Hm E.h s o.dst) (fun s'=>Cj E false ops g ρ1 s' K)=some z->wpList P ops Q (g++rest) (a.put o.dst undef) w:=by
   intro ρ1 h1 h2 h3;cases hp:Hm E.h s o.dst with
   |none=>rw [hp]at h3;cases h3
   |some s1=>
    rw [hp]at h3;obtain⟨q1,q2,q3⟩:=XG hp hs;exact cont ρ1 s1 _ w h1 h2 (by rw [q2];exact Nat.le_refl _) (fun _=>⟨q2,q3⟩) (fun i hi _=>q3 i hi) q1 h3
  have step: ∀ρ1:Asm,D4 ops ρ1 s.den.t->(∀x∈ρ1,Aq (o::g) x.2.1=true/\(s.t x.2.1).stay=true)->Lj E false ρ1 s o (fun s'=>Cj E false ops g ρ1 s' K)=some z->o.wp P a w (fun a' w'=>wpList P ops Q (g++rest) a' w') Q:=by
   intro ρ1 h1 h2 h3;unfold Lj at h3;split at h3
   ·rename_i v hv
    split at h3
    case h_2=>cases h3
    rename_i s1 hs1;have hQS:QS P s o.op (.one (.c .bool 0 v)):=Lz (VLe.refl _) h1 hv (Sub.refl _);have hput:s.put E.h o.dst (.one (.c .bool 0 v))=some s1/\s1.r=s.r/\∀i,o.dst≠some i->s1.t i=s.t i:=by
     unfold setB at hs1;split at hs1
     case h_2=>cases hs1
     rename_i d hd;cases hb:(Nat.blt d E.h.n&& !E.h.fz.contains d)with
     |false=>rw [hb]at hs1;cases hs1
     |true=>
     rw [hb]at hs1;rw [bAE,Bool.not_eq_true']at hb;cases hs1;refine⟨?_,rfl,fun i hi=>Br fun e=>hi (by rw [hd,e])⟩
     rw [hd];unfold St.put;simp only [hb.1,hb.2,cond_true,cond_false];rfl
    exact Xg hQS hput.1 hs fun a' w' hs'=>cont ρ1 s1 a' w' h1 h2 (by rw [hput.2.1];exact Nat.le_refl _) (fun _=>hput.2) (fun i hi _=>hput.2.2 i hi) hs' h3
   ·obtain⟨_,y,hq,hy'⟩:=HI hE h3
    split at hy'
    case h_2=>cases hy'
    rename_i s' hs1;have hp:s.put E.h o.dst y=some s':=by
     cases hyo:y.own&& !fzD E.h o.dst with
     |true=>rw [hyo]at hs1;cases hs1
     |false=>rw [hyo]at hs1;exact hs1
    obtain⟨⟨new,hr⟩,ht,hsame⟩:=Pq hp;refine Xg hq hp hs fun a' w' hs'=>cont ρ1 s' a' w' h1 h2 (by rw [hr];simp) (fun he=>?_) ht hs' hy'
    have hr1:s'.r=s.r:=by
     have:new= []:=by
      have:=congrArg List.length hr;rw [List.length_append,he]at this;exact List.length_eq_zero_iff.1 (by omega)
     rw [hr,this,List.append_nil]
    exact⟨hr1,hsame hr1⟩
  have known: ∀ (ρ1:Asm) (v:Bool),s.den.t dj= .c (.bool v)->D4 ops ρ1 s.den.t->(∀x∈ρ1,Aq (o::g) x.2.1=true/\(s.t x.2.1).stay=true)->(v=want->Lj E false ρ1 s o (fun s'=>Cj E false ops g ρ1 s' K)=some z)->(v=(!want)->onS (Hm E.h s o.dst) (fun s'=>Cj E false ops g ρ1 s' K)=some z)->
    wpList P ops Q (o::(g++rest)) a w:=by
   intro ρ1 v hv h1 h2 h3 h4;have hy:=Aay hs (show gv s.den.t ops j= .c (.bool v) by unfold gv;rw [hdj];exact hv)
   unfold wpList;by_cases e:v=want
   ·rw [if_pos (by simp [Region.wanted,hgo,hy,e])]
    exact .inl (step ρ1 h1 h2 (h3 e))
   ·rw [if_neg (by simp [Region.wanted,hgo,hy,e])]
    exact pass ρ1 h1 h2 (h4 (by cases v<;>cases want<;>simp_all))
  cases hu:isUd (s.t dj)with
  |true=>
   rw [hu]at h;have hy:=Aaz hs (show gv s.den.t ops j=udV by unfold gv;rw [hdj];exact YW hu)
   unfold wpList;rw [if_neg (by simp [Region.wanted,hgo,hy])]
   exact pass ρ hρ hnd h
  |false=>
   rw [hu]at h;simp only [cond_false]at h;split at h
   ·rename_i v hv
    obtain⟨d',hm⟩:=Jg hv;obtain⟨e1,e2⟩:=hρ _ hm;have e1:some dj=some d':=hdj.symm.trans e1;cases e1;refine known ρ v e2 hρ hnd (fun e=>?_) fun e=>?_
    ·subst e;simpa using h
    ·subst e;cases want<;>exact h
   ·split at h
    case h_2=>cases h
    rename_i dd b hb;have hbv:s.den.t dj= .c (.bool b):=by show(s.t dj).v s.r=_;rw [hb];rfl
    cases hn:Aq (o::g) dj with
    |false=>rw [hn]at h;cases h
    |true=>
    rw [hn]at h;simp only [cond_true]at h
    have hρ1:D4 ops ((j,dj,b)::ρ) s.den.t:=fun x hx=>by
     rcases List.mem_cons.1 hx with rfl|hx
     ·exact⟨hdj,hbv⟩
     ·exact hρ x hx
    have hnd1: ∀x∈(j,dj,b)::ρ,Aq (o::g) x.2.1=true/\(s.t x.2.1).stay=true:=fun x hx=>by
     rcases List.mem_cons.1 hx with rfl|hx
     ·refine⟨hn,?_⟩
      show(s.t dj).stay=true;rw [hb];rfl
     ·exact hnd x hx
    refine known ((j,dj,b)::ρ) b hbv hρ1 hnd1 (fun e=>?_) fun e=>?_
    ·subst e;cases b<;>exact h
    ·subst e;cases want<;>exact h
theorem UC{R:Type}{ops:Array Oper}{K:St->Option R}{z:R}{Q:Exit->Act->World->Prop}: ∀ (l:List Seg) (s:St) (a:Act) (w:World),AT C E.h.n s.den a w->
  W0 E ops l s K=some z->(∀s' a' w',Kp (Aq (l.flatMap Seg.ops)) s s'->AT C E.h.n s'.den a' w'->K s'=some z->Q .normal a' w')->wpList P ops Q (l.flatMap Seg.ops) a w:=by
 intro l
 induction l with
 |nil=>intro s a w hs h hK;exact hK s a w (Kp.refl _ _) hs h
 |cons sg l ih=>
  intro s a w hs h hK;cases sg with
  |one o=>
   unfold W0 at h;split at h
   case h_2=>cases h
   rename_i hg;rw [List.flatMap_cons];show wpList P ops Q (o::l.flatMap Seg.ops) a w;unfold wpList;rw [if_pos (by simp [Region.wanted,hg])]
   refine .inl (Zm hE hs h fun s' a' w' hk hs' hy=>ih s' a' w' hs' hy fun s2 a2 w2 h2 h3 h4=>hK s2 a2 w2 (hk.trans h2 (fun i hi=>dT ?_) fun i hi=>?_) h3 h4)
   ·exact(AU (o:=o) (g:=l.flatMap Seg.ops) hi).1
   ·exact(AU (o:=o) (g:=l.flatMap Seg.ops) hi).2
  |grp g pk=>
   unfold W0 at h;split at h
   case h_2=>cases h
   rename_i d hpd;have hpd2:pk.dst=some d/\pk.guard=none/\d<E.h.n/\E.h.fz.contains d=false:=by
    unfold XF at hpd;split at hpd
    case h_2=>cases hpd
    rename_i d' e1 e2;cases hb:(Nat.blt d' E.h.n&& !E.h.fz.contains d')with
    |false=>rw [hb]at hpd;cases hpd
    |true=>
     rw [hb]at hpd;cases hpd;rw [bAE,Bool.not_eq_true']at hb;exact⟨e1,e2,blE hb.1,hb.2⟩
   obtain⟨e1,e3,h3,h4⟩:=hpd2;cases hv:grpB E false ops s g pk with
   |none=>rw [hv]at h;cases h
   |some v=>
    rw [hv]at h;simp only [Option.bind_some]at h;rw [List.flatMap_cons];show wpList P ops Q ((g++ [pk])++l.flatMap Seg.ops) a w;rw [List.append_assoc];refine pathgW hE g [] s a w _ (fun x hx=>by cases hx) (fun x hx=>by cases hx) hs hv fun ρ' s1 a1 w1 hle hsm hs1 hρ' hK1=>?_
    cases hl:Nat.beq s1.r.length s.r.length with
    |false=>rw [hl]at hK1;cases hK1
    |true=>
    rw [hl]at hK1;obtain⟨hr1,ht1⟩:=hsm (bqE hl);have hK1:QU ρ' s1 pk.op=some v:=hK1;have hQS:QS P s1 pk.op (.one (.c .bool 0 v)):=Lz (VLe.refl _) hρ' hK1 (Sub.refl _);have hput:s1.put E.h pk.dst (.one (.c .bool 0 v))=some ⟨A5 s1.t d (.one (.c .bool 0 v)),s1.r⟩:=by
     rw [e1];unfold St.put;simp only [show Nat.blt d E.h.n=true from Nat.ble_eq_true_of_le h3,h4,cond_true,cond_false]
     rfl
    show wpList P ops Q (pk::l.flatMap Seg.ops) a1 w1;unfold wpList;rw [if_pos (by simp [Region.wanted,e3])]
    refine .inl (Xg hQS hput hs1 fun a2 w2 hs2=>?_)
    have hs3:AT C E.h.n (St.den ⟨A5 (DV g s.t) d (.one (.c .bool 0 v)),s.r⟩) a2 w2:=by
     refine hs2.sub (by show(s.r.map Ae.v).length=(s1.r.map Ae.v).length;rw [hr1]) (fun i _=>by show Sub ((s1.r.map Ae.v).getD i .dead) ((s.r.map Ae.v).getD i .dead);rw [hr1];exact Sub.refl _) fun i=>?_
     show Ay ((A5 s1.t d _ i).v s1.r) ((A5 (DV g s.t) d _ i).v s.r);by_cases hid:i=d
     ·subst hid
      have e: ∀t:Nat->Sl,A5 t i (.one (.c .bool 0 v)) i= .one (.c .bool 0 v):=fun t=>by unfold A5;rw [Nat.beq_refl];rfl
      rw [e,e];exact Ay.refl _
     ·rw [Br hid,Br hid,H0]
      by_cases hn:Aq g i=true
      ·rw [if_pos hn,ht1 i hn,hr1];exact Ay.refl _
      ·rw [if_neg hn];exact Ay.dead _
    refine ih ⟨A5 (DV g s.t) d (.one (.c .bool 0 v)),s.r⟩ a2 w2 hs3 h fun s4 a4 w4 hk4 h5 h6=>hK s4 a4 w4 ?_ h5 h6
    refine Kp.trans (s1:=⟨A5 (DV g s.t) d (.one (.c .bool 0 v)),s.r⟩) (g1:=fun i=>Aq g i&&decide (i≠d)) (g2:=Aq (l.flatMap Seg.ops)) ⟨fun i hi _=>?_,fun _ _ _=>rfl,Nat.le_refl _⟩ hk4 (fun i hi=>?_) fun i hi=>?_
    ·simp only [bAE,decide_eq_true_eq]at hi
     show A5 (DV g s.t) d (.one (.c .bool 0 v)) i=s.t i;rw [Br hi.2,H0,if_pos hi.1]
    ·rw [List.flatMap_cons]at hi
     have hi:Aq ((g++ [pk])++l.flatMap Seg.ops) i=true:=hi;unfold Aq at hi;rw [List.all_append,List.all_append,bAE,bAE]at hi;simp only [bAE,decide_eq_true_eq];refine⟨hi.1.1,?_⟩
     rintro rfl
     have:=hi.1.2;simp only [List.all_cons,List.all_nil,Bool.and_true,e1,Nat.beq_refl,Bool.not_true]at this;cases this
    ·rw [List.flatMap_cons]at hi
     have hi:Aq ((g++ [pk])++l.flatMap Seg.ops) i=true:=hi;unfold Aq at hi;rw [List.all_append,bAE]at hi;exact hi.2
end wp
end Go.Ve

