/- The typed machine: calls of functions that write their owned arguments. -/
import Derived.Test.YtojjlnbnneemaaaTy
import Derived.Test.YtojjlnbnneemaaaTd
open Nat(beq le_refl)
set_option linter.all false
namespace Go.Ve
variable{A B:List (PRef×Nat)}{σ σ0:List V}{m:Nat}{ρ ρ0:Nat->Value}{s:St}{w:World}
structure XW where
 α:Type
 o:Option α
 st:α->Option St
 y:α->Cl
def M8(_:List EnW)(_:St)(_:FuncId)(_:List (Option Sl)):Option XW:=none
structure WOK(s:St)(σ:List V)(ρ:Nat->Value)(w:World)(LD:List (PRef×Nat))(R:List Ae):Prop where
 len:R.length=LD.length
 nd:∀k,k<LD.length->∃u d0 xs,R.getD k .dead=.arr false u d0 xs/\Ag s.r (LD.getD k ((0,[]),0)).1.1 (LD.getD k ((0,[]),0)).1.2=.arr false u (LD.getD k ((0,[]),0)).2 xs/\dOK u (LD.getD k ((0,[]),0)).2 d0=true
 at':∀a∈LD,a.1.1<σ.length/\∃sz n f c,At w a.1.2 (σ.getD a.1.1 .dead) (ρ a.1.1) (.nd true true sz n f) c
theorem WOK.app{R S:List Ae}(h:WOK s σ ρ w A R)(J:WOK s σ ρ w B S):WOK s σ ρ w (A++B) (R++S):=by
 refine⟨by simp[h.len,J.len],λk W=>?_,λa E=>?_⟩
 .by_cases u:k<A.length
  .have U:(A++B).getD k ((0,[]),0)=A.getD k ((0,[]),0):=by grind
   have O:(R++S).getD k .dead=R.getD k .dead:=by
    have:k<R.length:=by rw[h.len];exact u
    simp[gAL this]
   rw[U,O];exact h.nd k u
  .have U:(A++B).getD k ((0,[]),0)=B.getD (k-A.length) ((0,[]),0):=by
    grind
   have O:(R++S).getD k .dead=S.getD (k-A.length) .dead:=by
    simp only[gDE];rw[gAR (by rw[h.len];omega),h.len]
   rw[U,O];exact J.nd _ (by simp at W;omega)
 .rcases List.mem_append.1 E with E|E
  .exact h.at' a E
  .exact J.at' a E
def AcB(s:St)(σ:List V)(ρ:Nat->Value)(w:World)(LD:List (PRef×Nat))(m:Nat)(σ0:List V)(ρ0:Nat->Value):Prop:=
 ∀k,k<LD.length->m+k<σ0.length/\σ0.getD (m+k) .dead=sub (LD.getD k ((0,[]),0)).1.2 (σ.getD (LD.getD k ((0,[]),0)).1.1 .dead)/\
  At w (LD.getD k ((0,[]),0)).1.2 (σ.getD (LD.getD k ((0,[]),0)).1.1 .dead) (ρ (LD.getD k ((0,[]),0)).1.1) (sub (LD.getD k ((0,[]),0)).1.2 (σ.getD (LD.getD k ((0,[]),0)).1.1 .dead)) (ρ0 (m+k))
theorem AcB.left(h:AcB s σ ρ w (A++B) m σ0 ρ0):AcB s σ ρ w A m σ0 ρ0:=by
 intro k u;have:=h k (by grind)
 grind
theorem AcB.right(h:AcB s σ ρ w (A++B) m σ0 ρ0):AcB s σ ρ w B (m+A.length) σ0 ρ0:=by
 intro k u;have:=h (A.length+k) (by simp_all)
 have E:(A++B).getD (A.length+k) ((0,[]),0)=B.getD k ((0,[]),0):=by
  simp_all
 grind
section
variable {s:St}{ρ:Nat->Value}{w:World}{D:Nat->Prop}{F:Nat->Nat->Prop}
end
end Go.Ve


namespace Go.Ve
section
variable {s:St}{ρ:Nat->Value}{w:World}{D:Nat->Prop}{F:Nat->Nat->Prop}
end
theorem Hj.tyV0{π:Nat->Nat}{n:Nat}:∀(t:Ty) (x:t.T),∀v∈tyV t 0 x,Hj π n v v
 |.int _,_,v,h=>by simp[tyV]at h;subst h;exact .inr (Sub.refl _)
 |.bool,_,v,h=>by simp[tyV]at h;subst h;exact .inr (Sub.refl _)
 |.str,_,v,h=>by simp[tyV]at h;subst h;exact .inr (Sub.refl _)
 |.sl _,_,v,h=>by simp[tyV,List.mem_singleton]at h;subst h;exact .inr (Sub.refl _)
 |.ptr _,_,v,h=>by simp[tyV,List.mem_singleton]at h;subst h;exact .inr (Sub.refl _)
 |.unit,_,v,h=>by trivial
 |.mp _ _,_,v,h=>by simp only[tyV,List.mem_singleton]at h;subst h;exact .inr (Sub.refl _)
 |.pair a b,x,v,h=>by
  simp[tyV,List.mem_append]at h;exact h.elim (Hj.tyV0 a x.1 v) (Hj.tyV0 b x.2 v)
 |.osl _,x,v,h=>by
  simp[tyV,List.mem_singleton]at h;subst h;cases x with
  |none=>exact Hj.dead _ _ _
  |some xs=>exact .inr (Sub.refl _)
 |.clo g t,x,v,h=>by
  simp[tyV,List.mem_singleton]at h;subst h;refine .inr ⟨_,rfl,λk u=>?_⟩
  have u:k<(tyV t 0 x).length:=by rw[AB];grind
  show Hj π n ((tyV t 0 x).getD k .dead) ((tyV t 0 x).getD k .dead);rw[gDE,gEE u];exact Hj.tyV0 t x _ (List.getElem_mem u)
theorem OX{r:List Ae}{x:Ae}{i j:Nat}(h:i≠j):(r.set i x).getD j .dead=r.getD j .dead:=by grind
def VR{P:Program}{Γ:List EnW}(W:∀e∈Γ,e.OK P){C:Ctx}{h:Cy}{s s1 s':St}{o:Oper}{f:FuncId}{xs:Array Operand}{E:Array TypeId}{a:Act}{w:World}{A:XW}{u:A.α}{d:Nat}{next:Act->World->Prop}{Q:Exit->Act->World->Prop}
  (ho:o.op=.call ⟨.value (.func f),xs,E⟩) (J:o.dst=some d) (O:M8 Γ s f (xs.toList.map s.ev)=some A) (Z:A.o=some u) (Y:A.st u=some s1) (hp:s1.put h (some d) (.one (A.y u))=some s')
  (hs:AQ C h.n s.den a w) (hn:∀U w',AQ C h.n s'.den U w'->next U w'):o.wp P a w next Q:=by
 unfold M8 at O;cases O
end Go.Ve


namespace Go.Ve
def Ab2(d:Nat)(r:List Ae)(c:Cl):(fit d c).v r=c.v r/\(fit d c).v0=c.v0:=by
 cases c with
 |c t u x=>
  have e:fit d (.c t u x)=bif beq (Ou u t.dep) (Ou d t.dep)then .c t d x else .c t u x:=rfl;rw[e];cases h:beq (Ou u t.dep) (Ou d t.dep)with
  |false=>simp
  |true=>
   have:=bqE h;rw[Il,Il]at this;exact⟨(Lj this).symm,(Lj this).symm⟩
 |_=>trivial
def Lw(r:List Ae):List Cl->Option (List Cl×List (Option Nat))
 |[]=>some ([],[])
 |.rf id []::l=>match r.getD id .dead with
  |.arr false t d xs=>match Lw r l with
   |some (m,js)=>some (.c (.sl t) (d+1) xs::m,some id::js)
   |none=>none
  |_=>none
 |y::l=>bif y.imm then(match Lw r l with
   |some (m,js)=>some (y::m,none::js)
   |none=>none)else none
def apO:List (Option Nat)->Bool
 |[]=>true
 |none::l=>apO l
 |some a::l=>l.all (λb=>match b with
  |some b=>!beq a b
  |none=>true)&&apO l
def UM:List (Option Nat)->List Nat
 |[]=>[]
 |none::l=>UM l
 |some a::l=>a::UM l
def tBSM(s:St)(n:Nat)(ps:List (Nat×Option Sl)):Option TI->Option LR
 |some j=>bif Nat.blt 0 j.ty.w&&Nat.ble (n*j.ty.w) 16777216 then(match Uc (λi=>some (i*j.ty.w,j.ty.w)) (Aa9 n (H2 j.ty)) ps with
   |some l=>match Lw s.r l with
    |some (m,js)=>bif apO js then(match UM js with
     |[]=>none
     |_::_=>match NM j.ty j.sd n (m.map (fit j.sd))with
      |some xs=>some ⟨True,inferInstance,UM js,.c (.sl j.ty) (j.sd+1) xs⟩
      |none=>none)else none
    |none=>none
   |none=>none)
  else none
 |none=>none
theorem XK:∀{l:List (Option Nat)},apO l=true->∀i k a,i<l.length->k<l.length->i≠k->l.getD i none=some a->l.getD k none≠some a
 |none::l,h,i,k,a,hi,u,hne,h1=>by
  cases i with
  |zero=>cases h1
  |succ i=>cases k with
   |zero=>intro E;cases E
   |succ k=>exact XK (l:=l) h i k a (by simpa using hi) (by simpa using u) (by omega) (by simpa using h1)
 |some b::l,h,i,k,a,hi,u,hne,h1=>by
  simp only[apO,bAE]at h;have key:∀k,k<l.length->l.getD k none≠some b:=by
   intro k u E;have J:=aET.1 h.1 (l.getD k none) (by simp[u])
   simp_all
  cases i with
  |zero=>
   grind
  |succ i=>cases k with
   |zero=>
    intro E
    simp_all
   |succ k=>exact XK (l:=l) h.2 i k a (by simpa using hi) (by simpa using u) (by omega) (by simpa using h1)
 |[],_,_,_,_,hi,_,_,_=>by simp at hi
def Ml:∀{l:List (Option Nat)}{k a:Nat},k<l.length->l.getD k none=some a->a∈UM l
 |none::l,k,a,hk,h=>by
  cases k with
  |zero=>cases h
  |succ k=>exact Ml (l:=l) (by simpa using hk) (by grind)
 |some b::l,k,a,hk,h=>by
  cases k with
  |zero=>cases h;exact List.mem_cons_self ..
  |succ k=>exact mCM _ (Ml (by simpa using hk) (by grind))
 |[],_,_,hk,_=>by grind
def ownF(F:Nat->Nat->Prop):Option Nat->Nat->Prop
 |some j=>F j
 |none=>noF
structure Aax(s:St)(w:World)(D:Nat->Prop)(F:Nat->Nat->Prop)(l m:List Cl)(js:List (Option Nat))(cvs:List Value):Prop where
 ml:m.length=l.length
 jl:js.length=l.length
 ro:∀j∈UM js,j<s.r.length/\(s.r.getD j .dead).ro=false
 rel:∀k,k<l.length->Rel D w noR ((m.map Cl.v0).getD k .dead) (cvs.getD k undef) (ownF F (js.getD k none))
def Lv{s:St}{w:World}{D:Nat->Prop}{ρ:Nat->Value}{F:Nat->Nat->Prop}(wr:Bu (s.r.map Ae.v) w D ρ F):∀(l m:List Cl) (js:List (Option Nat)) (cvs:List Value),Lw s.r l=some (m,js)->cvs.length=l.length->
  (∀k,k<l.length->Rel D w (Aq (s.r.map Ae.v) ρ w) ((l.map (Cl.v s.r)).getD k .dead) (cvs.getD k undef) noF)->Aax s w D F l m js cvs
 |[],m,js,cvs,h,_,_=>by
  cases h;exact⟨rfl,rfl,λj Z=>(by cases Z),λk U=>by simp at U⟩
 |y::l,m,js,cvs,h,hl,hr=>by
  cases cvs with
  |nil=>simp at hl
  |cons cv cvs=>
  have W:Rel D w (Aq (s.r.map Ae.v) ρ w) (y.v s.r) cv noF:=by simpa using hr 0 (by simp)
  have J:∀k,k<l.length->Rel D w (Aq (s.r.map Ae.v) ρ w) ((l.map (Cl.v s.r)).getD k .dead) (cvs.getD k undef) noF:=λk U=>by simpa using hr (k+1) (by simpa using U)
  have imm:y.imm=true->∀O u,Lw s.r l=some (O,u)->Aax s w D F (y::l) (y::O) (none::u) (cv::cvs):=λhimm O u h1=>by
   obtain⟨g1,g2,g3,g4⟩:=Lv wr l O u cvs h1 (by simpa using hl) J
   refine⟨by simp[g1],by simp[g2],g3,λk U=>?_⟩
   cases k with
   |zero=>
    obtain⟨i1,i2⟩:=Pm (r:=s.r) himm;show Rel D w noR y.v0 cv noF;rw[<-i2];exact CM i1 W
   |succ k=>simpa using g4 k (by simpa using U)
  unfold Lw at h;split at h
  .rename_i he;cases he
  .rename_i id l' he
   cases he;split at h
   case h_2=>cases h
   rename_i t d xs E;split at h
   case h_2=>cases h
   rename_i O u h1;cases h;obtain⟨g1,g2,g3,g4⟩:=Lv wr l O u cvs h1 (by simpa using hl) J
   have Y:(Ag s.r id []).len=xs.length:=by
    show(s.r.getD id .dead).len=_;rw[E];rfl
   have W:Rel D w (Aq (s.r.map Ae.v) ρ w) (.rs id [] 0 (Ag s.r id []).len) cv noF:=W;rw[Y]at W
   have hσ:(s.r.map Ae.v).getD id .dead=.nd true true t.w xs.length (λi k=>(tyV t d (xs.getD i t.dflt)).getD k .dead):=by
    rw[Ax,E];rfl
   obtain⟨_,hrr⟩:=P0 wr hσ W.1;have hid:id<s.r.length:=by simpa using W.1.1
   refine⟨by simp[g1],by simp[g2],λj Z=>?_,λk U=>?_⟩
   .rcases List.mem_cons.1 Z with rfl|Z
    .exact⟨hid,by rw[E];rfl⟩
    .exact g3 j Z
   .cases k with
    |zero=>exact hrr
    |succ k=>simpa using g4 k (by simpa using U)
  .rename_i y' l' hne he
   cases he;obtain⟨hi,h⟩:=Bc h;split at h
   case h_2=>cases h
   rename_i O u h1;cases h;exact imm hi O u h1
theorem AaW{P:Program}{Θ:Tab}(hΘ:Θ.OK P){C:Ctx}{h:Cy}{s s':St}{o:Oper}{t:TypeId}{n:Nat}{ps:Array (Nat×Operand)}{a:Act}{w:World}{A:LR}{d:Nat}{next:Act->World->Prop}{Q:Exit->Act->World->Prop}
  (ho:o.op=.buildSlice t n ps) (hdst:o.dst=some d) (hfz:h.fz.contains d=false) (W:tBSM s n (ps.toList.map λp=>(p.1,s.ev p.2)) (((Θ.look t).bind (·.elem)).bind Θ.look)=some A) (hp:(Ap A.js s).put h (some d) (.one A.y)=some s')
  (hs:AQ C h.n s.den a w) (hn:∀a' w',AQ C h.n s'.den a' w'->next a' w'):o.wp P a w next Q:=by
 obtain⟨hdf,hdd,D,ρ,F,E⟩:=hs;unfold tBSM at W;split at W
 case h_2=>cases W
 rename_i j hj;obtain⟨e,hsl,_⟩:=Dz hΘ hj;obtain⟨u,W⟩:=Bc W;simp only[bAE]at u;have hw:=Lk u.1;have hnw:=blE u.2;split at W
 case h_2=>cases W
 rename_i l hl;split at W
 case h_2=>cases W
 rename_i m js hm;obtain⟨hap,W⟩:=Bc W;split at W
 .cases W
 rename_i j0 jr hjs;split at W
 case h_2=>cases W
 rename_i xs hxs;cases W;obtain⟨h1,h2⟩:=LC _ _ _ hl;rw[We s.r j.ty n hw]at h2
 have hparts:Lq s.den.σ w D ρ F (ps.toList.map λp=>(p.1,s.den.ev p.2)) (ps.toList.map λp=>(p.1,a.eval p.2)):=by
  refine⟨by simp,λk i v O=>?_⟩
  simp only[List.getElem?_map]at O⊢;cases Y:ps.toList[k]? with
  |none=>simp[Y]at O
  |some q=>
   simp only[Y,Option.map_some,Option.some.injEq,Prod.mk.injEq]at O⊢;obtain⟨rfl,rfl⟩:=O;exact⟨_,⟨rfl,rfl⟩,noF,BE E hdd q.2,λ_ h=>h.elim,λ_ _ _ h=>h⟩
 obtain⟨J,hrun,hrel,hll⟩:=bs_run (P:=P) ho hparts hsl h1 hw hnw h2;have hlen:l.length=n*j.ty.w:=by simpa using hll
 obtain⟨g1,g2,g3,g4⟩:=Lv E.wr l m js J.toList hm (by have:=hrel.1;simp at this;simpa using this) (λk O=>by
  have:=hrel.2 k (by simpa using O)
  simpa [St.den]using this)
 obtain⟨p1,p2,p3⟩:=O8 s.r n _ xs hxs
 have hfitv:∀k,((m.map (fit j.sd)).map (Cl.v s.r)).getD k .dead=(m.map Cl.v0).getD k .dead:=by
  intro k;rw[p2,List.map_map]
  congr 1
  exact List.map_congr_left λy _=>(Ab2 _ s.r y).2
 let Fy:Nat->Nat->Nat->Prop:=λi k=>ownF F (js.getD (i*j.ty.w+k) none)
 have hFy:∀i k b,Fy i k b->∃q,js.getD (i*j.ty.w+k) none=some q/\F q b:=by
  intro i k b u;simp only[Fy]at u;cases Y:js.getD (i*j.ty.w+k) none with
  |none=>rw[Y]at u;exact u.elim
  |some q=>rw[Y]at u;exact⟨q,rfl,u⟩
 have U:∀i k,i<n->k<j.ty.w->i*j.ty.w+k<l.length:=λi k hi O=>by rw[hlen];exact Qy hi O
 have hG:∀i k b,i<n->k<j.ty.w->Fy i k b->∃q∈UM js,F q b:=by
  intro i k b hi O u;obtain⟨q,Y,u⟩:=hFy i k b u;exact⟨q,Ml (by rw[g2];exact U i k hi O) Y,u⟩
 have hblk:(w.alloc (.cells J e)).heap[w.heap.size]? =some (.cells J e (0,0)):=heap_alloc_new w _;have hsame:∀b,b<w.heap.size->(w.alloc (.cells J e)).heap[b]? =w.heap[b]?:=λb u=>Below.heap_alloc _ _ _ u
 have hsz:J.size=n*j.ty.w:=by rw[hrel.1];exact hll
 have hr:Rel D (w.alloc (.cells J e)) noR (.nd true true j.ty.w n λi k=>(m.map Cl.v0).getD (i*j.ty.w+k) .dead) (.slice (some ⟨w.heap.size,0,none⟩) n n) (λb=>b=w.heap.size\/∃i k,i<n/\k<j.ty.w/\Fy i k b):=by
  refine .inr ⟨w.heap.size,0,n,Fy,rfl,le_refl _,?_,(λh=>by cases h),λi k hi O=>?_,(λh=>by cases h),λ_=>⟨⟨J,e,.plain hblk,by rw[hsz,Nat.zero_add];exact le_refl _⟩,λi k hi O hF=>?_,λi k i' k' b hi O hi' hk' hne hF hF'=>?_,λ_=>Iff.rfl⟩⟩
  .have:=Nat.le_mul_of_pos_right n hw;unfold maxLen;omega
  .have hlt:=U i k hi O
   refine⟨J.getD (i*j.ty.w+k) undef,?_,?_⟩
   .rw[cellRow hblk,Nat.zero_add]
    have:i*j.ty.w+k<J.size:=by rw[hsz,<-hlen];exact hlt
    simp[this]
   .have h5:=g4 _ hlt
    have h6:Rel D w noR ((m.map Cl.v0).getD (i*j.ty.w+k) .dead) (J.getD (i*j.ty.w+k) undef) (Fy i k):=by
     show Rel D w noR _ _ (ownF F (js.getD (i*j.ty.w+k) none));simpa using h5
    refine Rel.mono (λ_ h=>h) (λ_ _ h=>h) _ _ _ (λb u=>hsame b ?_) h6
    rcases u with u|u
    .exact E.wr.Dlt b u
    .exact Rel.lt _ _ _ h6 b u
  .obtain⟨q,_,Y⟩:=hG i k _ hi O hF
   have:=E.wr.lt q _ Y;omega
  .obtain⟨q,Y,hF⟩:=hFy i k b hF
   obtain⟨q',hq',hF'⟩:=hFy i' k' b hF';have hne2:i*j.ty.w+k≠i'*j.ty.w+k':=by
    intro he;have e1:=congrArg (· /j.ty.w) he
    have e2:=congrArg (· % j.ty.w) he
    simp only[JK O,JK hk',JJ O,JJ hk']at e1 e2;omega
   have:=XK hap _ _ q (by rw[g2];exact U i k hi O) (by rw[g2];exact U i' k' hi' hk') hne2 Y
   exact E.wr.disj q q' b (λe=>this (by rw[hq',e])) hF hF'
 obtain⟨F',hcr',hF'⟩:=CP (UM js) E (λq Y=>(g3 q Y).1)
 have hr2:Rel D (w.alloc (.cells J e)) noR (cV (.sl j.ty) (j.sd+1) xs) (.slice (some ⟨w.heap.size,0,none⟩) n n) (λb=>b=w.heap.size\/∃i k,i<n/\k<j.ty.w/\Fy i k b):=by
  refine Rel.sub ?_ hr;show Sub _ (V.nd true true j.ty.w xs.length λi k=>(tyV j.ty j.sd (xs.getD i j.ty.dflt)).getD k .dead)
  rw[p1];refine⟨_,rfl,λi k hi O=>?_⟩
  have:=p3 i k hi O;rw[hfitv]at this;exact this
 have hfpG:∀b,(b=w.heap.size\/∃i k,i<n/\k<j.ty.w/\Fy i k b)->(∃q∈UM js,F q b)\/w.heap.size<=b:=by
  rintro b (rfl|⟨i,k,hi,O,hF⟩)
  .exact .inr (le_refl _)
  .exact .inl (hG i k b hi O hF)
 have hc:=CR.own hcr' (w':=w.alloc (.cells J e)) (G:=λb=>∃q∈UM js,F q b) (D':=D) (λi b u ⟨q,Y,Z⟩=>by
   obtain⟨h1,h2⟩:=hF' i b u;exact E.wr.disj i q b (λe=>h2 (e▸Y)) h1 Z) (λb u ⟨q,_,Z⟩=>E.wr.dD q b Z u) (λb ⟨q,_,Z⟩=>E.Fn q b Z) rfl rfl rfl (le_refl _) (by simp) (λc hc _=>hsame c hc) hr2 hfpG
  (λ_ h=>h) (λ_ h=>.inl h) (λb u=>⟨by have:=E.wr.Dlt b u;simp;omega,λh=>by
   rcases hfpG b h with⟨q,_,Z⟩|h2
   .exact E.wr.dD q b Z u
   .have:=E.wr.Dlt b u;omega⟩) d
 have hs':=WC (h:=h) hdf (BZ (UM js) hdd) hfz hp hc;unfold Oper.wp;rw[hrun];show next (a.put o.dst _) _
 rw[hdst];exact hn _ _ hs'
end Go.Ve

