/- The typed machine: calls of functions that write their owned arguments. -/
import Derived.Test.YtmmmafnkggaknaaGreatTy
import Derived.Test.YtmmmafnkggaknaaGreatTd
set_option linter.all false
namespace Go.Ve
variable{A B:List (PRef×Nat)}{σ σ0:List V}{m:Nat}{ρ ρ0:Nat->Value}{s:St}{w:World}
structure Wx where
 α:Type
 o:Option α
 st:α->Option St
 y:α->Cl
def Ml(_:List EnW)(_:St)(_:FuncId)(_:List (Option Sl)):Option Wx:=none
structure WOK(s:St)(σ:List V)(ρ:Nat->Value)(w:World)(LD:List (PRef×Nat))(R:List Af):Prop where
 len:R.length=LD.length
 nd:∀k,k<LD.length->∃u d0 xs,R.getD k .dead=.arr false u d0 xs/\Ai s.r (LD.getD k ((0,[]),0)).1.1 (LD.getD k ((0,[]),0)).1.2=.arr false u (LD.getD k ((0,[]),0)).2 xs/\dOK u (LD.getD k ((0,[]),0)).2 d0=true
 at':∀a∈LD,a.1.1<σ.length/\∃sz n f c,At w a.1.2 (σ.getD a.1.1 .dead) (ρ a.1.1) (.nd true true sz n f) c
theorem WOK.app{R S:List Af}(h:WOK s σ ρ w A R)(E:WOK s σ ρ w B S):WOK s σ ρ w (A++B) (R++S):=by
 refine⟨by simp[h.len,E.len],λk W=>?_,λa u=>?_⟩
 .by_cases e:k<A.length
  .have U:(A++B).getD k ((0,[]),0)=A.getD k ((0,[]),0):=by grind
   have J:(R++S).getD k .dead=R.getD k .dead:=by
    have:k<R.length:=by rw[h.len];exact e
    simp[gAL this]
   rw[U,J];exact h.nd k e
  .have U:(A++B).getD k ((0,[]),0)=B.getD (k-A.length) ((0,[]),0):=by
    grind
   have J:(R++S).getD k .dead=S.getD (k-A.length) .dead:=by
    simp only[gDE];rw[gAR (by rw[h.len];omega),h.len]
   rw[U,J];exact E.nd _ (by simp at W;omega)
 .rcases List.mem_append.1 u with u|u
  .exact h.at' a u
  .exact E.at' a u
def AaM(s:St)(σ:List V)(ρ:Nat->Value)(w:World)(LD:List (PRef×Nat))(m:Nat)(σ0:List V)(ρ0:Nat->Value):Prop:=
 ∀k,k<LD.length->m+k<σ0.length/\σ0.getD (m+k) .dead=sub (LD.getD k ((0,[]),0)).1.2 (σ.getD (LD.getD k ((0,[]),0)).1.1 .dead)/\
  At w (LD.getD k ((0,[]),0)).1.2 (σ.getD (LD.getD k ((0,[]),0)).1.1 .dead) (ρ (LD.getD k ((0,[]),0)).1.1) (sub (LD.getD k ((0,[]),0)).1.2 (σ.getD (LD.getD k ((0,[]),0)).1.1 .dead)) (ρ0 (m+k))
theorem AaM.left(h:AaM s σ ρ w (A++B) m σ0 ρ0):AaM s σ ρ w A m σ0 ρ0:=by
 intro k e;have:=h k (by grind)
 grind
theorem AaM.right(h:AaM s σ ρ w (A++B) m σ0 ρ0):AaM s σ ρ w B (m+A.length) σ0 ρ0:=by
 intro k e;have:=h (A.length+k) (by simp_all)
 have u:(A++B).getD (A.length+k) ((0,[]),0)=B.getD k ((0,[]),0):=by
  simp_all
 grind
section
variable {s:St}{ρ:Nat->Value}{w:World}{D:Nat->Prop}{F:Nat->Nat->Prop}
end
end Go.Ve


namespace Go.Ve
section
variable {s:St}{ρ:Nat->Value}{w:World}{D:Nat->Prop}{F:Nat->Nat->Prop}
end
theorem Hf.tyV0{π:Nat->Nat}{n:Nat}:∀(t:Ty) (x:t.T),∀v∈tyV t 0 x,Hf π n v v
 |.int _,_,v,h=>by simp[tyV]at h;subst h;exact .inr (Sub.refl _)
 |.bool,_,v,h=>by simp[tyV]at h;subst h;exact .inr (Sub.refl _)
 |.str,_,v,h=>by simp[tyV]at h;subst h;exact .inr (Sub.refl _)
 |.sl _,_,v,h=>by simp[tyV,List.mem_singleton]at h;subst h;exact .inr (Sub.refl _)
 |.ptr _,_,v,h=>by simp[tyV,List.mem_singleton]at h;subst h;exact .inr (Sub.refl _)
 |.unit,_,v,h=>by trivial
 |.pair a b,x,v,h=>by
  simp[tyV,List.mem_append]at h;exact h.elim (Hf.tyV0 a x.1 v) (Hf.tyV0 b x.2 v)
 |.osl _,x,v,h=>by
  simp[tyV,List.mem_singleton]at h;subst h;cases x with
  |none=>exact Hf.dead _ _ _
  |some xs=>exact .inr (Sub.refl _)
 |.clo g t,x,v,h=>by
  simp[tyV,List.mem_singleton]at h;subst h;refine .inr ⟨_,rfl,λk e=>?_⟩
  have e:k<(tyV t 0 x).length:=by rw[Ay];grind
  show Hf π n ((tyV t 0 x).getD k .dead) ((tyV t 0 x).getD k .dead);rw[gDE,gEE e];exact Hf.tyV0 t x _ (List.getElem_mem e)
theorem N0{r:List Af}{x:Af}{i j:Nat}(h:i≠j):(r.set i x).getD j .dead=r.getD j .dead:=by grind
def UH{P:Program}{Γ:List EnW}(Z:∀e∈Γ,e.OK P){C:Ctx}{h:Cs}{s s1 s':St}{o:Oper}{f:FuncId}{xs:Array Operand}{E:Array TypeId}{a:Act}{w:World}{A:Wx}{u:A.α}{d:Nat}{next:Act->World->Prop}{Q:Exit->Act->World->Prop}
  (ho:o.op=.call ⟨.value (.func f),xs,E⟩) (J:o.dst=some d) (U:Ml Γ s f (xs.toList.map s.ev)=some A) (hu:A.o=some u) (hst:A.st u=some s1) (hp:s1.put h (some d) (.one (A.y u))=some s')
  (hs:AR C h.n s.den a w) (hn:∀W w',AR C h.n s'.den W w'->next W w'):o.wp P a w next Q:=by
 unfold Ml at U;cases U
end Go.Ve


namespace Go.Ve
def Aaj(d:Nat)(r:List Af)(c:Cl):(fit d c).v r=c.v r/\(fit d c).v0=c.v0:=by
 cases c with
 |c t u x=>
  have e:fit d (.c t u x)=bif Nat.beq (NF u t.dep) (NF d t.dep)then .c t d x else .c t u x:=rfl;rw[e];cases h:Nat.beq (NF u t.dep) (NF d t.dep)with
  |false=>simp
  |true=>
   have:=bqE h;rw[H9,H9]at this;exact⟨(KO this).symm,(KO this).symm⟩
 |_=>trivial
def K2(r:List Af):List Cl->Option (List Cl×List (Option Nat))
 |[]=>some ([],[])
 |.rf id []::l=>match r.getD id .dead with
  |.arr false t d xs=>match K2 r l with
   |some (m,js)=>some (.c (.sl t) (d+1) xs::m,some id::js)
   |none=>none
  |_=>none
 |y::l=>bif y.imm then(match K2 r l with
   |some (m,js)=>some (y::m,none::js)
   |none=>none)else none
def apO:List (Option Nat)->Bool
 |[]=>true
 |none::l=>apO l
 |some a::l=>l.all (λb=>match b with
  |some b=>!Nat.beq a b
  |none=>true)&&apO l
def QC:List (Option Nat)->List Nat
 |[]=>[]
 |none::l=>QC l
 |some a::l=>a::QC l
def tBSM(s:St)(n:Nat)(ps:List (Nat×Option Sl)):Option TI->Option LR
 |some j=>bif Nat.blt 0 j.ty.w&&Nat.ble (n*j.ty.w) 16777216 then(match P6 (λi=>some (i*j.ty.w,j.ty.w)) (Zu n (HS j.ty)) ps with
   |some l=>match K2 s.r l with
    |some (m,js)=>bif apO js then(match QC js with
     |[]=>none
     |_::_=>match M2 j.ty j.sd n (m.map (fit j.sd))with
      |some xs=>some ⟨True,inferInstance,QC js,.c (.sl j.ty) (j.sd+1) xs⟩
      |none=>none)else none
    |none=>none
   |none=>none)
  else none
 |none=>none
theorem Wn:∀{l:List (Option Nat)},apO l=true->∀i k a,i<l.length->k<l.length->i≠k->l.getD i none=some a->l.getD k none≠some a
 |none::l,h,i,k,a,hi,e,hne,h1=>by
  cases i with
  |zero=>cases h1
  |succ i=>cases k with
   |zero=>intro u;cases u
   |succ k=>exact Wn (l:=l) h i k a (by simpa using hi) (by simpa using e) (by omega) (by simpa using h1)
 |some b::l,h,i,k,a,hi,e,hne,h1=>by
  simp only[apO,bAE]at h;have E:∀k,k<l.length->l.getD k none≠some b:=by
   intro k e u;have J:=aET.1 h.1 (l.getD k none) (by simp[e])
   simp_all
  cases i with
  |zero=>
   grind
  |succ i=>cases k with
   |zero=>
    intro u
    simp_all
   |succ k=>exact Wn (l:=l) h.2 i k a (by simpa using hi) (by simpa using e) (by omega) (by simpa using h1)
 |[],_,_,_,_,hi,_,_,_=>by simp at hi
def Lz:∀{l:List (Option Nat)}{k a:Nat},k<l.length->l.getD k none=some a->a∈QC l
 |none::l,k,a,hk,h=>by
  cases k with
  |zero=>cases h
  |succ k=>exact Lz (l:=l) (by simpa using hk) (by grind)
 |some b::l,k,a,hk,h=>by
  cases k with
  |zero=>cases h;exact List.mem_cons_self ..
  |succ k=>exact mCM _ (Lz (by simpa using hk) (by grind))
 |[],_,_,hk,_=>by grind
def ownF(F:Nat->Nat->Prop):Option Nat->Nat->Prop
 |some j=>F j
 |none=>noF
structure YQ(s:St)(w:World)(D:Nat->Prop)(F:Nat->Nat->Prop)(l m:List Cl)(js:List (Option Nat))(cvs:List Value):Prop where
 ml:m.length=l.length
 jl:js.length=l.length
 ro:∀j∈QC js,j<s.r.length/\(s.r.getD j .dead).ro=false
 rel:∀k,k<l.length->Rel D w noR ((m.map Cl.v0).getD k .dead) (cvs.getD k undef) (ownF F (js.getD k none))
def K0{s:St}{w:World}{D:Nat->Prop}{ρ:Nat->Value}{F:Nat->Nat->Prop}(wr:BG (s.r.map Af.v) w D ρ F):∀(l m:List Cl) (js:List (Option Nat)) (cvs:List Value),K2 s.r l=some (m,js)->cvs.length=l.length->
  (∀k,k<l.length->Rel D w (Au (s.r.map Af.v) ρ w) ((l.map (Cl.v s.r)).getD k .dead) (cvs.getD k undef) noF)->YQ s w D F l m js cvs
 |[],m,js,cvs,h,_,_=>by
  cases h;exact⟨rfl,rfl,λj hj=>(by cases hj),λk U=>by simp at U⟩
 |y::l,m,js,cvs,h,hl,hr=>by
  cases cvs with
  |nil=>simp at hl
  |cons cv cvs=>
  have W:Rel D w (Au (s.r.map Af.v) ρ w) (y.v s.r) cv noF:=by simpa using hr 0 (by simp)
  have E:∀k,k<l.length->Rel D w (Au (s.r.map Af.v) ρ w) ((l.map (Cl.v s.r)).getD k .dead) (cvs.getD k undef) noF:=λk U=>by simpa using hr (k+1) (by simpa using U)
  have imm:y.imm=true->∀J e,K2 s.r l=some (J,e)->YQ s w D F (y::l) (y::J) (none::e) (cv::cvs):=λhimm J e h1=>by
   obtain⟨g1,g2,g3,g4⟩:=K0 wr l J e cvs h1 (by simpa using hl) E
   refine⟨by simp[g1],by simp[g2],g3,λk U=>?_⟩
   cases k with
   |zero=>
    obtain⟨i1,i2⟩:=Oq (r:=s.r) himm;show Rel D w noR y.v0 cv noF;rw[<-i2];exact CH i1 W
   |succ k=>simpa using g4 k (by simpa using U)
  unfold K2 at h;split at h
  .rename_i he;cases he
  .rename_i id l' he
   cases he;split at h
   case h_2=>cases h
   rename_i t d xs u;split at h
   case h_2=>cases h
   rename_i J e h1;cases h;obtain⟨g1,g2,g3,g4⟩:=K0 wr l J e cvs h1 (by simpa using hl) E
   have Z:(Ai s.r id []).len=xs.length:=by
    show(s.r.getD id .dead).len=_;rw[u];rfl
   have W:Rel D w (Au (s.r.map Af.v) ρ w) (.rs id [] 0 (Ai s.r id []).len) cv noF:=W;rw[Z]at W
   have hσ:(s.r.map Af.v).getD id .dead=.nd true true t.w xs.length (λi k=>(tyV t d (xs.getD i t.dflt)).getD k .dead):=by
    rw[AA,u];rfl
   obtain⟨_,hrr⟩:=OX wr hσ W.1;have hid:id<s.r.length:=by simpa using W.1.1
   refine⟨by simp[g1],by simp[g2],λj hj=>?_,λk U=>?_⟩
   .rcases List.mem_cons.1 hj with rfl|hj
    .exact⟨hid,by rw[u];rfl⟩
    .exact g3 j hj
   .cases k with
    |zero=>exact hrr
    |succ k=>simpa using g4 k (by simpa using U)
  .rename_i y' l' hne he
   cases he;obtain⟨hi,h⟩:=Bb h;split at h
   case h_2=>cases h
   rename_i J e h1;cases h;exact imm hi J e h1
theorem Zd{P:Program}{Θ:Tab}(hΘ:Θ.OK P){C:Ctx}{h:Cs}{s s':St}{o:Oper}{t:TypeId}{n:Nat}{ps:Array (Nat×Operand)}{a:Act}{w:World}{A:LR}{d:Nat}{next:Act->World->Prop}{Q:Exit->Act->World->Prop}
  (ho:o.op=.buildSlice t n ps) (hdst:o.dst=some d) (hfz:h.fz.contains d=false) (Z:tBSM s n (ps.toList.map λp=>(p.1,s.ev p.2)) (((Θ.look t).bind (·.elem)).bind Θ.look)=some A) (hp:(Ap A.js s).put h (some d) (.one A.y)=some s')
  (hs:AR C h.n s.den a w) (hn:∀a' w',AR C h.n s'.den a' w'->next a' w'):o.wp P a w next Q:=by
 obtain⟨hdf,hdd,D,ρ,F,E⟩:=hs;unfold tBSM at Z;split at Z
 case h_2=>cases Z
 rename_i j hj;obtain⟨e,hsl,_⟩:=DH hΘ hj;obtain⟨u,Z⟩:=Bb Z;simp only[bAE]at u;have hw:=KP u.1;have hnw:=blE u.2;split at Z
 case h_2=>cases Z
 rename_i l hl;split at Z
 case h_2=>cases Z
 rename_i m js hm;obtain⟨hap,Z⟩:=Bb Z;split at Z
 .cases Z
 rename_i j0 jr hjs;split at Z
 case h_2=>cases Z
 rename_i xs hxs;cases Z;obtain⟨h1,h2⟩:=K6 _ _ _ hl;rw[U1 s.r j.ty n hw]at h2
 have hparts:KW s.den.σ w D ρ F (ps.toList.map λp=>(p.1,s.den.ev p.2)) (ps.toList.map λp=>(p.1,a.eval p.2)):=by
  refine⟨by simp,λk i v U=>?_⟩
  simp only[List.getElem?_map]at U⊢;cases hq:ps.toList[k]? with
  |none=>simp[hq]at U
  |some q=>
   simp only[hq,Option.map_some,Option.some.injEq,Prod.mk.injEq]at U⊢;obtain⟨rfl,rfl⟩:=U;exact⟨_,⟨rfl,rfl⟩,noF,BY E hdd q.2,λ_ h=>h.elim,λ_ _ _ h=>h⟩
 obtain⟨J,hrun,hrel,hll⟩:=bs_run (P:=P) ho hparts hsl h1 hw hnw h2;have hlen:l.length=n*j.ty.w:=by simpa using hll
 obtain⟨g1,g2,g3,g4⟩:=K0 E.wr l m js J.toList hm (by have:=hrel.1;simp at this;simpa using this) (λk U=>by
  have:=hrel.2 k (by simpa using U)
  simpa [St.den]using this)
 obtain⟨p1,p2,p3⟩:=N7 s.r n _ xs hxs
 have hfitv:∀k,((m.map (fit j.sd)).map (Cl.v s.r)).getD k .dead=(m.map Cl.v0).getD k .dead:=by
  intro k;rw[p2,List.map_map]
  congr 1
  exact List.map_congr_left λy _=>(Aaj _ s.r y).2
 let Fy:Nat->Nat->Nat->Prop:=λi k=>ownF F (js.getD (i*j.ty.w+k) none)
 have hFy:∀i k b,Fy i k b->∃q,js.getD (i*j.ty.w+k) none=some q/\F q b:=by
  intro i k b u;simp only[Fy]at u;cases hq:js.getD (i*j.ty.w+k) none with
  |none=>rw[hq]at u;exact u.elim
  |some q=>rw[hq]at u;exact⟨q,rfl,u⟩
 have W:∀i k,i<n->k<j.ty.w->i*j.ty.w+k<l.length:=λi k hi U=>by rw[hlen];exact Pt hi U
 have hG:∀i k b,i<n->k<j.ty.w->Fy i k b->∃q∈QC js,F q b:=by
  intro i k b hi U u;obtain⟨q,hq,u⟩:=hFy i k b u;exact⟨q,Lz (by rw[g2];exact W i k hi U) hq,u⟩
 have hblk:(w.alloc (.cells J e)).heap[w.heap.size]? =some (.cells J e (0,0)):=heap_alloc_new w _;have hsame:∀b,b<w.heap.size->(w.alloc (.cells J e)).heap[b]? =w.heap[b]?:=λb u=>Below.heap_alloc _ _ _ u
 have hsz:J.size=n*j.ty.w:=by rw[hrel.1];exact hll
 have hr:Rel D (w.alloc (.cells J e)) noR (.nd true true j.ty.w n λi k=>(m.map Cl.v0).getD (i*j.ty.w+k) .dead) (.slice (some ⟨w.heap.size,0,none⟩) n n) (λb=>b=w.heap.size\/∃i k,i<n/\k<j.ty.w/\Fy i k b):=by
  refine .inr ⟨w.heap.size,0,n,Fy,rfl,Nat.le_refl _,?_,(λh=>by cases h),λi k hi U=>?_,(λh=>by cases h),λ_=>⟨⟨J,e,.plain hblk,by rw[hsz,Nat.zero_add];exact Nat.le_refl _⟩,λi k hi U hF=>?_,λi k i' k' b hi U hi' hk' hne hF hF'=>?_,λ_=>Iff.rfl⟩⟩
  .have:=Nat.le_mul_of_pos_right n hw;unfold maxLen;omega
  .have hlt:=W i k hi U
   refine⟨J.getD (i*j.ty.w+k) undef,?_,?_⟩
   .rw[cellRow hblk,Nat.zero_add]
    have:i*j.ty.w+k<J.size:=by rw[hsz,<-hlen];exact hlt
    simp[this]
   .have h5:=g4 _ hlt
    have h6:Rel D w noR ((m.map Cl.v0).getD (i*j.ty.w+k) .dead) (J.getD (i*j.ty.w+k) undef) (Fy i k):=by
     show Rel D w noR _ _ (ownF F (js.getD (i*j.ty.w+k) none));simpa using h5
    refine Rel.mono (λ_ h=>h) (λ_ _ h=>h) _ _ _ (λb u=>hsame b ?_) h6
    rcases u with u|u
    .exact E.wr.Dlt b u
    .exact Rel.lt _ _ _ h6 b u
  .obtain⟨q,_,hq⟩:=hG i k _ hi U hF
   have:=E.wr.lt q _ hq;omega
  .obtain⟨q,hq,hF⟩:=hFy i k b hF
   obtain⟨q',hq',hF'⟩:=hFy i' k' b hF';have hne2:i*j.ty.w+k≠i'*j.ty.w+k':=by
    intro he;have e1:=congrArg (· /j.ty.w) he
    have e2:=congrArg (· % j.ty.w) he
    simp only[Jz U,Jz hk',Jy U,Jy hk']at e1 e2;omega
   have:=Wn hap _ _ q (by rw[g2];exact W i k hi U) (by rw[g2];exact W i' k' hi' hk') hne2 hq
   exact E.wr.disj q q' b (λe=>this (by rw[hq',e])) hF hF'
 obtain⟨F',hcr',hF'⟩:=CJ (QC js) E (λq hq=>(g3 q hq).1)
 have hr2:Rel D (w.alloc (.cells J e)) noR (cV (.sl j.ty) (j.sd+1) xs) (.slice (some ⟨w.heap.size,0,none⟩) n n) (λb=>b=w.heap.size\/∃i k,i<n/\k<j.ty.w/\Fy i k b):=by
  refine Rel.sub ?_ hr;show Sub _ (V.nd true true j.ty.w xs.length λi k=>(tyV j.ty j.sd (xs.getD i j.ty.dflt)).getD k .dead)
  rw[p1];refine⟨_,rfl,λi k hi U=>?_⟩
  have:=p3 i k hi U;rw[hfitv]at this;exact this
 have hfpG:∀b,(b=w.heap.size\/∃i k,i<n/\k<j.ty.w/\Fy i k b)->(∃q∈QC js,F q b)\/w.heap.size<=b:=by
  rintro b (rfl|⟨i,k,hi,U,hF⟩)
  .exact .inr (Nat.le_refl _)
  .exact .inl (hG i k b hi U hF)
 have hc:=CR.own hcr' (w':=w.alloc (.cells J e)) (G:=λb=>∃q∈QC js,F q b) (D':=D) (λi b u ⟨q,hq,hFq⟩=>by
   obtain⟨h1,h2⟩:=hF' i b u;exact E.wr.disj i q b (λe=>h2 (e▸hq)) h1 hFq) (λb u ⟨q,_,hFq⟩=>E.wr.dD q b hFq u) (λb ⟨q,_,hFq⟩=>E.Fn q b hFq) rfl rfl rfl (Nat.le_refl _) (by simp) (λc hc _=>hsame c hc) hr2 hfpG
  (λ_ h=>h) (λ_ h=>.inl h) (λb u=>⟨by have:=E.wr.Dlt b u;simp;omega,λh=>by
   rcases hfpG b h with⟨q,_,hFq⟩|h2
   .exact E.wr.dD q b hFq u
   .have:=E.wr.Dlt b u;omega⟩) d
 have hs':=Vo (h:=h) hdf (BZ (QC js) hdd) hfz hp hc;unfold Oper.wp;rw[hrun];show next (a.put o.dst _) _
 rw[hdst];exact hn _ _ hs'
end Go.Ve

