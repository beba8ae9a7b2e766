/- The typed machine: calls of functions that write their owned arguments. -/
import Derived.Test.YtojjlnbnneemaaaTy
import Derived.Test.YtojjlnbnneemaaaTd
set_option linter.all false
namespace Go.Ve
variable{A B:List (PRef×Nat)}{σ σ0:List V}{m:Nat}{ρ ρ0:Nat->Value}{s:St}{w:World}
def ZK(t:Ty)(dep:Nat):List Cl->Option (t.T×List Cl)
 |.c t' d x::l=>if h:t'=t then(bif Nat.beq d dep then some (h▸x,l)else none)else none
 |_=>none
def unC:(t:Ty)->Nat->List Cl->Option (t.T×List Cl)
 |.unit,_,l=>some ((),l)
 |.pair a b,d,l=>match unC a d l with
  |some (x,l)=>match unC b d l with
   |some (y,l)=>some ((x,y),l)
   |none=>none
  |none=>none
 |.int k,d,l=>ZK (.int k) d l
 |.bool,d,l=>ZK .bool d l
 |.str,d,l=>ZK .str d l
 |.sl t,d,l=>ZK (.sl t) d l
 |.ptr t,d,l=>ZK (.ptr t) d l
 |.clo g t,d,l=>ZK (.clo g t) d l
 |.osl t,d,l=>ZK (.osl t) d l
 |.mp a b,d,l=>ZK (.mp a b) d l
def Cl.killP(h:Nat->AW->Bool):Cl->Cl
 |.rf id q=>bif h id q then .dead else .rf id q
 |.rs id q off len=>bif h id q then .dead else .rs id q off len
 |.rp id q i k=>bif h id q then .dead else .rp id q i k
 |.rm id q=>bif h id q then .dead else .rm id q
 |y=>y
def Sl.killP(h:Nat->AW->Bool):Sl->Sl
 |.one y=>.one (y.killP h)
 |.new l=>.new l
 |.agg l=>.agg (l.map (Cl.killP h))
 |.tup l=>.tup (l.map λp=>(p.1,p.2.map (Cl.killP h)))
 |.pk t l=>.pk t (l.map (Cl.killP h))
structure X0 where
 α:Type
 o:Option α
 st:α->Option St
 y:α->Cl
def NC(_:List EnW)(_:St)(_:FuncId)(_:List (Option Sl)):Option X0:=none
structure WOK(s:St)(σ:List V)(ρ:Nat->Value)(w:World)(LD:List (PRef×Nat))(R:List Ac):Prop where
 len:R.length=LD.length
 nd:∀k,k<LD.length->∃u d0 xs,R.getD k .dead=.arr false u d0 xs/\Ae s.r (LD.getD k ((0,[]),0)).1.1 (LD.getD k ((0,[]),0)).1.2=.arr false u (LD.getD k ((0,[]),0)).2 xs/\dOK u (LD.getD k ((0,[]),0)).2 d0=true
 at':∀a∈LD,a.1.1<σ.length/\∃sz n f c,At w a.1.2 (σ.getD a.1.1 .dead) (ρ a.1.1) (.nd true true sz n f) c
theorem WOK.app{R S:List Ac}(h:WOK s σ ρ w A R)(E:WOK s σ ρ w B S):WOK s σ ρ w (A++B) (R++S):=by
 refine⟨by simp[h.len,E.len],λk M=>?_,λa ha=>?_⟩
 .by_cases e:k<A.length
  .have L:(A++B).getD k ((0,[]),0)=A.getD k ((0,[]),0):=by grind
   have J:(R++S).getD k .dead=R.getD k .dead:=by
    have:k<R.length:=by rw[h.len];exact e
    simp[gAL this]
   rw[L,J];exact h.nd k e
  .have L:(A++B).getD k ((0,[]),0)=B.getD (k-A.length) ((0,[]),0):=by
    grind
   have J:(R++S).getD k .dead=S.getD (k-A.length) .dead:=by
    simp only[gDE];rw[gAR (by rw[h.len];omega),h.len]
   rw[L,J];exact E.nd _ (by simp at M;omega)
 .rcases List.mem_append.1 ha with ha|ha
  .exact h.at' a ha
  .exact E.at' a ha
def AcJ(s:St)(σ:List V)(ρ:Nat->Value)(w:World)(LD:List (PRef×Nat))(m:Nat)(σ0:List V)(ρ0:Nat->Value):Prop:=
 ∀k,k<LD.length->m+k<σ0.length/\σ0.getD (m+k) .dead=sub (LD.getD k ((0,[]),0)).1.2 (σ.getD (LD.getD k ((0,[]),0)).1.1 .dead)/\
  At w (LD.getD k ((0,[]),0)).1.2 (σ.getD (LD.getD k ((0,[]),0)).1.1 .dead) (ρ (LD.getD k ((0,[]),0)).1.1) (sub (LD.getD k ((0,[]),0)).1.2 (σ.getD (LD.getD k ((0,[]),0)).1.1 .dead)) (ρ0 (m+k))
theorem AcJ.left(h:AcJ s σ ρ w (A++B) m σ0 ρ0):AcJ s σ ρ w A m σ0 ρ0:=by
 intro k e;have:=h k (by grind)
 grind
theorem AcJ.right(h:AcJ s σ ρ w (A++B) m σ0 ρ0):AcJ s σ ρ w B (m+A.length) σ0 ρ0:=by
 intro k e;have:=h (A.length+k) (by simp_all)
 have E:(A++B).getD (A.length+k) ((0,[]),0)=B.getD k ((0,[]),0):=by
  simp_all
 grind
section
variable {s:St}{ρ:Nat->Value}{w:World}{D:Nat->Prop}{F:Nat->Nat->Prop}
end
end Go.Ve


namespace Go.Ve
section
variable {s:St}{ρ:Nat->Value}{w:World}{D:Nat->Prop}{F:Nat->Nat->Prop}
end
theorem Hd.tyV0{π:Nat->Nat}{n:Nat}:∀(t:Ty) (x:t.T),∀v∈tyV t 0 x,Hd π n v v
 |.int _,_,v,h=>by simp[tyV]at h;subst h;exact .inr (Sub.refl _)
 |.bool,_,v,h=>by simp[tyV]at h;subst h;exact .inr (Sub.refl _)
 |.str,_,v,h=>by simp[tyV]at h;subst h;exact .inr (Sub.refl _)
 |.sl _,_,v,h=>by simp[tyV,List.mem_singleton]at h;subst h;exact .inr (Sub.refl _)
 |.ptr _,_,v,h=>by simp[tyV,List.mem_singleton]at h;subst h;exact .inr (Sub.refl _)
 |.unit,_,v,h=>by trivial
 |.mp _ _,_,v,h=>by simp only[tyV,List.mem_singleton]at h;subst h;exact .inr (Sub.refl _)
 |.pair a b,x,v,h=>by
  simp[tyV,List.mem_append]at h;exact h.elim (Hd.tyV0 a x.1 v) (Hd.tyV0 b x.2 v)
 |.osl _,x,v,h=>by
  simp[tyV,List.mem_singleton]at h;subst h;cases x with
  |none=>exact Hd.dead _ _ _
  |some xs=>exact .inr (Sub.refl _)
 |.clo g t,x,v,h=>by
  simp[tyV,List.mem_singleton]at h;subst h;refine .inr ⟨_,rfl,λk e=>?_⟩
  have e:k<(tyV t 0 x).length:=by rw[AB];grind
  show Hd π n ((tyV t 0 x).getD k .dead) ((tyV t 0 x).getD k .dead);rw[gDE,gEE e];exact Hd.tyV0 t x _ (List.getElem_mem e)
theorem Iv{r:List Ac}{x:Ac}{i j:Nat}(h:i≠j):(r.set i x).getD j .dead=r.getD j .dead:=by grind
def Wh{P:Program}{Γ:List EnW}(M:∀e∈Γ,e.OK P){C:Ctx}{h:Cz}{s s1 s':St}{o:Oper}{f:FuncId}{xs:Array Operand}{E:Array TypeId}{a:Act}{w:World}{A:X0}{u:A.α}{d:Nat}{next:Act->World->Prop}{Q:Exit->Act->World->Prop}
  (ho:o.op=.call ⟨.value (.func f),xs,E⟩) (J:o.dst=some d) (ha:NC Γ s f (xs.toList.map s.ev)=some A) (U:A.o=some u) (O:A.st u=some s1) (Y:s1.put h (some d) (.one (A.y u))=some s')
  (W:AU C h.n s.den a w) (hn:∀L w',AU C h.n s'.den L w'->next L w'):o.wp P a w next Q:=by
 unfold NC at ha;cases ha
end Go.Ve


namespace Go.Ve
def Ab8(d:Nat)(r:List Ac)(c:Cl):(fit d c).v r=c.v r/\(fit d c).v0=c.v0:=by
 cases c with
 |c t E x=>
  have e:fit d (.c t E x)=bif Nat.beq (O8 E t.dep) (O8 d t.dep)then .c t d x else .c t E x:=rfl;rw[e];cases h:Nat.beq (O8 E t.dep) (O8 d t.dep)with
  |false=>simp
  |true=>
   have:=bqE h;rw[IK,IK]at this;exact⟨(LS this).symm,(LS this).symm⟩
 |_=>trivial
def L8(r:List Ac):List Cl->Option (List Cl×List (Option Nat))
 |[]=>some ([],[])
 |.rf id []::l=>match r.getD id .dead with
  |.arr false t d xs=>match L8 r l with
   |some (m,js)=>some (.c (.sl t) (d+1) xs::m,some id::js)
   |none=>none
  |_=>none
 |y::l=>bif y.imm then(match L8 r l with
   |some (m,js)=>some (y::m,none::js)
   |none=>none)else none
def apO:List (Option Nat)->Bool
 |[]=>true
 |none::l=>apO l
 |some a::l=>l.all (λb=>match b with
  |some b=>!Nat.beq a b
  |none=>true)&&apO l
def Vh:List (Option Nat)->List Nat
 |[]=>[]
 |none::l=>Vh l
 |some a::l=>a::Vh l
def tBSM(s:St)(n:Nat)(ps:List (Nat×Option Sl)):Option TI->Option LR
 |some j=>bif Nat.blt 0 j.ty.w&&Nat.ble (n*j.ty.w) 16777216 then(match UD (λi=>some (i*j.ty.w,j.ty.w)) (Abi n (Io j.ty)) ps with
   |some l=>match L8 s.r l with
    |some (m,js)=>bif apO js then(match Vh js with
     |[]=>none
     |_::_=>match Om j.ty j.sd n (m.map (fit j.sd))with
      |some xs=>some ⟨True,inferInstance,Vh js,.c (.sl j.ty) (j.sd+1) xs⟩
      |none=>none)else none
    |none=>none
   |none=>none)
  else none
 |none=>none
theorem XR:∀{l:List (Option Nat)},apO l=true->∀i k a,i<l.length->k<l.length->i≠k->l.getD i none=some a->l.getD k none≠some a
 |none::l,h,i,k,a,hi,e,hne,h1=>by
  cases i with
  |zero=>cases h1
  |succ i=>cases k with
   |zero=>intro E;cases E
   |succ k=>exact XR (l:=l) h i k a (by simpa using hi) (by simpa using e) (by omega) (by simpa using h1)
 |some b::l,h,i,k,a,hi,e,hne,h1=>by
  simp only[apO,bAE]at h;have key:∀k,k<l.length->l.getD k none≠some b:=by
   intro k e E;have J:=aET.1 h.1 (l.getD k none) (by simp[e])
   simp_all
  cases i with
  |zero=>
   grind
  |succ i=>cases k with
   |zero=>
    intro E
    simp_all
   |succ k=>exact XR (l:=l) h.2 i k a (by simpa using hi) (by simpa using e) (by omega) (by simpa using h1)
 |[],_,_,_,_,hi,_,_,_=>by simp at hi
def MP:∀{l:List (Option Nat)}{k a:Nat},k<l.length->l.getD k none=some a->a∈Vh l
 |none::l,k,a,hk,h=>by
  cases k with
  |zero=>cases h
  |succ k=>exact MP (l:=l) (by simpa using hk) (by grind)
 |some b::l,k,a,hk,h=>by
  cases k with
  |zero=>cases h;exact List.mem_cons_self ..
  |succ k=>exact mCM _ (MP (by simpa using hk) (by grind))
 |[],_,_,hk,_=>by grind
def ownF(F:Nat->Nat->Prop):Option Nat->Nat->Prop
 |some j=>F j
 |none=>noF
structure AaC(s:St)(w:World)(D:Nat->Prop)(F:Nat->Nat->Prop)(l m:List Cl)(js:List (Option Nat))(cvs:List Value):Prop where
 ml:m.length=l.length
 jl:js.length=l.length
 ro:∀j∈Vh js,j<s.r.length/\(s.r.getD j .dead).ro=false
 rel:∀k,k<l.length->Rel D w noR ((m.map Cl.v0).getD k .dead) (cvs.getD k undef) (ownF F (js.getD k none))
def L7{s:St}{w:World}{D:Nat->Prop}{ρ:Nat->Value}{F:Nat->Nat->Prop}(wr:Bs (s.r.map Ac.v) w D ρ F):∀(l m:List Cl) (js:List (Option Nat)) (cvs:List Value),L8 s.r l=some (m,js)->cvs.length=l.length->
  (∀k,k<l.length->Rel D w (Am (s.r.map Ac.v) ρ w) ((l.map (Cl.v s.r)).getD k .dead) (cvs.getD k undef) noF)->AaC s w D F l m js cvs
 |[],m,js,cvs,h,_,_=>by
  cases h;exact⟨rfl,rfl,λj W=>(by cases W),λk M=>by simp at M⟩
 |y::l,m,js,cvs,h,hl,hr=>by
  cases cvs with
  |nil=>simp at hl
  |cons cv cvs=>
  have O:Rel D w (Am (s.r.map Ac.v) ρ w) (y.v s.r) cv noF:=by simpa using hr 0 (by simp)
  have J:∀k,k<l.length->Rel D w (Am (s.r.map Ac.v) ρ w) ((l.map (Cl.v s.r)).getD k .dead) (cvs.getD k undef) noF:=λk M=>by simpa using hr (k+1) (by simpa using M)
  have imm:y.imm=true->∀L e,L8 s.r l=some (L,e)->AaC s w D F (y::l) (y::L) (none::e) (cv::cvs):=λY L e h1=>by
   obtain⟨g1,g2,g3,g4⟩:=L7 wr l L e cvs h1 (by simpa using hl) J
   refine⟨by simp[g1],by simp[g2],g3,λk M=>?_⟩
   cases k with
   |zero=>
    obtain⟨i1,i2⟩:=PW (r:=s.r) Y;show Rel D w noR y.v0 cv noF;rw[<-i2];exact CX i1 O
   |succ k=>simpa using g4 k (by simpa using M)
  unfold L8 at h;split at h
  .rename_i Z;cases Z
  .rename_i id l' Z
   cases Z;split at h
   case h_2=>cases h
   rename_i t d xs E;split at h
   case h_2=>cases h
   rename_i L e h1;cases h;obtain⟨g1,g2,g3,g4⟩:=L7 wr l L e cvs h1 (by simpa using hl) J
   have U:(Ae s.r id []).len=xs.length:=by
    show(s.r.getD id .dead).len=_;rw[E];rfl
   have O:Rel D w (Am (s.r.map Ac.v) ρ w) (.rs id [] 0 (Ae s.r id []).len) cv noF:=O;rw[U]at O
   have hσ:(s.r.map Ac.v).getD id .dead=.nd true true t.w xs.length (λi k=>(tyV t d (xs.getD i t.dflt)).getD k .dead):=by
    rw[Aq,E];rfl
   obtain⟨_,hrr⟩:=Mn wr hσ O.1;have hid:id<s.r.length:=by simpa using O.1.1
   refine⟨by simp[g1],by simp[g2],λj W=>?_,λk M=>?_⟩
   .rcases List.mem_cons.1 W with rfl|W
    .exact⟨hid,by rw[E];rfl⟩
    .exact g3 j W
   .cases k with
    |zero=>exact hrr
    |succ k=>simpa using g4 k (by simpa using M)
  .rename_i y' l' hne Z
   cases Z;obtain⟨hi,h⟩:=A7 h;split at h
   case h_2=>cases h
   rename_i L e h1;cases h;exact imm hi L e h1
theorem Aa3{P:Program}{Θ:Tab}(hΘ:Θ.OK P){C:Ctx}{h:Cz}{s s':St}{o:Oper}{t:TypeId}{n:Nat}{ps:Array (Nat×Operand)}{a:Act}{w:World}{A:LR}{d:Nat}{next:Act->World->Prop}{Q:Exit->Act->World->Prop}
  (ho:o.op=.buildSlice t n ps) (hdst:o.dst=some d) (hfz:h.fz.contains d=false) (ha:tBSM s n (ps.toList.map λp=>(p.1,s.ev p.2)) (((Θ.look t).bind (·.elem)).bind Θ.look)=some A) (hp:(Ap A.js s).put h (some d) (.one A.y)=some s')
  (hs:AU C h.n s.den a w) (hn:∀a' w',AU C h.n s'.den a' w'->next a' w'):o.wp P a w next Q:=by
 obtain⟨hdf,hdd,D,ρ,F,J⟩:=hs;unfold tBSM at ha;split at ha
 case h_2=>cases ha
 rename_i j hj;obtain⟨e,hsl,_⟩:=Dq hΘ hj;obtain⟨E,ha⟩:=A7 ha;simp only[bAE]at E;have hw:=LT E.1;have hnw:=blE E.2;split at ha
 case h_2=>cases ha
 rename_i l hl;split at ha
 case h_2=>cases ha
 rename_i m js hm;obtain⟨hap,ha⟩:=A7 ha;split at ha
 .cases ha
 rename_i j0 jr hjs;split at ha
 case h_2=>cases ha
 rename_i xs hxs;cases ha;obtain⟨h1,h2⟩:=Me _ _ _ hl;rw[Wx s.r j.ty n hw]at h2
 have hparts:LY s.den.σ w D ρ F (ps.toList.map λp=>(p.1,s.den.ev p.2)) (ps.toList.map λp=>(p.1,a.eval p.2)):=by
  refine⟨by simp,λk i v M=>?_⟩
  simp only[List.getElem?_map]at M⊢;cases U:ps.toList[k]? with
  |none=>simp[U]at M
  |some q=>
   simp only[U,Option.map_some,Option.some.injEq,Prod.mk.injEq]at M⊢;obtain⟨rfl,rfl⟩:=M;exact⟨_,⟨rfl,rfl⟩,noF,Bu J hdd q.2,λ_ h=>h.elim,λ_ _ _ h=>h⟩
 obtain⟨L,hrun,hrel,hll⟩:=bs_run (P:=P) ho hparts hsl h1 hw hnw h2;have hlen:l.length=n*j.ty.w:=by simpa using hll
 obtain⟨g1,g2,g3,g4⟩:=L7 J.wr l m js L.toList hm (by have:=hrel.1;simp at this;simpa using this) (λk M=>by
  have:=hrel.2 k (by simpa using M)
  simpa [St.den]using this)
 obtain⟨p1,p2,p3⟩:=PE s.r n _ xs hxs
 have hfitv:∀k,((m.map (fit j.sd)).map (Cl.v s.r)).getD k .dead=(m.map Cl.v0).getD k .dead:=by
  intro k;rw[p2,List.map_map]
  congr 1
  exact List.map_congr_left λy _=>(Ab8 _ s.r y).2
 let Fy:Nat->Nat->Nat->Prop:=λi k=>ownF F (js.getD (i*j.ty.w+k) none)
 have hFy:∀i k b,Fy i k b->∃q,js.getD (i*j.ty.w+k) none=some q/\F q b:=by
  intro i k b E;simp only[Fy]at E;cases U:js.getD (i*j.ty.w+k) none with
  |none=>rw[U]at E;exact E.elim
  |some q=>rw[U]at E;exact⟨q,rfl,E⟩
 have O:∀i k,i<n->k<j.ty.w->i*j.ty.w+k<l.length:=λi k Y M=>by rw[hlen];exact Q2 Y M
 have hG:∀i k b,i<n->k<j.ty.w->Fy i k b->∃q∈Vh js,F q b:=by
  intro i k b Y M E;obtain⟨q,U,E⟩:=hFy i k b E;exact⟨q,MP (by rw[g2];exact O i k Y M) U,E⟩
 have hblk:(w.alloc (.cells L e)).heap[w.heap.size]? =some (.cells L e (0,0)):=heap_alloc_new w _;have Z:∀b,b<w.heap.size->(w.alloc (.cells L e)).heap[b]? =w.heap[b]?:=λb E=>Below.heap_alloc _ _ _ E
 have hsz:L.size=n*j.ty.w:=by rw[hrel.1];exact hll
 have hr:Rel D (w.alloc (.cells L e)) noR (.nd true true j.ty.w n λi k=>(m.map Cl.v0).getD (i*j.ty.w+k) .dead) (.slice (some ⟨w.heap.size,0,none⟩) n n) (λb=>b=w.heap.size\/∃i k,i<n/\k<j.ty.w/\Fy i k b):=by
  refine .inr ⟨w.heap.size,0,n,Fy,rfl,Nat.le_refl _,?_,(λh=>by cases h),λi k Y M=>?_,(λh=>by cases h),λ_=>⟨⟨L,e,.plain hblk,by rw[hsz,Nat.zero_add];exact Nat.le_refl _⟩,λi k Y M hF=>?_,λi k i' k' b Y M hi' hk' hne hF hF'=>?_,λ_=>Iff.rfl⟩⟩
  .have:=Nat.le_mul_of_pos_right n hw;unfold maxLen;omega
  .have hlt:=O i k Y M
   refine⟨L.getD (i*j.ty.w+k) undef,?_,?_⟩
   .rw[cellRow hblk,Nat.zero_add]
    have:i*j.ty.w+k<L.size:=by rw[hsz,<-hlen];exact hlt
    simp[this]
   .have h5:=g4 _ hlt
    have h6:Rel D w noR ((m.map Cl.v0).getD (i*j.ty.w+k) .dead) (L.getD (i*j.ty.w+k) undef) (Fy i k):=by
     show Rel D w noR _ _ (ownF F (js.getD (i*j.ty.w+k) none));simpa using h5
    refine Rel.mono (λ_ h=>h) (λ_ _ h=>h) _ _ _ (λb E=>Z b ?_) h6
    rcases E with E|E
    .exact J.wr.Dlt b E
    .exact Rel.lt _ _ _ h6 b E
  .obtain⟨q,_,U⟩:=hG i k _ Y M hF
   have:=J.wr.lt q _ U;omega
  .obtain⟨q,U,hF⟩:=hFy i k b hF
   obtain⟨q',hq',hF'⟩:=hFy i' k' b hF';have hne2:i*j.ty.w+k≠i'*j.ty.w+k':=by
    intro he;have e1:=congrArg (· /j.ty.w) he
    have e2:=congrArg (· % j.ty.w) he
    simp only[Ke M,Ke hk',Kd M,Kd hk']at e1 e2;omega
   have:=XR hap _ _ q (by rw[g2];exact O i k Y M) (by rw[g2];exact O i' k' hi' hk') hne2 U
   exact J.wr.disj q q' b (λe=>this (by rw[hq',e])) hF hF'
 obtain⟨F',hcr',hF'⟩:=Cv (Vh js) J (λq U=>(g3 q U).1)
 have hr2:Rel D (w.alloc (.cells L e)) noR (cV (.sl j.ty) (j.sd+1) xs) (.slice (some ⟨w.heap.size,0,none⟩) n n) (λb=>b=w.heap.size\/∃i k,i<n/\k<j.ty.w/\Fy i k b):=by
  refine Rel.sub ?_ hr;show Sub _ (V.nd true true j.ty.w xs.length λi k=>(tyV j.ty j.sd (xs.getD i j.ty.dflt)).getD k .dead)
  rw[p1];refine⟨_,rfl,λi k Y M=>?_⟩
  have:=p3 i k Y M;rw[hfitv]at this;exact this
 have hfpG:∀b,(b=w.heap.size\/∃i k,i<n/\k<j.ty.w/\Fy i k b)->(∃q∈Vh js,F q b)\/w.heap.size<=b:=by
  rintro b (rfl|⟨i,k,Y,M,hF⟩)
  .exact .inr (Nat.le_refl _)
  .exact .inl (hG i k b Y M hF)
 have hc:=CR.own hcr' (w':=w.alloc (.cells L e)) (G:=λb=>∃q∈Vh js,F q b) (D':=D) (λi b E ⟨q,U,W⟩=>by
   obtain⟨h1,h2⟩:=hF' i b E;exact J.wr.disj i q b (λe=>h2 (e▸U)) h1 W) (λb E ⟨q,_,W⟩=>J.wr.dD q b W E) (λb ⟨q,_,W⟩=>J.Fn q b W) rfl rfl rfl (Nat.le_refl _) (by simp) (λc hc _=>Z c hc) hr2 hfpG
  (λ_ h=>h) (λ_ h=>.inl h) (λb E=>⟨by have:=J.wr.Dlt b E;simp;omega,λh=>by
   rcases hfpG b h with⟨q,_,W⟩|h2
   .exact J.wr.dD q b W E
   .have:=J.wr.Dlt b E;omega⟩) d
 have hs':=WX (h:=h) hdf (BK (Vh js) hdd) hfz hp hc;unfold Oper.wp;rw[hrun];show next (a.put o.dst _) _
 rw[hdst];exact hn _ _ hs'
end Go.Ve

