/- The typed machine: addresses, arithmetic, texts, slices of slices, new memory. -/
import Derived.Test.YtojjlnbnneemaaaTb
set_option linter.all false
namespace Go.Ve
variable{ats:Array TypeId}{op:BinOp}{r:Bool}{va:List Value}{k n:Nat}{i x y:Operand}{P:Program}{a:TR}{t:TypeId}
structure Dy where
 t:Ty
 x:t.T
def IS(t:Ty)(y:Dy):Option t.T:=if h:y.t=t then some (h▸y.x)else none
theorem Hy{t:Ty}{y:Dy}{x:t.T}(h:IS t y=some x):(⟨t,x⟩:Dy)=y:=by
 unfold IS at h;split at h
 .rename_i e;subst e;cases h;rfl
 grind
def Ty.one:Ty->Bool
 |.unit=>false
 |.pair _ _=>false
 |_=>true
def BO{t:Ty}(h:t.one=true)(d:Nat)(x:t.T):tyV t d x=[cV t d x]:=by
 cases t<;>first|rfl|cases h
def DO:List Cl->Option Dy
 |[]=>some ⟨.unit,()⟩
 |y::l=>match y with
  |.c t _ x=>bif t.one then(match l with
   |[]=>some ⟨t,x⟩
   |_::_=>match DO l with
    |some ⟨A,e⟩=>some ⟨.pair t A,(x,e)⟩
    |none=>none)else none
  |_=>none
theorem Ha:∀(l:List Cl) (y:Dy),DO l=some y->tyV y.t 0 y.x=(l.map Cl.v0).map frz:=by
 intro l
 induction l with
 |nil=>intro y h;cases h;rfl
 |cons a l E=>
  intro y h;unfold DO at h;split at h
  case h_2=>cases h
  rename_i t d x;obtain⟨ho,h⟩:=A7 h
  have e:[frz (cV t d x)]=tyV t 0 x:=by
   have:=Bl t d x;rw[BO ho]at this;simpa using this
  split at h
  .cases h
   exact e.symm
  .rename_i b J
   split at h
   case h_2=>cases h
   rename_i B A F;cases h;show tyV t 0 x++tyV B 0 A=frz (cV t d x)::_;rw[E _ F,<-e];rfl
def Wg(s:St):Option TI->Nat->Option Sl->Option TR
 |some i,k,some (.one (.c (.ptr t) 0 x))=>
  match i.flds[k]? with
  |some (off,fs)=>match DO (((AA t 0 x).drop off).take fs)with
   |some ⟨A,e⟩=>bif Nat.ble (off+fs) t.w then some (.ok (.one (.c (.ptr A) 0 e)))else none
   |none=>none
  |none=>none
 |some i,k,some (.one (.rp id p j k0))=>
  match i.flds[k]? with
  |some (off,_)=>bif(Ae s.r id p).live&&Nat.blt (k0+off) (Ae s.r id p).w then some (.ok (.one (.rp id p j (k0+off))))else none
  |none=>none
 |some i,k,some (.pk .bx l)=>
  match i.flds[k]? with
  |some (off,fs)=>bif Nat.ble (off+fs) l.length&& !((l.drop off).take fs).any Cl.own then some (.ok (.pk .bx ((l.drop off).take fs)))else none
  |none=>none
 |_,_,_=>none
def Is(s:St):Option TI->Option Sl->Option Sl->Option TR
 |some i,some (.one (.c (.sl t) 0 xs)),some (.one (.c (.int _) _ n))=>
  bif Nat.beq t.w i.ty.w&&Nat.blt 0 i.ty.w then some (.cnd (0<=n/\n<ofN (H4 xs)) inferInstance (.one (.c (.ptr t) 0 (AcB xs (KQ n) t.dflt))))else none
 |some i,some (.one (.rf id p)),some (.one (.c (.int _) _ n))=>
  match Ae s.r id p with
  |.arr _ t _ xs=>bif Nat.beq t.w i.ty.w&&Nat.blt 0 i.ty.w then some (.cnd (0<=n/\n<ofN (H4 xs)) inferInstance (.one (.rp id p (KQ n) 0)))else none
  |_=>none
 |some i,some (.one (.rs id p off len)),some (.one (.c (.int _) _ n))=>
  match Ae s.r id p with
  |.arr _ t _ _=>bif Nat.beq t.w i.ty.w&&Nat.blt 0 i.ty.w then some (.cnd (0<=n/\n<ofN len) inferInstance (.one (.rp id p (off+KQ n) 0)))else none
  |_=>none
 |_,_,_=>none
def boolsL:List Cl->Option (List Bool)
 |[]=>some []
 |.c .bool _ b::l=>match boolsL l with
  |some bs=>some (b::bs)
  |none=>none
 |_=>none
def Wf(_:Option TI)(_ _:Option Sl):Option TR:=none
def tNil:Option Sl->Option TR
 |some (.one (.c (.ptr t) 0 x))=>some (.ok (.one (.c (.ptr t) 0 x)))
 |some (.one (.rp id p i k))=>some (.ok (.one (.rp id p i k)))
 |some (.pk .bx l)=>bif l.any Cl.own then none else some (.ok (.pk .bx l))
 |_=>none
def Aai:List Cl->List Cl->Option Bool
 |[],[]=>some true
 |.c (.int k) _ a::l,.c (.int k') _ b::m=>if k'=k then(match Aai l m with
  |some r=>some (AcI (eqI a b) r)
  |none=>none)else none
 |.c .bool _ a::l,.c .bool _ b::m=>match Aai l m with
  |some r=>some (AcI (eqB a b) r)
  |none=>none
 |.c .str _ a::l,.c .str _ b::m=>match Aai l m with
  |some r=>some (AcI (eqS a b) r)
  |none=>none
 |_,_=>none
def kCs:List Nat->List Cl->Bool
 |[],[]=>true
 |k::ks,.c (.int _) _ _::l=>Nat.beq k 0&&kCs ks l
 |k::ks,.c .bool _ _::l=>Nat.beq k 1&&kCs ks l
 |k::ks,.c .str _ _::l=>Nat.beq k 2&&kCs ks l
 |_,_=>false
def tEq(op:BinOp)(r:Bool):Option TR:=match op with
 |.eql=>some (.ok (.one (.c .bool 0 r)))
 |.neq=>some (.ok (.one (.c .bool 0 (notB r))))
 |_=>none
def tsh(op:BinOp)(k:IntKind)(a b:Int):Option TR:=match op with
 |.shl=>some (.cnd (0<=b) inferInstance (.one (.c (.int k) 0 (shlI k a b))))
 |.shr=>some (.cnd (0<=b) inferInstance (.one (.c (.int k) 0 (Aa8 k a b))))
 |_=>none
def tBin(i:Option TI)(op:BinOp):Option Sl->Option Sl->Option TR
 |some (.one (.c .bool _ a)),some (.one (.c .bool _ b))=>match i with
  |some i=>(match i.eq with
   |some ks=>bif(match ks with
     |[k]=>Nat.beq k 9
     |_=>false)then tEq op (eqB a b)else none
   |none=>none)
  |none=>none
 |some (.agg l),some (.agg m)=>match i with
  |some i=>(match i.eq with
   |some ks=>bif kCs ks l&&kCs ks m then(match Aai l m with
    |some r=>tEq op r
    |none=>none)else none
   |none=>none)
  |none=>none
 |some (.one (.c (.int k) _ a)),some (.one (.c (.int k') _ b))=>match tsh op k a b with
  |some r=>some r
  |none=>if k'=k then match op with
   |.and=>some (.ok (.one (.c (.int k) 0 (AaB k a b))))
   |.andNot=>some (.ok (.one (.c (.int k) 0 (AcH k a b))))
   |.add=>some (.ok (.one (.c (.int k) 0 (k.wrap (a+b)))))
   |.sub=>some (.ok (.one (.c (.int k) 0 (k.wrap (a-b)))))
   |.mul=>some (.ok (.one (.c (.int k) 0 (k.wrap (a*b)))))
   |.quo=>some (.cnd (b≠0) inferInstance (.one (.c (.int k) 0 (k.wrap (a.tdiv b)))))
   |.rem=>some (.cnd (b≠0) inferInstance (.one (.c (.int k) 0 (a.tmod b))))
   |.eql=>some (.ok (.one (.c .bool 0 (eqI a b))))
   |.neq=>some (.ok (.one (.c .bool 0 (neI a b))))
   |.lss=>some (.ok (.one (.c .bool 0 (ltI a b))))
   |.leq=>some (.ok (.one (.c .bool 0 (leI a b))))
   |.gtr=>some (.ok (.one (.c .bool 0 (ltI b a))))
   |.geq=>some (.ok (.one (.c .bool 0 (leI b a))))
   |_=>none
  else none
 |some (.one (.c .str _ a)),some (.one (.c .str _ b))=>match op with
   |.add=>some (.cnd ((NJ a+NJ b:Nat)<=9223372036854775807) inferInstance (.one (.c .str 0 (catS a b))))
   |.eql=>some (.ok (.one (.c .bool 0 (eqS a b))))
   |.neq=>some (.ok (.one (.c .bool 0 (neS a b))))
   |.lss=>some (.ok (.one (.c .bool 0 (ltS a b))))
   |_=>none
 |some (.one (.c (.sl _) 0 xs)),some (.one .nil)=>match i with
  |some i=>bif !i.str&&i.elem.isSome then(match op with
   |.eql=>some (.cnd (0<H4 xs) inferInstance (.one (.c .bool 0 false)))
   |.neq=>some (.cnd (0<H4 xs) inferInstance (.one (.c .bool 0 true)))
   |_=>none)else none
  |none=>none
 |_,_=>none
def tUn(op:UnOp):Option Sl->Option TR
 |some (.one (.c .bool _ b))=>match op with
  |.not=>some (.ok (.one (.c .bool 0 (notB b))))
  |_=>none
 |some (.one (.c (.int k) _ n))=>match op with
  |.neg=>some (.ok (.one (.c (.int k) 0 (k.wrap (0-n)))))
  |_=>none
 |_=>none
def u8r(r:List Ac):Sl->Option (List Int)
 |.one (.c (.sl (.int .u8)) _ xs)=>some xs
 |.one (.rf id p)=>match Ae r id p with
  |.arr _ (.int .u8) _ xs=>some xs
  |_=>none
 |_=>none
def Aa2(r:List Ac):Option TI->Option TI->Option TI->Option TI->Option Sl->Option TR
 |some _,some j,_,_,some (.one (.c (.int _) _ n))=>match j.ik with
  |some k=>some (.ok (.one (.c (.int k) 0 (k.wrap n))))
  |none=>none
 |some i,some j,_,f,some (.one (.c .str _ b))=>match i.str,j.str with
  |true,true=>some (.ok (.one (.c .str 0 b)))
  |true,false=>match f.bind (·.ik)with
   |some .u8=>some (.cnd (NJ b<=9223372036854775807) inferInstance (.one (.c (.sl (.int .u8)) 1 (Ht b))))
   |_=>none
  |_,_=>none
 |some i,some j,some e,_,some y=>match u8r r y,e.ik with
  |some xs,some .u8=>bif !i.str&&j.str then some (.ok (.one (.c .str 0 (strOfNums xs))))else none
  |_,_=>none
 |_,_,_,_,_=>none
def Mg(k:Nat):Option Sl->Option TR
 |some (.tup l)=>match l[k]? with
  |some (true,cs)=>bif cs.any Cl.own then none else some (.ok (.agg cs))
  |some (false,[c])=>bif c.own then none else some (.ok (.one c))
  |_=>none
 |_=>none
def slLen(s:St):Sl->Option Nat
 |.one (.c (.sl _) _ xs)=>some (H4 xs)
 |.one .nil=>some 0
 |.one (.rf id p)=>some (Ae s.r id p).len
 |.one (.rs _ _ _ len)=>some len
 |_=>none
def tLen(s:St):Option TI->Option Sl->Option TR
 |some i,some y=>bif i.str then(match y with
   |.one (.c .str _ b)=>some (.ok (.one (.c (.int .i64) 0 (ofN (NJ b)))))
   |_=>none)
  else bif i.elem.isSome then(match slLen s y with
   |some n=>some (.ok (.one (.c (.int .i64) 0 (ofN n))))
   |none=>none)
  else none
 |_,_=>none
def tMin:Option Sl->Option Sl->Option TR
 |some (.one (.c (.int k) _ x)),some (.one (.c (.int _) _ y))=>some (.ok (.one (.c (.int k) 0 (X7 x y))))
 |_,_=>none
def tMax:Option Sl->Option Sl->Option TR
 |some (.one (.c (.int k) _ x)),some (.one (.c (.int _) _ y))=>some (.ok (.one (.c (.int k) 0 (maxI x y))))
 |_,_=>none
section sound
variable {P:Program}{Θ:Tab}{s:St}
theorem NB(E:Θ.OK P)(h:Wg s (Θ.look t) k (s.ev x)=some a):QS P s (.fieldAddr t x k) a.y:=by
 unfold Wg at h;split at h
 case h_4=>cases h
 .rename_i i U O L J
  split at h
  case h_2=>cases h
  rename_i off fs M;split at h
  case h_2=>cases h
  rename_i t2 x2 hd;obtain⟨A,h⟩:=A7 h;have A:=blE A;cases h;show JV (Vm P t _) (s.r.map Ac.v) (s.den.ev x) (SK s _);rw[E.fld L M,Bh J];refine⟨by rw[AB];exact A,?_⟩
  have e:=Ha _ _ hd;rw[List.map_take,List.map_drop,Bv,List.map_take,List.map_drop,Bl]at e;show Sub _ (Bi false (tyV t2 0 x2));rw[e];show Sub (V.nd false false fs 1 λi k=>([tyV U 0 O].getD i []).getD (off+k) .dead) (Bi false (((tyV U 0 O).drop off).take fs))
  unfold Bi;have W:(((tyV U 0 O).drop off).take fs).length=fs:=by rw[List.length_take,List.length_drop,AB];omega
  rw[W];refine⟨_,rfl,λi' k' hi' Y=>?_⟩
  obtain rfl:i'=0:=by omega
  refine Sub.of_eq ?_;simp[List.getElem?_take,Y]
 .rename_i i id p j k0 L J
  split at h
  case h_2=>cases h
  rename_i off fs M;obtain⟨A,h⟩:=A7 h;simp only[bAE]at A;cases h;show JV (Vm P t _) (s.r.map Ac.v) (s.den.ev x) (SK s _);rw[E.fld L M,Bh J];refine⟨by rw[Cj A.1];exact blE A.2,Sub.refl _⟩
 .rename_i i l L J
  split at h
  case h_2=>cases h
  rename_i off fs M;obtain⟨A,h⟩:=A7 h;cases h;simp only[bAE,Bool.not_eq_true']at A;have Z:=blE A.1;show JV (Vm P t _) (s.r.map Ac.v) (s.den.ev x) (SK s _);rw[E.fld L M,Bh J];have W:((l.drop off).take fs).length=fs:=by simp;omega
  have B:∀k,k<fs->((l.drop off).take fs).getD k .dead=l.getD (off+k) .dead:=λk F=>by simp[List.getElem?_take,F]
  have hv:∀k,(l.map (Cl.v s.r)).getD (off+k) .dead=(l.getD (off+k) .dead).v s.r:=λk=>AG (f:=Cl.v s.r) (a:=.dead) rfl _ _
  show(off+fs<=(l.map (Cl.v s.r)).length/\((List.range fs).all λk=>!AS ((l.map (Cl.v s.r)).getD (off+k) .dead))=true)/\Sub (V.many .bx fs λk=>(l.map (Cl.v s.r)).getD (off+k) .dead) (boxL (((l.drop off).take fs).map (Cl.v s.r)))
  refine⟨⟨by simpa using Z,?_⟩,?_⟩
  .rw[aET]
   intro k F;have F:=List.mem_range.1 F;show(!AS ((l.map (Cl.v s.r)).getD (off+k) .dead))=true;rw[hv,Cl.own_v,<-B k F]
   have h2:=List.any_eq_false.1 A.2 (((l.drop off).take fs).getD k .dead) (by
    rw[gDE,gEE (by omega)]
    exact List.getElem_mem _)
   simpa using h2
  .show Sub _ (V.many .bx _ _)
   rw[List.length_map,W];refine⟨_,rfl,λk F=>Sub.of_eq ?_⟩
   show(l.map (Cl.v s.r)).getD (off+k) .dead=_;rw[hv,AG (f:=Cl.v s.r) (a:=.dead) rfl,B k F]
theorem IX{a b:Nat}{c:Bool}(h:(Nat.beq a b&&c)=true):a=b/\c=true:=by simp_all
theorem LT(h:Nat.blt 0 n=true):0<n:=by simp_all
theorem Dq(A:Θ.OK P){j:TI}(h:((Θ.look t).bind (·.elem)).bind Θ.look=some j):∃e,slI P t=some ⟨e,j.ty.w,j.bytes,B1 j.ty⟩/\∃i,Θ.look t=some i/\i.elem=some e/\Θ.look e=some j:=by
 cases E:Θ.look t with
 |none=>grind
 |some i=>
  rw[E]at h;cases B:i.elem with
  |none=>grind
  |some e=>
   simp[B]at h;exact⟨e,A.elem E B h,i,rfl,B,h⟩
theorem Jf(F:Θ.OK P)(h:Is s (((Θ.look t).bind (·.elem)).bind Θ.look) (s.ev x) (s.ev i)=some a)(W:a.p):QS P s (.indexAddr t x i) a.y:=by
 unfold Is at h;split at h
 case h_4=>cases h
 .rename_i j E xs _ _ n O M J
  obtain⟨e,A,_⟩:=Dq F O;obtain⟨U,h⟩:=A7 h;cases h;obtain⟨L,B⟩:=IX U;have B:=LT B;obtain⟨p1,p2⟩:0<=n/\n<xs.length:=W;show B7 (slI P t) (s.r.map Ac.v) (s.den.ev x) (s.den.ev i) (SK s _);rw[A,Bh M,Bh J];refine⟨L,by rw[L];exact B,⟨p1,p2⟩,?_⟩
  show Sub (V.nd false false E.w 1 λ_ k=>(tyV E 0 (xs.getD n.toNat E.dflt)).getD k .dead) (Bi false (tyV E 0 (xs.getD n.toNat E.dflt)))
  unfold Bi;rw[AB];refine⟨_,rfl,λi k J _=>?_⟩
  obtain rfl:i=0:=by omega
  exact Sub.refl _
 .rename_i j id p _ _ n O M J
  obtain⟨e,A,_⟩:=Dq F O;split at h
  case h_2=>cases h
  rename_i ro E d xs hn;have Y:Ae s.r id p≠.dead:=by rw[hn];simp
  obtain⟨U,h⟩:=A7 h;cases h;obtain⟨L,B⟩:=IX U;have B:=LT B;obtain⟨p1,p2⟩:0<=n/\n<xs.length:=W;show B7 (slI P t) (s.r.map Ac.v) (s.den.ev x) (s.den.ev i) (SK s _);rw[A,Bh M,Bh J];have Z:(Ae s.r id p).len=xs.length:=by rw[hn];rfl
  refine⟨by rw[Cj (by rw[hn];rfl),hn];exact L,B,⟨p1,by rw[Z];exact p2⟩,?_⟩
  show Sub (V.rp id p (0+n.toNat) 0) (V.rp id p n.toNat 0);rw[Nat.zero_add];exact Sub.refl _
 .rename_i j id p off len _ _ n O M J
  obtain⟨e,A,_⟩:=Dq F O;split at h
  case h_2=>cases h
  rename_i ro E d xs hn;have Y:Ae s.r id p≠.dead:=by rw[hn];simp
  obtain⟨U,h⟩:=A7 h;cases h;obtain⟨L,B⟩:=IX U;have B:=LT B;show B7 (slI P t) (s.r.map Ac.v) (s.den.ev x) (s.den.ev i) (SK s _);rw[A,Bh M,Bh J];exact⟨by rw[Cj (by rw[hn];rfl),hn];exact L,B,W,Sub.refl _⟩
def Nz(e:Θ.OK P)(h:Wf (Θ.look t) (s.ev x) (s.ev i)=some a)(A:a.p):QS P s (.index t x i) a.y:=by
 unfold Wf at h;cases h
theorem Uw(h:tNil (s.ev x)=some a):QS P s (.nilCheck x) a.y:=by
 unfold tNil at h;split at h<;>try grind
 .rename_i e
  cases h;show Abk (s.den.ev x) (SK s _);rw[Bh e];exact Sub.refl _
 .rename_i e
  cases h;show Abk (s.den.ev x) (SK s _);rw[Bh e];rfl
 .rename_i l e
  cases ho:l.any Cl.own with
  |true=>grind
  |false=>
   rw[ho]at h;cases h;show Abk (s.den.ev x) (SK s _);rw[Bh e];refine⟨?_,Sub.refl _⟩;show AS (Sl.v s.r (.pk .bx l))=false;rw[Sl.own_v]
   trivial
theorem Xj{l:List Cl}:∀{ks:List Nat},kCs ks l=true->ks≠[9]:=by
 rintro ks h rfl
 cases l with
 |nil=>cases h
 |cons y l=>
  cases y<;>try trivial
  rename_i t d x;cases t<;>cases h
def Q7(r:List Ac):∀(ks:List Nat) (l m:List Cl) (z:Bool),kCs ks l=true->kCs ks m=true->Aai l m=some z->
  ∃va B:List Value,l.map (Cl.v r)=va.map V.c/\m.map (Cl.v r)=B.map V.c/\okL ks va B=true/\HA va B=z
 |[],[],[],z,_,_,h=>by cases h;exact⟨[],[],rfl,rfl,rfl,rfl⟩
 |[],[],_::_,_,_,h,_=>by cases h
 |[],_::_,_,_,h,_,_=>by cases h
 |_::_,[],_,_,h,_,_=>by cases h
 |_::_,_::_,[],_,_,h,_=>by cases h
 |k::ks,a::l,b::m,z,e,E,h=>by
  cases a<;>try (cases e;done)
  cases b<;>try (cases E;done)
  rename_i t d x Z d' A;cases t<;>try (cases e;done)
  .rename_i q
   cases Z<;>try (cases h;done)
   rename_i F
   have h:(if F=q then(match Aai l m with
    |some r=>some (AcI (eqI x A) r)
    |none=>none)else none)=some z:=h
   split at h
   case isFalse=>cases h
   rename_i hq;subst hq;split at h
   case h_2=>cases h
   rename_i J M;cases h;have e:(Nat.beq k 0&&kCs ks l)=true:=e;have E:(Nat.beq k 0&&kCs ks m)=true:=E;rw[bAE]at e E;obtain⟨va,B,Y,W,U,O⟩:=Q7 r ks l m J e.2 E.2 M;have L:=bqE e.1;subst L;refine⟨.int F x::va,.int F A::B,?_,?_,?_,?_⟩
   .rw[List.map_cons,List.map_cons,Y];rfl
   .rw[List.map_cons,List.map_cons,W];rfl
   .show((kOf (.int F x)==some 0)&&(kOf (.int F A)==some 0)&&CA (.int F x) (.int F A)&&okL ks va B)=true
    rw[U];simp[kOf,CA]
   .show(vEq (.int F x) (.int F A)&&HA va B)=_
    rw[O];rfl
  .cases Z<;>try (cases h;done)
   have h:(match Aai l m with
    |some r=>some (AcI (eqB x A) r)
    |none=>none)=some z:=h
   split at h
   case h_2=>cases h
   rename_i J M;cases h;have e:(Nat.beq k 1&&kCs ks l)=true:=e;have E:(Nat.beq k 1&&kCs ks m)=true:=E;rw[bAE]at e E;obtain⟨va,B,Y,W,U,O⟩:=Q7 r ks l m J e.2 E.2 M;have L:=bqE e.1;subst L;refine⟨.bool x::va,.bool A::B,?_,?_,?_,?_⟩
   .rw[List.map_cons,List.map_cons,Y];rfl
   .rw[List.map_cons,List.map_cons,W];rfl
   .show((kOf (.bool x)==some 1)&&(kOf (.bool A)==some 1)&&CA (.bool x) (.bool A)&&okL ks va B)=true
    rw[U];simp[kOf,CA]
   .show(vEq (.bool x) (.bool A)&&HA va B)=_
    rw[O];rfl
  .cases Z<;>try (cases h;done)
   have h:(match Aai l m with
    |some r=>some (AcI (eqS x A) r)
    |none=>none)=some z:=h
   split at h
   case h_2=>cases h
   rename_i J M;cases h;have e:(Nat.beq k 2&&kCs ks l)=true:=e;have E:(Nat.beq k 2&&kCs ks m)=true:=E;rw[bAE]at e E;obtain⟨va,B,Y,W,U,O⟩:=Q7 r ks l m J e.2 E.2 M;have L:=bqE e.1;subst L;refine⟨.string x::va,.string A::B,?_,?_,?_,?_⟩
   .rw[List.map_cons,List.map_cons,Y];rfl
   .rw[List.map_cons,List.map_cons,W];rfl
   .show((kOf (.string x)==some 2)&&(kOf (.string A)==some 2)&&CA (.string x) (.string A)&&okL ks va B)=true
    rw[U];simp[kOf,CA]
   .show(vEq (.string x) (.string A)&&HA va B)=_
    rw[O];rfl
theorem ZW{D:Nat->Prop}{w:World}{R:V->Value->Prop}{cx:Value}{fp:Nat->Prop}(h:Rel D w R (Aj (va.map V.c)) cx fp):cx=.agg va.toArray:=by
 obtain⟨cs,F,e,A,E⟩:=h;subst e
 congr 1
 apply Array.ext
 .simp[A]
 .intro i M J
  have B:=by simpa using J
  have:=E.1 i (by omega)
  have e:(va.map V.c).getD i .dead=.c va[i]:=by simp[B]
  have this:Rel D w R ((va.map V.c).getD i .dead) (cs.getD i undef) (F i):=this;rw[e]at this;have L:=this.1
  simp_all
def Kw{a b:Bool}{k:List Nat}(E:MX P t=some [9])(h:(op=.eql/\r=(a==b))\/(op=.neq/\r= !(a==b))):Il P op t x y (.c (.bool a)) (.c (.bool b)) (.c (.bool r)):=by
 intro w D R cx F B A;obtain⟨rfl,_⟩:=B;obtain⟨rfl,_⟩:=A;refine⟨.bool r,?_,rfl,rfl,λ_ h=>h⟩
 have e:=Vs w (a:=a) (b:=b) E;rcases h with⟨rfl,rfl⟩|⟨rfl,rfl⟩
 .simp[eqGuard,binOp,e]
 .simp[eqGuard,binOp,e]
def LW{e:List Value}{ks:List Nat}(J:MX P t=some ks)(hn:ks≠[9])(ho:okL ks va e=true)(h:(op=.eql/\r=HA va e)\/(op=.neq/\r= !HA va e)):Il P op t x y (Aj (va.map V.c)) (Aj (e.map V.c)) (.c (.bool r)):=by
 intro w D R cx L B A;have B:=ZW B;have A:=ZW A;subst B;subst A;refine⟨.bool r,?_,rfl,rfl,λ_ h=>h⟩
 obtain⟨F,E⟩:=OQ w J hn ho;rcases h with⟨rfl,rfl⟩|⟨rfl,rfl⟩
 .simp[eqGuard,binOp,F,E]
 .simp[eqGuard,binOp,F,E]
def Mb(va:List Value):AS (Aj (va.map V.c))=false:=by
 rw[Wd,List.any_map,List.any_eq_false];simp[AS]
theorem LV{sz:Nat}{f:Nat->Nat->V}(A:Nm P t=.slice)(hn:0<n)(ho:(op=.eql/\r=false)\/(op=.neq/\r=true)):Il P op t x y (.nd true false sz n f) (.c (.slice none 0 0)) (.c (.bool r)):=by
 intro w D R cx M L B;have E:∃e,P.underlying t=some (.slice e):=by
  unfold Nm at A;split at A
  .cases A
  .exact⟨_,by assumption⟩
  .cases A
 obtain⟨e,E⟩:=E;rcases L with⟨O,_⟩|⟨b,o,cap,F,rfl,_⟩
 .omega
 have B:M=.slice none 0 0:=B.1;subst B;refine⟨.bool r,?_,rfl,rfl,λ_ h=>h⟩
 have J:(Op.equal t (.slice (some ⟨b,o,none⟩) n cap) (.slice none 0 0)).run P w=.ok false w:=by
  unfold Op.equal;rw[show Op.maxDepth=9999+1 from rfl]
  unfold Op.equalIn;simp[run_underlying E]
 rcases ho with⟨rfl,rfl⟩|⟨rfl,rfl⟩
 .simp[AD,eqGuard,binOp,J]
 .simp[AD,eqGuard,binOp,J]
theorem UF{Θ:Tab}{s:St}(L:Θ.OK P){yt:TypeId}(h:tBin (Θ.look t) op (s.ev x) (s.ev y)=some a)(U:a.p):QS P s (.binOp op t x y yt) a.y:=by
 unfold tBin at h;split at h
 case h_6=>cases h
 rotate_left 4
 .rename_i t1 xs E B
  split at h
  case h_2=>cases h
  rename_i i Y;cases A:(!i.str&&i.elem.isSome)with
  |false=>rw[A]at h;cases h
  |true=>
   rw[A]at h;simp only[bAE,Bool.not_eq_true']at A;have W:Nm P t=.slice:=by
    rw[L.ln Y,A.1];obtain⟨e,he⟩:=Option.isSome_iff_exists.1 A.2;rw[he];rfl
   simp only[cond_true]at h;show UY P op t x y (s.den.ev x) (s.den.ev y) (SK s _);rw[Bh E,Bh B];show ∃z,Il P op t x y (.nd true false t1.w xs.length λi k=>(tyV t1 0 (xs.getD i t1.dflt)).getD k .dead) (.c (.slice none 0 0)) z/\_/\_/\SK s _ z
   split at h
   .cases h
    exact⟨.c (.bool false),LV W U (.inl ⟨rfl,rfl⟩),rfl,rfl,Sub.refl _⟩
   .cases h
    exact⟨.c (.bool true),LV W U (.inr ⟨rfl,rfl⟩),rfl,rfl,Sub.refl _⟩
   .cases h
 .rename_i _ J _ Z E B
  split at h
  case h_2=>cases h
  rename_i i Y;split at h
  case h_2=>cases h
  rename_i ks M;have O:MX P t=some ks:=by rw[L.eq Y,M]
  obtain⟨A,h⟩:=A7 h;have e9:ks=[9]:=by
   split at A
   .rw[bqE A]
   .cases A
  subst e9;show UY P op t x y (s.den.ev x) (s.den.ev y) (SK s _);rw[Bh E,Bh B];show ∃z,Il P op t x y (.c (.bool J)) (.c (.bool Z)) z/\_/\_/\SK s _ z;unfold tEq at h;simp only[cond_true]at h;split at h
  .cases h
   exact⟨.c (.bool (J==Z)),Kw (k:=[]) O (.inl ⟨rfl,rfl⟩),rfl,rfl,Sub.refl _⟩
  .cases h
   exact⟨.c (.bool (!(J==Z))),Kw (k:=[]) O (.inr ⟨rfl,rfl⟩),rfl,rfl,Sub.refl _⟩
  .cases h
 .rename_i l m E B
  split at h
  case h_2=>cases h
  rename_i i Y;split at h
  case h_2=>cases h
  rename_i ks M;have O:MX P t=some ks:=by rw[L.eq Y,M]
  cases A:(kCs ks l&&kCs ks m)with
  |false=>rw[A]at h;cases h
  |true=>
   rw[A]at h;rw[bAE]at A;simp only[cond_true]at h;split at h
   case h_2=>cases h
   rename_i r F;obtain⟨va,vb,e1,e2,e3,e4⟩:=Q7 s.r ks l m r A.1 A.2 F;show UY P op t x y (s.den.ev x) (s.den.ev y) (SK s _);rw[Bh E,Bh B];show ∃z,Il P op t x y (Aj (l.map (Cl.v s.r))) (Aj (m.map (Cl.v s.r))) z/\AS (Aj (l.map (Cl.v s.r)))=false/\AS (Aj (m.map (Cl.v s.r)))=false/\SK s _ z;rw[e1,e2];unfold tEq at h;split at h
   .cases h
    exact⟨.c (.bool r),LW O (Xj A.1) e3 (.inl ⟨rfl,e4.symm⟩),Mb _,Mb _,Sub.refl _⟩
   .cases h
    exact⟨.c (.bool (!r)),LW O (Xj A.1) e3 (.inr ⟨rfl,by rw[e4]⟩),Mb _,Mb _,Sub.refl _⟩
   .cases h
 .rename_i k _ J k' _ b E B
  show UY P op t x y (s.den.ev x) (s.den.ev y) (SK s _);rw[Bh E,Bh B];show UY P op t x y (.c (.int k J)) (.c (.int k' b)) (SK s _);unfold UY AaH;split at h
  .rename_i r F
   cases h;unfold tsh at F;split at F<;>cases F
   .exact⟨U,Sub.refl _⟩
   .exact⟨U,Sub.refl _⟩
  rename_i F;have hv:vsh op k J b=none:=by
   unfold tsh at F;unfold vsh;split at F<;>first|(cases F;done)|skip
   split<;>first|rfl|(exfalso;simp_all)
  split at h
  case isFalse=>cases h
  rename_i O;subst O;simp only[hv,if_true];split at h<;>first|(cases h;done)|(cases h;exact⟨trivial,Sub.refl _⟩)|(cases h;exact⟨U,Sub.refl _⟩)
 .rename_i _ J _ b E B
  show UY P op t x y (s.den.ev x) (s.den.ev y) (SK s _);rw[Bh E,Bh B];show UY P op t x y (.c (.string J)) (.c (.string b)) (SK s _);unfold UY AaH;split at h<;>first|(cases h;done)|(cases h;exact⟨trivial,Sub.refl _⟩)|(cases h;exact⟨U,Sub.refl _⟩)
theorem V4{op:UnOp}(h:tUn op (s.ev x)=some a):QS P s (.unOp op t x) a.y:=by
 unfold tUn at h;split at h
 case h_3=>grind
 all_goals
  rename_i e;split at h<;>try grind
  cases h;show qUn _ (s.den.ev x) (SK s _);rw[Bh e];exact Sub.refl _
def LZ{f:Nat->V}{l:List Int}:∀(n:Nat),n<=l.length->(∀i,i<n->f i=.c (.int .u8 (l.getD i 0)))->X4 f n=some (l.take n)
 |0,_,_=>rfl
 |n+1,hn,h=>by
  unfold X4;rw[LZ n (by omega) (λi e=>h i (by omega)),h n (by simp)]
  simp[show n<l.length by omega]
theorem u8r_v{r:List Ac}{y:Sl}{xs:List Int}(h:u8r r y=some xs):bytV (r.map Ac.v) (y.v r)=some xs/\∀k n,y.v r≠.c (.int k n):=by
 unfold u8r at h;split at h
 .cases h
  refine⟨?_,λk n e=>by cases e⟩
  exact(LZ (l:=xs) xs.length (Nat.le_refl _) λi E=>rfl).trans (by simp)
 .rename_i id p
  split at h
  case h_2=>cases h
  rename_i ro d B hn;cases h;refine⟨?_,λk n e=>by cases e⟩
  have A:Ae r id p≠.dead:=by rw[hn];simp
  show(match sub p ((r.map Ac.v).getD id .dead)with
   |.nd true true 1 n f=>if 0+(Ae r id p).len<=n then X4 (λi=>f (0+i) 0) (Ae r id p).len else none
   |_=>none)=_
  rw[A5 A,hn];show(if 0+xs.length<=xs.length then X4 _ xs.length else none)=_
  rw[if_pos (by omega)]
  exact(LZ (l:=xs) xs.length (Nat.le_refl _) λi E=>by rw[Nat.zero_add];rfl).trans (by simp)
 .cases h
theorem Pr(A:Θ.OK P){u v:TypeId}(h:Aa2 s.r (Θ.look u) (Θ.look v) (((Θ.look u).bind (·.elem)).bind Θ.look) (((Θ.look v).bind (·.elem)).bind Θ.look) (s.ev x)=some a)(hp:a.p):QS P s (.convert u v x) a.y:=by
 unfold Aa2 at h
 have und:∀(t:TypeId) (i:TI),Θ.look t=some i->∃d,P.underlying t=some d:=by
  intro t i O;have:=A.ty O;unfold tyI at this;split at this
  .exact⟨_,by assumption⟩
  .cases this
 split at h
 case h_4=>cases h
 .rename_i i j _ _ _ _ n O Z W
  split at h
  case h_2=>cases h
  rename_i k hk;cases h;show DI P (s.r.map Ac.v) u v (s.den.ev x) (SK s _);have B:cvI P u v=.int k:=by
   obtain⟨d,hd⟩:=und _ _ O;have J:=A.ik Z;rw[hk]at J;unfold ukI at J;split at J
   .rename_i k' Y;cases J;unfold cvI;simp[hd,Y]
   .cases J
  rw[JW (by rw[B];intro h;cases h)]
  unfold N6;rw[B,Bh W];exact Sub.refl _
 .rename_i i j _ f _ b O Z W
  split at h
  .rename_i U hb2
   cases h;show DI P (s.r.map Ac.v) u v (s.den.ev x) (SK s _);have B:cvI P u v=.string:=by
    have J:=JK (by have:=A.sk O;rw[U]at this;exact this)
    have E:=JK (by have:=A.sk Z;rw[hb2]at this;exact this)
    unfold cvI;simp[J,E]
   rw[JW (by rw[B];intro h;cases h)]
   unfold N6;rw[B,Bh W];exact Sub.refl _
  .rename_i U hb2
   split at h
   .rename_i F
    cases h;obtain⟨e,he,F⟩:=Option.bind_eq_some_iff.1 F;obtain⟨e',L,i2,_,_,M⟩:=Dq A he;obtain⟨g1,_⟩:=C8 L;have E:=A.ik M;rw[F]at E;unfold ukI at E;split at E
    .rename_i k' Y
     cases E;have h3:=JK (by have:=A.sk O;rw[U]at this;exact this)
     have B:cvB P u v=some e':=by unfold cvB;simp[h3,g1,Y]
     show DI P (s.r.map Ac.v) u v (s.den.ev x) (SK s _);unfold DI;rw[B,Bh W];exact⟨hp,Sub.refl _⟩
    .cases E
   .cases h
  .cases h
 .rename_i i j e y _ _ O Z he W
  split at h
  case h_2=>cases h
  rename_i xs hu8 F;obtain⟨hb,h⟩:=A7 h;simp only[bAE]at hb;cases h;obtain⟨e',L,i2,_,_,M⟩:=Dq A he;obtain⟨J,_⟩:=C8 L;have E:=A.ik M;rw[F]at E;unfold ukI at E;split at E
  .rename_i k' Y
   cases E;have h3:=JK (by have:=A.sk Z;rw[hb.2]at this;exact this)
   have B:cvI P u v=.bytes:=by unfold cvI;simp[J,h3,Y]
   obtain⟨g1,g2⟩:=u8r_v hu8;show DI P (s.r.map Ac.v) u v (s.den.ev x) (SK s _);rw[JW (by rw[B];intro h;cases h)]
   unfold N6;rw[B,Bh W]
   show(match bytV (s.r.map Ac.v) (y.v s.r)with
    |some l=>SK s (.one (.c .str 0 (strOfNums xs))) (.c (.string (strOfNums l)))
    |none=>False)
   rw[g1];exact Sub.refl _
  .cases E
theorem KJ(h:Mg k (s.ev x)=some a):QS P s (.extract x k) a.y:=by
 unfold Mg at h;split at h
 case h_2=>cases h
 rename_i l F
 have key:∀(p:Bool×List Cl),l[k]? =some p->k<(l.map λp=>if p.1 then Aj (p.2.map (Cl.v s.r))else(p.2.map (Cl.v s.r)).getD 0 .dead).length/\
   (l.map λp=>if p.1 then Aj (p.2.map (Cl.v s.r))else(p.2.map (Cl.v s.r)).getD 0 .dead).getD k .dead=if p.1 then Aj (p.2.map (Cl.v s.r))else(p.2.map (Cl.v s.r)).getD 0 .dead:=by
  grind
 split at h
 case h_3=>cases h
 .rename_i cs B
  obtain⟨E,A⟩:=key _ B;cases e:cs.any Cl.own with
  |true=>rw[e]at h;cases h
  |false=>
   rw[e]at h;cases h;show CD (s.den.ev x) k (SK s _);rw[Bh F];refine⟨E,?_,?_⟩
   .show AS ((l.map _).getD k .dead)=false
    rw[A];show AS (Aj _)=false;rw[Nh,e]
   .show SK s _ ((l.map _).getD k .dead)
    rw[A];exact Sub.refl _
 .rename_i c B
  obtain⟨E,A⟩:=key _ B;cases e:c.own with
  |true=>rw[e]at h;cases h
  |false=>
   rw[e]at h;cases h;show CD (s.den.ev x) k (SK s _);rw[Bh F];refine⟨E,?_,?_⟩
   .show AS ((l.map _).getD k .dead)=false
    rw[A];show AS (c.v s.r)=false;rw[Cl.own_v,e]
   .show SK s _ ((l.map _).getD k .dead)
    rw[A];exact Sub.refl _
theorem UC(B:Θ.OK P)(h:tLen s (Θ.look t) (s.ev x)=some a):QS P s (.call ⟨.builtin .len,#[x],#[t]⟩) a.y:=by
 have A:∀y,(AbN (Nm P t) (s.den.ev x)=true/\qLen (s.den.ev x) (SK s y))->QS P s (.call ⟨.builtin .len,#[x],#[t]⟩) y:=λy h=>.inl h
 unfold tLen at h;split at h
 case h_2=>cases h
 rename_i i y L J;cases E:i.str with
 |true=>
  rw[E]at h;split at h
  .rename_i b
   cases h;refine A _ ?_;rw[Bh J,B.ln L,E];exact⟨rfl,Sub.refl _⟩
  .cases h
 |false=>
  rw[E]at h;cases F:i.elem with
  |none=>rw[F]at h;cases h
  |some e=>
   rw[F]at h;simp only[cond_false,cond_true]at h;split at h
   .rename_i n hn
    cases h;refine A _ ?_;rw[Bh J,B.ln L,E,F];unfold slLen at hn;split at hn<;>first|(cases hn;done)|(cases hn;exact⟨rfl,Sub.refl _⟩)
   .cases h
theorem Uz(h:tMin (s.ev x) (s.ev y)=some a):QS P s (.call ⟨.builtin .min,#[x,y],ats⟩) a.y:=by
 unfold tMin at h;split at h<;>try grind
 rename_i A e;cases h;show DW .min (s.den.ev x) (s.den.ev y) (SK s _);rw[Bh A,Bh e];exact Sub.refl _
theorem UA(h:tMax (s.ev x) (s.ev y)=some a):QS P s (.call ⟨.builtin .max,#[x,y],ats⟩) a.y:=by
 unfold tMax at h;split at h<;>try grind
 rename_i A e;cases h;show DW .max (s.den.ev x) (s.den.ev y) (SK s _);rw[Bh A,Bh e];exact Sub.refl _
end sound
end Go.Ve


namespace Go.Ve
variable{r:List Ac}{x:Operand}{y:Option Sl}{a:TR}{k v:Ty}{t:TypeId}
def keyD(k:Ty):Option Sl->Option k.T
 |some (.one (.c t _ x))=>bif Do k then none else IS k ⟨t,x⟩
 |some (.agg l)=>bif Do k then(match DO l with
  |some y=>IS k y
  |none=>none)else none
 |_=>none
theorem flatK:∀(l:List Cl) (y:Dy),DO l=some y->Ja y.t=true->l.map (Cl.v r)=(AZ y.t y.x).map V.c:=by
 have A:∀(t:Ty) (d:Nat) (x:t.T),t.one=true->Ja t=true->[(Cl.c t d x).v r]=(AZ t x).map V.c:=by
  intro t d x O M;cases t<;>first|rfl|(cases O;done)|(cases M;done)
 intro l
 induction l with
 |nil=>intro y h _;cases h;rfl
 |cons a l J=>
  intro y h B;unfold DO at h;split at h
  case h_2=>cases h
  rename_i t d x;obtain⟨ho,h⟩:=A7 h;split at h
  .cases h
   exact A t d x ho B
  .rename_i b U
   split at h
   case h_2=>cases h
   rename_i E F L;cases h;have B:(Ja t&&Ja E)=true:=B;rw[bAE]at B;have e:AZ (.pair t E) (x,F)=AZ t x++AZ E F:=by simp[AZ,tyV]
   rw[e,List.map_append,<-A t d x ho B.1,<-J _ L B.2];rfl
theorem Xg{x:k.T}(e:Ja k=true)(h:keyD k y=some x):∃s,y=some s/\Z9 (s.v r)=some (DP k x):=by
 unfold keyD at h;split at h
 case h_3=>cases h
 .rename_i t d E
  cases ha:Do k with
  |true=>rw[ha]at h;cases h
  |false=>
   rw[ha]at h;have h:=Hy h;cases h;refine⟨_,rfl,?_⟩;cases k<;>first|rfl|(cases ha;done)|(cases e;done)
 .rename_i l
  cases ha:Do k with
  |false=>rw[ha]at h;cases h
  |true=>
   rw[ha]at h;simp only[cond_true]at h;split at h
   case h_2=>cases h
   rename_i B A;have h:=Hy h;cases h;refine⟨_,rfl,?_⟩;show Z9 (Aj (l.map (Cl.v r)))=_;rw[flatK l _ A e,Xf];unfold DP;rw[ha];rfl
def entD(r:List Ac)(k v:Ty):Option Sl->Option (List (k.T×v.T))
 |some (.one (.rm id p))=>match Ae r id p with
  |.mp _ k' v' xs=>IS (.mp k v) ⟨.mp k' v',xs⟩
  |_=>none
 |some (.one (.c (.mp k' v') _ xs))=>IS (.mp k v) ⟨.mp k' v',xs⟩
 |_=>none
def Aaj{xs:List (k.T×v.T)}(h:entD r k v y=some xs):∃s,y=some s/\AcE (r.map Ac.v) (s.v r)=some (P2 k v xs):=by
 unfold entD at h;split at h
 case h_3=>cases h
 .rename_i id p
  split at h
  case h_2=>cases h
  rename_i ro k' v' e hn;have h:=Hy h;cases h;refine⟨_,rfl,?_⟩
  show(match sub p ((r.map Ac.v).getD id .dead)with
   |.mp true l=>some l
   |_=>none)=_
  rw[A5 (by rw[hn];simp),hn]
  rfl
 .have h:=Hy h
  cases h;exact⟨_,rfl,rfl⟩
def mget(k v:Ty)(key:k.T)(xs:List (k.T×v.T)):v.T:=(H8 k v key xs).getD v.dflt
def mhas(k v:Ty)(key:k.T)(xs:List (k.T×v.T)):Bool:=(H8 k v key xs).isSome
def ansT(v:Ty)(co:Bool)(x:v.T)(b:Bool):Sl:=bif co then .tup [(Do v,AA v 0 x),(false,[.c .bool 0 b])]else slT v x
def Po(s:St)(i:Option TI)(e A:Option Sl)(co:Bool):Option TR:=match i with
 |some i=>match i.ty,i.mp with
  |.mp k v,some _=>bif Ja k&&Ja v then(match entD s.r k v e,keyD k A with
   |some xs,some key=>some (.ok (ansT v co (mget k v key xs) (mhas k v key xs)))
   |_,_=>none)else none
  |_,_=>none
 |none=>none
def Aa1(s:St)(i:Option TI)(e:Option Sl):Option TR:=match i with
 |some i=>match i.ty,i.mp with
  |.mp k v,some _=>(match entD s.r k v e with
   |some xs=>some (.ok (.one (.c (.int .i64) 0 (ofN (H4 xs)))))
   |none=>none)
  |_,_=>none
 |none=>none
section
variable {P:Program}{Θ:Tab}{s:St}
theorem Md(J:Θ.OK P){k:Operand}{co:Bool}(h:Po s (Θ.look t) (s.ev x) (s.ev k) co=some a):QS P s (.lookup t x k co) a.y:=by
 unfold Po at h;split at h
 case h_2=>cases h
 rename_i i hi;split at h
 case h_2=>cases h
 rename_i kt A q O U;obtain⟨B,h⟩:=A7 h;rw[bAE]at B;split at h
 case h_2=>cases h
 rename_i xs key L E;cases h;obtain⟨sx,e1,e2⟩:=Aaj L;obtain⟨sk,e3,e4⟩:=Xg (r:=s.r) B.1 E;have Z:=J.mp hi;rw[O]at Z;obtain⟨F,Y,m1,m2,m3,m4⟩:=map_v B.1 B.2 Z (by rw[U];simp)
 have hf:=XA (v:=A) B.1 key xs;have M:=slT_v (r:=s.r) A ((H8 kt A key xs).getD A.dflt) B.2
 have hd:(H9 (DP kt key) (P2 kt A xs)).getD (DP A A.dflt)=DP A ((H8 kt A key xs).getD A.dflt):=by
  rw[hf];cases H8 kt A key xs<;>rfl
 refine⟨F,Y,_,_,_,m1,by rw[Bh e1];exact e2,by rw[Bh e3];exact e4,m2,m3 key,?_,by rw[hd];exact M.2,?_⟩
 .intro e he
  obtain⟨z,_,rfl⟩:=List.mem_map.1 he;exact m4 key z.1
 .rw[hd]
  show Sub _ (Sl.v s.r (ansT A co (mget kt A key xs) (mhas kt A key xs)));have hs:(H9 (DP kt key) (P2 kt A xs)).isSome=(H8 kt A key xs).isSome:=by rw[hf];cases H8 kt A key xs<;>rfl
  rw[hs];unfold mget mhas;cases co with
  |false=>exact Sub.of_eq M.1
  |true=>
   refine⟨_,rfl,λk hk=>Sub.of_eq ?_⟩
   have e:(if Do A then Aj ((AA A 0 ((H8 kt A key xs).getD A.dflt)).map (Cl.v s.r))else((AA A 0 ((H8 kt A key xs).getD A.dflt)).map (Cl.v s.r)).getD 0 .dead)=Acq (DP A ((H8 kt A key xs).getD A.dflt)):=by
    rw[M.1];unfold slT;cases ha:Do A with
    |true=>rfl
    |false=>
     generalize (H8 kt A key xs).getD A.dflt=z;have W:=B.2;cases A<;>first|rfl|(cases ha;done)|(cases W;done)
   match k,hk with
   |0,_=>exact e.symm
   |1,_=>rfl
theorem Pq(B:Θ.OK P)(h:Aa1 s (Θ.look t) (s.ev x)=some a):QS P s (.call ⟨.builtin .len,#[x],#[t]⟩) a.y:=by
 unfold Aa1 at h;split at h
 case h_2=>cases h
 rename_i i M;split at h
 case h_2=>cases h
 rename_i kt A q F J;split at h
 case h_2=>cases h
 rename_i xs E;cases h;obtain⟨W,U,O⟩:=Aaj E;have e:=B.mp M;rw[F,J]at e;have L:∃q,VJ P t=some q:=by
  unfold mpI at e;split at e
  .exact⟨_,by assumption⟩
  .obtain⟨a,b⟩:=q;cases e
 refine .inr ⟨L,P2 kt A xs,?_,?_⟩
 .show AcE _ (s.den.ev x)=_
  rw[Bh U];exact O
 .have:(P2 kt A xs).length=xs.length:=by simp[P2]
  show Sub (V.c (.int .i64 ((P2 kt A xs).length:Nat))) (V.c (.int .i64 (ofN (H4 xs))));rw[this];exact Sub.refl _
end
theorem Cl.v_lens{r':List Ac}(h:∀id q,(Ae r' id q).len=(Ae r id q).len)(y:Cl):y.v r'=y.v r:=by
 cases y with
 |rf id p=>show V.rs id p 0 _=V.rs id p 0 _;grind
 |_=>rfl
theorem Sl.v_lens{r r':List Ac}(h:∀id q,(Ae r' id q).len=(Ae r id q).len)(y:Sl):y.v r'=y.v r:=by
 have e:=funext λc=>Cl.v_lens h c
 cases y with
 |one c=>exact Cl.v_lens h c
 |new l=>rfl
 |agg l=>show Aj _=Aj _;grind
 |tup l=>show DH _=DH _;grind
 |pk t l=>show pkL t _=pkL t _;grind
def W4(ro:Bool)(k v:Ty)(x:List (k.T×v.T)):∀q:AW,((Ac.mp ro k v x).at' q).len=0
 |[]=>rfl
 |(i,j)::q=>by
  show(Ac.at' .dead q).len=0;rw[C1];rfl
theorem set_mp{id:Nat}{ro B:Bool}{x y:List (k.T×v.T)}(h:r.getD id .dead=.mp ro k v x)(A:Sl):A.v (r.set id (.mp B k v y))=A.v r:=by
 refine Sl.v_lens (λi q=>?_) A
 unfold Ae;by_cases e:i=id
 .subst e
  rw[h,W4];by_cases E:i<r.length
  .rw[gDE,List.getElem?_set_self E];exact W4 _ _ _ _ _
  .rw[List.set_eq_of_length_le (by omega),h,W4]
 .rw[gDE,List.getElem?_set_ne (Ne.symm e),<-gDE]
end Go.Ve

